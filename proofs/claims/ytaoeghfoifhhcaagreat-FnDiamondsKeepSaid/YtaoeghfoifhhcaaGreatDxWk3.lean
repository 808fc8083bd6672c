/- Functions of the program, walked, and what they compute. -/
import Derived.Test.YtaoeghfoifhhcaaGreatDxWk2
set_option linter.unusedVariables false
set_option linter.unusedSimpArgs false
set_option maxRecDepth 100000
set_option maxHeartbeats 4000000
namespace Go.Proofs.W
open Go Go.Gm Go.Proofs
open Go.RowKit Go.Shelf

def A4 (a : Int) : M4 := (a, -1, 1, 0)
def MM : List Int → M4
  | [] => one4
  | a :: l => mul4 (A4 a) (MM l)
theorem mul4_assoc (a b c : M4) : mul4 (mul4 a b) c = mul4 a (mul4 b c) := by
  obtain ⟨a1, a2, a3, a4⟩ := a
  obtain ⟨b1, b2, b3, b4⟩ := b
  obtain ⟨c1, c2, c3, c4⟩ := c
  simp only [mul4, Prod.mk.injEq]
  refine ⟨?_, ?_, ?_, ?_⟩ <;> grind
theorem mul4_one (a : M4) : mul4 one4 a = a := by
  obtain ⟨a1, a2, a3, a4⟩ := a
  simp [mul4, one4]
theorem mul4_one' (a : M4) : mul4 a one4 = a := by
  obtain ⟨a1, a2, a3, a4⟩ := a
  simp [mul4, one4]
theorem MM_append : ∀ l m : List Int, MM (l ++ m) = mul4 (MM l) (MM m)
  | [], m => by rw [List.nil_append]; exact (mul4_one _).symm
  | a :: l, m => by rw [List.cons_append, MM, MM, MM_append l m, mul4_assoc]
theorem MM_mOf (l : List Int) : MM l = mOf l := by
  have key : ∀ n (l : List Int), l.length = n → MM l = mOf l := by
    intro n
    induction n with
    | zero => intro l hl; obtain rfl := List.eq_nil_of_length_eq_zero hl; rfl
    | succ n ih =>
      intro l hl
      rcases List.eq_nil_or_concat l with rfl | ⟨t, a, rfl⟩
      · rfl
      · rw [List.concat_eq_append] at hl ⊢
        rw [MM_append, ih t (by simpa using hl), mOf_snoc]
        show mul4 (mOf t) (mul4 (A4 a) one4) = _
        rw [mul4_one']
        rfl
  exact key _ l rfl
def clo (e : Int) (l : List Int) : Prop := MM l = (e, 0, 0, e)
theorem clo_rot1 {e a : Int} {t : List Int} : clo e (a :: t) ↔ clo e (t ++ [a]) := by
  unfold clo
  rw [MM_append, MM]
  show _ ↔ mul4 (MM t) (mul4 (A4 a) one4) = _
  rw [mul4_one']
  obtain ⟨p, q, r, s⟩ := MM t
  simp only [mul4, A4, Prod.mk.injEq]
  constructor
  · rintro ⟨h1, h2, h3, h4⟩
    refine ⟨?_, ?_, ?_, ?_⟩ <;> grind
  · rintro ⟨h1, h2, h3, h4⟩
    refine ⟨?_, ?_, ?_, ?_⟩ <;> grind
theorem clo_rot {e : Int} : ∀ p q : List Int, clo e (p ++ q) ↔ clo e (q ++ p)
  | [], q => by simp
  | a :: p, q => by
    rw [List.cons_append, clo_rot1, List.append_assoc, clo_rot p (q ++ [a]), List.append_assoc]
    rfl
theorem MM_take (x y : Int) (l : List Int) : MM (x :: 1 :: y :: l) = MM ((x - 1) :: (y - 1) :: l) := by
  show mul4 (A4 x) (mul4 (A4 1) (mul4 (A4 y) (MM l))) = mul4 (A4 (x - 1)) (mul4 (A4 (y - 1)) (MM l))
  rw [← mul4_assoc, ← mul4_assoc, ← mul4_assoc]
  congr 1
  simp only [mul4, A4, Prod.mk.injEq]
  refine ⟨?_, ?_, ?_, ?_⟩ <;> grind
theorem clo_take {e x y : Int} {l : List Int} : clo e (x :: 1 :: y :: l) ↔ clo e ((x - 1) :: (y - 1) :: l) := by unfold clo; rw [MM_take]
theorem clo_zero {e a b : Int} {l : List Int} (h : clo e (a :: 0 :: b :: l)) : clo (-e) ((a + b) :: l) := by
  unfold clo at h ⊢
  change mul4 (A4 a) (mul4 (A4 0) (mul4 (A4 b) (MM l))) = _ at h
  change mul4 (A4 (a + b)) (MM l) = _
  generalize MM l = m at h ⊢
  obtain ⟨p, q, r, s⟩ := m
  simp only [mul4, A4, Prod.mk.injEq] at h ⊢
  obtain ⟨h1, h2, h3, h4⟩ := h
  refine ⟨?_, ?_, ?_, ?_⟩ <;> grind
theorem clo_kt {e : Int} {l : List Int} (h : clo e l) (hne : l ≠ []) : kt (-1) l = 0 := by
  unfold clo at h
  rw [MM_mOf] at h
  cases l with
  | nil => exact absurd rfl hne
  | cons a t =>
    simp only [mOf, Prod.mk.injEq] at h
    rw [kt_cons, ← cont_kr]
    exact h.2.2.1
theorem clo_two {e : Int} {l : List Int} (h : clo e l) (hne : l ≠ []) (h2 : ∀ x ∈ l, 2 ≤ x) : False := by
  have h0 := clo_kt h hne
  cases l with
  | nil => exact hne rfl
  | cons a t =>
    have := kr_two t fun x hx => h2 x (List.mem_cons_of_mem _ hx)
    rw [kt_cons] at h0
    omega
theorem clo_adj {e : Int} {x y : Int} {v : List Int} (he : e = 1 ∨ e = -1) (hp : ∀ z ∈ x :: 1 :: y :: v, 1 ≤ z) (hv : v ≠ []) (h1 : x = 1 ∨ y = 1)
    (H : ∀ (l : List Int) (e : Int), l.length < (x :: 1 :: y :: v).length → l ≠ [] → (e = 1 ∨ e = -1) → (∀ z ∈ l, 1 ≤ z) → clo e l → l.sum < 3 * (l.length : Int)) (h : clo e (x :: 1 :: y :: v)) :
    (x :: 1 :: y :: v).sum < 3 * ((x :: 1 :: y :: v).length : Int) - 6 := by
  have he' : -e = 1 ∨ -e = -1 := by omega
  have hx := hp x (by simp)
  have hy := hp y (by simp)
  rw [clo_take] at h
  by_cases hy1 : y = 1
  · subst hy1
    cases v with
    | nil => exact absurd rfl hv
    | cons w v =>
      have hw := hp w (by simp)
      have hz := clo_zero h
      have := H ((x - 1 + w) :: v) (-e) (by simp) (by simp) he' (fun z hz => by
        simp only [List.mem_cons] at hz
        rcases hz with rfl | hz
        · omega
        · exact hp z (by simp [hz])) hz
      simp only [List.sum_cons, List.length_cons] at this ⊢
      omega
  · have hx1 : x = 1 := h1.resolve_right hy1
    subst hx1
    rcases List.eq_nil_or_concat v with rfl | ⟨v, w, rfl⟩
    · exact absurd rfl hv
    · rw [List.concat_eq_append] at *
      have hw := hp w (by simp)
      have h : clo e ((0 :: (y - 1) :: v) ++ [w]) := h
      rw [clo_rot] at h
      have hz := clo_zero (a := w) (b := y - 1) (l := v) h
      have := H ((w + (y - 1)) :: v) (-e) (by simp) (by simp) he' (fun z hz => by
        simp only [List.mem_cons] at hz
        rcases hz with rfl | hz
        · omega
        · exact hp z (by simp [hz])) hz
      simp only [List.sum_cons, List.length_cons, List.sum_append, List.length_append, List.sum_nil, List.length_nil] at this ⊢
      omega
theorem clo_sum : ∀ (n : Nat) (l : List Int) (e : Int), l.length = n → l ≠ [] → (e = 1 ∨ e = -1) → (∀ z ∈ l, 1 ≤ z) → clo e l → l.sum < 3 * (l.length : Int) := by
  intro n
  induction n using Nat.strongRecOn with
  | ind n ih =>
    intro l e hn hne he hp h
    by_cases h2 : ∀ x ∈ l, 2 ≤ x
    · exact (clo_two h hne h2).elim
    · obtain ⟨x, hx, hx2⟩ : ∃ x, x ∈ l ∧ ¬ 2 ≤ x := by
        refine Classical.byContradiction fun hc => h2 fun x hx => Classical.byContradiction fun h3 => hc ⟨x, hx, h3⟩
      have hx1 : x = 1 := by have := hp x hx; omega
      subst hx1
      obtain ⟨A, B, rfl⟩ := List.append_of_mem hx
      have hs : (A ++ 1 :: B).sum = 1 + (B ++ A).sum := by simp only [List.sum_append, List.sum_cons]; omega
      have hl : (A ++ 1 :: B).length = (B ++ A).length + 1 := by simp only [List.length_append, List.length_cons]; omega
      have hp' : ∀ z ∈ B ++ A, 1 ≤ z := fun z hz => hp z (by simp only [List.mem_append, List.mem_cons] at hz ⊢; exact hz.elim (fun h => .inr (.inr h)) .inl)
      rw [clo_rot] at h
      have h : clo e (1 :: (B ++ A)) := h
      rw [hs, hl]
      rw [hl] at hn
      generalize B ++ A = t at *
      have h0 := clo_kt h (by simp)
      rw [kt_cons] at h0
      cases t with
      | nil => simp [kr] at h0
      | cons y t =>
        rcases List.eq_nil_or_concat t with rfl | ⟨v, x, rfl⟩
        · have := hp' y (by simp)
          simp [kr] at h0
          omega
        · rw [List.concat_eq_append] at *
          have hx := hp' x (by simp)
          have hy := hp' y (by simp)
          have h : clo e ((1 :: y :: v) ++ [x]) := h
          rw [clo_rot] at h
          have h : clo e (x :: 1 :: y :: v) := h
          have hlen : (y :: (v ++ [x])).length = v.length + 2 := by simp
          have hsum : (y :: (v ++ [x])).sum = y + (v.sum + x) := by simp
          rw [hlen, hsum]
          rw [hlen] at hn
          by_cases hxy : 2 ≤ x ∧ 2 ≤ y
          · rw [clo_take] at h
            have := ih (n - 1) (by omega) ((x - 1) :: (y - 1) :: v) e (by simp; omega) (by simp) he (fun z hz => by
              simp only [List.mem_cons] at hz
              rcases hz with rfl | rfl | hz
              · omega
              · omega
              · exact hp' z (by simp [hz])) h
            simp only [List.sum_cons, List.length_cons] at this
            omega
          · have h1 : x = 1 ∨ y = 1 := by omega
            cases v with
            | nil =>
              rw [clo_take] at h
              have hk := clo_kt h (by simp)
              simp [kt, kr] at hk
              obtain rfl : y = 1 := by omega
              unfold clo at h
              simp [MM, mul4, A4, one4] at h
              simp
              omega
            | cons w v' =>
              have := clo_adj he (fun z hz => by
                simp only [List.mem_cons] at hz
                rcases hz with rfl | rfl | rfl | hz
                · exact hx
                · omega
                · exact hy
                · exact hp' z (by simp only [List.mem_cons, List.mem_append]; exact .inr (.inl hz))) (by simp) h1 (fun l e hl hne he hp hc => ih l.length (by simp only [List.length_cons] at hl hn; omega) l e rfl hne he hp hc) h
              simp only [List.sum_cons, List.length_cons] at this ⊢
              omega
def Rot (p q : List Int) : Prop := ∃ a b, p = a ++ b ∧ q = b ++ a
theorem Rot.clo {p q : List Int} {e : Int} (h : Rot p q) : clo e p ↔ clo e q := by
  obtain ⟨a, b, rfl, rfl⟩ := h
  exact clo_rot a b
theorem Rot.sum {p q : List Int} (h : Rot p q) : p.sum = q.sum := by
  obtain ⟨a, b, rfl, rfl⟩ := h
  simp only [List.sum_append]; omega
theorem Rot.length {p q : List Int} (h : Rot p q) : p.length = q.length := by
  obtain ⟨a, b, rfl, rfl⟩ := h
  simp only [List.length_append]; omega
theorem Rot.mem {p q : List Int} (h : Rot p q) (x : Int) : x ∈ p ↔ x ∈ q := by
  obtain ⟨a, b, rfl, rfl⟩ := h
  simp only [List.mem_append, or_comm]
theorem decAt_mid (L R : List Int) (x : Int) (hx : -1000000000 ≤ x ∧ x ≤ 1000000000) (p : Nat) (hp : p = L.length) : decAt (L ++ x :: R) p = L ++ (x - 1) :: R := by
  subst hp
  unfold decAt
  have hg : (L ++ x :: R).getD L.length 0 = x := by rw [List.getD_eq_getElem?_getD, List.getElem?_append_right (Nat.le_refl _), Nat.sub_self]; rfl
  rw [hg, w64_id (by omega) (by omega), List.set_append_right _ _ (Nat.le_refl _), Nat.sub_self]
  rfl
theorem getD_mid (L R : List Int) (x : Int) (p : Nat) (hp : p = L.length) : (L ++ x :: R).getD p 0 = x := by
  subst hp
  rw [List.getD_eq_getElem?_getD, List.getElem?_append_right (Nat.le_refl _), Nat.sub_self]; rfl
theorem erase_mid (L R : List Int) (x : Int) (p : Nat) (hp : p = L.length) : (L ++ x :: R).eraseIdx p = L ++ R := by
  subst hp
  rw [List.eraseIdx_append_of_length_le (Nat.le_refl _), Nat.sub_self]
  rfl
theorem cut_rot {l : List Int} {i : Nat} (hn : 4 ≤ l.length) (hb : ∀ z ∈ l, -1000000000 ≤ z ∧ z ≤ 1000000000) (hi : l[i]? = some 1) :
    ∃ x y v, Rot l (x :: 1 :: y :: v) ∧ Rot (cutL l i) ((x - 1) :: (y - 1) :: v) ∧ okC l i = decide (1 ≤ x - 1 ∧ 1 ≤ y - 1) := by
  obtain ⟨hlt, h1⟩ := List.getElem?_eq_some_iff.1 hi
  obtain ⟨A, B, e, hA⟩ : ∃ A B, l = A ++ 1 :: B ∧ A.length = i := ⟨l.take i, l.drop (i + 1), by
    rw [← h1, ← List.drop_eq_getElem_cons hlt, List.take_append_drop], by rw [List.length_take]; omega⟩
  have hlen : l.length = A.length + B.length + 1 := by rw [e]; simp; omega
  obtain ⟨n1, n2, n3, n4, n5, n6⟩ := nb_facts (by omega : 3 ≤ l.length) hlt
  rcases n6 with ⟨q0, q1, q2⟩ | ⟨q0, q1, q2⟩ | ⟨q0, q00, q1, q2⟩
  · -- the first
    obtain rfl : A = [] := List.eq_nil_of_length_eq_zero (by omega)
    cases B with
    | nil => simp at hlen; omega
    | cons y B =>
      rcases List.eq_nil_or_concat B with rfl | ⟨v, x, rfl⟩
      · simp at hlen; omega
      · rw [List.concat_eq_append] at *
        have e : l = (1 :: y :: v) ++ x :: [] := by rw [e]; simp
        have hx := hb x (by rw [e]; simp)
        have hy := hb y (by rw [e]; simp)
        refine ⟨x, y, v, ⟨1 :: y :: v, [x], by rw [e], rfl⟩, ⟨(y - 1) :: v, [x - 1], ?_, rfl⟩, ?_⟩
        · unfold cutL
          rw [q1, q2, q0]
          have d1 : decAt l (l.length - 1) = (1 :: y :: v) ++ (x - 1) :: [] := by
            have := decAt_mid (1 :: y :: v) [] x hx (l.length - 1) (by rw [e]; simp)
            rwa [← e] at this
          rw [d1]
          have d2 := decAt_mid [1] (v ++ [x - 1]) y hy 1 rfl
          have e2 : ((1 :: y :: v) ++ (x - 1) :: []) = [1] ++ y :: (v ++ [x - 1]) := by simp
          rw [e2, d2]
          simp
        · unfold okC
          rw [q1, q2]
          have g1 := getD_mid (1 :: y :: v) [] x (l.length - 1) (by rw [e]; simp)
          have g2 := getD_mid [1] (v ++ [x]) y 1 rfl
          have e2 : l = [1] ++ y :: (v ++ [x]) := by rw [e]; simp
          rw [← e] at g1
          rw [← e2] at g2
          rw [g1, g2, w64_id (by omega) (by omega), w64_id (by omega) (by omega)]
  · -- the last
    obtain rfl : B = [] := List.eq_nil_of_length_eq_zero (by omega)
    cases A with
    | nil => simp at hlen; omega
    | cons y A =>
      rcases List.eq_nil_or_concat A with rfl | ⟨v, x, rfl⟩
      · simp at hlen; omega
      · rw [List.concat_eq_append] at *
        have e : l = (y :: v) ++ x :: [1] := by rw [e]; simp
        have hx := hb x (by rw [e]; simp)
        have hy := hb y (by rw [e]; simp)
        have hlv : l.length = v.length + 3 := by rw [e]; simp
        refine ⟨x, y, v, ⟨y :: v, [x, 1], by rw [e], rfl⟩, ⟨(y - 1) :: v, [x - 1], ?_, rfl⟩, ?_⟩
        · unfold cutL
          rw [q1, q2, q0]
          have d1 : decAt l (l.length - 2) = (y :: v) ++ (x - 1) :: [1] := by
            have := decAt_mid (y :: v) [1] x hx (l.length - 2) (by rw [hlv]; simp)
            rwa [← e] at this
          rw [d1]
          have d2 := decAt_mid [] (v ++ [x - 1, 1]) y hy 0 rfl
          have e2 : ((y :: v) ++ (x - 1) :: [1]) = [] ++ y :: (v ++ [x - 1, 1]) := by simp
          rw [e2, d2]
          have e3 : ([] ++ (y - 1) :: (v ++ [x - 1, 1])) = ((y - 1) :: (v ++ [x - 1])) ++ 1 :: [] := by simp
          rw [e3, erase_mid _ _ _ _ (by rw [hlv]; simp)]
          simp
        · unfold okC
          rw [q1, q2]
          have g1 := getD_mid (y :: v) [1] x (l.length - 2) (by rw [hlv]; simp)
          have g2 := getD_mid [] (v ++ [x, 1]) y 0 rfl
          have e2 : l = [] ++ y :: (v ++ [x, 1]) := by rw [e]; simp
          rw [← e] at g1
          rw [← e2] at g2
          rw [g1, g2, w64_id (by omega) (by omega), w64_id (by omega) (by omega)]
  · -- within
    rcases List.eq_nil_or_concat A with rfl | ⟨L, x, rfl⟩
    · simp at hA; omega
    · cases B with
      | nil => simp at hlen hA; omega
      | cons y R =>
        rw [List.concat_eq_append] at *
        have hL : L.length + 1 = i := by rw [← hA]; simp
        have e : l = L ++ x :: 1 :: y :: R := by rw [e]; simp
        have hx := hb x (by rw [e]; simp)
        have hy := hb y (by rw [e]; simp)
        refine ⟨x, y, R ++ L, ⟨L, x :: 1 :: y :: R, e, by simp⟩, ⟨L, (x - 1) :: (y - 1) :: R, ?_, by simp⟩, ?_⟩
        · unfold cutL
          rw [q1, q2]
          have d1 := decAt_mid L (1 :: y :: R) x hx (i - 1) (by omega)
          rw [← e] at d1
          rw [d1]
          have e2 : L ++ (x - 1) :: 1 :: y :: R = (L ++ [x - 1, 1]) ++ y :: R := by simp
          rw [e2, decAt_mid (L ++ [x - 1, 1]) R y hy (i + 1) (by simp; omega)]
          have e3 : (L ++ [x - 1, 1]) ++ (y - 1) :: R = (L ++ [x - 1]) ++ 1 :: (y - 1) :: R := by simp
          rw [e3, erase_mid _ _ _ _ (by simp; omega)]
          simp
        · unfold okC
          rw [q1, q2]
          have g1 := getD_mid L (1 :: y :: R) x (i - 1) (by omega)
          have g2 := getD_mid (L ++ [x, 1]) R y (i + 1) (by simp; omega)
          have e2 : l = (L ++ [x, 1]) ++ y :: R := by rw [e]; simp
          rw [← e] at g1
          rw [← e2] at g2
          rw [g1, g2, w64_id (by omega) (by omega), w64_id (by omega) (by omega)]
theorem tri_clo : ∀ (k : Nat) (l names : List Int) (ds : List Dg), l.length = k + 3 → (∀ z ∈ l, 1 ≤ z ∧ z ≤ 1000000) → triS k l names = some ds → clo (-1) l
  | 0, l, names, ds, hl, hb, h => by
    unfold triS at h
    split at h
    · rename_i e
      subst e
      unfold clo
      decide
    · cases h
  | k + 1, l, names, ds, hl, hb, h => by
    unfold triS at h
    split at h
    · cases h
    · rename_i i he
      split at h
      · rename_i ho
        obtain ⟨d, hd, _⟩ := Option.map_eq_some_iff.1 h
        obtain ⟨x, y, v, r1, r2, r3⟩ := cut_rot (i := i) (by omega) (fun z hz => by have := hb z hz; omega) (ear_lt he).2
        rw [r3, decide_eq_true_eq] at ho
        have hx := hb x ((r1.mem x).2 (by simp))
        have hy := hb y ((r1.mem y).2 (by simp))
        have hc := tri_clo k (cutL l i) _ d (by rw [cutL_length (ear_lt he).1]; omega) (fun z hz => by
          rw [r2.mem] at hz
          simp only [List.mem_cons] at hz
          rcases hz with rfl | rfl | hz
          · omega
          · omega
          · exact hb z ((r1.mem z).2 (by simp [hz]))) hd
        rw [r2.clo, ← clo_take, ← r1.clo] at hc
        exact hc
      · cases h
theorem clo_tri : ∀ (k : Nat) (l names : List Int), l.length = k + 3 → (∀ z ∈ l, 1 ≤ z ∧ z ≤ 1000000) → l.sum = 3 * (l.length : Int) - 6 → clo (-1) l → ∃ ds, triS k l names = some ds
  | 0, l, names, hl, hb, hs, h => by
    match l, hl with
    | [a, b, c], _ =>
      have ha := hb a (by simp)
      have hb' := hb b (by simp)
      have hc := hb c (by simp)
      simp at hs
      obtain rfl : a = 1 := by omega
      obtain rfl : b = 1 := by omega
      obtain rfl : c = 1 := by omega
      exact ⟨[], by simp [triS]⟩
  | k + 1, l, names, hl, hb, hs, h => by
    have hne : l ≠ [] := by intro e; rw [e] at hl; simp at hl
    cases he : ear l with
    | none =>
      exact (clo_two h hne fun z hz => by
        unfold ear at he
        rw [List.findIdx?_eq_none_iff] at he
        have h1 := he z hz
        have h2 := hb z hz
        have h3 : ¬ (1 = z) := by simpa using h1
        omega).elim
    | some i =>
      obtain ⟨x, y, v, r1, r2, r3⟩ := cut_rot (i := i) (by omega) (fun z hz => by have := hb z hz; omega) (ear_lt he).2
      have hx := hb x ((r1.mem x).2 (by simp))
      have hy := hb y ((r1.mem y).2 (by simp))
      have hr : clo (-1) (x :: 1 :: y :: v) := r1.clo.1 h
      have hlr : l.length = v.length + 3 := by rw [r1.length]; simp
      have hsr : l.sum = x + (1 + (y + v.sum)) := by rw [r1.sum]; simp
      have hxy : 2 ≤ x ∧ 2 ≤ y := by
        refine Classical.byContradiction fun hc => ?_
        have := clo_adj (e := -1) (.inr rfl) (fun z hz => (hb z ((r1.mem z).2 hz)).1) (by intro e; rw [e] at hlr; simp at hlr; omega) (by omega) (fun l e _ hne he hp hc => clo_sum l.length l e rfl hne he hp hc) hr
        simp only [List.sum_cons, List.length_cons] at this
        omega
      have hok : okC l i = true := by rw [r3, decide_eq_true_eq]; omega
      have hcl := cutL_length (ear_lt he).1
      obtain ⟨ds, hd⟩ := clo_tri k (cutL l i) (names.eraseIdx i) (by omega) (fun z hz => by
        rw [r2.mem] at hz
        simp only [List.mem_cons] at hz
        rcases hz with rfl | rfl | hz
        · omega
        · omega
        · exact hb z ((r1.mem z).2 (by simp [hz]))) (by
          rw [r2.sum, hcl]
          simp only [List.sum_cons]
          omega) (by rw [r2.clo, ← clo_take]; exact hr)
      refine ⟨cutD names i :: ds, ?_⟩
      unfold triS
      rw [he]
      simp only [hok, if_true, hd, Option.map_some]
theorem quid_clo {l : List Int} (h : (trOf l).isSome = true) : clo (-1) l := by
  have hn : inB 3 12 (l.length : Int) = true := by
    unfold trOf at h
    split at h
    · assumption
    · simp at h
  have hb : l.all (inB 1 12) = true := by
    cases hb : l.all (inB 1 12) with
    | true => rfl
    | false => rw [trOf_bad l hb] at h; simp at h
  have hs := trOf_spec l hb hn
  rw [inB_iff] at hn
  cases ht : triS (l.length - 3) l (nameL l.length) with
  | none => rw [ht] at hs; rw [← hs] at h; simp at h
  | some ds =>
    have hb' : ∀ z ∈ l, 1 ≤ z ∧ z ≤ 1000000 := fun z hz => by
      have := List.all_eq_true.1 hb z hz
      rw [inB_iff] at this
      omega
    exact tri_clo (l.length - 3) l _ ds (by omega) hb' ht
theorem clo_quid {l : List Int} (hn : 3 ≤ l.length ∧ l.length ≤ 12) (hb : ∀ z ∈ l, 1 ≤ z ∧ z ≤ 1000000) (hs : l.sum = 3 * (l.length : Int) - 6) (h : clo (-1) l) : (trOf l).isSome = true := by
  obtain ⟨ds, hd⟩ := clo_tri (l.length - 3) l (nameL l.length) (by omega) hb hs h
  obtain ⟨h1, h2⟩ := triS_tri (l.length - 3) l (nameL l.length) ds (nameL_sorted _) (by omega) (by rw [nameL_length]; omega) (fun v hv => by have := hb v hv; omega) hd
  unfold trOf
  rw [if_pos (by rw [inB_iff]; omega), h1]
  simp only
  rw [if_pos (cnts_quid.1 h2)]
  rfl
def tp4 (m : M4) : M4 := (m.1, -m.2.2.1, -m.2.1, m.2.2.2)
theorem MM_rev : ∀ l : List Int, MM l.reverse = tp4 (MM l)
  | [] => rfl
  | a :: l => by
    rw [List.reverse_cons, MM_append, MM_rev l]
    show mul4 (tp4 (MM l)) (mul4 (A4 a) one4) = tp4 (mul4 (A4 a) (MM l))
    rw [mul4_one']
    obtain ⟨p, q, r, s⟩ := MM l
    simp only [mul4, tp4, A4, Prod.mk.injEq]
    refine ⟨?_, ?_, ?_, ?_⟩ <;> grind
theorem clo_rev {l : List Int} {e : Int} (h : clo e l) : clo e l.reverse := by
  unfold clo at h ⊢
  rw [MM_rev, h]
  simp [tp4]



def dgL (n : Nat) : List Dg := (List.range n).flatMap fun (a : Nat) => (((List.range n).map fun (b : Nat) => ((a : Int), (b : Int))).filter fun d => inDg n d)
def rowD (n a b : Nat) : List Dg := (((List.range n).drop b).map fun (b : Nat) => ((a : Int), (b : Int))).filter fun d => inDg n d
theorem rowD_end (n a : Nat) : rowD n a n = [] := by
  unfold rowD
  rw [List.drop_of_length_le (by simp)]
  rfl
theorem rowD_step {n a b : Nat} (h : b < n) : rowD n a b = (if inDg n ((a : Int), (b : Int)) then [((a : Int), (b : Int))] else []) ++ rowD n a (b + 1) := by
  unfold rowD
  rw [List.drop_eq_getElem_cons (by simpa using h), List.map_cons, List.filter_cons, List.getElem_range]
  split <;> rfl
theorem inDg_iff {n : Int} {d : Dg} : inDg n d = true ↔ (0 ≤ d.1 ∧ d.1 ≤ n - 1) ∧ (0 ≤ d.2 ∧ d.2 ≤ n - 1) ∧ d.2 - d.1 > 1 ∧ ¬ (d.1 = 0 ∧ d.2 = n - 1) := by
  unfold inDg
  simp [inB_iff, and_assoc]
  intros
  omega
theorem rowD_front (n a : Nat) : ∀ k, k ≤ a + 2 → rowD n a 0 = rowD n a k
  | 0, _ => rfl
  | k + 1, h => by
    rw [rowD_front n a k (by omega)]
    by_cases hk : k < n
    · rw [rowD_step hk, if_neg, List.nil_append]
      rw [inDg_iff]
      simp only []
      omega
    · unfold rowD
      rw [List.drop_of_length_le (by simp; omega), List.drop_of_length_le (by simp; omega)]
theorem dgL_rows (n : Nat) : dgL n = (List.range n).flatMap fun a => rowD n a 0 := rfl
theorem rowD_len (n a b : Nat) : (rowD n a b).length ≤ n := by
  unfold rowD
  exact Nat.le_trans (List.length_filter_le ..) (by simp)
def rowsD (n a : Nat) : List Dg := ((List.range n).drop a).flatMap fun a => rowD n a 0
theorem rowsD_end (n : Nat) : rowsD n n = [] := by unfold rowsD; rw [List.drop_of_length_le (by simp)]; rfl
theorem rowsD_step {n a : Nat} (h : a < n) : rowsD n a = rowD n a 0 ++ rowsD n (a + 1) := by
  unfold rowsD
  rw [List.drop_eq_getElem_cons (by simpa using h), List.flatMap_cons, List.getElem_range]
theorem mem_dgL {n : Nat} {d : Dg} (h : inDg n d = true) : d ∈ dgL n := by
  have h' := inDg_iff.1 h
  unfold dgL
  rw [List.mem_flatMap]
  refine ⟨d.1.toNat, List.mem_range.2 (by omega), List.mem_filter.2 ⟨List.mem_map.2 ⟨d.2.toNat, List.mem_range.2 (by omega), ?_⟩, h⟩⟩
  obtain ⟨a, b⟩ := d
  simp only [Prod.mk.injEq]
  simp only at h'
  omega
theorem trOf_tri {l : List Int} {ds : List Dg} (h : trOf l = some ds) : isTri (l.length : Nat) ds = true ∧ quid l.length ds = l := by
  unfold trOf at h
  split at h
  · rename_i hn
    rw [inB_iff] at hn
    split at h
    · rename_i es hT
      split at h
      · rename_i hq
        obtain rfl := Option.some.inj h
        obtain ⟨g1, g2⟩ := tri_good _ _ _ _ (nameL_sorted _) (by omega) (by rw [nameL_length]; omega) hT
        refine ⟨good_isTri (by omega) (fun m hm => nameL_mem hm) g2 (by omega), ?_⟩
        rw [← hq]
        unfold quid
        simp only [List.length_map, List.length_range]
        refine List.map_congr_left fun p _ => ?_
        rw [cnt_perm (sortD_perm es)]
      · cases h
    · cases h
  · cases h
theorem trOf_bounds {l : List Int} (h : (trOf l).isSome = true) : (3 ≤ l.length ∧ l.length ≤ 12) ∧ ∀ v ∈ l, 1 ≤ v ∧ v ≤ (l.length : Int) - 2 := by
  obtain ⟨ds, e⟩ := Option.isSome_iff_exists.1 h
  obtain ⟨h1, h2⟩ := trOf_tri e
  obtain ⟨g1, g2, g3, g4⟩ := (isTri_iff _ _).1 h1
  refine ⟨by omega, fun v hv => ?_⟩
  rw [← h2] at hv
  obtain ⟨p, hp, e⟩ := List.mem_map.1 hv
  have c1 := cnt_nn ds p
  have c2 : cnt ds p ≤ ds.length := cnt_le fun d hd => by have := inDg_iff.1 (g3 d hd); omega
  omega
theorem sum_range_add (f g : Nat → Int) : ∀ n : Nat, ((List.range n).map fun p => f p + g p).sum = ((List.range n).map f).sum + ((List.range n).map g).sum
  | 0 => by simp
  | n + 1 => by
    have := sum_range_add f g n
    simp only [List.range_succ, List.map_append, List.sum_append, List.map_cons, List.map_nil, List.sum_cons, List.sum_nil]
    omega
theorem sum_range_one (a : Int) : ∀ n : Nat, ((List.range n).map fun p => if a = ((p : Nat) : Int) then (1 : Int) else 0).sum = if 0 ≤ a ∧ a < (n : Int) then 1 else 0
  | 0 => by
    rw [if_neg (by omega)]; rfl
  | n + 1 => by
    have := sum_range_one a n
    simp only [List.range_succ, List.map_append, List.sum_append, List.map_cons, List.map_nil, List.sum_cons, List.sum_nil]
    rw [this]
    split <;> split <;> split <;> omega
theorem sum_cnt (n : Nat) : ∀ ds : List Dg, (∀ d ∈ ds, 0 ≤ d.1 ∧ d.1 < (n : Int) ∧ 0 ≤ d.2 ∧ d.2 < (n : Int)) → ((List.range n).map fun (p : Nat) => cnt ds (p : Int)).sum = 2 * (ds.length : Int)
  | [], _ => by
    have : ∀ n : Nat, ((List.range n).map fun (p : Nat) => cnt [] (p : Int)).sum = 0 := by
      intro n
      induction n with
      | zero => rfl
      | succ n ih => rw [List.range_succ, List.map_append, List.sum_append, ih]; rfl
    rw [this]; rfl
  | d :: t, h => by
    have ih := sum_cnt n t fun e he => h e (by simp [he])
    have hd := h d (by simp)
    have : ((List.range n).map fun (p : Nat) => cnt (d :: t) (p : Int)) = (List.range n).map fun p => ((if d.1 = ((p : Nat) : Int) then (1 : Int) else 0) + (if d.2 = ((p : Nat) : Int) then (1 : Int) else 0)) + cnt t (p : Int) := List.map_congr_left fun p _ => rfl
    rw [this, sum_range_add (fun p => ((if d.1 = ((p : Nat) : Int) then (1 : Int) else 0) + (if d.2 = ((p : Nat) : Int) then (1 : Int) else 0))) (fun p => cnt t (p : Int)), sum_range_add (fun p => if d.1 = ((p : Nat) : Int) then (1 : Int) else 0) (fun p => if d.2 = ((p : Nat) : Int) then (1 : Int) else 0), sum_range_one, sum_range_one, ih, if_pos (by omega), if_pos (by omega), List.length_cons]
    omega
theorem quid_sum {l : List Int} (h : (trOf l).isSome = true) : l.sum = 3 * (l.length : Int) - 6 := by
  obtain ⟨ds, e⟩ := Option.isSome_iff_exists.1 h
  obtain ⟨h1, h2⟩ := trOf_tri e
  obtain ⟨g1, g2, g3, g4⟩ := (isTri_iff _ _).1 h1
  have hs := sum_cnt l.length ds fun d hd => by have := inDg_iff.1 (g3 d hd); omega
  have h3 : l.sum = (quid l.length ds).sum := by rw [h2]
  have h4 : ∀ n : Nat, ((List.range n).map fun (_ : Nat) => (1 : Int)).sum = (n : Int) := by
    intro n
    induction n with
    | zero => rfl
    | succ n ih => simp only [List.range_succ, List.map_append, List.sum_append, ih, List.map_cons, List.map_nil, List.sum_cons, List.sum_nil]; omega
  rw [h3]
  unfold quid
  rw [sum_range_add (fun _ => 1) (fun p => cnt ds (p : Int)), h4, hs]
  omega
def Gp (o p : List Int) : Prop := o.length = p.length ∧ ∀ i, o.getD i 0 = 0 ∨ o.getD i 0 = p.getD i 0
theorem Gp.refl (p : List Int) : Gp p p := ⟨rfl, fun i => .inr rfl⟩
theorem Gp.trans {o p q : List Int} (h1 : Gp o p) (h2 : Gp p q) : Gp o q := ⟨h1.1.trans h2.1, fun i => by
  rcases h1.2 i with h | h
  · exact .inl h
  · rw [h]; exact h2.2 i⟩
theorem getD_set (l : List Int) (k i : Nat) (v : Int) : (l.set k v).getD i 0 = if k = i ∧ k < l.length then v else l.getD i 0 := by
  rw [List.getD_eq_getElem?_getD, List.getElem?_set]
  by_cases h : k = i
  · subst h
    by_cases h' : k < l.length
    · rw [if_pos rfl, if_pos h', if_pos ⟨rfl, h'⟩]; rfl
    · rw [if_pos rfl, if_neg h', if_neg (by omega), List.getD_eq_getElem?_getD, List.getElem?_eq_none (by omega)]
  · rw [if_neg h, if_neg (by omega), List.getD_eq_getElem?_getD]
theorem Gp.set {o p : List Int} (h : Gp o p) (k : Nat) : Gp (o.set k 0) p := ⟨by rw [List.length_set]; exact h.1, fun i => by
  rw [getD_set]
  split
  · exact .inl rfl
  · exact h.2 i⟩
def en (a : Int → Int) (i : Int) : Nat → Int
  | 0 => 0
  | 1 => 1
  | k + 2 => a (i + ((k + 1 : Nat) : Int)) * en a i (k + 1) - en a i k
theorem en_two (a : Int → Int) (i : Int) (k : Nat) : en a i (k + 2) = a (i + (k + 1)) * en a i (k + 1) - en a i k := by
  rw [en, Int.natCast_add]; rfl
theorem en_left (a : Int → Int) : ∀ (k : Nat) (i : Int), en a i (k + 2) = a (i + 1) * en a (i + 1) (k + 1) - en a (i + 2) k
  | 0, i => by simp [en]
  | 1, i => by
    rw [en_two, en_two, en_two]
    simp only [en]
    rw [show i + ((1 : Nat) + 1 : Int) = i + 2 by omega, show i + ((0 : Nat) + 1 : Int) = i + 1 by omega, show i + 1 + ((0 : Nat) + 1 : Int) = i + 2 by omega]
    grind
  | k + 2, i => by
    rw [en_two, en_left a (k + 1) i, en_left a k i, en_two a (i + 1) (k + 1), en_two a (i + 2) k]
    rw [show i + (((k + 2 : Nat) : Int) + 1) = i + k + 3 by omega, show i + 1 + (((k + 1 : Nat) : Int) + 1) = i + k + 3 by omega, show i + 2 + ((k : Int) + 1) = i + k + 3 by omega]
    grind
theorem en_det (a : Int → Int) (i : Int) : ∀ k : Nat, en a i (k + 1) * en a (i + 1) (k + 1) - en a (i + 1) k * en a i (k + 2) = 1
  | 0 => by simp [en]
  | k + 1 => by
    have h := en_det a i k
    rw [en_two a (i + 1) k, en_two a i (k + 1), show i + (((k + 1 : Nat) : Int) + 1) = i + 1 + ((k : Int) + 1) by omega]
    grind
theorem en_congr {a b : Int → Int} {i j : Int} : ∀ k : Nat, (∀ t : Nat, 1 ≤ t → t < k → a (i + t) = b (j + t)) → en a i k = en b j k
  | 0, _ => rfl
  | 1, _ => rfl
  | k + 2, h => by
    rw [en, en, en_congr (k + 1) fun t h1 h2 => h t h1 (by omega), en_congr k fun t h1 h2 => h t h1 (by omega), h (k + 1) (by omega) (by omega)]
def qa (l : List Int) (x : Int) : Int := l.getD (x % (l.length : Int)).toNat 0
theorem qa_per (l : List Int) (x : Int) : qa l (x + l.length) = qa l x := by unfold qa; rw [Int.add_emod_right]
theorem qa_nat {l : List Int} {t : Nat} (h : t < l.length) : qa l (t : Int) = l.getD t 0 := by
  unfold qa
  rw [Int.emod_eq_of_lt (by omega) (by omega), Int.toNat_natCast]
theorem en_per (l : List Int) (i : Int) (k : Nat) : en (qa l) (i + l.length) k = en (qa l) i k :=
  en_congr k fun t _ _ => by rw [show i + (l.length : Int) + t = i + t + l.length by omega, qa_per]
def seg (a : Int → Int) (i : Int) (k : Nat) : List Int := (List.range k).map fun (t : Nat) => a (i + (t : Int))
theorem seg_succ (a : Int → Int) (i : Int) (k : Nat) : seg a i (k + 1) = seg a i k ++ [a (i + k)] := by simp [seg, List.range_succ]
theorem MM_seg (a : Int → Int) (i : Int) : ∀ k : Nat, MM (seg a (i + 1) (k + 1)) = (en a i (k + 2), -en a i (k + 1), en a (i + 1) (k + 1), -en a (i + 1) k)
  | 0 => by
    simp [seg, MM, A4, mul4, one4, en]
  | k + 1 => by
    rw [seg_succ, MM_append, MM_seg a i k]
    show mul4 _ (mul4 (A4 _) one4) = _
    rw [mul4_one', en_two a i (k + 1), en_two a (i + 1) k]
    simp only [mul4, A4, Prod.mk.injEq]
    rw [show i + 1 + ((k + 1 : Nat) : Int) = i + (((k + 1 : Nat) : Int) + 1) by omega, show i + 1 + ((k : Int) + 1) = i + (((k + 1 : Nat) : Int) + 1) by omega]
    refine ⟨?_, ?_, ?_, ?_⟩ <;> grind
theorem seg_rot {l : List Int} (hl : 0 < l.length) (i : Int) : ∃ m, m ≤ l.length ∧ seg (qa l) i l.length = l.drop m ++ l.take m := by
  obtain ⟨m, hm⟩ : ∃ m : Nat, i % (l.length : Int) = m := ⟨(i % (l.length : Int)).toNat, by rw [Int.toNat_of_nonneg (Int.emod_nonneg _ (by omega))]⟩
  have hlt : m < l.length := by have := Int.emod_lt_of_pos i (show 0 < (l.length : Int) by omega); omega
  refine ⟨m, by omega, ?_⟩
  apply List.ext_getElem?
  intro t
  by_cases ht : t < l.length
  · have hv : (seg (qa l) i l.length)[t]? = some (qa l (i + t)) := by simp [seg, ht]
    rw [hv]
    have hi : i = (l.length : Int) * (i / l.length) + m := by have := Int.mul_ediv_add_emod i l.length; omega
    by_cases h2 : m + t < l.length
    · rw [List.getElem?_append_left (by simp; omega), List.getElem?_drop, List.getElem?_eq_getElem h2]
      congr 1
      unfold qa
      rw [show (i + t) % (l.length : Int) = ((m + t : Nat) : Int) by
        rw [hi, Int.add_assoc, Int.add_comm, Int.add_mul_emod_self_left]
        exact Int.emod_eq_of_lt (by omega) (by omega), Int.toNat_natCast, List.getD_eq_getElem?_getD, List.getElem?_eq_getElem h2]
      rfl
    · rw [List.getElem?_append_right (by simp; omega), List.length_drop, List.getElem?_take_of_lt (by omega), List.getElem?_eq_getElem (by omega)]
      congr 1
      unfold qa
      rw [show (i + t) % (l.length : Int) = ((t - (l.length - m) : Nat) : Int) by
        rw [hi, show (l.length : Int) * (i / l.length) + m + t = ((t - (l.length - m) : Nat) : Int) + (l.length : Int) * (i / l.length + 1) by rw [Int.mul_add]; omega, Int.add_mul_emod_self_left]
        exact Int.emod_eq_of_lt (by omega) (by omega), Int.toNat_natCast, List.getD_eq_getElem?_getD, List.getElem?_eq_getElem (by omega)]
      rfl
  · rw [List.getElem?_eq_none (by simp [seg]; omega), List.getElem?_eq_none (by simp; omega)]
theorem en_close {l : List Int} (hl : 3 ≤ l.length) (h : clo (-1) l) (i : Int) : en (qa l) i l.length = 0 ∧ en (qa l) i (l.length - 1) = 1 := by
  have key : ∀ i : Int, en (qa l) i (l.length + 1) = -1 ∧ en (qa l) i l.length = 0 ∧ en (qa l) (i + 1) (l.length - 1) = 1 := by
    intro i
    obtain ⟨m, hm, hs⟩ := seg_rot (l := l) (by omega) (i + 1)
    have hc : clo (-1) (l.drop m ++ l.take m) := (clo_rot _ _).1 (by rw [List.take_append_drop]; exact h)
    rw [← hs] at hc
    unfold clo at hc
    obtain ⟨n, hn⟩ : ∃ n, l.length = n + 1 := ⟨l.length - 1, by omega⟩
    rw [hn] at hc ⊢
    rw [MM_seg] at hc
    simp only [Prod.mk.injEq] at hc
    rw [Nat.add_sub_cancel]
    exact ⟨hc.1, by omega, by omega⟩
  refine ⟨(key i).2.1, ?_⟩
  have := (key (i - 1)).2.2
  rwa [Int.sub_add_cancel] at this
theorem en_glide {l : List Int} (hl : 3 ≤ l.length) (h : clo (-1) l) (i : Int) : ∀ d : Nat, d ≤ l.length → en (qa l) i (l.length - d) = en (qa l) (i + ((l.length - d : Nat) : Int)) d
  | 0, _ => (en_close hl h i).1
  | 1, _ => (en_close hl h i).2
  | d + 2, hd => by
    have h0 := en_glide hl h i d (by omega)
    have h1 := en_glide hl h i (d + 1) (by omega)
    obtain ⟨m, hm⟩ : ∃ m, m = l.length - (d + 2) := ⟨_, rfl⟩
    have e0 : l.length - d = m + 2 := by omega
    have e1 : l.length - (d + 1) = m + 1 := by omega
    rw [e0] at h0
    rw [e1] at h1
    rw [← hm]
    have h2 := en_two (qa l) i m
    have h3 := en_left (qa l) d (i + m)
    rw [show i + (m : Int) + 1 = i + ((m + 1 : Nat) : Int) by omega, show i + (m : Int) + 2 = i + ((m + 2 : Nat) : Int) by omega] at h3
    rw [show i + ((m : Int) + 1) = i + ((m + 1 : Nat) : Int) by omega] at h2
    rw [h3, ← h0, ← h1, h2]
    omega
theorem en_glide' {l : List Int} (hl : 3 ≤ l.length) (h : clo (-1) l) (i : Int) (k : Nat) (hk : k ≤ l.length) : en (qa l) i k = en (qa l) (i + k) (l.length - k) := by
  have := en_glide hl h i (l.length - k) (by omega)
  rwa [show l.length - (l.length - k) = k by omega] at this
def eE (l : List Int) (a b : Nat) : Int := en (fun x => l.getD x.toNat 0) (a : Int) (b - a)
theorem eE_en {l : List Int} {a b : Nat} (hab : a ≤ b) (hb : b ≤ l.length) : eE l a b = en (qa l) (a : Int) (b - a) := by
  unfold eE
  refine en_congr _ fun t h1 h2 => ?_
  rw [show (a : Int) + t = ((a + t : Nat) : Int) by omega, qa_nat (by omega), Int.toNat_natCast]
theorem eE_self (l : List Int) (a : Nat) : eE l a a = 0 := by unfold eE; rw [Nat.sub_self]; rfl
theorem eE_next (l : List Int) (a : Nat) : eE l a (a + 1) = 1 := by unfold eE; rw [Nat.add_sub_cancel_left]; rfl
theorem eE_right {l : List Int} {a b : Nat} (h : a < b) : eE l a (b + 1) = l.getD b 0 * eE l a b - eE l a (b - 1) := by
  unfold eE
  obtain ⟨k, hk⟩ : ∃ k, b = a + (k + 1) := ⟨b - a - 1, by omega⟩
  subst hk
  rw [show a + (k + 1) + 1 - a = k + 2 by omega, show a + (k + 1) - a = k + 1 by omega, show a + (k + 1) - 1 - a = k by omega, en]
  rw [show (a : Int) + ((k + 1 : Nat) : Int) = ((a + (k + 1) : Nat) : Int) by omega, Int.toNat_natCast]
theorem eE_left {l : List Int} {a b : Nat} (h : a + 1 < b) : eE l a b = l.getD (a + 1) 0 * eE l (a + 1) b - eE l (a + 2) b := by
  unfold eE
  obtain ⟨k, hk⟩ : ∃ k, b = a + (k + 2) := ⟨b - a - 2, by omega⟩
  subst hk
  rw [show a + (k + 2) - a = k + 2 by omega, show a + (k + 2) - (a + 1) = k + 1 by omega, show a + (k + 2) - (a + 2) = k by omega, en_left]
  rw [show (a : Int) + 1 = ((a + 1 : Nat) : Int) by omega, Int.toNat_natCast, show ((a : Int) + 2) = ((a + 2 : Nat) : Int) by omega]
theorem eE_congr {l m : List Int} {a b c d : Nat} (hd : b - a = d - c) (h : ∀ t, 1 ≤ t → t < b - a → l.getD (a + t) 0 = m.getD (c + t) 0) : eE l a b = eE m c d := by
  unfold eE
  rw [← hd]
  refine en_congr _ fun t h1 h2 => ?_
  rw [show (a : Int) + t = ((a + t : Nat) : Int) by omega, show (c : Int) + t = ((c + t : Nat) : Int) by omega, Int.toNat_natCast, Int.toNat_natCast]
  exact h t h1 h2
theorem cutL_getD {l : List Int} {p : Nat} (hn : 4 ≤ l.length) (hb : ∀ z ∈ l, 1 ≤ z ∧ z ≤ 1000000) (hp : p < l.length) {t : Nat} (ht : t < l.length) (htp : t ≠ p) :
    (cutL l p).getD (if t < p then t else t - 1) 0 = l.getD t 0 - (if t = nbB l.length p ∨ t = nbC l.length p then 1 else 0) := by
  have h := cutL_get (l := l) (i := p) (p := t) (by omega) hp ht htp
  rw [List.getD_eq_getElem?_getD, h]
  unfold cutV
  have hv : 1 ≤ l.getD t 0 ∧ l.getD t 0 ≤ 1000000 := by
    rw [List.getD_eq_getElem?_getD, List.getElem?_eq_getElem ht]
    exact hb _ (List.getElem_mem ht)
  split
  · show w64 _ = _
    rw [w64_id (by omega) (by omega)]
  · rw [Int.sub_zero]
    rfl
def dn (p t : Nat) : Nat := if t < p then t else t - 1
theorem cut_lt {l : List Int} {p a b : Nat} (hn : 4 ≤ l.length) (hb : ∀ z ∈ l, 1 ≤ z ∧ z ≤ 1000000) (hp : p < l.length) (hab : a < b) (hbp : b < p) : eE (cutL l p) a b = eE l a b := by
  refine eE_congr rfl fun t h1 h2 => ?_
  have h := cutL_getD hn hb hp (t := a + t) (by omega) (by omega)
  have nb := nb_facts (n := l.length) (i := p) (by omega) hp
  rw [if_pos (by omega), if_neg (by omega), Int.sub_zero] at h
  exact h
theorem cut_gt {l : List Int} {p a b : Nat} (hn : 4 ≤ l.length) (hb : ∀ z ∈ l, 1 ≤ z ∧ z ≤ 1000000) (hp : p < a) (hab : a < b) (hbl : b < l.length) : eE (cutL l p) (a - 1) (b - 1) = eE l a b := by
  refine eE_congr (by omega) fun t h1 h2 => ?_
  have h := cutL_getD hn hb (show p < l.length by omega) (t := a + t) (by omega) (by omega)
  have nb := nb_facts (n := l.length) (i := p) (by omega) (by omega)
  rw [if_neg (by omega), if_neg (by omega), Int.sub_zero] at h
  rw [show a - 1 + t = a + t - 1 by omega]
  exact h
theorem cut_mid {l : List Int} {p a : Nat} (hn : 4 ≤ l.length) (hb : ∀ z ∈ l, 1 ≤ z ∧ z ≤ 1000000) (h1 : l[p]? = some 1) (hap : a < p) :
    ∀ d, p + 1 + d < l.length → eE (cutL l p) a (p + d) = eE l a (p + 1 + d) := by
  have hp : p < l.length := by
    rcases Nat.lt_or_ge p l.length with h | h
    · exact h
    · rw [List.getElem?_eq_none h] at h1; cases h1
  have h1' : l.getD p 0 = 1 := by rw [List.getD_eq_getElem?_getD, h1]; rfl
  intro d
  induction d using Nat.strongRecOn with
  | ind d ih =>
    intro hd
    have nb := nb_facts (n := l.length) (i := p) (by omega) hp
    have nB : nbB l.length p = p - 1 := by omega
    have nC : nbC l.length p = p + 1 := by omega
    have low : ∀ c, a ≤ c → c < p → eE (cutL l p) a c = eE l a c := by
      intro c hc1 hc2
      refine eE_congr rfl fun t t1 t2 => ?_
      have h := cutL_getD hn hb hp (t := a + t) (by omega) (by omega)
      rw [if_pos (by omega), if_neg (by omega), Int.sub_zero] at h
      exact h
    have e1 : eE l a (p + 1) = eE l a p - eE l a (p - 1) := by rw [eE_right hap, h1', Int.one_mul]
    have hm1 : (cutL l p).getD (p - 1) 0 = l.getD (p - 1) 0 - 1 := by
      have h := cutL_getD hn hb hp (t := p - 1) (by omega) (by omega)
      rwa [if_pos (by omega), if_pos (by omega)] at h
    have e0 : eE (cutL l p) a p = eE l a (p + 1) := by
      by_cases hc : a + 1 = p
      · subst hc
        rw [eE_next, e1, eE_next, Nat.add_sub_cancel, eE_self]
        rfl
      · have e2 := eE_right (l := cutL l p) (a := a) (b := p - 1) (by omega)
        have e3 := eE_right (l := l) (a := a) (b := p - 1) (by omega)
        rw [show p - 1 + 1 = p by omega] at e2 e3
        rw [e2, e1, e3, hm1, low (p - 1) (by omega) (by omega), low (p - 1 - 1) (by omega) (by omega)]
        grind
    match d with
    | 0 => exact e0
    | 1 =>
      have hm2 : (cutL l p).getD p 0 = l.getD (p + 1) 0 - 1 := by
        have h := cutL_getD hn hb hp (t := p + 1) (by omega) (by omega)
        rwa [if_neg (by omega), if_pos (by omega), Nat.add_sub_cancel] at h
      have e4 := eE_right (l := cutL l p) (a := a) (b := p) (by omega)
      have e5 := eE_right (l := l) (a := a) (b := p + 1) (by omega)
      rw [e4, e5, e0, hm2, low (p - 1) (by omega) (by omega), Nat.add_sub_cancel]
      grind
    | d + 2 =>
      have i1 := ih (d + 1) (by omega) (by omega)
      have i0 := ih d (by omega) (by omega)
      have hm : (cutL l p).getD (p + (d + 1)) 0 = l.getD (p + 1 + (d + 1)) 0 := by
        have h := cutL_getD hn hb hp (t := p + 1 + (d + 1)) (by omega) (by omega)
        rwa [if_neg (by omega), if_neg (by omega), Int.sub_zero, show p + 1 + (d + 1) - 1 = p + (d + 1) by omega] at h
      have e4 := eE_right (l := cutL l p) (a := a) (b := p + (d + 1)) (by omega)
      have e5 := eE_right (l := l) (a := a) (b := p + 1 + (d + 1)) (by omega)
      rw [show p + (d + 1) + 1 = p + (d + 2) by omega, show p + (d + 1) - 1 = p + d by omega] at e4
      rw [show p + 1 + (d + 1) + 1 = p + 1 + (d + 2) by omega, show p + 1 + (d + 1) - 1 = p + 1 + d by omega] at e5
      rw [e4, e5, i1, i0, hm]
theorem cut_eE {l : List Int} {p a b : Nat} (hn : 4 ≤ l.length) (hb : ∀ z ∈ l, 1 ≤ z ∧ z ≤ 1000000) (h1 : l[p]? = some 1) (hab : a < b) (hbl : b < l.length) (ha : a ≠ p) (hbp : b ≠ p) :
    eE (cutL l p) (dn p a) (dn p b) = eE l a b := by
  have hp : p < l.length := by
    rcases Nat.lt_or_ge p l.length with h | h
    · exact h
    · rw [List.getElem?_eq_none h] at h1; cases h1
  unfold dn
  rcases Nat.lt_or_gt_of_ne ha with h | h
  · rcases Nat.lt_or_gt_of_ne hbp with h' | h'
    · rw [if_pos h, if_pos h']; exact cut_lt hn hb hp hab h'
    · rw [if_pos h, if_neg (by omega)]
      have := cut_mid hn hb h1 h (b - p - 1) (by omega)
      rwa [show p + (b - p - 1) = b - 1 by omega, show p + 1 + (b - p - 1) = b by omega] at this
  · rw [if_neg (by omega), if_neg (by omega)]; exact cut_gt hn hb h hab hbl
def dE (l : List Int) (a b : Nat) : Int := if a ≤ b then eE l a b else eE l b a
theorem ear_eE {l : List Int} {p b : Nat} (hn : 4 ≤ l.length) (hc : clo (-1) l) (h1 : l[p]? = some 1) (hp : p < l.length) (hb : b < l.length) (hbp : b ≠ p) :
    dE l p b = dE l (nbB l.length p) b + dE l (nbC l.length p) b := by
  have h1' : l.getD p 0 = 1 := by rw [List.getD_eq_getElem?_getD, h1]; rfl
  have nb := nb_facts (n := l.length) (i := p) (by omega) hp
  unfold dE
  rcases Nat.lt_or_gt_of_ne hbp with h | h
  · -- the other corner comes first
    rw [if_neg (by omega)]
    by_cases hl : p = l.length - 1
    · have nB : nbB l.length p = p - 1 := by omega
      have nC : nbC l.length p = 0 := by omega
      rw [nB, nC, if_pos (by omega : (0 : Nat) ≤ b)]
      have e := eE_right (l := l) (a := b) (b := p) h
      have g := en_glide' (l := l) (by omega) hc (b : Int) (l.length - b) (by omega)
      rw [show ((b : Int) + ((l.length - b : Nat) : Int)) = 0 + l.length by omega, en_per, show l.length - (l.length - b) = b by omega] at g
      have g1 := eE_en (l := l) (a := b) (b := l.length) (by omega) (by omega)
      have g2 := eE_en (l := l) (a := 0) (b := b) (by omega) (by omega)
      rw [Nat.sub_zero] at g2
      rw [g, show ((0 : Int)) = ((0 : Nat) : Int) from rfl, ← g2] at g1
      rw [show p + 1 = l.length by omega, g1, h1', Int.one_mul] at e
      by_cases hq : p - 1 ≤ b
      · obtain rfl : b = p - 1 := by omega
        rw [if_pos (by omega), eE_self]
        rw [eE_self] at e
        omega
      · rw [if_neg hq]
        omega
    · have nC : nbC l.length p = p + 1 := by omega
      have nB : nbB l.length p = p - 1 := by omega
      rw [nB, nC, if_neg (by omega : ¬ p + 1 ≤ b)]
      have e := eE_right (l := l) (a := b) (b := p) h
      rw [h1', Int.one_mul] at e
      by_cases hq : p - 1 ≤ b
      · obtain rfl : b = p - 1 := by omega
        rw [if_pos (by omega), eE_self]
        rw [eE_self] at e
        omega
      · rw [if_neg hq]
        omega
  · rw [if_pos (by omega)]
    by_cases hl : p = 0
    · subst hl
      have nC : nbC l.length 0 = 1 := by omega
      have nB : nbB l.length 0 = l.length - 1 := by omega
      rw [nB, nC, if_pos (by omega : 1 ≤ b)]
      have e := en_left (qa l) (b - 1) (-1)
      have g := en_glide' (l := l) (by omega) hc (-1) (b + 1) (by omega)
      rw [show b - 1 + 2 = b + 1 by omega, show b - 1 + 1 = b by omega, show (-1 : Int) + 1 = ((0 : Nat) : Int) by omega, show (-1 : Int) + 2 = ((1 : Nat) : Int) by omega, g, qa_nat hp, h1', Int.one_mul,
        show ((-1 : Int) + ((b + 1 : Nat) : Int)) = (b : Int) by omega] at e
      have g1 := eE_en (l := l) (a := 0) (b := b) (by omega) (by omega)
      have g2 := eE_en (l := l) (a := 1) (b := b) (by omega) (by omega)
      have g3 := eE_en (l := l) (a := b) (b := l.length - 1) (by omega) (by omega)
      rw [show l.length - 1 - b = l.length - (b + 1) by omega] at g3
      rw [Nat.sub_zero] at g1
      rw [← g1, ← g2, ← g3] at e
      by_cases hq : l.length - 1 ≤ b
      · obtain rfl : b = l.length - 1 := by omega
        rw [if_pos (by omega), eE_self]
        rw [eE_self] at e
        omega
      · rw [if_neg hq]
        omega
    · have nB : nbB l.length p = p - 1 := by omega
      rw [nB, if_pos (by omega : p - 1 ≤ b)]
      have e := eE_left (l := l) (a := p - 1) (b := b) (by omega)
      rw [show p - 1 + 1 = p by omega, show p - 1 + 2 = p + 1 by omega, h1', Int.one_mul] at e
      by_cases hl : p = l.length - 1
      · omega
      · have nC : nbC l.length p = p + 1 := by omega
        rw [nC, if_pos (by omega)]
        omega
def adj (n a b : Nat) : Prop := b = a + 1 ∨ (a = 0 ∧ b = n - 1)
theorem eE_main : ∀ (k : Nat) (l names : List Int) (ds : List Dg), l.length = k + 3 → (∀ z ∈ l, 1 ≤ z ∧ z ≤ 1000000) → names.Pairwise (· < ·) → names.length = k + 3 → triS k l names = some ds →
    ∀ a b, a < b → b < k + 3 → 1 ≤ eE l a b ∧ eE l a b ≤ 2 ^ k ∧ (eE l a b = 1 ↔ adj (k + 3) a b ∨ (names.getD a 0, names.getD b 0) ∈ ds)
  | 0, l, names, ds, hl, hb, hs, hn, h, a, b, hab, hbl => by
    simp only [triS] at h
    split at h
    · rename_i hl3
      subst hl3
      have : (a = 0 ∧ b = 1) ∨ (a = 0 ∧ b = 2) ∨ (a = 1 ∧ b = 2) := by omega
      rcases this with ⟨rfl, rfl⟩ | ⟨rfl, rfl⟩ | ⟨rfl, rfl⟩ <;> simp [eE, en, adj]
    · cases h
  | k + 1, l, names, ds, hl, hb, hs, hn, h, a, b, hab, hbl => by
    have hclo := tri_clo (k + 1) l names ds hl hb h
    simp only [triS] at h
    split at h
    · cases h
    · rename_i p hear
      split at h
      · rename_i hok
        obtain ⟨ds', h', rfl⟩ := Option.map_eq_some_iff.1 h
        obtain ⟨hp, h1⟩ := ear_lt hear
        have hn4 : 4 ≤ l.length := by omega
        have hlen : (cutL l p).length = k + 3 := by rw [cutL_length hp]; omega
        have hnam : (names.eraseIdx p).length = k + 3 := by rw [List.length_eraseIdx, if_pos (by omega)]; omega
        have hsort : (names.eraseIdx p).Pairwise (· < ·) := hs.sublist (List.eraseIdx_sublist _ _)
        have nb := nb_facts (n := l.length) (i := p) (by omega) hp
        have hb' : ∀ z ∈ cutL l p, 1 ≤ z ∧ z ≤ 1000000 := by
          intro z hz
          obtain ⟨t', ht'⟩ := List.getElem?_of_mem hz
          have htl : t' < l.length - 1 := by
            rw [← cutL_length hp]
            rcases Nat.lt_or_ge t' (cutL l p).length with hh | hh
            · exact hh
            · rw [List.getElem?_eq_none hh] at ht'; cases ht'
          obtain ⟨t, ht1, ht2, ht3⟩ : ∃ t, t < l.length ∧ t ≠ p ∧ t' = dn p t := by
            by_cases hh : t' < p
            · exact ⟨t', by omega, by omega, by unfold dn; rw [if_pos hh]⟩
            · exact ⟨t' + 1, by omega, by omega, by unfold dn; rw [if_neg (by omega)]; rfl⟩
          have hv := cutL_getD hn4 hb hp ht1 ht2
          rw [show (if t < p then t else t - 1) = t' from ht3.symm, List.getD_eq_getElem?_getD, ht'] at hv
          simp only [Option.getD_some] at hv
          have hbt : ∀ u, u < l.length → 1 ≤ l.getD u 0 ∧ l.getD u 0 ≤ 1000000 := fun u hu => by
            rw [List.getD_eq_getElem?_getD, List.getElem?_eq_getElem hu]
            exact hb _ (List.getElem_mem hu)
          have hb1 := hbt t ht1
          have hb2 := hbt (nbB l.length p) nb.1
          have hb3 := hbt (nbC l.length p) nb.2.1
          unfold okC at hok
          rw [decide_eq_true_eq, w64_id (by omega) (by omega), w64_id (by omega) (by omega)] at hok
          rw [hv]
          split
          · rename_i hc
            rcases hc with hc | hc <;> rw [hc] at hb1 ⊢ <;> omega
          · omega
        have ih := eE_main k (cutL l p) (names.eraseIdx p) ds' hlen hb' hsort hnam h'
        have hg := (tri_good k (cutL l p) (names.eraseIdx p) ds' hsort hlen hnam (triS_tri k _ _ _ hsort hlen hnam (fun v hv => by have := hb' v hv; omega) h').1).2.1
        -- names of corners that are left
        have nget : ∀ t, t ≠ p → (names.eraseIdx p).getD (dn p t) 0 = names.getD t 0 := fun t ht => by
          rw [List.getD_eq_getElem?_getD, show dn p t = if t < p then t else t - 1 from rfl, erase_get ht, ← List.getD_eq_getElem?_getD]
        have ninj : ∀ s t, s < k + 4 → t < k + 4 → names.getD s 0 = names.getD t 0 → s = t := fun s t h1 h2 he => by
          rw [List.getD_eq_getElem?_getD, List.getD_eq_getElem?_getD, List.getElem?_eq_getElem (by omega), List.getElem?_eq_getElem (by omega)] at he
          exact sorted_inj hs (List.getElem?_eq_getElem (by omega)) (by rw [List.getElem?_eq_getElem (show t < names.length by omega)]; exact congrArg some he.symm)
        have nlt : ∀ s t, s < t → t < k + 4 → names.getD s 0 < names.getD t 0 := fun s t h1 h2 => by
          have := sorted_get hs h1 (List.getElem?_eq_getElem (show s < names.length by omega)) (List.getElem?_eq_getElem (show t < names.length by omega))
          rw [List.getD_eq_getElem?_getD, List.getD_eq_getElem?_getD, List.getElem?_eq_getElem (show s < names.length by omega), List.getElem?_eq_getElem (show t < names.length by omega)]
          exact this
        -- entries of corners other than the ear
        have other : ∀ s t, s < t → t < k + 4 → s ≠ p → t ≠ p → 1 ≤ eE l s t ∧ eE l s t ≤ 2 ^ k ∧ (eE l s t = 1 ↔ adj (k + 3) (dn p s) (dn p t) ∨ (names.getD s 0, names.getD t 0) ∈ ds') := by
          intro s t hst htk hs1 ht1
          have e := cut_eE hn4 hb h1 hst (by omega) hs1 ht1
          have i := ih (dn p s) (dn p t) (by unfold dn; split <;> split <;> omega) (by unfold dn; split <;> omega)
          rw [e, nget s hs1, nget t ht1] at i
          exact i
        have hd : cutD names p = if p = 0 then (names.getD 1 0, names.getD (k + 3) 0) else if p = k + 3 then (names.getD 0 0, names.getD (k + 2) 0) else (names.getD (p - 1) 0, names.getD (p + 1) 0) := by
          unfold cutD
          rw [show names.length = l.length by omega]
          by_cases c0 : p = 0
          · rw [if_pos c0, show nbB l.length p = k + 3 by omega, show nbC l.length p = 1 by omega]
            have := nlt 1 (k + 3) (by omega) (by omega)
            rw [Int.min_eq_right (by omega), Int.max_eq_left (by omega)]
          · rw [if_neg c0]
            by_cases c1 : p = k + 3
            · rw [if_pos c1, show nbB l.length p = k + 2 by omega, show nbC l.length p = 0 by omega]
              have := nlt 0 (k + 2) (by omega) (by omega)
              rw [Int.min_eq_right (by omega), Int.max_eq_left (by omega)]
            · rw [if_neg c1, show nbB l.length p = p - 1 by omega, show nbC l.length p = p + 1 by omega]
              have := nlt (p - 1) (p + 1) (by omega) (by omega)
              rw [Int.min_eq_left (by omega), Int.max_eq_right (by omega)]
        have hpow : (2 : Int) ^ (k + 1) = 2 * 2 ^ k := by rw [Int.pow_succ, Int.mul_comm]
        have hpos : (1 : Int) ≤ 2 ^ k := by
          have : (0 : Int) < 2 ^ k := Int.pow_pos (by omega)
          omega
        by_cases hap : a = p ∨ b = p
        · -- one of the two is the ear
          obtain ⟨c, hc1, hc2, hc3, hc4⟩ : ∃ c, c < k + 4 ∧ c ≠ p ∧ eE l a b = dE l p c ∧ (adj (k + 4) a b ↔ (c = nbB l.length p ∨ c = nbC l.length p)) := by
            rcases hap with rfl | rfl
            · exact ⟨b, by omega, by omega, by unfold dE; rw [if_pos (by omega)], by unfold adj; omega⟩
            · exact ⟨a, by omega, by omega, by unfold dE; rw [if_neg (by omega)], by unfold adj; omega⟩
          have hnot : (names.getD a 0, names.getD b 0) ∉ cutD names p :: ds' := by
            intro hmem
            rcases List.mem_cons.1 hmem with hm | hm
            · rw [hd] at hm
              split at hm
              · have e1 := ninj _ _ (by omega) (by omega) (Prod.mk.inj hm).1
                have e2 := ninj _ _ (by omega) (by omega) (Prod.mk.inj hm).2
                omega
              · split at hm
                · have e1 := ninj _ _ (by omega) (by omega) (Prod.mk.inj hm).1
                  have e2 := ninj _ _ (by omega) (by omega) (Prod.mk.inj hm).2
                  omega
                · have e1 := ninj _ _ (by omega) (by omega) (Prod.mk.inj hm).1
                  have e2 := ninj _ _ (by omega) (by omega) (Prod.mk.inj hm).2
                  omega
            · have he := hg _ hm
              have hmm : names.getD p 0 ∈ names.eraseIdx p := by
                rcases hap with rfl | rfl
                · exact he.1
                · exact he.2.1
              obtain ⟨u, hu1, hu2⟩ := erase_mem hmm
              have hul : u < names.length := by
                rcases Nat.lt_or_ge u names.length with hh | hh
                · exact hh
                · rw [List.getElem?_eq_none hh] at hu2; cases hu2
              refine hu1 (ninj u p (by omega) (by omega) ?_)
              rw [List.getD_eq_getElem?_getD, hu2]
              rfl
          have hsum := ear_eE hn4 hclo h1 hp (show c < l.length by omega) hc2
          -- the entry of a neighbour and the other corner
          have part : ∀ m, m < k + 4 → m ≠ p → m ≠ c → 1 ≤ dE l m c ∧ dE l m c ≤ 2 ^ k := by
            intro m hm1 hm2 hm3
            unfold dE
            by_cases hmc : m ≤ c
            · rw [if_pos hmc]
              have := other m c (by omega) (by omega) hm2 hc2
              exact ⟨this.1, this.2.1⟩
            · rw [if_neg hmc]
              have := other c m (by omega) (by omega) hc2 hm2
              exact ⟨this.1, this.2.1⟩
          have self : ∀ m, m = c → dE l m c = 0 := fun m hm => by subst hm; unfold dE; rw [if_pos (by omega), eE_self]
          rw [hc3, hc4, hsum, hpow]
          by_cases hB : c = nbB l.length p
          · have p2 := part (nbC l.length p) (by omega) (by omega) (by omega)
            rw [self _ hB.symm]
            have hone : dE l (nbC l.length p) c = 1 := by
              have h0 := hsum
              rw [self _ hB.symm, Int.zero_add] at h0
              rw [← h0]
              -- the ear and its neighbour: a side
              unfold dE
              by_cases hpc : p ≤ c
              · rw [if_pos hpc]
                by_cases hp0 : p = 0
                · have hc' : c = l.length - 1 := by omega
                  rw [hc', hp0, eE_en (by omega) (by omega), Nat.sub_zero]
                  exact (en_close (by omega) hclo _).2
                · omega
              · rw [if_neg hpc, show p = c + 1 by omega, eE_next]
            refine ⟨by omega, by omega, ?_⟩
            rw [hone]
            exact ⟨fun _ => .inl (.inl hB), fun _ => rfl⟩
          · by_cases hC : c = nbC l.length p
            · have p2 := part (nbB l.length p) (by omega) (by omega) (by omega)
              rw [self _ hC.symm]
              have hone : dE l (nbB l.length p) c = 1 := by
                have h0 := hsum
                rw [self _ hC.symm, Int.add_zero] at h0
                rw [← h0]
                unfold dE
                by_cases hpc : p ≤ c
                · rw [if_pos hpc, show c = p + 1 by omega, eE_next]
                · rw [if_neg hpc]
                  have hc' : c = 0 := by omega
                  have hp' : p = l.length - 1 := by omega
                  rw [hc', hp', eE_en (by omega) (by omega), Nat.sub_zero]
                  exact (en_close (by omega) hclo _).2
              refine ⟨by omega, by omega, ?_⟩
              rw [hone]
              exact ⟨fun _ => .inl (.inr hC), fun _ => rfl⟩
            · have p1 := part (nbB l.length p) (by omega) (by omega) (fun e => hB e.symm)
              have p2 := part (nbC l.length p) (by omega) (by omega) (fun e => hC e.symm)
              refine ⟨by omega, by omega, ?_⟩
              constructor
              · intro e; omega
              · rintro (e | e)
                · rcases e with e | e
                  · exact absurd e hB
                  · exact absurd e hC
                · exact absurd e hnot
        · have hap' : a ≠ p ∧ b ≠ p := ⟨fun e => hap (.inl e), fun e => hap (.inr e)⟩
          obtain ⟨o1, o2, o3⟩ := other a b hab hbl hap'.1 hap'.2
          refine ⟨o1, by rw [hpow]; omega, ?_⟩
          rw [o3]
          have hdm : (names.getD a 0, names.getD b 0) = cutD names p ↔ (adj (k + 3) (dn p a) (dn p b) ∧ ¬ adj (k + 4) a b) := by
            rw [hd]
            constructor
            · intro he
              split at he
              · have e1 := ninj _ _ (by omega) (by omega) (Prod.mk.inj he).1
                have e2 := ninj _ _ (by omega) (by omega) (Prod.mk.inj he).2
                unfold adj dn
                repeat' split
                all_goals omega
              · split at he
                · have e1 := ninj _ _ (by omega) (by omega) (Prod.mk.inj he).1
                  have e2 := ninj _ _ (by omega) (by omega) (Prod.mk.inj he).2
                  unfold adj dn
                  repeat' split
                  all_goals omega
                · have e1 := ninj _ _ (by omega) (by omega) (Prod.mk.inj he).1
                  have e2 := ninj _ _ (by omega) (by omega) (Prod.mk.inj he).2
                  unfold adj dn
                  repeat' split
                  all_goals omega
            · rintro ⟨x1, x2⟩
              unfold adj dn at x1
              unfold adj at x2
              have key : (p = 0 ∧ a = 1 ∧ b = k + 3) ∨ (p = k + 3 ∧ a = 0 ∧ b = k + 2) ∨ (p ≠ 0 ∧ p ≠ k + 3 ∧ a = p - 1 ∧ b = p + 1) := by
                revert x1
                repeat' split
                all_goals (intro x1; omega)
              rcases key with ⟨c1, c2, c3⟩ | ⟨c1, c2, c3⟩ | ⟨c1, c2, c3, c4⟩
              · rw [if_pos c1, c2, c3]
              · rw [if_neg (by omega), if_pos c1, c2, c3]
              · rw [if_neg c1, if_neg c2, c3, c4]
          have hadj : adj (k + 4) a b → adj (k + 3) (dn p a) (dn p b) := by
            unfold adj dn
            intro hh
            repeat' split
            all_goals omega
          rw [List.mem_cons, hdm]
          by_cases hA : adj (k + 4) a b
          · exact ⟨fun _ => .inl hA, fun _ => .inl (hadj hA)⟩
          · constructor
            · rintro (x | x)
              · exact .inr (.inl ⟨x, hA⟩)
              · exact .inr (.inr x)
            · rintro (x | ⟨x, _⟩ | x)
              · exact absurd x hA
              · exact .inl x
              · exact .inr x
      · cases h


end Go.Proofs.W
