import Derived.Test.YtpkbjabnchfgjaaGreatDoorWPfWk1
noncomputable section
set_option linter.unusedVariables false
set_option linter.unusedSimpArgs false
set_option maxRecDepth 100000
set_option maxHeartbeats 4000000
namespace Go.Proofs.W
open Go Go.Gm Go.Proofs
open Go.RowKit Go.Shelf
def A4 (a : Int) : M4 := (a, -1, 1, 0)
def MM : List Int → M4
 | [] => one4
 | a :: l => mul4 (A4 a) (MM l)
theorem zjo (a b c : M4) : mul4 (mul4 a b) c = mul4 a (mul4 b c) := by
 obtain ⟨a1, a2, a3, a4⟩ := a
 obtain ⟨b1, b2, b3, b4⟩ := b
 obtain ⟨c1, c2, c3, c4⟩ := c
 simp only [mul4, qr]
 refine ⟨?_, ?_, ?_, ?_⟩ <;> grind
theorem za02 (a : M4) : mul4 one4 a = a := by
 obtain ⟨a1, a2, a3, a4⟩ := a
 simp [mul4, one4]
theorem z3j (a : M4) : mul4 a one4 = a := by
 obtain ⟨a1, a2, a3, a4⟩ := a
 simp [mul4, one4]
theorem zsa : ∀ l m : List Int, MM (l ++ m) = mul4 (MM l) (MM m)
 | [], m => by rw [qw]; exact (za02 _).symm
 | a :: l, m => by rw [List.cons_append, MM, MM, zsa l m, zjo]
theorem zbiz (l : List Int) : MM l = mOf l := by
 have key : ∀ n (l : List Int), l.length = n → MM l = mOf l := by
  intro n
  induction n with
  | zero => intro l hl; obtain rfl := ks hl; rfl
  | succ n ih =>
   intro l hl
   rcases List.eq_nil_or_concat l with rfl | ⟨t, a, rfl⟩
   ·rfl
   ·rw [List.concat_eq_append] at hl ⊢
    rw [zsa, ih t (by simpa using hl), za01]
    show mul4 (mOf t) (mul4 (A4 a) one4) = _
    rw [z3j]
    rfl
 exact key _ l rfl
def clo (e : Int) (l : List Int) : Prop := MM l = (e, 0, 0, e)
theorem zax9 {e a : Int} {t : List Int} : clo e (a :: t) ↔ clo e (t ++ [a]) := by
 unfold clo
 rw [zsa, MM]
 show _ ↔ mul4 (MM t) (mul4 (A4 a) one4) = _
 rw [z3j]
 obtain ⟨p, q, r, s⟩ := MM t
 simp only [mul4, A4, qr]
 constructor
 ·rintro ⟨h1, h2, h3, h4⟩
  refine ⟨?_, ?_, ?_, ?_⟩ <;> grind
 ·rintro ⟨h1, h2, h3, h4⟩
  refine ⟨?_, ?_, ?_, ?_⟩ <;> grind
theorem zhm {e : Int} : ∀ p q : List Int, clo e (p ++ q) ↔ clo e (q ++ p)
 | [], q => by simp
 | a :: p, q => by
  rw [List.cons_append, zax9, List.append_assoc, zhm p (q ++ [a]), List.append_assoc]
  rfl
theorem zbb8 (x y : Int) (l : List Int) : MM (x :: 1 :: y :: l) = MM ((x - 1) :: (y - 1) :: l) := by
 show mul4 (A4 x) (mul4 (A4 1) (mul4 (A4 y) (MM l))) = mul4 (A4 (x - 1)) (mul4 (A4 (y - 1)) (MM l))
 rw [← zjo, ← zjo, ← zjo]
 congr 1
 simp only [mul4, A4, qr]
 refine ⟨?_, ?_, ?_, ?_⟩ <;> grind
theorem zhn {e x y : Int} {l : List Int} : clo e (x :: 1 :: y :: l) ↔ clo e ((x - 1) :: (y - 1) :: l) := by unfold clo; rw [zbb8]
theorem zaat {e a b : Int} {l : List Int} (h : clo e (a :: 0 :: b :: l)) : clo (-e) ((a + b) :: l) := by
 unfold clo at h ⊢
 change mul4 (A4 a) (mul4 (A4 0) (mul4 (A4 b) (MM l))) = _ at h
 change mul4 (A4 (a + b)) (MM l) = _
 generalize MM l = m at h ⊢
 obtain ⟨p, q, r, s⟩ := m
 simp only [mul4, A4, qr] at h ⊢
 obtain ⟨h1, h2, h3, h4⟩ := h
 refine ⟨?_, ?_, ?_, ?_⟩ <;> grind
theorem zapf {e : Int} {l : List Int} (h : clo e l) (hne : l ≠ []) : kt (-1) l = 0 := by
 unfold clo at h
 rw [zbiz] at h
 cases l with
 | nil => exact absurd rfl hne
 | cons a t =>
  simp only [mOf, qr] at h
  rw [zk4, ← zbcj]
  exact h.2.2.1
theorem zaph {e : Int} {l : List Int} (h : clo e l) (hne : l ≠ []) (h2 : ∀ x ∈ l, 2 ≤ x) : False := by
 have h0 := zapf h hne
 cases l with
 | nil => exact hne rfl
 | cons a t =>
  have := za52 t fun x hx => h2 x (qv _ hx)
  rw [zk4] at h0
  omega
theorem zape {e : Int} {x y : Int} {v : List Int} (he : e = 1 ∨ e = -1) (hp : ∀ z ∈ x :: 1 :: y :: v, 1 ≤ z) (hv : v ≠ []) (h1 : x = 1 ∨ y = 1)
  (H : ∀ (l : List Int) (e : Int), l.length < (x :: 1 :: y :: v).length → l ≠ [] → (e = 1 ∨ e = -1) → (∀ z ∈ l, 1 ≤ z) → clo e l → l.sum < 3 * (l.length : Int)) (h : clo e (x :: 1 :: y :: v)) :
  (x :: 1 :: y :: v).sum < 3 * ((x :: 1 :: y :: v).length : Int) - 6 := by
 have he' : -e = 1 ∨ -e = -1 := by omega
 have hx := hp x (by simp)
 have hy := hp y (by simp)
 rw [zhn] at h
 by_cases hy1 : y = 1
 ·subst hy1
  cases v with
  | nil => exact absurd rfl hv
  | cons w v =>
   have hw := hp w (by simp)
   have hz := zaat h
   have := H ((x - 1 + w) :: v) (-e) (by simp) (by simp) he' (fun z hz => by
    simp only [List.mem_cons] at hz
    rcases hz with rfl | hz
    ·omega
    ·exact hp z (by simp [hz])) hz
   simp only [List.sum_cons, qk] at this ⊢
   omega
 ·have hx1 : x = 1 := h1.resolve_right hy1
  subst hx1
  rcases List.eq_nil_or_concat v with rfl | ⟨v, w, rfl⟩
  ·exact absurd rfl hv
  ·rw [List.concat_eq_append] at *
   have hw := hp w (by simp)
   have h : clo e ((0 :: (y - 1) :: v) ++ [w]) := h
   rw [zhm] at h
   have hz := zaat (a := w) (b := y - 1) (l := v) h
   have := H ((w + (y - 1)) :: v) (-e) (by simp) (by simp) he' (fun z hz => by
    simp only [List.mem_cons] at hz
    rcases hz with rfl | hz
    ·omega
    ·exact hp z (by simp [hz])) hz
   simp only [List.sum_cons, qk, List.sum_append, ql, List.sum_nil, qq] at this ⊢
   omega
theorem zbch : ∀ (n : Nat) (l : List Int) (e : Int), l.length = n → l ≠ [] → (e = 1 ∨ e = -1) → (∀ z ∈ l, 1 ≤ z) → clo e l → l.sum < 3 * (l.length : Int) := by
 intro n
 induction n using Nat.strongRecOn with
 | ind n ih =>
  intro l e hn hne he hp h
  by_cases h2 : ∀ x ∈ l, 2 ≤ x
  ·exact (zaph h hne h2).elim
  ·obtain ⟨x, hx, hx2⟩ : ∃ x, x ∈ l ∧ ¬ 2 ≤ x := by
    refine Classical.byContradiction fun hc => h2 fun x hx => Classical.byContradiction fun h3 => hc ⟨x, hx, h3⟩
   have hx1 : x = 1 := by have := hp x hx; omega
   subst hx1
   obtain ⟨A, B, rfl⟩ := List.append_of_mem hx
   have hs : (A ++ 1 :: B).sum = 1 + (B ++ A).sum := by simp only [List.sum_append, List.sum_cons]; omega
   have hl : (A ++ 1 :: B).length = (B ++ A).length + 1 := by simp only [ql, qk]; omega
   have hp' : ∀ z ∈ B ++ A, 1 ≤ z := fun z hz => hp z (by simp only [kg, List.mem_cons] at hz ⊢; exact hz.elim (fun h => .inr (.inr h)) .inl)
   rw [zhm] at h
   have h : clo e (1 :: (B ++ A)) := h
   rw [hs, hl]
   rw [hl] at hn
   generalize B ++ A = t at *
   have h0 := zapf h (by simp)
   rw [zk4] at h0
   cases t with
   | nil => simp [kr] at h0
   | cons y t =>
    rcases List.eq_nil_or_concat t with rfl | ⟨v, x, rfl⟩
    ·have := hp' y (by simp)
     simp [kr] at h0
     omega
    ·rw [List.concat_eq_append] at *
     have hx := hp' x (by simp)
     have hy := hp' y (by simp)
     have h : clo e ((1 :: y :: v) ++ [x]) := h
     rw [zhm] at h
     have h : clo e (x :: 1 :: y :: v) := h
     have hlen : (y :: (v ++ [x])).length = v.length + 2 := by simp
     have hsum : (y :: (v ++ [x])).sum = y + (v.sum + x) := by simp
     rw [hlen, hsum]
     rw [hlen] at hn
     by_cases hxy : 2 ≤ x ∧ 2 ≤ y
     ·rw [zhn] at h
      have := ih (n - 1) (by omega) ((x - 1) :: (y - 1) :: v) e (by simp; omega) (by simp) he (fun z hz => by
       simp only [List.mem_cons] at hz
       rcases hz with rfl | rfl | hz
       ·omega
       ·omega
       ·exact hp' z (by simp [hz])) h
      simp only [List.sum_cons, qk] at this
      omega
     ·have h1 : x = 1 ∨ y = 1 := by omega
      cases v with
      | nil =>
       rw [zhn] at h
       have hk := zapf h (by simp)
       simp [kt, kr] at hk
       obtain rfl : y = 1 := by omega
       unfold clo at h
       simp [MM, mul4, A4, one4] at h
       simp
       omega
      | cons w v' =>
       have := zape he (fun z hz => by
        simp only [List.mem_cons] at hz
        rcases hz with rfl | rfl | rfl | hz
        ·exact hx
        ·omega
        ·exact hy
        ·exact hp' z (by simp only [List.mem_cons, kg]; exact .inr (.inl hz))) (by simp) h1 (fun l e hl hne he hp hc => ih l.length (by simp only [qk] at hl hn; omega) l e rfl hne he hp hc) h
       simp only [List.sum_cons, qk] at this ⊢
       omega
def Rot (p q : List Int) : Prop := ∃ a b, p = a ++ b ∧ q = b ++ a
theorem Rot.clo {p q : List Int} {e : Int} (h : Rot p q) : clo e p ↔ clo e q := by
 obtain ⟨a, b, rfl, rfl⟩ := h
 exact zhm a b
theorem Rot.sum {p q : List Int} (h : Rot p q) : p.sum = q.sum := by
 obtain ⟨a, b, rfl, rfl⟩ := h
 simp only [List.sum_append]; omega
theorem Rot.length {p q : List Int} (h : Rot p q) : p.length = q.length := by
 obtain ⟨a, b, rfl, rfl⟩ := h
 simp only [ql]; omega
theorem Rot.mem {p q : List Int} (h : Rot p q) (x : Int) : x ∈ p ↔ x ∈ q := by
 obtain ⟨a, b, rfl, rfl⟩ := h
 simp only [kg, or_comm]
theorem zg8 (L R : List Int) (x : Int) (hx : -1000000000 ≤ x ∧ x ≤ 1000000000) (p : Nat) (hp : p = L.length) : zbg (L ++ x :: R) p = L ++ (x - 1) :: R := by
 subst hp
 unfold zbg
 have hg : (L ++ x :: R).getD L.length 0 = x := by rw [qg, kl (qi _), Nat.sub_self]; rfl
 rw [hg, zae (by omega) (by omega), List.set_append_right _ _ (qi _), Nat.sub_self]
 rfl
theorem zf7 (L R : List Int) (x : Int) (p : Nat) (hp : p = L.length) : (L ++ x :: R).getD p 0 = x := by
 subst hp
 rw [qg, kl (qi _), Nat.sub_self]; rfl
theorem z2j (L R : List Int) (x : Int) (p : Nat) (hp : p = L.length) : (L ++ x :: R).eraseIdx p = L ++ R := by
 subst hp
 rw [List.eraseIdx_append_of_length_le (qi _), Nat.sub_self]
 rfl
theorem zapn {l : List Int} {i : Nat} (hn : 4 ≤ l.length) (hb : ∀ z ∈ l, -1000000000 ≤ z ∧ z ≤ 1000000000) (hi : l[i]? = some 1) :
  ∃ x y v, Rot l (x :: 1 :: y :: v) ∧ Rot (cutL l i) ((x - 1) :: (y - 1) :: v) ∧ okC l i = decide (1 ≤ x - 1 ∧ 1 ≤ y - 1) := by
 obtain ⟨hlt, h1⟩ := qh.1 hi
 obtain ⟨A, B, e, hA⟩ : ∃ A B, l = A ++ 1 :: B ∧ A.length = i := ⟨l.take i, l.drop (i + 1), by
  rw [← h1, ← qm hlt, List.take_append_drop], by rw [kp]; omega⟩
 have hlen : l.length = A.length + B.length + 1 := by rw [e]; simp; omega
 obtain ⟨n1, n2, n3, n4, n5, n6⟩ := zgy (by omega : 3 ≤ l.length) hlt
 rcases n6 with ⟨q0, q1, q2⟩ | ⟨q0, q1, q2⟩ | ⟨q0, q00, q1, q2⟩
 ·-- the first
  obtain rfl : A = [] := ks (by omega)
  cases B with
  | nil => simp at hlen; omega
  | cons y B =>
   rcases List.eq_nil_or_concat B with rfl | ⟨v, x, rfl⟩
   ·simp at hlen; omega
   ·rw [List.concat_eq_append] at *
    have e : l = (1 :: y :: v) ++ x :: [] := by rw [e]; simp
    have hx := hb x (by rw [e]; simp)
    have hy := hb y (by rw [e]; simp)
    refine ⟨x, y, v, ⟨1 :: y :: v, [x], by rw [e], rfl⟩, ⟨(y - 1) :: v, [x - 1], ?_, rfl⟩, ?_⟩
    ·unfold cutL
     rw [q1, q2, q0]
     have d1 : zbg l (l.length - 1) = (1 :: y :: v) ++ (x - 1) :: [] := by
      have := zg8 (1 :: y :: v) [] x hx (l.length - 1) (by rw [e]; simp)
      rwa [← e] at this
     rw [d1]
     have d2 := zg8 [1] (v ++ [x - 1]) y hy 1 rfl
     have e2 : ((1 :: y :: v) ++ (x - 1) :: []) = [1] ++ y :: (v ++ [x - 1]) := by simp
     rw [e2, d2]
     simp
    ·unfold okC
     rw [q1, q2]
     have g1 := zf7 (1 :: y :: v) [] x (l.length - 1) (by rw [e]; simp)
     have g2 := zf7 [1] (v ++ [x]) y 1 rfl
     have e2 : l = [1] ++ y :: (v ++ [x]) := by rw [e]; simp
     rw [← e] at g1
     rw [← e2] at g2
     rw [g1, g2, zae (by omega) (by omega), zae (by omega) (by omega)]
 ·-- the last
  obtain rfl : B = [] := ks (by omega)
  cases A with
  | nil => simp at hlen; omega
  | cons y A =>
   rcases List.eq_nil_or_concat A with rfl | ⟨v, x, rfl⟩
   ·simp at hlen; omega
   ·rw [List.concat_eq_append] at *
    have e : l = (y :: v) ++ x :: [1] := by rw [e]; simp
    have hx := hb x (by rw [e]; simp)
    have hy := hb y (by rw [e]; simp)
    have hlv : l.length = v.length + 3 := by rw [e]; simp
    refine ⟨x, y, v, ⟨y :: v, [x, 1], by rw [e], rfl⟩, ⟨(y - 1) :: v, [x - 1], ?_, rfl⟩, ?_⟩
    ·unfold cutL
     rw [q1, q2, q0]
     have d1 : zbg l (l.length - 2) = (y :: v) ++ (x - 1) :: [1] := by
      have := zg8 (y :: v) [1] x hx (l.length - 2) (by rw [hlv]; simp)
      rwa [← e] at this
     rw [d1]
     have d2 := zg8 [] (v ++ [x - 1, 1]) y hy 0 rfl
     have e2 : ((y :: v) ++ (x - 1) :: [1]) = [] ++ y :: (v ++ [x - 1, 1]) := by simp
     rw [e2, d2]
     have e3 : ([] ++ (y - 1) :: (v ++ [x - 1, 1])) = ((y - 1) :: (v ++ [x - 1])) ++ 1 :: [] := by simp
     rw [e3, z2j _ _ _ _ (by rw [hlv]; simp)]
     simp
    ·unfold okC
     rw [q1, q2]
     have g1 := zf7 (y :: v) [1] x (l.length - 2) (by rw [hlv]; simp)
     have g2 := zf7 [] (v ++ [x, 1]) y 0 rfl
     have e2 : l = [] ++ y :: (v ++ [x, 1]) := by rw [e]; simp
     rw [← e] at g1
     rw [← e2] at g2
     rw [g1, g2, zae (by omega) (by omega), zae (by omega) (by omega)]
 ·-- within
  rcases List.eq_nil_or_concat A with rfl | ⟨L, x, rfl⟩
  ·simp at hA; omega
  ·cases B with
   | nil => simp at hlen hA; omega
   | cons y R =>
    rw [List.concat_eq_append] at *
    have hL : L.length + 1 = i := by rw [← hA]; simp
    have e : l = L ++ x :: 1 :: y :: R := by rw [e]; simp
    have hx := hb x (by rw [e]; simp)
    have hy := hb y (by rw [e]; simp)
    refine ⟨x, y, R ++ L, ⟨L, x :: 1 :: y :: R, e, by simp⟩, ⟨L, (x - 1) :: (y - 1) :: R, ?_, by simp⟩, ?_⟩
    ·unfold cutL
     rw [q1, q2]
     have d1 := zg8 L (1 :: y :: R) x hx (i - 1) (by omega)
     rw [← e] at d1
     rw [d1]
     have e2 : L ++ (x - 1) :: 1 :: y :: R = (L ++ [x - 1, 1]) ++ y :: R := by simp
     rw [e2, zg8 (L ++ [x - 1, 1]) R y hy (i + 1) (by simp; omega)]
     have e3 : (L ++ [x - 1, 1]) ++ (y - 1) :: R = (L ++ [x - 1]) ++ 1 :: (y - 1) :: R := by simp
     rw [e3, z2j _ _ _ _ (by simp; omega)]
     simp
    ·unfold okC
     rw [q1, q2]
     have g1 := zf7 L (1 :: y :: R) x (i - 1) (by omega)
     have g2 := zf7 (L ++ [x, 1]) R y (i + 1) (by simp; omega)
     have e2 : l = (L ++ [x, 1]) ++ y :: R := by rw [e]; simp
     rw [← e] at g1
     rw [← e2] at g2
     rw [g1, g2, zae (by omega) (by omega), zae (by omega) (by omega)]
theorem zauv : ∀ (k : Nat) (l names : List Int) (ds : List Dg), l.length = k + 3 → (∀ z ∈ l, 1 ≤ z ∧ z ≤ 1000000) → triS k l names = some ds → clo (-1) l
 | 0, l, names, ds, hl, hb, h => by
  unfold triS at h
  split at h
  ·rename_i e
   subst e
   unfold clo
   decide
  ·cases h
 | k + 1, l, names, ds, hl, hb, h => by
  unfold triS at h
  split at h
  ·cases h
  ·rename_i i he
   split at h
   ·rename_i ho
    obtain ⟨d, hd, _⟩ := qf.1 h
    obtain ⟨x, y, v, r1, r2, r3⟩ := zapn (i := i) (by omega) (fun z hz => by have := hb z hz; omega) (zf4 he).2
    rw [r3, kf] at ho
    have hx := hb x ((r1.mem x).2 (by simp))
    have hy := hb y ((r1.mem y).2 (by simp))
    have hc := zauv k (cutL l i) _ d (by rw [za7 (zf4 he).1]; omega) (fun z hz => by
     rw [r2.mem] at hz
     simp only [List.mem_cons] at hz
     rcases hz with rfl | rfl | hz
     ·omega
     ·omega
     ·exact hb z ((r1.mem z).2 (by simp [hz]))) hd
    rw [r2.clo, ← zhn, ← r1.clo] at hc
    exact hc
   ·cases h
theorem zapg : ∀ (k : Nat) (l names : List Int), l.length = k + 3 → (∀ z ∈ l, 1 ≤ z ∧ z ≤ 1000000) → l.sum = 3 * (l.length : Int) - 6 → clo (-1) l → ∃ ds, triS k l names = some ds
 | 0, l, names, hl, hb, hs, h => by
  match l, hl with
  | [a, b, c], _ =>
   have ha := hb a (by simp)
   have hb' := hb b (by simp)
   have hc := hb c (by simp)
   simp at hs
   obtain rfl : a = 1 := by omega
   obtain rfl : b = 1 := by omega
   obtain rfl : c = 1 := by omega
   exact ⟨[], by simp [triS]⟩
 | k + 1, l, names, hl, hb, hs, h => by
  have hne : l ≠ [] := by intro e; rw [e] at hl; simp at hl
  cases he : ear l with
  | none =>
   exact (zaph h hne fun z hz => by
    unfold ear at he
    rw [List.findIdx?_eq_none_iff] at he
    have h1 := he z hz
    have h2 := hb z hz
    have h3 : ¬ (1 = z) := by simpa using h1
    omega).elim
  | some i =>
   obtain ⟨x, y, v, r1, r2, r3⟩ := zapn (i := i) (by omega) (fun z hz => by have := hb z hz; omega) (zf4 he).2
   have hx := hb x ((r1.mem x).2 (by simp))
   have hy := hb y ((r1.mem y).2 (by simp))
   have hr : clo (-1) (x :: 1 :: y :: v) := r1.clo.1 h
   have hlr : l.length = v.length + 3 := by rw [r1.length]; simp
   have hsr : l.sum = x + (1 + (y + v.sum)) := by rw [r1.sum]; simp
   have hxy : 2 ≤ x ∧ 2 ≤ y := by
    refine Classical.byContradiction fun hc => ?_
    have := zape (e := -1) (.inr rfl) (fun z hz => (hb z ((r1.mem z).2 hz)).1) (by intro e; rw [e] at hlr; simp at hlr; omega) (by omega) (fun l e _ hne he hp hc => zbch l.length l e rfl hne he hp hc) hr
    simp only [List.sum_cons, qk] at this
    omega
   have hok : okC l i = true := by rw [r3, kf]; omega
   have hcl := za7 (zf4 he).1
   obtain ⟨ds, hd⟩ := zapg k (cutL l i) (names.eraseIdx i) (by omega) (fun z hz => by
    rw [r2.mem] at hz
    simp only [List.mem_cons] at hz
    rcases hz with rfl | rfl | hz
    ·omega
    ·omega
    ·exact hb z ((r1.mem z).2 (by simp [hz]))) (by
     rw [r2.sum, hcl]
     simp only [List.sum_cons]
     omega) (by rw [r2.clo, ← zhn]; exact hr)
   refine ⟨cutD names i :: ds, ?_⟩
   unfold triS
   rw [he]
   simp only [hok, if_true, hd, Option.map_some]
theorem za1u {l : List Int} (h : (trOf l).isSome = true) : clo (-1) l := by
 have hn : inB 3 12 (l.length : Int) = true := by
  unfold trOf at h
  split at h
  ·assumption
  ·simp at h
 have hb : l.all (inB 1 12) = true := by
  cases hb : l.all (inB 1 12) with
  | true => rfl
  | false => rw [zac1 l hb] at h; simp at h
 have hs := z4w l hb hn
 rw [zay] at hn
 cases ht : triS (l.length - 3) l (zb0 l.length) with
 | none => rw [ht] at hs; rw [← hs] at h; simp at h
 | some ds =>
  have hb' : ∀ z ∈ l, 1 ≤ z ∧ z ≤ 1000000 := fun z hz => by
   have := qt.1 hb z hz
   rw [zay] at this
   omega
  exact zauv (l.length - 3) l _ ds (by omega) hb' ht
theorem zaas {l : List Int} (hn : 3 ≤ l.length ∧ l.length ≤ 12) (hb : ∀ z ∈ l, 1 ≤ z ∧ z ≤ 1000000) (hs : l.sum = 3 * (l.length : Int) - 6) (h : clo (-1) l) : (trOf l).isSome = true := by
 obtain ⟨ds, hd⟩ := zapg (l.length - 3) l (zb0 l.length) (by omega) hb hs h
 obtain ⟨h1, h2⟩ := z0c (l.length - 3) l (zb0 l.length) ds (zcc _) (by omega) (by rw [za5]; omega) (fun v hv => by have := hb v hv; omega) hd
 unfold trOf
 rw [if_pos (by rw [zay]; omega), h1]
 simp only
 rw [if_pos (zst.1 h2)]
 rfl
def ltL : List Int → List Int → Bool
 | [], [] => false
 | [], _ :: _ => true
 | _ :: _, [] => false
 | x :: a, y :: b => if x < y then true else if y < x then false else ltL a b
def leL (a b : List Int) : Bool := !ltL b a
theorem z7n : ∀ a : List Int, ltL a a = false
 | [] => rfl
 | x :: a => by simp [ltL, z7n a]
theorem zl4 : ∀ {a b c : List Int}, ltL a b = true → ltL b c = true → ltL a c = true
 | [], [], c, h, _ => by simp [ltL] at h
 | [], y :: b, [], _, h => by simp [ltL] at h
 | [], y :: b, z :: c, _, _ => rfl
 | x :: a, [], c, h, _ => by simp [ltL] at h
 | x :: a, y :: b, [], _, h => by simp [ltL] at h
 | x :: a, y :: b, z :: c, h1, h2 => by
  unfold ltL at h1 h2 ⊢
  by_cases g1 : x < y
  ·by_cases g2 : y < z
   ·rw [if_pos (by omega)]
   ·rw [if_neg g2] at h2
    by_cases g3 : z < y
    ·rw [if_pos g3] at h2; cases h2
    ·rw [if_pos (by omega)]
  ·rw [if_neg g1] at h1
   by_cases g4 : y < x
   ·rw [if_pos g4] at h1; cases h1
   ·rw [if_neg g4] at h1
    have e : x = y := by omega
    subst e
    by_cases g2 : x < z
    ·rw [if_pos g2]
    ·rw [if_neg g2] at h2 ⊢
     by_cases g3 : z < x
     ·rw [if_pos g3] at h2; cases h2
     ·rw [if_neg g3] at h2 ⊢
      exact zl4 h1 h2
theorem zzn : ∀ {a b : List Int}, ltL a b = false → ltL b a = false → a = b
 | [], [], _, _ => rfl
 | [], y :: b, h, _ => by simp [ltL] at h
 | x :: a, [], _, h => by simp [ltL] at h
 | x :: a, y :: b, h1, h2 => by
  unfold ltL at h1 h2
  by_cases g1 : x < y
  ·rw [if_pos g1] at h1; cases h1
  ·rw [if_neg g1] at h1
   by_cases g2 : y < x
   ·rw [if_pos g2] at h2; cases h2
   ·rw [if_neg g2] at h1 h2
    rw [if_neg g1] at h2
    rw [show x = y by omega, zzn h1 h2]
theorem zbc1 (a b : List Int) : (leL a b || leL b a) = true := by
 unfold leL
 cases h1 : ltL b a with
 | false => rfl
 | true =>
  cases h2 : ltL a b with
  | false => rfl
  | true =>
   have := zl4 h1 h2
   rw [z7n] at this
   cases this
theorem z3e {a b c : List Int} (h1 : leL a b = true) (h2 : leL b c = true) : leL a c = true := by
 unfold leL at h1 h2 ⊢
 simp only [Bool.not_eq_true'] at h1 h2 ⊢
 cases h : ltL c a with
 | false => rfl
 | true =>
  exfalso
  cases h3 : ltL a b with
  | true => have := zl4 h h3; rw [this] at h2; cases h2
  | false =>
   have := zzn h3 h1
   subst this
   rw [h] at h2; cases h2
def z4p (l : List (List Int)) : List (List Int) := l.mergeSort leL
theorem zfh (l : List (List Int)) : (z4p l).Perm l := List.mergeSort_perm l leL
theorem zz6 (l : List (List Int)) : (z4p l).Pairwise fun a b => leL a b = true := List.pairwise_mergeSort (le := leL) (fun _ _ _ => z3e) zbc1 l
theorem z4q {l m : List (List Int)} (h : m.Pairwise fun a b => leL a b = true) (hp : m.Perm l) : m = z4p l :=
 List.Perm.eq_of_pairwise (fun a b _ _ h1 h2 => zzn (by simpa [leL] using h2) (by simpa [leL] using h1)) h (zz6 l) (hp.trans (zfh l).symm)
def gL (l : List (List Int)) (p : Nat) : List Int := l.getD p []
theorem za0s {l : List (List Int)} {p : Nat} (h : p < l.length) : gL l p = l[p] := by unfold gL; rw [qg, qb h]; rfl
theorem zbct {l : List (List Int)} {p : Nat} (h : p < l.length) : l[p]? = some (gL l p) := by rw [za0s h, qb h]
def zev (q : List Int) (out : List (List Int)) : Nat → Nat
 | 0 => 0
 | k + 1 => if ltL q (gL out k) then zev q out k else k + 1
theorem zk6 (q : List Int) (out : List (List Int)) : ∀ k, zev q out k ≤ k ∧ (∀ p, zev q out k ≤ p → p < k → ltL q (gL out p) = true) ∧ (0 < zev q out k → ltL q (gL out (zev q out k - 1)) = false)
 | 0 => ⟨qi _, fun p h1 h2 => by omega, fun h => by simp [zev] at h⟩
 | k + 1 => by
  unfold zev
  cases hq : ltL q (gL out k) with
  | true =>
   obtain ⟨h1, h2, h3⟩ := zk6 q out k
   simp only [if_true]
   refine ⟨by omega, fun p g1 g2 => ?_, h3⟩
   by_cases e : p = k
   ·subst e; exact hq
   ·exact h2 p g1 (by omega)
  | false =>
   simp only [qj, if_false]
   refine ⟨qi _, fun p h1 h2 => by omega, fun _ => ?_⟩
   simpa using hq
def insL (out : List (List Int)) (q : List Int) : List (List Int) := out.take (zev q out out.length) ++ q :: out.drop (zev q out out.length)
theorem ztj (out : List (List Int)) (q : List Int) : (insL out q).Perm (q :: out) := by
 unfold insL
 have h := List.perm_middle (a := q) (l₁ := out.take (zev q out out.length)) (l₂ := out.drop (zev q out out.length))
 rwa [List.take_append_drop] at h
theorem zbcz {out : List (List Int)} (q : List Int) (h : out.Pairwise fun a b => leL a b = true) : (insL out q).Pairwise fun a b => leL a b = true := by
 obtain ⟨h1, h2, h3⟩ := zk6 q out out.length
 unfold insL
 generalize zev q out out.length = k at *
 have hg := List.pairwise_iff_getElem.1 h
 rw [List.pairwise_append]
 refine ⟨h.sublist (List.take_sublist ..), ?_, fun a ha b hb => ?_⟩
 ·rw [List.pairwise_cons]
  refine ⟨fun b hb => ?_, h.sublist (List.drop_sublist ..)⟩
  obtain ⟨p, hp, e⟩ := List.mem_drop_iff_getElem.1 hb
  have := h2 (k + p) (by omega) (by omega)
  rw [za0s (by omega), e] at this
  unfold leL
  cases hc : ltL b q with
  | false => rfl
  | true => have := zl4 this hc; rw [z7n] at this; cases this
 ·obtain ⟨i, hi, ei⟩ := List.mem_take_iff_getElem.1 ha
  have hk : 0 < k := by omega
  have hq : leL (gL out (k - 1)) q = true := by unfold leL; rw [h3 hk]; rfl
  have hiq : leL a q = true := by
   by_cases e : i = k - 1
   ·subst e; rw [za0s (by omega), ei] at hq; exact hq
   ·have := hg i (k - 1) (by omega) (by omega) (by omega)
    rw [ei, ← za0s (show k - 1 < out.length by omega)] at this
    exact z3e this hq
  rcases List.mem_cons.1 hb with rfl | hb
  ·exact hiq
  ·obtain ⟨p, hp, e⟩ := List.mem_drop_iff_getElem.1 hb
   have := hg i (k + p) (by omega) (by omega) (by omega)
   rwa [ei, e] at this
theorem zabr : ∀ (l out : List (List Int)), (out.Pairwise fun a b => leL a b = true) → ((l.foldl insL out).Pairwise fun a b => leL a b = true) ∧ (l.foldl insL out).Perm (out ++ l)
 | [], out, h => ⟨h, by simp⟩
 | q :: l, out, h => by
  obtain ⟨h1, h2⟩ := zabr l (insL out q) (zbcz q h)
  refine ⟨h1, h2.trans ?_⟩
  exact ((ztj out q).append_right l).trans (by simpa using (List.perm_middle (a := q) (l₁ := out) (l₂ := l)).symm)
theorem zaet (l : List (List Int)) : l.foldl insL [] = z4p l := by
 obtain ⟨h1, h2⟩ := zabr l [] (by simp)
 exact z4q h1 (by rwa [qw] at h2)
def zk1 (d : Dg) (b : List Dg) : Bool := !b.any (zbc d)
def goL (m : Nat) : List Dg → List Dg → List (List Dg)
 | [], _ => []
 | d :: rest, b => (if zk1 d b then (if b.length + 1 = m then [b ++ [d]] else goL m rest (b ++ [d])) else []) ++ goL m rest b
def zen (m : Nat) (rest b : List Dg) : List (List Dg) := if b.length = m then [b] else goL m rest b
theorem zjj (m : Nat) (d : Dg) (rest b : List Dg) : goL m (d :: rest) b = (if zk1 d b then zen m rest (b ++ [d]) else []) ++ goL m rest b := by
 conv => lhs; unfold goL
 unfold zen
 simp only [ql, qk, qq, Nat.zero_add]
def dgL (n : Nat) : List Dg := (List.range n).flatMap fun (a : Nat) => (((List.range n).map fun (b : Nat) => ((a : Int), (b : Int))).filter fun d => inDg n d)
theorem zte (m : Nat) : ∀ (rest b : List Dg), (goL m rest b).length ≤ 2 ^ rest.length
 | [], b => by simp [goL]
 | d :: rest, b => by
  have h1 := zte m rest b
  have h2 := zte m rest (b ++ [d])
  have h3 : 1 ≤ 2 ^ rest.length := Nat.one_le_two_pow
  rw [zjj, ql, qk, Nat.pow_succ]
  unfold zen
  by_cases hf : zk1 d b = true
  ·rw [if_pos hf]
   by_cases hb : (b ++ [d]).length = m
   ·rw [if_pos hb]; simp only [qk, qq]; omega
   ·rw [if_neg hb]; omega
  ·rw [if_neg hf]; simp only [qq]; omega
theorem z7i (m : Nat) : ∀ (rest b ds : List Dg), ds ∈ goL m rest b → ds.length = m ∧ ∀ d ∈ ds, d ∈ b ∨ d ∈ rest
 | [], b, ds, h => by simp [goL] at h
 | d :: rest, b, ds, h => by
  rw [zjj, kg] at h
  rcases h with h | h
  ·split at h
   ·unfold zen at h
    split at h
    ·rename_i hl
     simp only [List.mem_singleton] at h
     subst h
     refine ⟨hl, fun e he => ?_⟩
     rcases kg.1 he with he | he
     ·exact .inl he
     ·simp only [List.mem_singleton] at he; subst he; exact .inr (by simp)
    ·obtain ⟨h1, h2⟩ := z7i m rest (b ++ [d]) ds h
     refine ⟨h1, fun e he => ?_⟩
     rcases h2 e he with h | h
     ·rcases kg.1 h with h | h
      ·exact .inl h
      ·simp only [List.mem_singleton] at h; subst h; exact .inr (by simp)
     ·exact .inr (by simp [h])
   ·cases h
  ·obtain ⟨h1, h2⟩ := z7i m rest b ds h
   exact ⟨h1, fun e he => (h2 e he).imp id fun h => by simp [h]⟩
def allT (n : Nat) : List (List Dg) := zen (n - 3) (dgL n) []
theorem z7e (n : Nat) (h : n ≤ 9) : (dgL n).length ≤ 27 := by
 have : ∀ k, k ≤ 9 → (dgL k).length ≤ 27 := by decide +kernel
 exact this n h
theorem zp1 (n : Nat) (h : n ≤ 9) : (allT n).length ≤ 134217728 := by
 unfold allT zen
 split
 ·simp
 ·have h1 := zte (n - 3) (dgL n) []
  have h2 : 2 ^ (dgL n).length ≤ 2 ^ 27 := Nat.pow_le_pow_right (by omega) (z7e n h)
  have : (2 : Nat) ^ 27 = 134217728 := by decide
  omega
def rowD (n a b : Nat) : List Dg := (((List.range n).drop b).map fun (b : Nat) => ((a : Int), (b : Int))).filter fun d => inDg n d
theorem zzz (n a : Nat) : rowD n a n = [] := by
 unfold rowD
 rw [ke (by simp)]
 rfl
theorem zt4 {n a b : Nat} (h : b < n) : rowD n a b = (if inDg n ((a : Int), (b : Int)) then [((a : Int), (b : Int))] else []) ++ rowD n a (b + 1) := by
 unfold rowD
 rw [qm (by simpa using h), qu, List.filter_cons, List.getElem_range]
 split <;> rfl
theorem zjk {n : Int} {d : Dg} : inDg n d = true ↔ (0 ≤ d.1 ∧ d.1 ≤ n - 1) ∧ (0 ≤ d.2 ∧ d.2 ≤ n - 1) ∧ d.2 - d.1 > 1 ∧ ¬ (d.1 = 0 ∧ d.2 = n - 1) := by
 unfold inDg
 simp [zay, and_assoc]
 intros
 omega
theorem zju (n a : Nat) : ∀ k, k ≤ a + 2 → rowD n a 0 = rowD n a k
 | 0, _ => rfl
 | k + 1, h => by
  rw [zju n a k (by omega)]
  by_cases hk : k < n
  ·rw [zt4 hk, if_neg, qw]
   rw [zjk]
   simp only []
   omega
  ·unfold rowD
   rw [ke (by simp; omega), ke (by simp; omega)]
theorem zaax (n : Nat) : dgL n = (List.range n).flatMap fun a => rowD n a 0 := rfl
theorem zaci (n a b : Nat) : (rowD n a b).length ≤ n := by
 unfold rowD
 exact Nat.le_trans (List.length_filter_le ..) (by simp)
def zt5 (n a : Nat) : List Dg := ((List.range n).drop a).flatMap fun a => rowD n a 0
theorem z4a (n : Nat) : zt5 n n = [] := by unfold zt5; rw [ke (by simp)]; rfl
theorem zwp {n a : Nat} (h : a < n) : zt5 n a = rowD n a 0 ++ zt5 n (a + 1) := by
 unfold zt5
 rw [qm (by simpa using h), List.flatMap_cons, List.getElem_range]
theorem zs3 {t : List Dg} {i : Nat} (h : i < t.length) : t.drop i = gD t i :: t.drop (i + 1) := by rw [zlx h, qm h]
theorem zabt {m : Nat} {t b : List Dg} {i k : Nat} (hm : m = t.length - (i + 1)) : (zen k (t.drop (i + 1)) b).length ≤ 2 ^ m := by
 unfold zen
 split
 ·simp only [qk, qq]; exact Nat.one_le_two_pow
 ·have := zte k (t.drop (i + 1)) b
  rwa [kb, ← hm] at this
def allQ (n : Nat) : List (List Int) := z4p ((allT n).map (quid n))
theorem zao2 {n : Nat} {ds : List Dg} (hn : 3 ≤ n ∧ n ≤ 9) (h : ds ∈ allT n) : ds.length = n - 3 ∧ ∀ d ∈ ds, 0 ≤ d.1 ∧ d.1 < d.2 ∧ d.2 < (n : Int) := by
 have hg : ds.length = n - 3 ∧ ∀ d ∈ ds, d ∈ dgL n := by
  unfold allT zen at h
  split at h
  ·rename_i hl
   simp only [List.mem_singleton] at h
   subst h
   exact ⟨hl, by simp⟩
  ·obtain ⟨h1, h2⟩ := z7i _ _ _ _ h
   exact ⟨h1, fun d hd => (h2 d hd).resolve_left (by simp)⟩
 refine ⟨hg.1, fun d hd => ?_⟩
 have := hg.2 d hd
 unfold dgL at this
 obtain ⟨a, _, ha⟩ := List.mem_flatMap.1 this
 have := (List.mem_filter.1 ha).2
 rw [zjk] at this
 omega
theorem zgr (n : Nat) (ds : List Dg) : (quid n ds).length = n := by simp [quid]
theorem za00 {a b : List Int} (h : a.length = b.length) : ∀ {k : Nat}, k < a.length → ltL (a.drop k) (b.drop k) = if a.getD k 0 ≠ b.getD k 0 then decide (a.getD k 0 < b.getD k 0) else ltL (a.drop (k + 1)) (b.drop (k + 1)) := by
 intro k hk
 have hb : k < b.length := by omega
 rw [qm hk, qm hb]
 simp only [qg, qb hk, qb hb, Option.getD_some]
 conv => lhs; unfold ltL
 by_cases h1 : a[k] < b[k]
 ·rw [if_pos h1, if_pos (by omega)]; simp [h1]
 ·rw [if_neg h1]
  by_cases h2 : b[k] < a[k]
  ·rw [if_pos h2, if_pos (by omega)]; simp [h1]
  ·rw [if_neg h2, if_neg (by omega)]
theorem z7k (out : List (List Int)) (q : List Int) : (insL out q).length = out.length + 1 := by simpa using (ztj out q).length_eq
def solL (p : List Int) : List (List Int) := (allQ p.length).filter (fits p)
theorem zye (n : Nat) (hn : n ≤ 9) : (allQ n).length ≤ 134217728 := by
 unfold allQ
 rw [(zfh _).length_eq, km]
 exact zp1 n hn
theorem zp0 {n : Nat} {q : List Int} (h : q ∈ allQ n) : q.length = n := by
 have := (zfh _).mem_iff.1 h
 obtain ⟨ds, _, e⟩ := List.mem_map.1 this
 rw [← e, zgr]
theorem za13 (p : List Int) (hp : p.length ≤ 9) : (solL p).length ≤ 134217728 := Nat.le_trans (List.length_filter_le ..) (zye _ hp)
def solR (p : List Int) : Bool × List (List Int) := if isPz p then (if (solL p).length ≤ 300 then (true, solL p) else (false, [])) else (false, [])
def zop (q s : List Int) (j : Nat) : List Int := if s.getD j 0 ≠ q.getD j 0 then s.set j 0 else s
def zh5 (s q : List Int) : List Int := (List.range s.length).foldl (zop q) s
theorem zuv (q s : List Int) (j : Nat) : (zop q s j).length = s.length := by unfold zop; split <;> simp
theorem zmk (s q : List Int) : (zh5 s q).length = s.length := by
 unfold zh5
 have : ∀ (l : List Nat) (s : List Int), (l.foldl (zop q) s).length = s.length := by
  intro l
  induction l with
  | nil => intro s; rfl
  | cons j l ih => intro s; rw [List.foldl_cons, ih, zuv]
 exact this _ _
def surR (p : List Int) : Bool × List Int := match (solR p).1, (solR p).2 with
 | true, q :: t => (true, (q :: t).foldl zh5 q)
 | _, _ => (false, [])
theorem zfl {p q : List Int} (h : q ∈ (solR p).2) : q.length = p.length ∧ p.length ≤ 9 := by
 unfold solR at h
 split at h
 ·rename_i hp
  split at h
  ·exact ⟨zp0 (List.mem_filter.1 h).1, (zdk hp).2⟩
  ·simp at h
 ·simp at h
theorem zmi (p : List Int) : (solR p).2.length ≤ 300 := by
 unfold solR
 split
 ·split
  ·assumption
  ·simp
 ·simp
theorem zuw (n : Nat) : ∀ (l : List (List Int)) (s : List Int), s.length = n → (l.foldl zh5 s).length = n
 | [], s, h => h
 | q :: l, s, h => by rw [List.foldl_cons]; exact zuw n l (zh5 s q) (by rw [zmk, h])
theorem zacv (p : List Int) : (surR p).2.length ≤ 9 := by
 unfold surR
 have hm : ∀ q ∈ (solR p).2, q.length = p.length ∧ p.length ≤ 9 := fun q h => zfl h
 generalize solR p = r at *
 obtain ⟨ok, l⟩ := r
 simp only at hm
 cases ok with
 | false => simp
 | true =>
  cases l with
  | nil => simp
  | cons q t =>
   have hq := hm q (by simp)
   have := zuw q.length (q :: t) q rfl
   show ((q :: t).foldl zh5 q).length ≤ 9
   omega
def zaes (p s : List Int) : Option Nat := (List.range p.length).find? fun j => p.getD j 0 == 0 && decide (s.getD j 0 > 0)
theorem zfi {p : List Int} (h : (surR p).1 = true) : (surR p).2.length = p.length := by
 unfold surR at h ⊢
 have hm : ∀ q ∈ (solR p).2, q.length = p.length ∧ p.length ≤ 9 := fun q h => zfl h
 generalize solR p = r at *
 obtain ⟨ok, l⟩ := r
 simp only at hm h ⊢
 cases ok with
 | false => simp at h
 | true =>
  cases l with
  | nil => simp at h
  | cons q t => exact zuw p.length (q :: t) q (hm q (by simp)).1
theorem zacw {p : List Int} (h : (surR p).1 = true) : p.length ≤ 9 := by
 have := zfi h
 have := zacv p
 omega
def z2w (p : List Int) : Int × Int × Bool := if (surR p).1 then (match zaes p (surR p).2 with | some j => ((j : Int), (surR p).2.getD j 0, true) | none => (0, 0, false)) else (0, 0, false)
theorem zbc7 {n : Nat} {d : Dg} (h : inDg n d = true) : d ∈ dgL n := by
 have h' := zjk.1 h
 unfold dgL
 rw [List.mem_flatMap]
 refine ⟨d.1.toNat, List.mem_range.2 (by omega), List.mem_filter.2 ⟨List.mem_map.2 ⟨d.2.toNat, List.mem_range.2 (by omega), ?_⟩, h⟩⟩
 obtain ⟨a, b⟩ := d
 simp only [qr]
 simp only at h'
 omega
theorem ziv (m : Nat) : ∀ (rest b t : List Dg), t.Sublist rest → b.length + t.length = m → t ≠ [] → (b ++ t).Pairwise (fun d e => zbc e d = false) → b ++ t ∈ goL m rest b
 | [], b, t, h, hm, hne, hp => absurd (List.sublist_nil.1 h) hne
 | d :: rest, b, t, h, hm, hne, hp => by
  rw [zjj, kg]
  cases h with
  | cons _ h => exact .inr (ziv m rest b t h hm hne hp)
  | cons_cons _ h =>
   rename_i t'
   left
   have hf : zk1 d b = true := by
    unfold zk1
    rw [Bool.not_eq_true', List.any_eq_false]
    intro e he
    have := (List.pairwise_append.1 hp).2.2 e he d (by simp)
    rw [this]; simp
   rw [if_pos hf]
   unfold zen
   cases t' with
   | nil =>
    rw [if_pos (by simpa using hm)]
    simp
   | cons x t'' =>
    rw [if_neg (by simp only [ql, qk, qq] at hm ⊢; omega)]
    have := ziv m rest (b ++ [d]) (x :: t'') h (by simp only [ql, qk, qq] at hm ⊢; omega) (by simp) (by simpa using hp)
    simpa using this
theorem zhx {X : Type} {lt : X → X → Prop} (irr : ∀ a, ¬ lt a a) (tr : ∀ a b c, lt a b → lt b c → lt a c) : ∀ (l s : List X), l.Pairwise lt → s.Pairwise lt → (∀ x ∈ s, x ∈ l) → s.Sublist l
 | [], s, hl, hs, h => by
  cases s with
  | nil => exact List.Sublist.refl _
  | cons x s => exact absurd (h x (by simp)) (by simp)
 | a :: l, [], hl, hs, h => List.nil_sublist _
 | a :: l, x :: s, hl, hs, h => by
  obtain ⟨hl1, hl2⟩ := List.pairwise_cons.1 hl
  obtain ⟨hs1, hs2⟩ := List.pairwise_cons.1 hs
  rcases List.mem_cons.1 (h x (by simp)) with rfl | hx
  ·refine List.Sublist.cons_cons _ (zhx irr tr l s hl2 hs2 fun y hy => ?_)
   rcases List.mem_cons.1 (h y (by simp [hy])) with rfl | h'
   ·exact absurd (hs1 _ hy) (irr _)
   ·exact h'
  ·refine List.Sublist.cons _ (zhx irr tr l (x :: s) hl2 hs fun y hy => ?_)
   have hax := hl1 x hx
   rcases List.mem_cons.1 (h y hy) with rfl | h'
   ·rcases List.mem_cons.1 hy with rfl | hy
    ·exact hx
    ·exact absurd (tr _ _ _ hax (hs1 _ hy)) (irr _)
   ·exact h'
theorem zbi8 (n : Nat) (h : n ≤ 9) : (dgL n).Pairwise (fun d e => ltD d e = true) := by
 have : ∀ k, k ≤ 9 → (dgL k).Pairwise (fun d e => ltD d e = true) := by decide +kernel
 exact this n h
theorem za16 {n : Nat} {ds : List Dg} (hn : n ≤ 9) (h : z7l n ds = true) : ds ∈ allT n := by
 obtain ⟨h1, h2, h3, h4⟩ := (zl2 _ _).1 h
 have hsub : ds.Sublist (dgL n) := zhx (lt := fun d e => ltD d e = true) (fun a => by rw [zg2]; omega) (fun a b c => by rw [zg2, zg2, zg2]; omega)
  _ _ (zbi8 n hn) (h4.imp fun h => h.1) fun d hd => zbc7 (h3 d hd)
 unfold allT zen
 split
 ·rename_i h0
  have : ds = [] := ks (by simp at h0; omega)
  simp [this]
 ·rename_i h0
  have := ziv (n - 3) (dgL n) [] ds hsub (by simp; omega) (by intro e; subst e; simp at h2 h0; omega) (by rw [qw]; exact h4.imp fun h => h.2)
  simpa using this
theorem z0b {l : List Int} {ds : List Dg} (h : trOf l = some ds) : z7l (l.length : Nat) ds = true ∧ quid l.length ds = l := by
 unfold trOf at h
 split at h
 ·rename_i hn
  rw [zay] at hn
  split at h
  ·rename_i es hT
   split at h
   ·rename_i hq
    obtain rfl := Option.some.inj h
    obtain ⟨g1, g2⟩ := zgd _ _ _ _ (zcc _) (by omega) (by rw [za5]; omega) hT
    refine ⟨zv6 (by omega) (fun m hm => zl6 hm) g2 (by omega), ?_⟩
    rw [← hq]
    unfold quid
    simp only [km, List.length_range]
    refine List.map_congr_left fun p _ => ?_
    rw [zaau (zfg es)]
   ·cases h
  ·cases h
 ·cases h
theorem z3z {l : List Int} (hn : l.length ≤ 9) (h : (trOf l).isSome = true) : l ∈ allQ l.length := by
 obtain ⟨ds, e⟩ := Option.isSome_iff_exists.1 h
 obtain ⟨h1, h2⟩ := z0b e
 unfold allQ
 exact (zfh _).mem_iff.2 (List.mem_map.2 ⟨ds, za16 hn h1, h2⟩)
theorem zhz {l : List Int} (h : (trOf l).isSome = true) : (3 ≤ l.length ∧ l.length ≤ 12) ∧ ∀ v ∈ l, 1 ≤ v ∧ v ≤ (l.length : Int) - 2 := by
 obtain ⟨ds, e⟩ := Option.isSome_iff_exists.1 h
 obtain ⟨h1, h2⟩ := z0b e
 obtain ⟨g1, g2, g3, g4⟩ := (zl2 _ _).1 h1
 refine ⟨by omega, fun v hv => ?_⟩
 rw [← h2] at hv
 obtain ⟨p, hp, e⟩ := List.mem_map.1 hv
 have c1 := z1w ds p
 have c2 : cnt ds p ≤ ds.length := zapk fun d hd => by have := zjk.1 (g3 d hd); omega
 omega
theorem zgc (f g : Nat → Int) : ∀ n : Nat, ((List.range n).map fun p => f p + g p).sum = ((List.range n).map f).sum + ((List.range n).map g).sum
 | 0 => by simp
 | n + 1 => by
  have := zgc f g n
  simp only [List.range_succ, List.map_append, List.sum_append, qu, List.map_nil, List.sum_cons, List.sum_nil]
  omega
theorem zhy (a : Int) : ∀ n : Nat, ((List.range n).map fun p => if a = ((p : Nat) : Int) then (1 : Int) else 0).sum = if 0 ≤ a ∧ a < (n : Int) then 1 else 0
 | 0 => by
  rw [if_neg (by omega)]; rfl
 | n + 1 => by
  have := zhy a n
  simp only [List.range_succ, List.map_append, List.sum_append, qu, List.map_nil, List.sum_cons, List.sum_nil]
  rw [this]
  split <;> split <;> split <;> omega
theorem zaup (n : Nat) : ∀ ds : List Dg, (∀ d ∈ ds, 0 ≤ d.1 ∧ d.1 < (n : Int) ∧ 0 ≤ d.2 ∧ d.2 < (n : Int)) → ((List.range n).map fun (p : Nat) => cnt ds (p : Int)).sum = 2 * (ds.length : Int)
 | [], _ => by
  have : ∀ n : Nat, ((List.range n).map fun (p : Nat) => cnt [] (p : Int)).sum = 0 := by
   intro n
   induction n with
   | zero => rfl
   | succ n ih => rw [List.range_succ, List.map_append, List.sum_append, ih]; rfl
  rw [this]; rfl
 | d :: t, h => by
  have ih := zaup n t fun e he => h e (by simp [he])
  have hd := h d (by simp)
  have : ((List.range n).map fun (p : Nat) => cnt (d :: t) (p : Int)) = (List.range n).map fun p => ((if d.1 = ((p : Nat) : Int) then (1 : Int) else 0) + (if d.2 = ((p : Nat) : Int) then (1 : Int) else 0)) + cnt t (p : Int) := List.map_congr_left fun p _ => rfl
  rw [this, zgc (fun p => ((if d.1 = ((p : Nat) : Int) then (1 : Int) else 0) + (if d.2 = ((p : Nat) : Int) then (1 : Int) else 0))) (fun p => cnt t (p : Int)), zgc (fun p => if d.1 = ((p : Nat) : Int) then (1 : Int) else 0) (fun p => if d.2 = ((p : Nat) : Int) then (1 : Int) else 0), zhy, zhy, ih, if_pos (by omega), if_pos (by omega), qk]
  omega
theorem za1v {l : List Int} (h : (trOf l).isSome = true) : l.sum = 3 * (l.length : Int) - 6 := by
 obtain ⟨ds, e⟩ := Option.isSome_iff_exists.1 h
 obtain ⟨h1, h2⟩ := z0b e
 obtain ⟨g1, g2, g3, g4⟩ := (zl2 _ _).1 h1
 have hs := zaup l.length ds fun d hd => by have := zjk.1 (g3 d hd); omega
 have h3 : l.sum = (quid l.length ds).sum := by rw [h2]
 have h4 : ∀ n : Nat, ((List.range n).map fun (_ : Nat) => (1 : Int)).sum = (n : Int) := by
  intro n
  induction n with
  | zero => rfl
  | succ n ih => simp only [List.range_succ, List.map_append, List.sum_append, ih, qu, List.map_nil, List.sum_cons, List.sum_nil]; omega
 rw [h3]
 unfold quid
 rw [zgc (fun _ => 1) (fun p => cnt ds (p : Int)), h4, hs]
 omega
theorem z7t (L R : List Int) (x v : Int) (p : Nat) (hp : p = L.length) : (L ++ x :: R).set p v = L ++ v :: R := by subst hp; simp
theorem zarx (L R : List Int) (x y : Int) : zfy (L ++ x :: y :: R) (L.length + 1) = L ++ (x + 1) :: 1 :: (y + 1) :: R := by
 unfold zfy
 have h1 : (L ++ x :: y :: R).take (L.length + 1) = L ++ [x] := by
  rw [show L ++ x :: y :: R = (L ++ [x]) ++ y :: R by simp, List.take_left' (by simp)]
 have h2 : (L ++ x :: y :: R).drop (L.length + 1) = y :: R := by
  rw [show L ++ x :: y :: R = (L ++ [x]) ++ y :: R by simp, List.drop_left' (by simp)]
 have h3 : (L.length + 1 + 1) % ((L ++ x :: y :: R).length + 1) = L.length + 2 := Nat.mod_eq_of_lt (by simp only [ql, qk]; omega)
 simp only [h1, h2, h3]
 rw [show L ++ [x] ++ 1 :: y :: R = L ++ x :: 1 :: y :: R by simp, zf7 L _ x _ (by omega), z7t L _ x _ _ (by omega)]
 rw [show L ++ (x + 1) :: 1 :: y :: R = (L ++ [x + 1, 1]) ++ y :: R by simp, zf7 _ _ y _ (by simp), z7t _ _ y _ _ (by simp)]
 simp
theorem zarw (M : List Int) (x z : Int) : zfy (x :: (M ++ [z])) (M.length + 2) = (x + 1) :: (M ++ [z + 1, 1]) := by
 unfold zfy
 have h0 : (x :: (M ++ [z])).length = M.length + 2 := by simp
 have h1 : (x :: (M ++ [z])).take (M.length + 2) = x :: (M ++ [z]) := List.take_of_length_le (by simp)
 have h2 : (x :: (M ++ [z])).drop (M.length + 2) = [] := ke (by simp)
 have h3 : (M.length + 2 + 1) % ((x :: (M ++ [z])).length + 1) = 0 := by rw [h0]; exact Nat.mod_self _
 simp only [h1, h2, h3]
 rw [show x :: (M ++ [z]) ++ [1] = (x :: M) ++ z :: [1] by simp, zf7 _ _ z _ (by simp), z7t _ _ z _ _ (by simp)]
 simp
theorem zary {q : List Int} {j : Nat} (h : (trOf q).isSome = true) (hn : q.length ≤ 11) (hj : j < q.length) : (trOf (zfy q (j + 1))).isSome = true := by
 obtain ⟨⟨b1, b2⟩, b3⟩ := zhz h
 have hc := za1u h
 have hs := za1v h
 by_cases e : j + 1 < q.length
 ·obtain ⟨L, x, y, R, rfl, hL⟩ : ∃ L x y R, q = L ++ x :: y :: R ∧ L.length = j := by
   refine ⟨q.take j, q[j], q[j + 1], q.drop (j + 2), ?_, by rw [kp]; omega⟩
   rw [← qm (by omega), ← qm (by omega), List.take_append_drop]
  subst hL
  rw [zarx]
  refine zaas ?_ ?_ ?_ ?_
  ·simp only [ql, qk] at b1 b2 hn ⊢; omega
  ·intro v hv
   have hx := b3 x (by simp)
   have hy := b3 y (by simp)
   simp only [kg, List.mem_cons] at hv
   rcases hv with hv | rfl | rfl | rfl | hv
   ·have := b3 v (by simp [hv]); omega
   ·omega
   ·omega
   ·omega
   ·have := b3 v (by simp [hv]); omega
  ·simp only [List.sum_append, List.sum_cons, ql, qk] at hs ⊢; omega
  ·rw [zhm, List.cons_append, List.cons_append, List.cons_append, zhn, Int.add_sub_cancel, Int.add_sub_cancel, ← List.cons_append, ← List.cons_append, ← zhm]
   exact hc
 ·obtain ⟨x, M, z, rfl⟩ : ∃ x M z, q = x :: (M ++ [z]) := by
   cases q with
   | nil => simp at b1
   | cons x t =>
    rcases List.eq_nil_or_concat t with rfl | ⟨M, z, rfl⟩
    ·simp at b1
    ·exact ⟨x, M, z, by simp⟩
  have hj' : j + 1 = M.length + 2 := by simp only [ql, qk, qq] at hj e; omega
  rw [hj', zarw]
  refine zaas ?_ ?_ ?_ ?_
  ·simp only [ql, qk, qq] at b1 b2 hn ⊢; omega
  ·intro v hv
   have hx := b3 x (by simp)
   have hz := b3 z (by simp)
   simp only [kg, List.mem_cons, List.not_mem_nil, or_false] at hv
   rcases hv with rfl | hv | rfl | rfl
   ·omega
   ·have := b3 v (by simp [hv]); omega
   ·omega
   ·omega
  ·simp only [List.sum_append, List.sum_cons, List.sum_nil, ql, qk, qq] at hs ⊢; omega
  ·rw [show (x + 1) :: (M ++ [z + 1, 1]) = ((x + 1) :: M) ++ [z + 1, 1] by simp, zhm, List.cons_append, List.cons_append, qw, zhn, Int.add_sub_cancel, Int.add_sub_cancel,
    show z :: x :: M = [z] ++ (x :: M) by simp, zhm]
   simpa using hc
theorem zabv : ∀ (m : Nat) (q : List Int) (z : Int), (trOf q).isSome = true → q.length + m ≤ 12 → (trOf (mkN m q z).1).isSome = true
 | 0, q, z, h, hm => h
 | m + 1, q, z, h, hm => by
  obtain ⟨⟨b1, b2⟩, b3⟩ := zhz h
  have hj : (rI z % (q.length : Int)).toNat < q.length := by have := Int.emod_lt_of_pos (rI z) (show (0 : Int) < (q.length : Int) by omega); omega
  have hg := zary h (by omega) hj
  refine zabv m _ (rI z) hg ?_
  have : (zfy q ((rI z % (q.length : Int)).toNat + 1)).length = q.length + 1 := by unfold zfy; simp; omega
  omega
theorem zjh (p q : List Int) : fits p q = true ↔ p.length = q.length ∧ ∀ i, p.getD i 0 = 0 ∨ p.getD i 0 = q.getD i 0 := by
 unfold fits
 rw [qo, kf, Bool.not_eq_true', List.any_eq_false]
 constructor
 ·rintro ⟨h1, h2⟩
  refine ⟨h1, fun i => ?_⟩
  by_cases hi : i < p.length
  ·have := h2 (p[i], q[i]) (by rw [List.mem_iff_getElem?]; exact ⟨i, by simp [hi, ← h1]⟩)
   simp only [qg, qb hi, qb (h1 ▸ hi), Option.getD_some]
   by_cases h0 : p[i] = 0
   ·exact .inl h0
   ·refine .inr ?_
    simp only [Bool.not_eq_true', Bool.or_eq_false_iff, beq_eq_false_iff_ne, ne_eq, Bool.not_eq_false, not_and, Classical.not_not] at this
    exact this h0
  ·left
   rw [qg, List.getElem?_eq_none (by omega)]; rfl
 ·rintro ⟨h1, h2⟩
  refine ⟨h1, fun x hx => ?_⟩
  obtain ⟨i, hi⟩ := List.mem_iff_getElem?.1 hx
  have hlt : i < (p.zip q).length := by
   rcases Nat.lt_or_ge i (p.zip q).length with h | h
   ·exact h
   ·rw [List.getElem?_eq_none h] at hi; cases hi
  have hp : i < p.length := by rw [List.length_zip] at hlt; omega
  have hq : i < q.length := by omega
  rw [qb hlt, List.getElem_zip] at hi
  obtain rfl := Option.some.inj hi
  have := h2 i
  simp only [qg, qb hp, qb hq, Option.getD_some] at this
  rcases this with h | h <;> simp [h]
def Gp (o p : List Int) : Prop := o.length = p.length ∧ ∀ i, o.getD i 0 = 0 ∨ o.getD i 0 = p.getD i 0
theorem Gp.refl (p : List Int) : Gp p p := ⟨rfl, fun i => .inr rfl⟩
theorem Gp.trans {o p q : List Int} (h1 : Gp o p) (h2 : Gp p q) : Gp o q := ⟨h1.1.trans h2.1, fun i => by
 rcases h1.2 i with h | h
 ·exact .inl h
 ·rw [h]; exact h2.2 i⟩
theorem zp6 (l : List Int) (k i : Nat) (v : Int) : (l.set k v).getD i 0 = if k = i ∧ k < l.length then v else l.getD i 0 := by
 rw [qg, List.getElem?_set]
 by_cases h : k = i
 ·subst h
  by_cases h' : k < l.length
  ·rw [if_pos rfl, if_pos h', if_pos ⟨rfl, h'⟩]; rfl
  ·rw [if_pos rfl, if_neg h', if_neg (by omega), qg, List.getElem?_eq_none (by omega)]
 ·rw [if_neg h, if_neg (by omega), qg]
theorem Gp.set {o p : List Int} (h : Gp o p) (k : Nat) : Gp (o.set k 0) p := ⟨by rw [qy]; exact h.1, fun i => by
 rw [zp6]
 split
 ·exact .inl rfl
 ·exact h.2 i⟩
theorem Gp.pz {o p : List Int} (h : Gp o p) (hp : isPz p = true) : isPz o = true := by
 unfold isPz at hp ⊢
 rw [qo] at hp ⊢
 rw [h.1]
 refine ⟨hp.1, qt.2 fun x hx => ?_⟩
 obtain ⟨i, hi, e⟩ := List.getElem_of_mem hx
 have hg := h.2 i
 have hi2 : i < p.length := by have := h.1; omega
 simp only [qg, qb hi, qb hi2, Option.getD_some, e] at hg
 have h3 := hp.1
 rw [zay] at h3
 rcases hg with rfl | rfl
 ·rw [zay]; omega
 ·exact qt.1 hp.2 _ (List.getElem_mem hi2)
theorem zarr : ∀ (m : Nat) (q : List Int) (z : Int), Gp (gapN m q z) q
 | 0, q, z => Gp.refl q
 | m + 1, q, z => (zarr m _ _).trans ((Gp.refl q).set _)
theorem zars : ∀ (m : Nat) (q : List Int) (z : Int), m ≤ (pl q).length → (pl (gapN m q z)).length + m = (pl q).length
 | 0, q, z, h => rfl
 | m + 1, q, z, h => by
  obtain ⟨_, _, _, h4⟩ := zats (q := q) (z := z) (by omega)
  have h5 := za59 h4
  have ih := zars m (q.set ((pl q).getD (rI z % ((pl q).length : Int)).toNat 0).toNat 0) (rI z) (by omega)
  show (pl (gapN m _ _)).length + (m + 1) = _
  omega
theorem zbcu {q : List Int} (h : ∀ v ∈ q, 0 ≤ v) : gaps q + ((pl q).length : Int) = (q.length : Int) := by
 rw [zacd]
 unfold gaps
 have : q.countP (fun x => x == 0) + q.countP (fun v => decide (v > 0)) = q.length := by
  induction q with
  | nil => rfl
  | cons a t ih =>
   have ih := ih fun v hv => h v (by simp [hv])
   have ha := h a (by simp)
   rw [List.countP_cons, List.countP_cons, qk]
   by_cases e : a = 0
   ·subst e
    rw [if_pos (by rfl), if_neg (by simp)]; omega
   ·have e1 : ¬ (a == 0) = true := by simpa using e
    have e2 : decide (a > 0) = true := by rw [kf]; omega
    rw [if_neg e1, if_pos e2]; omega
 omega
theorem zbc8 {n g s : Int} (h : (mkPz n g s).1 = true) : isPz (mkPz n g s).2 = true ∧ ((mkPz n g s).2.length : Int) = n ∧ gaps (mkPz n g s).2 = g ∧ 1 ≤ (solL (mkPz n g s).2).length := by
 unfold mkPz at h ⊢
 split at h
 ·rename_i hc
  rw [if_pos hc]
  rw [qo, qo] at hc
  obtain ⟨⟨hn, hg⟩, hs⟩ := hc
  obtain ⟨m, m1, m2, m3, s1, s2, hq⟩ := zabw n hn s hs
  obtain ⟨⟨f1, f2⟩, f3, f4⟩ := ztp m 0 [1, 1, 1] s hq (by omega) s1 s2
  have hQ := zabv m [1, 1, 1] s (zlz 0 _ hq).1 (by simp only [qk, qq]; omega)
  simp only [m1]
  generalize (mkN m [1, 1, 1] s).2 = z at *
  generalize (mkN m [1, 1, 1] s).1 = q at *
  have hgp := zarr g.toNat q z
  rw [zay] at hg
  obtain ⟨⟨b1, b2⟩, b3⟩ := zhz hQ
  have hpzq : isPz q = true := by
   unfold isPz
   rw [qo, zay]
   refine ⟨by omega, qt.2 fun v hv => ?_⟩
   have := b3 v hv
   rw [zay]; omega
  have hpz := hgp.pz hpzq
  have hpl := zars g.toNat q z (by rw [z7r f2]; omega)
  have hga := zbcu (q := gapN g.toNat q z) (fun v hv => by
   unfold isPz at hpz
   rw [qo] at hpz
   have := qt.1 hpz.2 v hv
   rw [zay] at this
   exact this.1)
  rw [z7r f2] at hpl
  refine ⟨hpz, by rw [hgp.1]; omega, by rw [hgp.1] at hga; omega, ?_⟩
  have hmem : q ∈ solL (gapN g.toNat q z) := by
   unfold solL
   rw [hgp.1]
   exact List.mem_filter.2 ⟨z3z (by omega) hQ, (zjh _ _).2 hgp⟩
  exact List.length_pos_of_mem hmem
 ·simp at h
def zw8 : FSh := ⟨[(.one (.pf 0 0 0)), (.one (.si .i64))], [(.rcd 0 [(.sl (.int .u8) false true), (.si .i64), (.si .u64)])]⟩
def zw7 : List FO := [⟨[(.one .sb)], [(.rcd 0 [(.sl (.int .u8) false true), (.si .i64), (.si .u64)])]⟩]
def zaf2 : ((Unit × Int) × (List Int × Int × Int)) → T (Bool × (List Int × Int × Int)) := fun (((), n), (c_0, c_1, c_2)) =>(.sub (F86 (((), n), (c_0, (c_1, c_2)))) fun z0 =>(.ret ((z0.1 == 0), (z0.2.1, (z0.2.2.1, z0.2.2.2)))))
def F101 (v) := (zaf2 v).run
def za19 : TEnv := (E0.add1 z3o zox zow F86)
theorem zau7 : (za19).OK := (E0ok.add1 zvi)
def zaf3 : Nat → Option zal := fun id => none
theorem zaf1 : FOK Tryz.prog zabx zw8 zw7 F101 :=
 zao (E := za19) (zau7) (told := zaf3) (fl := []) (c := zac zap0) (s := zw8) (l := zw7) (tree := zaf2) zaqo (by kernel_rfl) (by kernel_rfl) (by kernel_rfl) (zab (ls := []) (by kernel_rfl) trivial) (fun v => by kernel_rfl)
def curOK (k : Int) (c : List Int × Int × Int) : Prop := (∀ x ∈ c.1, 0 ≤ x ∧ x ≤ 255) ∧ 0 ≤ c.2.1 ∧ c.2.1 ≤ k
theorem curOK.mono {k m : Int} {c : List Int × Int × Int} (h : curOK k c) (hk : k ≤ m) : curOK m c := ⟨h.1, h.2.1, Int.le_trans h.2.2 hk⟩
theorem zbe0 {z : Int} (h1 : 0 ≤ z) (h2 : z ≤ 18446744073709551615) : wu64 z = z := by
 simp [wu64, IntKind.wrap, IntKind.bits, IntKind.signed]; omega
theorem zbc6 (n : Nat) : 0 ≤ w64 (wu64 ((n &&& 255 : Nat) : Int)) ∧ w64 (wu64 ((n &&& 255 : Nat) : Int)) ≤ 255 := by
 have h : n &&& 255 ≤ 255 := Nat.and_le_right
 generalize n &&& 255 = m at h
 rw [zbe0 (by omega) (by omega), zae (by omega) (by omega)]
 omega
theorem zatj {k : Int} {c : List Int × Int × Int} (h : curOK k c) (hk : k < 1000000000000000) : ∃ v c', F85 ((), c) = some (v, c') ∧ (0 ≤ v ∧ v ≤ 255) ∧ curOK (k + 1) c' := by
 obtain ⟨c0, c1, c2⟩ := c
 obtain ⟨h1, h2, h3⟩ := h
 simp only at h1 h2 h3
 have w1 : w64 (c1 + 1) = c1 + 1 := zae (by omega) (by omega)
 rw [F85, zbba]
 by_cases a : c1 < (c0.length : Int)
 ·have hlt : c1.toNat < c0.length := by omega
  have hx := h1 c0[c1.toNat] (List.getElem_mem hlt)
  rw [T.run_test, if_pos (qd a), T.run_test, if_pos (qd (by omega)), T.run_sub, qb hlt, qa, T.run_test, if_pos (qd (by rw [w1]; omega)), T.run_ret, w1]
  have w2 : w64 c0[c1.toNat] = c0[c1.toNat] := zae (by omega) (by omega)
  refine ⟨_, _, rfl, by rw [w2]; exact hx, h1, ?_, ?_⟩
  ·show 0 ≤ c1 + 1; omega
  ·show c1 + 1 ≤ k + 1; omega
 ·rw [T.run_test, if_neg (by rw [kf]; exact a), T.run_test, if_neg (by rw [kf, w1]; omega), T.run_ret, w1]
  refine ⟨_, _, rfl, zbc6 _, h1, ?_, ?_⟩
  ·show 0 ≤ c1 + 1; omega
  ·show c1 + 1 ≤ k + 1; omega
theorem zc5 {k : Int} {c : List Int × Int × Int} (n : Int) (h : curOK k c) (hk : k < 100000000000000) : ∃ v c', F86 (((), n), c) = some (v, c') ∧ 0 ≤ v ∧ (1 ≤ n → v < n) ∧ (n ≤ 1 → v = 0) ∧ curOK (k + 2) c' := by
 obtain ⟨c0, c1, c2⟩ := c
 rw [F86, zbbc]
 by_cases a : n ≤ 1
 ·rw [T.run_test, if_pos (qd a), T.run_ret]
  exact ⟨0, _, rfl, Int.le_refl _, fun h => by omega, fun _ => rfl, h.mono (by omega)⟩
 ·obtain ⟨v, ⟨d0, d1, d2⟩, e, hv, hc⟩ := zatj h (by omega)
  rw [T.run_test, if_neg (by rw [kf]; exact a), T.run_sub, e, qa, T.run_test]
  by_cases b : n > 200
  ·obtain ⟨u, ⟨f0, f1, f2⟩, e2, hu, hc2⟩ := zatj hc (by omega)
   rw [if_pos (qd b), T.run_sub, e2, qa, T.run_test, if_pos (qd (by omega)), T.run_ret]
   have w : w64 (w64 (v * 256) + u) = v * 256 + u := by rw [zae (z := v * 256) (by omega) (by omega), zae (by omega) (by omega)]
   refine ⟨_, _, rfl, ?_, fun _ => ?_, fun h => absurd h a, hc2.mono (by omega)⟩
   ·rw [w]; exact Int.tmod_nonneg _ (by omega)
   ·rw [w]; exact Int.tmod_lt_of_pos _ (by omega)
  ·rw [if_neg (by rw [kf]; exact b), T.run_test, if_pos (qd (by omega)), T.run_ret]
   exact ⟨_, _, rfl, Int.tmod_nonneg _ (by omega), fun _ => Int.tmod_lt_of_pos _ (by omega), fun h => absurd h a, hc.mono (by omega)⟩
theorem zaan {k : Int} {c : List Int × Int × Int} (l : List Int) (h : curOK k c) (hk : k < 100000000000000) (hl : 1 ≤ l.length) : ∃ v c', F75 (((), l), c) = some (v, c') ∧ v ∈ l ∧ curOK (k + 2) c' := by
 obtain ⟨c0, c1, c2⟩ := c
 obtain ⟨v, ⟨d0, d1, d2⟩, e, h0, h1, _, hc⟩ := zc5 (l.length : Int) h hk
 have h1 := h1 (by omega)
 have hlt : v.toNat < l.length := by omega
 rw [F75, zban, T.run_sub, e, qa, T.run_test, if_pos (qd (by omega)), T.run_sub, qb hlt, qa, T.run_ret]
 exact ⟨_, _, rfl, List.getElem_mem hlt, hc⟩
theorem za55 {k : Int} {c : List Int × Int × Int} (n : Int) (h : curOK k c) (hk : k < 100000000000000) : ∃ v c', F101 (((), n), c) = some (v, c') ∧ curOK (k + 2) c' := by
 obtain ⟨c0, c1, c2⟩ := c
 obtain ⟨v, ⟨d0, d1, d2⟩, e, _, _, _, hc⟩ := zc5 n h hk
 rw [F101, zaf2, T.run_sub, e, qa, T.run_ret]
 exact ⟨_, _, rfl, hc⟩
def zkx (code : List Int) : Prop := ∀ x ∈ code, 0 ≤ x ∧ x ≤ 255
theorem cur0 {code : List Int} (h : zkx code) : curOK 0 (code, ((0 : Int), (0 : Int))) := ⟨h, Int.le_refl _, Int.le_refl _⟩
theorem zasp {n g s : Int} (h1 : 3 ≤ n) (h2 : n ≤ 9) (h3 : 0 ≤ g) (h4 : g ≤ n) (h5 : 0 ≤ s) (h6 : s ≤ 9999) : (mkPz n g s).1 = true := by
 unfold mkPz
 rw [if_pos]
 simp only [qo, zay]
 omega
theorem ztz {K : Int} {c : List Int × Int × Int} (h : curOK K c) (hK : K < 100000000) :
  ∃ p c', F69 ((), c) = some ((), (c', p)) ∧ p.length ≤ 9 ∧ curOK (K + 12) c' := by
 obtain ⟨c0, c1, c2⟩ := c
 obtain ⟨v, ⟨d0, d1, d2⟩, e, h0, h1, _, hc⟩ := zc5 5 h (by omega)
 have h1 := h1 (by omega)
 have w1 : w64 (3 + v) = 3 + v := zae (by omega) (by omega)
 have w2 : w64 (3 + v + 1) = 3 + v + 1 := zae (by omega) (by omega)
 have w3 : w64 (3 + v - 1) = 3 + v - 1 := zae (by omega) (by omega)
 have w4 : w64 (3 + v - 2) = 3 + v - 2 := zae (by omega) (by omega)
 obtain ⟨g, ⟨a0, a1, a2⟩, e2, g0, g1, _, hc2⟩ := zc5 (3 + v + 1) hc (by omega)
 have g1 := g1 (by omega)
 obtain ⟨s, ⟨b0, b1, b2⟩, e3, s0, s1, _, hc3⟩ := zc5 10000 hc2 (by omega)
 have s1 := s1 (by omega)
 have e4 := zbib (3 + v) g s
 have hm := zasp (n := 3 + v) (g := g) (s := s) (by omega) (by omega) (by omega) (by omega) (by omega) (by omega)
 obtain ⟨_, hlen, _, _⟩ := zbc8 hm
 generalize (mkPz (3 + v) g s).2 = p at *
 obtain ⟨u, ⟨f0, f1, f2⟩, e5, _, _, _, hc5⟩ := zc5 14 hc3 (by omega)
 rw [F69, zbab, T.run_sub, e, qa, T.run_sub, w1, w2, e2, qa, T.run_sub, e3, qa, T.run_sub, e4, qa, T.run_sub, e5, qa, T.run_test]
 dsimp only
 by_cases u0 : (u == 0) = true
 ·obtain ⟨x, ⟨j0, j1, j2⟩, e6, i0, i1, _, hc6⟩ := zc5 (3 + v) hc5 (by omega)
  have i1 := i1 (by omega)
  obtain ⟨y, ⟨k0, k1, k2⟩, e7, _, hc7⟩ := zaan [-1, 3 + v - 1, 0, 1, 4611686018427387904] hc6 (by omega) (by simp)
  have hlt : 0 + x.toNat < p.length := by omega
  have hw : (win (List.set (List.set (List.set (List.set (List.set (List.replicate 5 (0 : Int)) 0 (-1)) 1 (w64 (3 + v - 1))) 2 (0 : Int)) 3 (1 : Int)) 4 (4611686018427387904 : Int)) 0 5) = [-1, w64 (3 + v - 1), 0, 1, 4611686018427387904] := rfl
  rw [if_pos u0, T.run_sub, e6, qa, T.run_test, if_pos (by simp), T.run_sub, hw, w3, e7, qa, T.run_test, if_pos (qd (by omega)), T.run_sub, qb hlt, qa, T.run_test, if_pos (by simp), T.run_ret]
  exact ⟨_, _, rfl, by rw [qy]; omega, hc7.mono (by omega)⟩
 rw [if_neg u0, T.run_test]
 by_cases u1 : (u == 1) = true
 ·obtain ⟨x, ⟨j0, j1, j2⟩, e6, i0, i1, _, hc6⟩ := zc5 (3 + v) hc5 (by omega)
  have i1 := i1 (by omega)
  obtain ⟨y, ⟨k0, k1, k2⟩, e7, _, _, _, hc7⟩ := zc5 (3 + v - 2) hc6 (by omega)
  have hlt : 0 + x.toNat < p.length := by omega
  rw [if_pos u1, T.run_sub, e6, qa, T.run_sub, w4, e7, qa, T.run_test, if_pos (qd (by omega)), T.run_sub, qb hlt, qa, T.run_test, if_pos (by simp), T.run_ret]
  exact ⟨_, _, rfl, by rw [qy]; omega, hc7.mono (by omega)⟩
 rw [if_neg u1, T.run_test]
 by_cases u2 : (u == 2) = true
 ·rw [if_pos u2, T.run_test, if_pos (by simp), T.run_ret]
  exact ⟨_, _, rfl, by simp, hc5.mono (by omega)⟩
 rw [if_neg u2, T.run_test, if_pos (by simp), T.run_ret]
 exact ⟨_, _, rfl, by omega, hc5.mono (by omega)⟩
def zalc : FSh := ⟨[(.one (.sl (.int .u8) false true))], []⟩
def zalb : List FO := [⟨[(.ag [(.rw 0 0)])], [qr1]⟩]
def za9r : List Int → T (Unit × List Int) := fun code =>(.sub (F70 code) fun z0 =>(qz z0.2 (.ret ((), z0.2))))
def F59 (v) := (za9r v).run
def zbgy : TEnv := (E0.add1 zbd2 zal9 zal8 F70)
theorem za9q : (zbgy).OK := (E0ok.add1 zbhj)
def zaws : Nat → Option zal := fun id => none
theorem zbgz : FOK Tryz.prog zbdw zalc zalb F59 :=
 zao (E := zbgy) (za9q) (told := zaws) (fl := []) (c := zac za5g) (s := zalc) (l := zalb) (tree := za9r) zazn (by kernel_rfl) (by kernel_rfl) (by kernel_rfl) (zab (ls := []) (by kernel_rfl) trivial) (fun v => by kernel_rfl)
theorem zawr {code : List Int} (h : zkx code) : ∃ p, F59 code = some ((), p) ∧ p.length ≤ 9 := by
 obtain ⟨p, c, e, hp, hc⟩ := ztz (cur0 h) (by omega)
 rw [F59, za9r, T.run_sub, F70, zbaf, T.run_sub, e, qa, T.run_test, if_pos (by simp), T.run_ret, qa, T.run_test, if_pos (by simp), T.run_ret]
 exact ⟨_, rfl, hp⟩
def zh7 : FSh := ⟨[(.one (.si .i64)), (.one (.si .i64)), (.one (.si .i64))], []⟩
def zh6 : List FO := [⟨[(.one .sb)], []⟩]
def zahq : (Int × Int × Int) → T Bool := fun (n, low, high) =>(.test (decide (n ≥ low)) (.ret (decide (n ≤ high))) (.ret false))
def F122 (v) := (zahq v).run
def za2p : TEnv := E0
theorem zavn : (za2p).OK := E0ok
def zahr : Nat → Option zal := fun id => none
theorem zmy : FOK Tryz.prog zpa zh7 zh6 F122 :=
 zao (E := za2p) (zavn) (told := zahr) (fl := []) (c := zac zaqe) (s := zh7) (l := zh6) (tree := zahq) zaq7 (by kernel_rfl) (by kernel_rfl) (by kernel_rfl) (zab (ls := []) (by kernel_rfl) trivial) (fun v => by kernel_rfl)
theorem zkd (n low high : Int) : F122 (n, low, high) = some (inB low high n) := by
 simp only [F122, zahq, T.run, ge_iff_le, kf, inB]
 by_cases h : low ≤ n <;> simp [h]
def zann : FSh := ⟨[(.one (.si .i64)), (.one (.pf 0 0 0))], [(.rcd 0 [(.si .i64)])]⟩
def zanm : List FO := [⟨[(.one .sb)], [(.rcd 0 [(.si .i64)])]⟩]
def zbbi : ((Int × Unit) × Int) → T (Bool × Int) := fun ((k, ()), t1_0) =>(.sub (F122 (k, ((0 : Int), (w64 (t1_0 - 2))))) fun z0 =>(.ret ((! z0), t1_0)))
def F89 (v) := (zbbi v).run
def zbid : TEnv := (E0.add1 zpa zh7 zh6 F122)
theorem zbbh : (zbid).OK := (E0ok.add1 zmy)
def zaxp : Nat → Option zal := fun id => none
theorem zbif : FOK Tryz.prog zae1 zann zanm F89 :=
 zao (E := zbid) (zbbh) (told := zaxp) (fl := []) (c := zac za5u) (s := zann) (l := zanm) (tree := zbbi) za0h (by kernel_rfl) (by kernel_rfl) (by kernel_rfl) (zab (ls := []) (by kernel_rfl) trivial) (fun v => by kernel_rfl)
theorem zbie (k c : Int) (h : 0 ≤ c) (h2 : c < 4611686018427387904) : F89 ((k, ()), c) = some (!inB 0 (c - 2) k, c) := by
 simp only [F89, zbbi, T.run, zkd, qa]
 rw [zae (by omega) (by omega)]
def zajf : FSh := ⟨[(.one (.sl (.int .i64) false false)), (.clo zae1 [(.one (.pf 0 0 0))])], [(.rcd 0 [(.si .i64)])]⟩
def zq1 : LSh := ⟨(fun ex => match ex with | .norm => (nz [0, 1, 7, 8]) | .exit i => if i = 0 then [] else [] | .ret => (nz [4])), [(0, qo5), (1, (.clo zae1 [(.one (.pf 0 0 0))])), (7, qo1), (8, qo1)], [(.rcd 0 [(.si .i64)])], [⟨.ret, [(4, qo1)], [(.rcd 0 [(.si .i64)])]⟩, ⟨(.exit 0), [], [(.rcd 0 [(.si .i64)])]⟩], [], []⟩
def zdn : ((List Int × Unit × Int × Int) × Int) → T (((List Int × Unit × Int × Int) × Int) ⊕ ((Int × Int) ⊕ (Unit × Int))) := fun ((s, (), t7, t8), r0_0) =>(.test (decide (t8 < t7)) (.test (decide ((0 ≤ t8) ∧ (t8 < (s.length : Int)))) (.sub (s[(Int.toNat t8)]?) fun z0 =>(.sub (F89 ((z0, ()), r0_0)) fun z1 =>(.test z1.1 (.ret (Sum.inr (Sum.inl (t8, z1.2)))) (.ret (Sum.inl ((s, ((), (t7, (w64 (t8 + 1))))), z1.2)))))) .fail) (.ret (Sum.inr (Sum.inr ((), r0_0)))))
def za2z (v) := zav (fun v => (zdn v).run) v
def zaje : List FO := [⟨[(.one (.si .i64))], [(.rcd 0 [(.si .i64)])]⟩]
def za7r : ((List Int × Unit) × Int) → T (Int × Int) := fun ((s, ()), r0_0) =>(.sub (za2z ((s, ((), ((s.length : Int), (0 : Int)))), r0_0)) fun z0 =>(.test (Sum.isLeft z0) (.sub (Sum.getLeft? z0) fun z1 =>(.ret (z1.1, z1.2))) (.sub (Sum.getRight? z0) fun z2 =>(.ret ((-1), z2.2)))))
def F15 (v) := (za7r v).run
def za7q : TEnv := (E0.add1 zae1 zann zanm F89)
theorem zajc : (za7q).OK := (E0ok.add1 zbif)
def z8x : Nat → Option zal := fun id => if id = 2 then some (LSh.told zq1 1 (zdn)) else none
theorem zajd : zan Tryz.prog 1 (zad (zac zaa9) [0]) (LSh.told zq1 1 (zdn)) :=
 zak (E := za7q) (zajc) (told := z8x) (l := zq1) (step := zdn) (zab (ls := []) (by kernel_rfl) trivial) (by kernel_rfl) (fun v => by kernel_rfl)
theorem zbfg : FOK Tryz.prog zbdf zajf zaje F15 :=
 zao (E := za7q) (zajc) (told := z8x) (fl := []) (c := zac zaa9) (s := zajf) (l := zaje) (tree := za7r) zayw (by kernel_rfl) (by kernel_rfl) (by kernel_rfl) (zab (ls := [zad (zac zaa9) [0]]) (by kernel_rfl) ⟨.inr ⟨_, by kernel_rfl, zajd⟩, trivial⟩) (fun v => by kernel_rfl)
theorem zbff (l : List Int) (c : Int) (hl : l.length < 4611686018427387904) (h : 0 ≤ c) (h2 : c < 4611686018427387904) : F15 ((l, ()), c) = some (idxI (fun k => !inB 0 (c - 2) k) l, c) := by
 have h := zfr (step := fun v => (zdn v).run) (xs := l) (fun k => !inB 0 (c - 2) k) (fun k => ((l, (), (l.length : Int), (k : Int)), c)) (fun k => .inl ((k : Int), c)) (.inr ((), c))
  (fun k x hx => by
   have hk := zai hx
   simp only [zdn, T.run, zbie _ _ h h2, qa, qe, hx]
   rw [zae (by omega) (by omega)]
   cases inB 0 (c - 2) x <;> simp [hk])
  (by simp [zdn, T.run])
 simp only [F15, za7r, T.run, za2z]
 simp only [ka] at h
 rw [h, idxI]
 cases l.findIdx? (fun k => !inB 0 (c - 2) k) <;> simp
def zais : FSh := ⟨[(.one (.sl (.int .i64) false false)), (.clo zae1 [(.one (.pf 0 0 0))])], [(.rcd 0 [(.si .i64)])]⟩
def zair : List FO := [⟨[(.one .sb)], [(.rcd 0 [(.si .i64)])]⟩]
def za7k : ((List Int × Unit) × Int) → T (Bool × Int) := fun ((s, ()), r0_0) =>(.sub (F15 ((s, ()), r0_0)) fun z0 =>(.ret ((decide (z0.1 ≥ 0)), z0.2)))
def F13 (v) := (za7k v).run
def zbfc : TEnv := (E0.add1 zbdf zajf zaje F15)
theorem za7j : (zbfc).OK := (E0ok.add1 zbfg)
def zavt : Nat → Option zal := fun id => none
theorem zbfe : FOK Tryz.prog zbdb zais zair F13 :=
 zao (E := zbfc) (za7j) (told := zavt) (fl := []) (c := zac za4z) (s := zais) (l := zair) (tree := za7k) zayn (by kernel_rfl) (by kernel_rfl) (by kernel_rfl) (zab (ls := []) (by kernel_rfl) trivial) (fun v => by kernel_rfl)
theorem zbfd (l : List Int) (c : Int) (hl : l.length < 4611686018427387904) (h : 0 ≤ c) (h2 : c < 4611686018427387904) : F13 ((l, ()), c) = some (l.any (fun k => !inB 0 (c - 2) k), c) := by
 simp only [F13, za7k, T.run, zbff _ _ hl h h2, qa, zzg]
def zhg : FSh := ⟨[(.ag [(.sl (.int .i64) false false)])], []⟩
def zhf : List FO := [⟨[(.one .sb)], []⟩]
def zagj : List Int → T Bool := fun p_0 =>(.sub (F122 ((p_0.length : Int), ((3 : Int), (9 : Int)))) fun z0 =>(.test z0 (.sub (F13 ((p_0, ()), (p_0.length : Int))) fun z1 =>(.ret (! z1.1))) (.ret false)))
def F109 (v) := (zagj v).run
def za2d : TEnv := ((E0.add1 zpa zh7 zh6 F122).add1 zbdb zais zair F13)
theorem zavc : (za2d).OK := ((E0ok.add1 zmy).add1 zbfe)
def zagk : Nat → Option zal := fun id => none
theorem zkc : FOK Tryz.prog zl5 zhg zhf F109 :=
 zao (E := za2d) (zavc) (told := zagk) (fl := []) (c := zac zap4) (s := zhg) (l := zhf) (tree := zagj) zaqv (by kernel_rfl) (by kernel_rfl) (by kernel_rfl) (zab (ls := []) (by kernel_rfl) trivial) (fun v => by kernel_rfl)
theorem zkb (l : List Int) (hl : l.length < 4611686018427387904) : F109 l = some (isPz l) := by
 simp only [F109, zagj, T.run, zkd, qa, zbfd l l.length hl (by omega) (by omega), zao3, isPz]
 cases inB 3 9 l.length <;> simp
def zaac : FSh := ⟨[(.one (.si .i64)), (.ag [(.si .i64), (.si .i64)])], []⟩
def zaab : List FO := [⟨[(.one .sb)], []⟩]
def zbbn : (Int × (Int × Int)) → T Bool := fun (n, (d_0, d_1)) =>(.sub (F122 (d_0, ((0 : Int), (w64 (n - 1))))) fun z0 =>(.test z0 (.sub (F122 (d_1, ((0 : Int), (w64 (n - 1))))) fun z1 =>(.test z1 (.test (decide ((w64 (d_1 - d_0)) > 1)) (.test (d_0 == 0) (.ret (! (d_1 == (w64 (n - 1))))) (.ret true)) (.ret false)) (.ret false))) (.ret false)))
def F90 (v) := (zbbn v).run
def zbih : TEnv := (E0.add1 zpa zh7 zh6 F122)
theorem zbbm : (zbih).OK := (E0ok.add1 zmy)
def zaxq : Nat → Option zal := fun id => none
theorem za38 : FOK Tryz.prog za1l zaac zaab F90 :=
 zao (E := zbih) (zbbm) (told := zaxq) (fl := []) (c := zac za5v) (s := zaac) (l := zaab) (tree := zbbn) za0i (by kernel_rfl) (by kernel_rfl) (by kernel_rfl) (zab (ls := []) (by kernel_rfl) trivial) (fun v => by kernel_rfl)
theorem za37 (n : Int) (d : Dg) (h1 : 0 ≤ n) (h2 : n ≤ 1000000) : F90 (n, d) = some (inDg n d) := by
 obtain ⟨a, b⟩ := d
 have w1 : w64 (n - 1) = n - 1 := zae (by omega) (by omega)
 simp only [F90, zbbn, T.run, zkd, qa, w1, inDg]
 cases ha : inB 0 (n - 1) a with
 | false => simp
 | true =>
  cases hb : inB 0 (n - 1) b with
  | false => simp
  | true =>
   rw [zay] at ha hb
   have w2 : w64 (b - a) = b - a := zae (by omega) (by omega)
   rw [w2]
   by_cases h4 : a = 0
   ·subst h4
    rw [Int.sub_zero]
    by_cases h5 : b > 1 <;> simp [h5, zsm]
   ·by_cases h5 : b - a > 1 <;> simp [h5, h4]
def zamd : FSh := ⟨[(.one (.si .i64))], []⟩
def zrg : LSh := ⟨(fun ex => match ex with | .norm => (nz [0, 3, 4, 5, 8, 9]) | .exit i => if i = 2 then (nz [0, 3, 8, 9]) else if i = 1 then (nz [0, 3, 8, 9]) else if i = 0 then (nz [3]) else [] | .ret => (nz [2])), [(0, qo1), (3, qo4), (4, qo1), (5, qo1), (8, qo1), (9, qo1)], [(.row 0 (.pair (.int .i64) (.int .i64)))], [⟨(.exit 2), [(0, qo1), (3, qo4), (8, qo1), (9, qo1)], [(.row 0 (.pair (.int .i64) (.int .i64)))]⟩], [], []⟩
def zcd : ((Int × Unit × Int × Int × Int × Int) × List (Int × Int)) → T (((Int × Unit × Int × Int × Int × Int) × List (Int × Int)) ⊕ ((Int × Unit × Int × Int) × List (Int × Int))) := fun ((n, (), low, high, t8, t9), out) =>(.test (decide (high < n)) (.sub (F90 (n, (low, high))) fun z0 =>(.test z0 (.test (decide (1 ≤ (List.length (List.set (List.replicate 1 ((0 : Int), (0 : Int))) 0 (low, high))))) (.test (decide ((0 + out.length) ≤ out.length)) (.test (decide ((2 * ((out.length + (List.length (win (List.set (List.replicate 1 ((0 : Int), (0 : Int))) 0 (low, high)) 0 1))) * 17)) ≤ 140737488355328)) (.test (decide ((0 = 0) ∧ ((out.length + (List.length (win (List.set (List.replicate 1 ((0 : Int), (0 : Int))) 0 (low, high)) 0 1))) = (List.length ((win out 0 out.length) ++ (win (List.set (List.replicate 1 ((0 : Int), (0 : Int))) 0 (low, high)) 0 1)))))) (.ret (Sum.inl ((n, ((), (low, ((w64 (high + 1)), (t8, t9))))), ((win out 0 out.length) ++ (win (List.set (List.replicate 1 ((0 : Int), (0 : Int))) 0 (low, high)) 0 1))))) .fail) .fail) .fail) .fail) (qz out (.ret (Sum.inl ((n, ((), (low, ((w64 (high + 1)), (t8, t9))))), out)))))) (qz out (.ret (Sum.inr ((n, ((), (t8, t9))), out)))))
def z05 (v) := zav (fun v => (zcd v).run) v
def zrf : LSh := ⟨(fun ex => match ex with | .norm => (nz [0, 3, 8, 9]) | .exit i => if i = 0 then (nz [3]) else [] | .ret => (nz [2])), [(0, qo1), (3, qo4), (8, qo1), (9, qo1)], [(.row 0 (.pair (.int .i64) (.int .i64)))], [⟨(.exit 0), [(3, qo4)], [(.row 0 (.pair (.int .i64) (.int .i64)))]⟩], [], []⟩
def ze4 : ((Int × Unit × Int × Int) × List (Int × Int)) → T (((Int × Unit × Int × Int) × List (Int × Int)) ⊕ (Unit × List (Int × Int))) := fun ((n, (), t8, t9), out) =>(.test (decide (t9 < t8)) (qz out (.sub (z05 ((n, ((), (t9, ((w64 (t9 + 1)), (t8, t9))))), out)) fun z0 =>(qz z0.2 (.ret (Sum.inl ((z0.1.1, ((), (z0.1.2.2.1, (w64 (z0.1.2.2.2 + 1))))), z0.2)))))) (qz out (.ret (Sum.inr ((), out)))))
def z9n (v) := zav (fun v => (ze4 v).run) v
def zamc : List FO := [⟨[(.one (.rw 0 0))], [(.row 0 (.pair (.int .i64) (.int .i64)))]⟩]
def zbag : Int → T (Unit × List (Int × Int)) := fun n =>(.test true (.sub (z9n ((n, ((), (n, (0 : Int)))), (List.replicate 0 ((0 : Int), (0 : Int))))) fun z0 =>(qz z0.2 (.ret ((), z0.2)))) .fail)
def F71 (v) := (zbag v).run
def zaw8 : TEnv := (E0.add1 za1l zaac zaab F90)
theorem z6u : (zaw8).OK := (E0ok.add1 za38)
def zx7 : Nat → Option zal := fun id => if id = 6 then some (LSh.told zrg 0 (zcd)) else if id = 3 then some (LSh.told zrf 0 (ze4)) else none
theorem zamb : zan Tryz.prog 0 (zad (zac zv0) [0, 0]) (LSh.told zrg 0 (zcd)) :=
 zak (E := zaw8) (z6u) (told := zx7) (l := zrg) (step := zcd) (zab (ls := []) (by kernel_rfl) trivial) (by kernel_rfl) (fun v => by kernel_rfl)
theorem zama : zan Tryz.prog 0 (zad (zac zv0) [0]) (LSh.told zrf 0 (ze4)) :=
 zak (E := zaw8) (z6u) (told := zx7) (l := zrf) (step := ze4) (zab (ls := [zad (zac zv0) [0, 0]]) (by kernel_rfl) ⟨.inr ⟨_, by kernel_rfl, zamb⟩, trivial⟩) (by kernel_rfl) (fun v => by kernel_rfl)
theorem zbhl : FOK Tryz.prog zbd3 zamd zamc F71 :=
 zao (E := zaw8) (z6u) (told := zx7) (fl := []) (c := zac zv0) (s := zamd) (l := zamc) (tree := zbag) zazz (by kernel_rfl) (by kernel_rfl) (by kernel_rfl) (zab (ls := [zad (zac zv0) [0]]) (by kernel_rfl) ⟨.inr ⟨_, by kernel_rfl, zama⟩, trivial⟩) (fun v => by kernel_rfl)
theorem z6v (n a : Nat) (t8 t9 : Int) (hn : n ≤ 1000) : ∀ (m b : Nat) (out : List Dg), b + m = n → out.length + m ≤ 1000000 →
  z05 (((n : Int), ((), ((a : Int), ((b : Int), (t8, t9))))), out) = some (((n : Int), ((), (t8, t9))), out ++ rowD n a b)
 | 0, b, out, hb, ho => by
  have : b = n := by omega
  subst this
  rw [zzz, kq]
  simp only [z05]
  exact zag (by simp [zcd, T.run])
 | m + 1, b, out, hb, ho => by
  have c0 : (b : Int) < (n : Int) := by omega
  have w1 : w64 ((b : Int) + 1) = ((b + 1 : Nat) : Int) := by rw [zae (by omega) (by omega)]; omega
  have c1 : 2 * ((out.length + 1) * 17) ≤ 140737488355328 := by omega
  have hd := za37 (n : Int) ((a : Int), (b : Int)) (by omega) (by omega)
  rw [zt4 (by omega : b < n)]
  cases hg : inDg n ((a : Int), (b : Int)) with
  | true =>
   have ih := z6v n a t8 t9 hn m (b + 1) (out ++ [((a : Int), (b : Int))]) (by omega) (by simp; omega)
   simp only [z05] at ih ⊢
   rw [hg] at hd
   have st : (zcd (((n : Int), ((), ((a : Int), ((b : Int), (t8, t9))))), out)).run = some (.inl (((n : Int), ((), ((a : Int), (((b + 1 : Nat) : Int), (t8, t9))))), out ++ [((a : Int), (b : Int))])) := by
    simp only [zcd, T.run, c0, hd, decide_true, if_true, qa, zc9, zap, qk, qq, Nat.zero_add, c1, w1, qy, kj, qi, ql, true_and]
   rw [zah st, ih]
   simp
  | false =>
   have ih := z6v n a t8 t9 hn m (b + 1) out (by omega) (by omega)
   simp only [z05] at ih ⊢
   rw [hg] at hd
   have st : (zcd (((n : Int), ((), ((a : Int), ((b : Int), (t8, t9))))), out)).run = some (.inl (((n : Int), ((), ((a : Int), (((b + 1 : Nat) : Int), (t8, t9))))), out)) := by
    simp only [zcd, T.run, c0, hd, decide_true, if_true, qa, qj, if_false, w1, true_and]
   rw [zah st, ih]
   simp
theorem z9o (n : Nat) (hn : n ≤ 12) : ∀ (m a : Nat) (out : List Dg), a + m = n → out.length ≤ 1000 * a →
  z9n (((n : Int), ((), ((n : Int), (a : Int)))), out) = some ((), out ++ zt5 n a)
 | 0, a, out, ha, ho => by
  have : a = n := by omega
  subst this
  rw [z4a, kq]
  simp only [z9n]
  exact zag (by simp [ze4, T.run])
 | m + 1, a, out, ha, ho => by
  have c0 : (a : Int) < (n : Int) := by omega
  have w1 : w64 ((a : Int) + 1) = ((a + 1 : Nat) : Int) := by rw [zae (by omega) (by omega)]; omega
  have hr := z6v n a (n : Int) (a : Int) (by omega) (n - (a + 1)) (a + 1) out (by omega) (by omega)
  rw [← zju n a (a + 1) (by omega)] at hr
  have hl := zaci n a 0
  have ih := z9o n hn m (a + 1) (out ++ rowD n a 0) (by omega) (by rw [ql]; omega)
  rw [zwp (by omega : a < n), ← List.append_assoc]
  simp only [z9n] at ih ⊢
  rw [← ih]
  refine zah ?_
  simp only [ze4, T.run, c0, decide_true, if_true, true_and, w1, hr, qa]
theorem zbhk (n : Nat) (hn : n ≤ 12) : F71 (n : Int) = some ((), dgL n) := by
 have h := z9o n hn n 0 [] (by omega) (by simp)
 have e : zt5 n 0 = dgL n := by unfold zt5; rw [List.drop_zero, zaax]
 rw [e, qw, ka] at h
 simp only [F71, zbag, T.run, List.replicate_zero, h, qa]
 simp
def za21 : FSh := ⟨[.one (.sl (.pair (.int .i64) (.int .i64)) false false)], []⟩
def za20 : List FO := [⟨[.one (.rw 0 0)], [.row 0 (.pair (.int .i64) (.int .i64))]⟩]
def F25 (v : List (Int × Int)) : Option (Unit × List (Int × Int)) := if v.length ≤ maxLen ∧ v.length * 16 ≤ 140737488355328 then some ((), v) else none
def zajk : Shelf.Ren := ⟨fun _ => za06, fun t => if t = 4 then 4 else if t = 22 then 35 else 51, fun x => x⟩
theorem za7z : SlLaysE0.n41 Tryz.prog zajk :=
 { mixed := by kernel_rfl, f41 := ⟨"slices.Clone[[]loop.example/g01236/impl.Diagonal,loop.example/g01236/impl.Diagonal]", by kernel_rfl, by kernel_rfl⟩, t4 := by kernel_rfl, a4 := fun w => by kernel_rfl, z4 := fun w => by kernel_rfl, v4 := fun w => by kernel_rfl, t22 := by kernel_rfl, a22 := fun w => by kernel_rfl, z22 := fun w => by kernel_rfl, v22 := fun w => by kernel_rfl }
def zav2 : TypeInfo := (Tryz.prog.info? 51).get (by kernel_rfl)
theorem zbfn : FOK Tryz.prog za06 za21 za20 F25 :=
 zyh (e := (.pair (.int .i64) (.int .i64))) ⟨_, zayp, by kernel_rfl, by kernel_rfl⟩ (ρr := zajk) rfl za7z rfl zav2 (.agg #[.int .i64 0, .int .i64 0]) 16 (by kernel_rfl) (by kernel_rfl) (by kernel_rfl) (by kernel_rfl) (by decide) (by decide) (fun w => by kernel_rfl)
def zxg : FSh := ⟨[(.ag [(.si .i64), (.si .i64)]), (.ag [(.si .i64), (.si .i64)])], []⟩
def zxf : List FO := [⟨[(.one .sb)], []⟩]
def zag5 : ((Int × Int) × (Int × Int)) → T Bool := fun ((d_0, d_1), (e_0, e_1)) =>(.test (decide (d_0 < e_0)) (.test (decide (e_0 < d_1)) (.test (decide (d_1 < e_1)) (.ret true) (.test (decide (e_0 < d_0)) (.test (decide (d_0 < e_1)) (.ret (decide (e_1 < d_1))) (.ret false)) (.ret false))) (.test (decide (e_0 < d_0)) (.test (decide (d_0 < e_1)) (.ret (decide (e_1 < d_1))) (.ret false)) (.ret false))) (.test (decide (e_0 < d_0)) (.test (decide (d_0 < e_1)) (.ret (decide (e_1 < d_1))) (.ret false)) (.ret false)))
def F115 (v) := (zag5 v).run
def za2i : TEnv := E0
theorem zavh : (za2i).OK := E0ok
def zag6 : Nat → Option zal := fun id => none
theorem zag4 : FOK Tryz.prog zab0 zxg zxf F115 :=
 zao (E := za2i) (zavh) (told := zag6) (fl := []) (c := zac zap8) (s := zxg) (l := zxf) (tree := zag5) zaq1 (by kernel_rfl) (by kernel_rfl) (by kernel_rfl) (zab (ls := []) (by kernel_rfl) trivial) (fun v => by kernel_rfl)
theorem zag3 (d e : Dg) : F115 (d, e) = some (zbc d e) := by
 obtain ⟨a, b⟩ := d
 obtain ⟨c, f⟩ := e
 simp only [F115, zag5, T.run, zbc]
 by_cases h1 : a < c <;> by_cases h2 : c < b <;> by_cases h3 : b < f <;> by_cases h4 : c < a <;> by_cases h5 : a < f <;> by_cases h6 : f < b <;> simp [h1, h2, h3, h4, h5, h6]
def zajj : FSh := ⟨[(.ag [(.si .i64), (.si .i64)]), (.one (.pf 0 0 0)), (.one (.pf 2 0 0))], [(.rcd 0 [(.rw 1 0)]), (.row 0 (.pair (.int .i64) (.int .i64))), (.rcd 0 [(.si .i64)])]⟩
def zaji : List FO := [⟨[(.one .sb)], [(.rcd 0 [(.rw 1 0)]), (.row 0 (.pair (.int .i64) (.int .i64))), (.rcd 0 [(.si .i64)])]⟩]
def za7y : (((Int × Int) × Unit × Unit) × (Unit × List (Int × Int) × Int)) → T (Bool × (Unit × List (Int × Int) × Int)) := fun (((e_0, e_1), (), ()), ((), t1_r, t2_0)) =>(.test (decide ((0 ≤ t2_0) ∧ (t2_0 < (t1_r.length : Int)))) (.sub (t1_r[(0 + (Int.toNat t2_0))]?) fun z0 =>(.sub (F115 ((z0.1, z0.2), (e_0, e_1))) fun z1 =>(qz t1_r (.ret (z1, ((), (t1_r, t2_0))))))) .fail)
def F22 (v) := (za7y v).run
def zbfl : TEnv := (E0.add1 zab0 zxg zxf F115)
theorem za7x : (zbfl).OK := (E0ok.add1 zag4)
def zav1 : Nat → Option zal := fun id => none
theorem zbfm : FOK Tryz.prog zaey zajj zaji F22 :=
 zao (E := zbfl) (za7x) (told := zav1) (fl := []) (c := zac za4y) (s := zajj) (l := zaji) (tree := za7y) zaym (by kernel_rfl) (by kernel_rfl) (by kernel_rfl) (zab (ls := []) (by kernel_rfl) trivial) (fun v => by kernel_rfl)
def za78 : FSh := ⟨[(.one (.sl (.pair (.int .i64) (.int .i64)) false false)), (.clo zaey [(.one (.pf 0 0 0)), (.one (.pf 2 0 0))])], [(.rcd 0 [(.rw 1 0)]), (.row 0 (.pair (.int .i64) (.int .i64))), (.rcd 0 [(.si .i64)])]⟩
def zx0 : LSh := ⟨(fun ex => match ex with | .norm => (nz [0, 1, 7, 8]) | .exit i => if i = 0 then [] else [] | .ret => (nz [4])), [(0, (.one (.sl (.pair (.int .i64) (.int .i64)) false false))), (1, (.clo zaey [(.one (.pf 0 0 0)), (.one (.pf 2 0 0))])), (7, qo1), (8, qo1)], [(.rcd 0 [(.rw 1 0)]), (.row 0 (.pair (.int .i64) (.int .i64))), (.rcd 0 [(.si .i64)])], [⟨.ret, [(4, qo1)], [(.rcd 0 [(.rw 1 0)]), (.row 0 (.pair (.int .i64) (.int .i64))), (.rcd 0 [(.si .i64)])]⟩, ⟨(.exit 0), [], [(.rcd 0 [(.rw 1 0)]), (.row 0 (.pair (.int .i64) (.int .i64))), (.rcd 0 [(.si .i64)])]⟩], [], []⟩
def zey : ((List (Int × Int) × (Unit × Unit) × Int × Int) × (Unit × List (Int × Int) × Int)) → T (((List (Int × Int) × (Unit × Unit) × Int × Int) × (Unit × List (Int × Int) × Int)) ⊕ ((Int × (Unit × List (Int × Int) × Int)) ⊕ (Unit × (Unit × List (Int × Int) × Int)))) := fun ((s, ((), ()), t7, t8), ((), r0_r, r2_0)) =>(.test (decide (t8 < t7)) (.test (decide ((0 ≤ t8) ∧ (t8 < (s.length : Int)))) (.sub (s[(Int.toNat t8)]?) fun z0 =>(qz r0_r (.sub (F22 (((z0.1, z0.2), ((), ())), ((), (r0_r, r2_0)))) fun z1 =>(.test z1.1 (qz z1.2.2.1 (.ret (Sum.inr (Sum.inl (t8, ((), (z1.2.2.1, z1.2.2.2))))))) (qz z1.2.2.1 (.ret (Sum.inl ((s, (((), ()), (t7, (w64 (t8 + 1))))), ((), (z1.2.2.1, z1.2.2.2)))))))))) .fail) (qz r0_r (.ret (Sum.inr (Sum.inr ((), ((), (r0_r, r2_0))))))))
def zbft (v) := zav (fun v => (zey v).run) v
def za77 : List FO := [⟨[(.one (.si .i64))], [(.rcd 0 [(.rw 1 0)]), (.row 0 (.pair (.int .i64) (.int .i64))), (.rcd 0 [(.si .i64)])]⟩]
def F2_t : ((List (Int × Int) × (Unit × Unit)) × (Unit × List (Int × Int) × Int)) → T (Int × (Unit × List (Int × Int) × Int)) := fun ((s, ((), ())), ((), r0_r, r2_0)) =>(qz r0_r (.sub (zbft ((s, (((), ()), ((s.length : Int), (0 : Int)))), ((), (r0_r, r2_0)))) fun z0 =>(.test (Sum.isLeft z0) (.sub (Sum.getLeft? z0) fun z1 =>(qz z1.2.2.1 (.ret (z1.1, ((), (z1.2.2.1, z1.2.2.2)))))) (.sub (Sum.getRight? z0) fun z2 =>(qz z2.2.2.1 (.ret ((-1), ((), (z2.2.2.1, z2.2.2.2)))))))))
def F2 (v) := (F2_t v).run
def F2_E : TEnv := (E0.add1 zaey zajj zaji F22)
theorem za23 : (F2_E).OK := (E0ok.add1 zbfm)
def zajt : Nat → Option zal := fun id => if id = 2 then some (LSh.told zx0 3 (zey)) else none
theorem zav4 : zan Tryz.prog 3 (zad (zac zj6) [0]) (LSh.told zx0 3 (zey)) :=
 zak (E := F2_E) (za23) (told := zajt) (l := zx0) (step := zey) (zab (ls := []) (by kernel_rfl) trivial) (by kernel_rfl) (fun v => by kernel_rfl)
theorem zbj5 : FOK Tryz.prog z7o za78 za77 F2 :=
 zao (E := F2_E) (za23) (told := zajt) (fl := []) (c := zac zj6) (s := za78) (l := za77) (tree := F2_t) zza (by kernel_rfl) (by kernel_rfl) (by kernel_rfl) (zab (ls := [zad (zac zj6) [0]]) (by kernel_rfl) ⟨.inr ⟨_, by kernel_rfl, zav4⟩, trivial⟩) (fun v => by kernel_rfl)
def za7t : FSh := ⟨[(.one (.sl (.pair (.int .i64) (.int .i64)) false false)), (.clo zaey [(.one (.pf 0 0 0)), (.one (.pf 2 0 0))])], [(.rcd 0 [(.rw 1 0)]), (.row 0 (.pair (.int .i64) (.int .i64))), (.rcd 0 [(.si .i64)])]⟩
def za7s : List FO := [⟨[(.one .sb)], [(.rcd 0 [(.rw 1 0)]), (.row 0 (.pair (.int .i64) (.int .i64))), (.rcd 0 [(.si .i64)])]⟩]
def F1_t : ((List (Int × Int) × (Unit × Unit)) × (Unit × List (Int × Int) × Int)) → T (Bool × (Unit × List (Int × Int) × Int)) := fun ((s, ((), ())), ((), r0_r, r2_0)) =>(qz r0_r (.sub (F2 ((s, ((), ())), ((), (r0_r, r2_0)))) fun z0 =>(qz z0.2.2.1 (.ret ((decide (z0.1 ≥ 0)), ((), (z0.2.2.1, z0.2.2.2)))))))
def F1 (v) := (F1_t v).run
def F1_E : TEnv := (E0.add1 z7o za78 za77 F2)
theorem zbfh : (F1_E).OK := (E0ok.add1 zbj5)
def za7u : Nat → Option zal := fun id => none
theorem zbj4 : FOK Tryz.prog zata za7t za7s F1 :=
 zao (E := F1_E) (zbfh) (told := za7u) (fl := []) (c := zac zaqm) (s := za7t) (l := za7s) (tree := F1_t) zabn (by kernel_rfl) (by kernel_rfl) (by kernel_rfl) (zab (ls := []) (by kernel_rfl) trivial) (fun v => by kernel_rfl)
def zov : FSh := ⟨[(.one (.sl (.pair (.int .i64) (.int .i64)) false false)), (.one (.si .i64)), (.one (.pf 0 0 0)), (.one (.pf 1 0 0)), (.one (.pf 3 0 0)), (.one (.pf 5 0 0))], [(.rcd 0 [(.si .i64)]), (.rcd 0 [(.rw 2 0)]), (.row 0 (.list true (.pair (.int .i64) (.int .i64)))), (.rcd 0 [(.rw 4 0)]), (.row 0 (.pair (.int .i64) (.int .i64))), (.rcd 0 [(.clo zpt [(0, 0, 0), (1, 0, 0), (3, 0, 0), (5, 0, 0)])])]⟩
def zou : List FO := [⟨[], [(.rcd 0 [(.si .i64)]), (.rcd 0 [(.rw 2 1)]), (.row 1 (.list true (.pair (.int .i64) (.int .i64)))), (.rcd 0 [(.rw 4 0)]), (.row 0 (.pair (.int .i64) (.int .i64))), (.rcd 0 [(.clo zpt [(0, 0, 0), (1, 0, 0), (3, 0, 0), (5, 0, 0)])])]⟩]
def zq2 : LSh := ⟨(fun ex => match ex with | .norm => (nz [0, 4, 5, 8]) | .exit i => if i = 0 then [] else [] | .ret => []), [(0, (.one (.sl (.pair (.int .i64) (.int .i64)) false false))), (4, (.one (.pf 3 0 0))), (5, (.one (.pf 5 0 0))), (8, (.one (.pf 6 0 0)))], [(.rcd 0 [(.si .i64)]), (.rcd 0 [(.rw 2 1)]), (.row 1 (.list true (.pair (.int .i64) (.int .i64)))), (.rcd 0 [(.rw 4 0)]), (.row 0 (.pair (.int .i64) (.int .i64))), (.rcd 0 [(.clo zpt [(0, 0, 0), (1, 0, 0), (3, 0, 0), (5, 0, 0)])]), (.rcd 0 [(.si .i64)])], [⟨(.exit 0), [], [(.rcd 0 [(.si .i64)]), (.rcd 0 [(.rw 2 1)]), (.row 1 (.list true (.pair (.int .i64) (.int .i64)))), (.rcd 0 [(.rw 4 0)]), (.row 0 (.pair (.int .i64) (.int .i64))), (.rcd 0 [(.clo zpt [(0, 0, 0), (1, 0, 0), (3, 0, 0), (5, 0, 0)])])]⟩], [], [2]⟩
def zdo (recv : ((List (Int × Int) × Int × Unit × Unit × Unit × Unit) × (Int × Unit × List (List (Int × Int)) × Unit × List (Int × Int) × Unit)) → Option (Unit × (Int × Unit × List (List (Int × Int)) × Unit × List (Int × Int) × Unit))) : ((List (Int × Int) × Unit × Unit × Unit) × (Int × Unit × List (List (Int × Int)) × Unit × List (Int × Int) × Unit × Int)) → T (((List (Int × Int) × Unit × Unit × Unit) × (Int × Unit × List (List (Int × Int)) × Unit × List (Int × Int) × Unit × Int)) ⊕ (Unit × (Int × Unit × List (List (Int × Int)) × Unit × List (Int × Int) × Unit))) := fun ((begin, (), (), ()), (r0_0, (), r1_r, (), t4_r, (), i_0)) =>
 (.test (decide (i_0 < (t4_r.length : Int)))
 (.test (decide ((0 = 0) ∧ (t4_r.length = t4_r.length)))
 (.sub (F1 ((begin, ((), ())), ((), (t4_r, i_0)))) fun z0 =>
 (.test (! z0.1)
 (.test (decide (0 ≤ (begin.length : Int)))
 (.test (decide (0 ≤ (begin.length : Int)))
 (.test (decide ((0 ≤ (Int.toNat (begin.length : Int))) ∧ (((Int.toNat (begin.length : Int)) = (Int.toNat (begin.length : Int))) ∧ ((Int.toNat (begin.length : Int)) ≤ begin.length))))
 (.test (decide ((0 ≤ z0.2.2.2) ∧ (z0.2.2.2 < (z0.2.2.1.length : Int))))
 (.sub (z0.2.2.1[(0 + (Int.toNat z0.2.2.2))]?) fun z1 =>
 (.test (decide (1 ≤ (List.length (List.set (List.replicate 1 ((0 : Int), (0 : Int))) 0 (z1.1, z1.2)))))
 (.test (decide (¬ (((List.length (win (List.set (List.replicate 1 ((0 : Int), (0 : Int))) 0 (z1.1, z1.2)) 0 1)) = 0) ∧ ((List.length (win begin 0 ((Int.toNat (begin.length : Int)) - 0))) ≠ 0))))
 (.test (decide ((2 * (((List.length (win begin 0 ((Int.toNat (begin.length : Int)) - 0))) + (List.length (win (List.set (List.replicate 1 ((0 : Int), (0 : Int))) 0 (z1.1, z1.2)) 0 1))) * (16 + 1))) ≤ 140737488355328))
 (.test (decide ((0 + ((List.length (win begin 0 ((Int.toNat (begin.length : Int)) - 0))) + (List.length (win (List.set (List.replicate 1 ((0 : Int), (0 : Int))) 0 (z1.1, z1.2)) 0 1)))) ≤ (List.length ((win begin 0 ((Int.toNat (begin.length : Int)) - 0)) ++ (win (List.set (List.replicate 1 ((0 : Int), (0 : Int))) 0 (z1.1, z1.2)) 0 1)))))
 (.test (decide ((0 = 0) ∧ (r1_r.length = r1_r.length)))
 (.test (decide ((0 = 0) ∧ (z0.2.2.1.length = z0.2.2.1.length)))
 (.sub (recv (((win ((win begin 0 ((Int.toNat (begin.length : Int)) - 0)) ++ (win (List.set (List.replicate 1 ((0 : Int), (0 : Int))) 0 (z1.1, z1.2)) 0 1)) 0 ((List.length (win begin 0 ((Int.toNat (begin.length : Int)) - 0))) + (List.length (win (List.set (List.replicate 1 ((0 : Int), (0 : Int))) 0 (z1.1, z1.2)) 0 1)))), ((w64 (z0.2.2.2 + 1)), ((), ((), ((), ()))))), (r0_0, ((), (r1_r, ((), (z0.2.2.1, ()))))))) fun z2 =>
 (.test (decide ((0 = 0) ∧ (z2.2.2.2.1.length = z2.2.2.2.1.length)))
 (.test (decide ((0 = 0) ∧ (z2.2.2.2.2.2.1.length = z2.2.2.2.2.2.1.length)))
 (.ret (Sum.inl ((begin, ((), ((), ()))), (z2.2.1, ((), (z2.2.2.2.1, ((), (z2.2.2.2.2.2.1, ((), (w64 (z0.2.2.2 + 1)))))))))))
 .fail)
 .fail))
 .fail)
 .fail)
 .fail)
 .fail)
 .fail)
 .fail))
 .fail)
 .fail)
 .fail)
 .fail)
 (.test (decide ((0 = 0) ∧ (r1_r.length = r1_r.length)))
 (.test (decide ((0 = 0) ∧ (z0.2.2.1.length = z0.2.2.1.length)))
 (.ret (Sum.inl ((begin, ((), ((), ()))), (r0_0, ((), (r1_r, ((), (z0.2.2.1, ((), (w64 (z0.2.2.2 + 1)))))))))))
 .fail)
 .fail)))
 .fail)
 (.test (decide ((0 = 0) ∧ (r1_r.length = r1_r.length)))
 (.test (decide ((0 = 0) ∧ (t4_r.length = t4_r.length)))
 (.ret (Sum.inr ((), (r0_0, ((), (r1_r, ((), (t4_r, ()))))))))
 .fail)
 .fail))
def z0w (recv : ((List (Int × Int) × Int × Unit × Unit × Unit × Unit) × (Int × Unit × List (List (Int × Int)) × Unit × List (Int × Int) × Unit)) → Option (Unit × (Int × Unit × List (List (Int × Int)) × Unit × List (Int × Int) × Unit))) (v : ((List (Int × Int) × Unit × Unit × Unit) × (Int × Unit × List (List (Int × Int)) × Unit × List (Int × Int) × Unit × Int))) : Option (Unit × (Int × Unit × List (List (Int × Int)) × Unit × List (Int × Int) × Unit)) := zav (fun v => (zdo recv v).run) v
def za72 (recv : ((List (Int × Int) × Int × Unit × Unit × Unit × Unit) × (Int × Unit × List (List (Int × Int)) × Unit × List (Int × Int) × Unit)) → Option (Unit × (Int × Unit × List (List (Int × Int)) × Unit × List (Int × Int) × Unit))) : ((List (Int × Int) × Int × Unit × Unit × Unit × Unit) × (Int × Unit × List (List (Int × Int)) × Unit × List (Int × Int) × Unit)) → T (Unit × (Int × Unit × List (List (Int × Int)) × Unit × List (Int × Int) × Unit)) := fun ((begin, from', (), (), (), ()), (t2_0, (), t3_r, (), t4_r, ())) =>
 (.test ((begin.length : Int) == (w64 (t2_0 - 3)))
 (.sub (F25 begin) fun z0 =>
 (.test (decide ((0 + z0.2.length) ≤ z0.2.length))
 (.test (decide (1 ≤ (List.length (List.set (List.replicate 1 ([] : List (Int × Int))) 0 (win z0.2 0 z0.2.length)))))
 (.test (decide ((0 + t3_r.length) ≤ t3_r.length))
 (.test (decide ((2 * ((t3_r.length + (List.length (win (List.set (List.replicate 1 ([] : List (Int × Int))) 0 (win z0.2 0 z0.2.length)) 0 1))) * (24 + 1))) ≤ 140737488355328))
 (.test (decide ((0 = 0) ∧ ((t3_r.length + (List.length (win (List.set (List.replicate 1 ([] : List (Int × Int))) 0 (win z0.2 0 z0.2.length)) 0 1))) = (List.length ((win t3_r 0 t3_r.length) ++ (win (List.set (List.replicate 1 ([] : List (Int × Int))) 0 (win z0.2 0 z0.2.length)) 0 1))))))
 (.test (decide ((0 = 0) ∧ (t4_r.length = t4_r.length)))
 (.ret ((), (t2_0, ((), (((win t3_r 0 t3_r.length) ++ (win (List.set (List.replicate 1 ([] : List (Int × Int))) 0 (win z0.2 0 z0.2.length)) 0 1)), ((), (t4_r, ())))))))
 .fail)
 .fail)
 .fail)
 .fail)
 .fail)
 .fail))
 (.test (decide ((0 = 0) ∧ (t3_r.length = t3_r.length)))
 (.test (decide ((0 = 0) ∧ (t4_r.length = t4_r.length)))
 (.sub (z0w recv ((begin, ((), ((), ()))), (t2_0, ((), (t3_r, ((), (t4_r, ((), from')))))))) fun z1 =>
 (.test (decide ((0 = 0) ∧ (z1.2.2.2.1.length = z1.2.2.2.1.length)))
 (.test (decide ((0 = 0) ∧ (z1.2.2.2.2.2.1.length = z1.2.2.2.2.2.1.length)))
 (.ret ((), (z1.2.1, ((), (z1.2.2.2.1, ((), (z1.2.2.2.2.2.1, ())))))))
 .fail)
 .fail))
 .fail)
 .fail))
def z6m (recv : ((List (Int × Int) × Int × Unit × Unit × Unit × Unit) × (Int × Unit × List (List (Int × Int)) × Unit × List (Int × Int) × Unit)) → Option (Unit × (Int × Unit × List (List (Int × Int)) × Unit × List (Int × Int) × Unit))) (v : ((List (Int × Int) × Int × Unit × Unit × Unit × Unit) × (Int × Unit × List (List (Int × Int)) × Unit × List (Int × Int) × Unit))) : Option (Unit × (Int × Unit × List (List (Int × Int)) × Unit × List (Int × Int) × Unit)) := (za72 recv v).run
def F26 : ((List (Int × Int) × Int × Unit × Unit × Unit × Unit) × (Int × Unit × List (List (Int × Int)) × Unit × List (Int × Int) × Unit)) → Option (Unit × (Int × Unit × List (List (Int × Int)) × Unit × List (Int × Int) × Unit)) := recF z6m
def za70 (recv : ((List (Int × Int) × Int × Unit × Unit × Unit × Unit) × (Int × Unit × List (List (Int × Int)) × Unit × List (Int × Int) × Unit)) → Option (Unit × (Int × Unit × List (List (Int × Int)) × Unit × List (Int × Int) × Unit))) : TEnv := (((E0.add1 za06 za21 za20 F25).add1 zata za7t za7s F1).add1 zpt zov zou recv)
theorem zajl (recv : ((List (Int × Int) × Int × Unit × Unit × Unit × Unit) × (Int × Unit × List (List (Int × Int)) × Unit × List (Int × Int) × Unit)) → Option (Unit × (Int × Unit × List (List (Int × Int)) × Unit × List (Int × Int) × Unit))) (hrec : FOK Tryz.prog zpt zov zou recv) : (za70 recv).OK := (((E0ok.add1 zbfn).add1 zbj4).add1 hrec)
def z8y (recv : ((List (Int × Int) × Int × Unit × Unit × Unit × Unit) × (Int × Unit × List (List (Int × Int)) × Unit × List (Int × Int) × Unit)) → Option (Unit × (Int × Unit × List (List (Int × Int)) × Unit × List (Int × Int) × Unit))) : Nat → Option zal := fun id => if id = 3 then some (LSh.told zq2 6 (zdo recv)) else none
theorem zajm (recv : ((List (Int × Int) × Int × Unit × Unit × Unit × Unit) × (Int × Unit × List (List (Int × Int)) × Unit × List (Int × Int) × Unit)) → Option (Unit × (Int × Unit × List (List (Int × Int)) × Unit × List (Int × Int) × Unit))) (hrec : FOK Tryz.prog zpt zov zou recv) : zan Tryz.prog 6 (zad (zac zaa5) [0]) (LSh.told zq2 6 (zdo recv)) :=
 zak (E := za70 recv) (zajl recv hrec) (told := z8y recv) (l := zq2) (step := zdo recv) (zab (ls := []) (by kernel_rfl) trivial) (by kernel_rfl) (fun v => by kernel_rfl)
theorem za71 (recv : ((List (Int × Int) × Int × Unit × Unit × Unit × Unit) × (Int × Unit × List (List (Int × Int)) × Unit × List (Int × Int) × Unit)) → Option (Unit × (Int × Unit × List (List (Int × Int)) × Unit × List (Int × Int) × Unit))) (hrec : FOK Tryz.prog zpt zov zou recv) : FOK Tryz.prog zpt zov zou (z6m recv) :=
 zao (E := za70 recv) (zajl recv hrec) (told := z8y recv) (fl := []) (c := zac zaa5) (s := zov) (l := zou) (tree := za72 recv) zayq (by kernel_rfl) (by kernel_rfl) (by kernel_rfl) (zab (ls := [zad (zac zaa5) [0]]) (by kernel_rfl) ⟨.inr ⟨_, by kernel_rfl, zajm recv hrec⟩, trivial⟩) (fun v => by kernel_rfl)
theorem zbfo : FOK Tryz.prog zpt zov zou F26 := FOK.rec (fun F h => za71 F h) zmb
theorem zyk (t : List Dg) (i : Nat) (b : List Dg) (hi : i < t.length) (hb : b.length < 1000000) :
  F1 ((b, ((), ())), ((), (t, (i : Int)))) = some (b.any (zbc (gD t i)), ((), (t, (i : Int)))) := by
 have hc : ∀ e : Dg, F22 ((e, ((), ())), ((), (t, (i : Int)))) = some (zbc (gD t i) e, ((), (t, (i : Int)))) := by
  intro e
  obtain ⟨e0, e1⟩ := e
  have c0 : (0 : Int) ≤ (i : Int) ∧ (i : Int) < (t.length : Int) := by omega
  simp only [F22, za7y, T.run, c0, and_self, decide_true, if_true, qe, Nat.zero_add, zdh hi, qa, zag3]
 have h := zfr (step := fun v => (zey v).run) (xs := b) (zbc (gD t i)) (fun k => ((b, (((), ()), ((b.length : Int), (k : Int)))), ((), (t, (i : Int))))) (fun k => .inl ((k : Int), ((), (t, (i : Int))))) (.inr ((), ((), (t, (i : Int)))))
  (fun k x hx => by
   have hlt := zai hx
   have h1 : (k : Int) < (b.length : Int) := by omega
   have h2 : (0 : Int) ≤ k ∧ (k : Int) < (b.length : Int) := by omega
   simp only [zey, T.run, qe, hx, qa, h1, h2, decide_true, if_true, and_self, true_and, hc]
   rw [zae (z := (k : Int) + 1) (by omega) (by omega)]
   cases hv : zbc (gD t i) x <;> simp)
  (by simp [zey, T.run])
 rw [show ((0 : Nat) : Int) = 0 from rfl] at h
 have hi' : F2 ((b, ((), ())), ((), (t, (i : Int)))) = some (idxI (zbc (gD t i)) b, ((), (t, (i : Int)))) := by
  simp only [F2, F2_t, T.run, zbft, true_and, decide_true, if_true]
  rw [h]
  simp only [idxI]
  cases hf : b.findIdx? (zbc (gD t i)) <;> simp [Sum.isLeft]
 simp only [F1, F1_t, T.run, true_and, decide_true, if_true, hi', qa, zzg]
theorem zk3 (n : Nat) (t b : List Dg) (recv : _ → Option _) (hn : 3 ≤ n ∧ n ≤ 9) (ht : t.length ≤ 27) (hb : b.length < 1000) :
  ∀ (m i : Nat) (out : List (List Dg)), i + m = t.length → out.length + 2 ^ m ≤ 1000000000 →
  (∀ (j : Nat) (out : List (List Dg)), i ≤ j → j < t.length → out.length + 2 ^ (t.length - (j + 1)) ≤ 1000000000 →
   recv ((b ++ [gD t j], (((j + 1 : Nat) : Int), ((), ((), ((), ()))))), ((n : Int), ((), (out, ((), (t, ()))))) ) = some ((), ((n : Int), ((), (out ++ zen (n - 3) (t.drop (j + 1)) (b ++ [gD t j]), ((), (t, ()))))))) →
  z0w recv ((b, ((), ((), ()))), ((n : Int), ((), (out, ((), (t, ((), (i : Int)))))))) = some ((), ((n : Int), ((), (out ++ goL (n - 3) (t.drop i) b, ((), (t, ()))))))
 | 0, i, out, hi, ho, hr => by
  have : i = t.length := by omega
  subst this
  rw [List.drop_length]
  simp only [z0w, goL, kq]
  exact zag (by simp [zdo, T.run])
 | m + 1, i, out, hi, ho, hr => by
  have hlt : i < t.length := by omega
  have c0 : (i : Int) < (t.length : Int) := by omega
  have w1 : w64 ((i : Int) + 1) = ((i + 1 : Nat) : Int) := by rw [zae (by omega) (by omega)]; omega
  have hp : 2 ^ (m + 1) = 2 ^ m + 2 ^ m := by rw [Nat.pow_succ]; omega
  have hp0 : 1 ≤ 2 ^ m := Nat.one_le_two_pow
  have hm : m = t.length - (i + 1) := by omega
  rw [zs3 hlt, zjj]
  have hcont := zyk t i b hlt (by omega)
  cases hf : b.any (zbc (gD t i)) with
  | true =>
   have ih := zk3 n t b recv hn ht hb m (i + 1) out (by omega) (by omega) (fun j o h1 h2 h3 => hr j o (by omega) h2 h3)
   have hfr : zk1 (gD t i) b = false := by unfold zk1; rw [hf]; rfl
   rw [hfr]
   simp only [qj, if_false, qw]
   simp only [z0w] at ih ⊢
   rw [← ih]
   rw [hf] at hcont
   refine zah ?_
   simp only [zdo, T.run, c0, decide_true, if_true, true_and, hcont, qa, Bool.not_true, qj, if_false, w1]
  | false =>
   have hfr : zk1 (gD t i) b = true := by unfold zk1; rw [hf]; rfl
   have hrec := hr i out (qi _) hlt (by rw [← hm]; omega)
   have hll : (zen (n - 3) (t.drop (i + 1)) (b ++ [gD t i])).length ≤ 2 ^ m := by
    unfold zen
    split
    ·simp only [qk, qq]; exact Nat.one_le_two_pow
    ·have := zte (n - 3) (t.drop (i + 1)) (b ++ [gD t i])
     rwa [kb, ← hm] at this
   have ih := zk3 n t b recv hn ht hb m (i + 1) (out ++ zen (n - 3) (t.drop (i + 1)) (b ++ [gD t i])) (by omega) (by rw [ql]; omega) (fun j o h1 h2 h3 => hr j o (by omega) h2 h3)
   rw [hfr]
   simp only [if_true]
   rw [← List.append_assoc]
   simp only [z0w] at ih ⊢
   rw [← ih]
   rw [hf] at hcont
   refine zah ?_
   have c1 : (0 : Int) ≤ (b.length : Int) := by omega
   have c2 : (0 : Int) ≤ (i : Int) ∧ (i : Int) < (t.length : Int) := by omega
   have c3 : 2 * ((b.length + 1) * (16 + 1)) ≤ 140737488355328 := by omega
   have hl1 : (b ++ [gD t i]).length = b.length + 1 := by simp
   have hw : win (b ++ [gD t i]) 0 (b.length + 1) = b ++ [gD t i] := by rw [← hl1]; exact zap _
   simp only [zdo, T.run, c0, c1, c2, decide_true, if_true, true_and, and_self, hcont, qa, Bool.not_false, qe, Nat.zero_le, qi, Nat.zero_add, zdh hlt, Nat.sub_zero, zap, zc9, qk, qq, c3, hl1, hw, w1, hrec]
   simp
theorem z2y (n : Nat) (t : List Dg) (hn : 3 ≤ n ∧ n ≤ 9) (ht : t.length ≤ 27) : ∀ (k i : Nat) (b : List Dg) (out : List (List Dg)), i ≤ t.length → t.length - i < k → b.length + (t.length - i) < 100 → out.length + 2 ^ (t.length - i) ≤ 1000000000 →
  recN z6m k ((b, ((i : Int), ((), ((), ((), ()))))), ((n : Int), ((), (out, ((), (t, ()))))) ) = some ((), ((n : Int), ((), (out ++ zen (n - 3) (t.drop i) b, ((), (t, ()))))))
 | 0, i, b, out, hi, hk, hb, ho => absurd hk (Nat.not_lt_zero _)
 | k + 1, i, b, out, hi, hk, hb, ho => by
  show z6m (recN z6m k) _ = _
  have hp : 1 ≤ 2 ^ (t.length - i) := Nat.one_le_two_pow
  have w0 : w64 ((n : Int) - 3) = ((n - 3 : Nat) : Int) := by rw [zae (by omega) (by omega)]; omega
  simp only [z6m, za72, T.run, w0]
  by_cases hl : b.length = n - 3
  ·have hc : F25 b = some ((), b) := by
    unfold F25
    rw [if_pos]
    exact ⟨by unfold maxLen; omega, by omega⟩
   have e : ((b.length : Int) == ((n - 3 : Nat) : Int)) = true := by simp; omega
   have c1 : 2 * ((out.length + 1) * (24 + 1)) ≤ 140737488355328 := by omega
   have hone : win (List.set (List.replicate 1 ([] : List Dg)) 0 b) 0 1 = [b] := rfl
   unfold zen
   rw [if_pos hl]
   simp only [e, if_true, hc, qa, Nat.zero_add, qi, decide_true, zap, hone, qk, qq, c1, qy, kj, ql, true_and]
  ·have e : ((b.length : Int) == ((n - 3 : Nat) : Int)) = false := by simp; omega
   unfold zen
   rw [if_neg hl]
   have h3 := zk3 n t b (recN z6m k) hn ht (by omega) (t.length - i) i out (by omega) ho (fun j o h1 h2 h3 => by
    exact z2y n t hn ht k (j + 1) (b ++ [gD t j]) o (by omega) (by omega) (by simp; omega) h3)
   simp only [e, qj, if_false, true_and, decide_true, if_true, h3, qa]
def zaj0 : FSh := ⟨[(.one (.si .i64))], []⟩
def zajz : List FO := [⟨[(.one (.rw 0 0))], [(.row 0 (.list true (.pair (.int .i64) (.int .i64))))]⟩]
def za8e : Int → T (Unit × List (List (Int × Int))) := fun n =>(.sub (F71 n) fun z0 =>(.test (decide ((0 = 0) ∧ (0 = (List.length (List.replicate 0 ([] : List (Int × Int))))))) (qz z0.2 (.sub (F26 ((([] : List (Int × Int)), ((0 : Int), ((), ((), ((), ()))))), (n, ((), ((List.replicate 0 ([] : List (Int × Int))), ((), (z0.2, ()))))))) fun z1 =>(qz z1.2.2.2.1 (.ret ((), z1.2.2.2.1))))) .fail))
def F35 (v) := (za8e v).run
def zbfw : TEnv := ((E0.add1 zbd3 zamd zamc F71).add1 zpt zov zou F26)
theorem za8d : (zbfw).OK := ((E0ok.add1 zbhl).add1 zbfo)
def zav6 : Nat → Option zal := fun id => none
theorem zbfy : FOK Tryz.prog zbdh zaj0 zajz F35 :=
 zao (E := zbfw) (za8d) (told := zav6) (fl := []) (c := zac za42) (s := zaj0) (l := zajz) (tree := za8e) zayz (by kernel_rfl) (by kernel_rfl) (by kernel_rfl) (zab (ls := []) (by kernel_rfl) trivial) (fun v => by kernel_rfl)
theorem zbfx (n : Nat) (hn : 3 ≤ n ∧ n ≤ 9) : F35 (n : Int) = some ((), allT n) := by
 have hd := z7e n hn.2
 have hp : 2 ^ ((dgL n).length - 0) ≤ 2 ^ 27 := Nat.pow_le_pow_right (by omega) (by omega)
 have h27 : (2 : Nat) ^ 27 = 134217728 := by decide
 have h := z2y n (dgL n) hn hd zmb 0 [] [] (by omega) (by unfold zmb; omega) (by simp; omega) (by simp only [qq]; omega)
 rw [List.drop_zero, qw, ka] at h
 simp only [F35, za8e, T.run, zbhk n (by omega), qa, List.replicate_zero, qq, true_and, decide_true, if_true]
 have h' : F26 ((([] : List (Int × Int)), ((0 : Int), ((), ((), ((), ()))))), ((n : Int), ((), (([] : List (List (Int × Int))), ((), (dgL n, ())))))) = some ((), ((n : Int), ((), (zen (n - 3) (dgL n) [], ((), (dgL n, ())))))) := h
 rw [h']
 rfl
def za3w : FSh := ⟨[.one (.si .u64), .one (.si .u64)], []⟩
def za3v : List FO := [⟨[.one (.si .u64), .one (.si .u64)], []⟩]
def F76 (v : Int × Int) : Option (Int × Int) := if 0 ≤ v.1 ∧ v.1 < 18446744073709551616 ∧ 0 ≤ v.2 ∧ v.2 < 18446744073709551616 then some (((v.1.toNat * v.2.toNat / 18446744073709551616 : Nat) : Int), ((v.1.toNat * v.2.toNat % 18446744073709551616 : Nat) : Int)) else none
def zamq : Shelf.Ren := ⟨fun k => if k = 212 then za1e else if k = 263 then 168 else 169, fun t => if t = 46 then 110 else if t = 51 then 145 else if t = 146 then 164 else if t = 148 then 166 else 75, fun x => x⟩
theorem zbao : Lays.n212 Tryz.prog zamq :=
 { mixed := by kernel_rfl, f212 := by kernel_rfl, f263 := by kernel_rfl, f264 := by kernel_rfl, t46 := by kernel_rfl, a46 := fun w => by kernel_rfl, z46 := fun w => by kernel_rfl, v46 := fun w => by kernel_rfl, t51 := by kernel_rfl, a51 := fun w => by kernel_rfl, z51 := fun w => by kernel_rfl, v51 := fun w => by kernel_rfl, t53 := by kernel_rfl, a53 := fun w => by kernel_rfl, z53 := fun w => by kernel_rfl, v53 := fun w => by kernel_rfl, t146 := by kernel_rfl, a146 := fun w => by kernel_rfl, z146 := fun w => by kernel_rfl, v146 := fun w => by kernel_rfl, t148 := by kernel_rfl, a148 := fun w => by kernel_rfl, z148 := fun w => by kernel_rfl, v148 := fun w => by kernel_rfl }
theorem zbhs : FOK Tryz.prog za1e za3w za3v F76 :=
 zaee ⟨_, zaz4, by kernel_rfl, by kernel_rfl⟩ (ρr := zamq) rfl zbao
def zaka : FSh := ⟨[(.one (.sl (.int .i64) false false)), (.one (.si .i64))], []⟩
def zq5 : LSh := ⟨(fun ex => match ex with | .norm => (nz [7, 8]) | .exit i => if i = 0 then (nz [7]) else [] | .ret => (nz [4])), [(7, qo4), (8, qo1)], [qr1], [⟨(.exit 0), [(7, qo4)], [qr1]⟩], [], []⟩
def zez : ((Unit × Int) × List Int) → T (((Unit × Int) × List Int) ⊕ (Unit × List Int)) := fun (((), n), newslice) =>(.test (decide (n < (newslice.length : Int))) (.test (decide (0 ≤ n)) (.test (decide (((Int.toNat n) ≤ newslice.length) ∧ (newslice.length ≤ newslice.length))) (.test (decide (0 ≤ n)) (.test (decide ((0 ≤ (Int.toNat n)) ∧ ((Int.toNat n) ≤ newslice.length))) (.test (decide ((0 + ((Int.toNat n) - 0)) ≤ newslice.length)) (.test (decide ((0 < (min (List.length (win newslice 0 ((Int.toNat n) - 0))) (newslice.length - (Int.toNat n)))) ∧ (((0 + (Int.toNat n)) + (newslice.length - (Int.toNat n))) ≤ newslice.length))) (.test (decide ((0 = 0) ∧ (newslice.length = (List.length (zbo newslice (0 + (Int.toNat n)) (List.take (min (List.length (win newslice 0 ((Int.toNat n) - 0))) (newslice.length - (Int.toNat n))) (win newslice 0 ((Int.toNat n) - 0)))))))) (.ret (Sum.inl (((), (w64 (n + (((min (List.length (win newslice 0 ((Int.toNat n) - 0))) (newslice.length - (Int.toNat n))) : Nat) : Int)))), (zbo newslice (0 + (Int.toNat n)) (List.take (min (List.length (win newslice 0 ((Int.toNat n) - 0))) (newslice.length - (Int.toNat n))) (win newslice 0 ((Int.toNat n) - 0))))))) .fail) .fail) .fail) .fail) .fail) .fail) .fail) (qz newslice (.ret (Sum.inr ((), newslice)))))
def z87 (v) := zav (fun v => (zez v).run) v
def zaj9 : List FO := [⟨[(.one (.rw 0 0))], [qr1]⟩]
def za8t : (List Int × Int) → T (Unit × List Int) := fun (x, count) =>(.test (decide (count < 0)) .fail (.sub (F76 ((wu64 (x.length : Int)), (wu64 count))) fun z0 =>(.test (decide (z0.1 > 0)) .fail (.test (decide (z0.2 > 9223372036854775807)) .fail (.test (decide ((0 ≤ (w64 z0.2)) ∧ (((w64 z0.2) ≤ (w64 z0.2)) ∧ (((Int.toNat (w64 z0.2)) * 9) ≤ 140737488355328)))) (.test (decide ((0 < (min x.length (Int.toNat (w64 z0.2)))) ∧ ((0 + (Int.toNat (w64 z0.2))) ≤ (List.length (List.replicate (Int.toNat (w64 z0.2)) (0 : Int)))))) (.test (decide ((0 = 0) ∧ ((Int.toNat (w64 z0.2)) = (List.length (zbo (List.replicate (Int.toNat (w64 z0.2)) (0 : Int)) 0 (List.take (min x.length (Int.toNat (w64 z0.2))) x)))))) (.sub (z87 (((), (((min x.length (Int.toNat (w64 z0.2))) : Nat) : Int)), (zbo (List.replicate (Int.toNat (w64 z0.2)) (0 : Int)) 0 (List.take (min x.length (Int.toNat (w64 z0.2))) x)))) fun z1 =>(qz z1.2 (.ret ((), z1.2)))) .fail) .fail) .fail)))))
def F42 (v) := (za8t v).run
def za8r : TEnv := (E0.add1 za1e za3w za3v F76)
theorem zaj7 : (za8r).OK := (E0ok.add1 zbhs)
def z88 : Nat → Option zal := fun id => if id = 8 then some (LSh.told zq5 0 (zez)) else none
theorem zaj8 : zan Tryz.prog 0 (zad (zac zabb) [0]) (LSh.told zq5 0 (zez)) :=
 zak (E := za8r) (zaj7) (told := z88) (l := zq5) (step := zez) (zab (ls := []) (by kernel_rfl) trivial) (by kernel_rfl) (fun v => by kernel_rfl)
theorem zbf7 : FOK Tryz.prog zbdk zaka zaj9 F42 :=
 zao (E := za8r) (zaj7) (told := z88) (fl := []) (c := zac zabb) (s := zaka) (l := zaj9) (tree := za8t) zay6 (by kernel_rfl) (by kernel_rfl) (by kernel_rfl) (zab (ls := [zad (zac zabb) [0]]) (by kernel_rfl) ⟨.inr ⟨_, by kernel_rfl, zaj8⟩, trivial⟩) (fun v => by kernel_rfl)
theorem za8s (n : Nat) (h1 : 1 ≤ n) (h2 : n ≤ 1000000) : F42 ([1], (n : Int)) = some ((), List.replicate n 1) := by
 have hm : F76 (wu64 (([1] : List Int).length : Int), wu64 (n : Int)) = some (0, (n : Int)) := by
  have e1 : wu64 (([1] : List Int).length : Int) = 1 := IntWalk.u64_in _ ⟨by simp, by simp⟩
  have e2 : wu64 (n : Int) = (n : Int) := IntWalk.u64_in _ ⟨by omega, by omega⟩
  rw [e1, e2]
  unfold F76
  simp only []
  rw [if_pos ⟨by omega, by omega, by omega, by omega⟩]
  have t1 : (1 : Int).toNat = 1 := rfl
  rw [t1, qe, Nat.one_mul, Nat.div_eq_of_lt (by omega), Nat.mod_eq_of_lt (by omega)]
  rfl
 have hl : ∀ m k, k + m = n → 1 ≤ k → z87 (((), (k : Int)), List.replicate k 1 ++ List.replicate (n - k) 0) = some ((), List.replicate n 1) := by
  intro m
  induction m using Nat.strongRecOn with
  | ind m ih =>
   intro k hk hk1
   have hlen : (List.replicate k (1 : Int) ++ List.replicate (n - k) 0).length = n := by simp; omega
   by_cases hm : m = 0
   ·have : k = n := by omega
    subst this
    rw [Nat.sub_self, List.replicate_zero, kq]
    simp only [z87]
    exact zag (by simp [zez, T.run])
   ·have ih := ih (m - min k (n - k)) (by omega) (k + min k (n - k)) (by omega) (by omega)
    simp only [z87] at ih ⊢
    rw [← ih]
    refine zah ?_
    have c0 : (k : Int) < (n : Int) := by omega
    have c1 : (0 : Int) ≤ (k : Int) := by omega
    have c2 : k ≤ n ∧ n ≤ n := by omega
    have c3 : 0 ≤ k ∧ k ≤ n := by omega
    have tw : win (List.replicate k (1 : Int) ++ List.replicate (n - k) 0) 0 (k - 0) = List.replicate k 1 := by
     rw [zfm, Nat.sub_zero, List.take_left' (by simp)]
    have c4 : 0 + (k - 0) ≤ n := by omega
    have c5 : 0 < min k (n - k) ∧ 0 + k + (n - k) ≤ n := by omega
    have w1 : w64 ((k : Int) + ((min k (n - k) : Nat) : Int)) = ((k + min k (n - k) : Nat) : Int) := by rw [zae (by omega) (by omega)]; omega
    have sp : zbo (List.replicate k (1 : Int) ++ List.replicate (n - k) 0) (0 + k) (List.take (min k (n - k)) (List.replicate k 1)) = List.replicate (k + min k (n - k)) 1 ++ List.replicate (n - (k + min k (n - k))) 0 := by
     unfold zbo
     rw [Nat.zero_add, List.take_left' (by simp), List.take_replicate, kj, List.drop_append, List.drop_replicate, List.drop_replicate, kj]
     rw [show k - (k + min (min k (n - k)) k) = 0 by omega, show min (min k (n - k)) k = min k (n - k) by omega, show n - k - (k + min k (n - k) - k) = n - (k + min k (n - k)) by omega, List.replicate_zero, qw, ← List.append_assoc, List.replicate_append_replicate]
    have lsp : n = (List.replicate (k + min k (n - k)) (1 : Int) ++ List.replicate (n - (k + min k (n - k))) 0).length := by simp; omega
    simp only [zez, T.run, hlen, c0, c1, c2, c3, c4, c5, decide_true, if_true, and_self, qe, tw, kj, sp, w1]
    rw [← lsp]
    simp
 simp only [F42, za8t, T.run, hm, qa]
 have w1 : w64 (n : Int) = (n : Int) := zae (by omega) (by omega)
 have c0 : ¬ ((n : Int) < 0) := by omega
 have c1 : ¬ ((n : Int) > 9223372036854775807) := by omega
 have c2 : 0 ≤ (n : Int) ∧ (n : Int) ≤ (n : Int) ∧ n * 9 ≤ 140737488355328 := by omega
 have m1 : min ([1] : List Int).length n = 1 := by simp; omega
 have sp : zbo (List.replicate n (0 : Int)) 0 (List.take 1 [1]) = List.replicate 1 1 ++ List.replicate (n - 1) 0 := by
  unfold zbo
  simp
 have lsp : n = (List.replicate 1 (1 : Int) ++ List.replicate (n - 1) 0).length := by simp; omega
 simp only [c0, c1, w1, decide_false, qj, if_false, qe, c2, and_self, decide_true, if_true, m1, sp, hl (n - 1) 1 (by omega) (qi 1), qa]
 simp only [kj, Nat.zero_add]
 rw [← lsp]
 simp
def zxe : FSh := ⟨[(.one (.si .i64)), (.one (.sl (.pair (.int .i64) (.int .i64)) false false))], []⟩
def zmw : LSh := ⟨(fun ex => match ex with | .norm => (nz [5, 11, 12, 13]) | .exit i => if i = 0 then (nz [5]) else [] | .ret => (nz [4])), [(5, qo4), (11, (.one (.sl (.pair (.int .i64) (.int .i64)) false false))), (12, qo1), (13, qo1)], [qr1], [⟨(.exit 0), [(5, qo4)], [qr1]⟩], [], []⟩
def zcp : ((Unit × List (Int × Int) × Int × Int) × List Int) → T (((Unit × List (Int × Int) × Int × Int) × List Int) ⊕ (Unit × List Int)) := fun (((), t11, t12, t13), out) =>(.test (decide (t13 < t12)) (.test (decide ((0 ≤ t13) ∧ (t13 < (t11.length : Int)))) (.sub (t11[(Int.toNat t13)]?) fun z0 =>(.test (decide ((0 ≤ z0.1) ∧ (z0.1 < (out.length : Int)))) (.sub (out[(0 + (Int.toNat z0.1))]?) fun z1 =>(.test (decide ((0 ≤ z0.1) ∧ (z0.1 < (out.length : Int)))) (.sub (out[(0 + (Int.toNat z0.1))]?) fun z2 =>(.test (decide ((0 ≤ z0.2) ∧ (z0.2 < (out.length : Int)))) (.sub ((List.set out (0 + (Int.toNat z0.1)) (w64 (z1 + 1)))[(0 + (Int.toNat z0.2))]?) fun z3 =>(.test (decide ((0 ≤ z0.2) ∧ (z0.2 < (out.length : Int)))) (.sub ((List.set out (0 + (Int.toNat z0.1)) (w64 (z1 + 1)))[(0 + (Int.toNat z0.2))]?) fun z4 =>(.test (decide ((0 = 0) ∧ (out.length = (List.length (List.set (List.set out (0 + (Int.toNat z0.1)) (w64 (z1 + 1))) (0 + (Int.toNat z0.2)) (w64 (z3 + 1))))))) (.ret (Sum.inl (((), (t11, (t12, (w64 (t13 + 1))))), (List.set (List.set out (0 + (Int.toNat z0.1)) (w64 (z1 + 1))) (0 + (Int.toNat z0.2)) (w64 (z3 + 1)))))) .fail)) .fail)) .fail)) .fail)) .fail)) .fail) (qz out (.ret (Sum.inr ((), out)))))
def zagq (v) := zav (fun v => (zcp v).run) v
def zxd : List FO := [⟨[(.one (.rw 0 0))], [qr1]⟩]
def zagt : (Int × List (Int × Int)) → T (Unit × List Int) := fun (n, ds) =>(.test true (.sub (F42 ((win (List.set (List.replicate 1 (0 : Int)) 0 (1 : Int)) 0 1), n)) fun z0 =>(qz z0.2 (.sub (zagq (((), (ds, ((ds.length : Int), (0 : Int)))), z0.2)) fun z1 =>(qz z1.2 (.ret ((), z1.2)))))) .fail)
def F110 (v) := (zagt v).run
def zagp : TEnv := (E0.add1 zbdk zaka zaj9 F42)
theorem z8e : (zagp).OK := (E0ok.add1 zbf7)
def z0h : Nat → Option zal := fun id => if id = 3 then some (LSh.told zmw 0 (zcp)) else none
theorem zadi : zan Tryz.prog 0 (zad (zac zyz) [0]) (LSh.told zmw 0 (zcp)) :=
 zak (E := zagp) (z8e) (told := z0h) (l := zmw) (step := zcp) (zab (ls := []) (by kernel_rfl) trivial) (by kernel_rfl) (fun v => by kernel_rfl)
theorem zags : FOK Tryz.prog zabz zxe zxd F110 :=
 zao (E := zagp) (z8e) (told := z0h) (fl := []) (c := zac zyz) (s := zxe) (l := zxd) (tree := zagt) zaqw (by kernel_rfl) (by kernel_rfl) (by kernel_rfl) (zab (ls := [zad (zac zyz) [0]]) (by kernel_rfl) ⟨.inr ⟨_, by kernel_rfl, zadi⟩, trivial⟩) (fun v => by kernel_rfl)
theorem zagr (n : Nat) (ds : List Dg) (hn : 1 ≤ n ∧ n ≤ 1000000) (hl : ds.length < 1000000) (h : ∀ d ∈ ds, 0 ≤ d.1 ∧ d.1 < d.2 ∧ d.2 < (n : Int)) : F110 ((n : Int), ds) = some ((), quid n ds) := by
 have hl' := zbm (step := fun v => (zcp v).run) (xs := ds) (fun k (s : List Int) => s.length = n ∧ ∀ p, p < n → 0 ≤ s.getD p 0 ∧ s.getD p 0 ≤ k + 1) (fun k s => (((), (ds, ((ds.length : Int), (k : Int)))), s)) znp (fun s => ((), s))
  (fun k s d hP hd => by
   obtain ⟨hs, hb⟩ := hP
   have hlt := zai hd
   obtain ⟨q1, q2, q3⟩ := h d (qp hd)
   refine ⟨?_, by rw [zil, hs], fun p hp => ?_⟩
   ·have c0 : (k : Int) < (ds.length : Int) := by omega
    have c1 : (0 : Int) ≤ (k : Int) ∧ (k : Int) < (ds.length : Int) := by omega
    have w1 : w64 ((k : Int) + 1) = ((k + 1 : Nat) : Int) := by rw [zae (by omega) (by omega)]; omega
    have c2 : 0 ≤ d.1 ∧ d.1 < (s.length : Int) := by omega
    have c3 : 0 ≤ d.2 ∧ d.2 < (s.length : Int) := by omega
    have b1 := hb d.1.toNat (by omega)
    have b2 := hb d.2.toNat (by omega)
    have g1 : s[d.1.toNat]? = some (s.getD d.1.toNat 0) := by rw [qg, qb (by omega)]; rfl
    have g2 : s[d.2.toNat]? = some (s.getD d.2.toNat 0) := by rw [qg, qb (by omega)]; rfl
    have w2 : w64 (s.getD d.1.toNat 0 + 1) = s.getD d.1.toNat 0 + 1 := zae (by omega) (by omega)
    have w3 : w64 (s.getD d.2.toNat 0 + 1) = s.getD d.2.toNat 0 + 1 := zae (by omega) (by omega)
    have g3 : (s.set d.1.toNat (s.getD d.1.toNat 0 + 1))[d.2.toNat]? = some (s.getD d.2.toNat 0) := by rw [kh (by omega)]; exact g2
    simp only [zcp, T.run, c0, c1, c2, c3, decide_true, if_true, and_self, qe, hd, qa, Nat.zero_add, g1, w2, g3, w3, w1]
    simp [znp]
   ·rw [zsn q1 q2 (by omega) (by omega)]
    have := hb p hp
    have : 0 ≤ cntD d p ∧ cntD d p ≤ 1 := by unfold cntD; split <;> split <;> omega
    omega)
  (fun s hs => by simp [zcp, T.run])
  (List.replicate n 1) ⟨by simp, fun p hp => by rw [qg, List.getElem?_replicate, if_pos hp]; simp⟩
 have hq : ds.foldl znp (List.replicate n 1) = quid n ds := by
  obtain ⟨f1, f2⟩ := zso n ds (List.replicate n 1) (by simp) h
  refine List.ext_getElem (by rw [f1]; simp [quid]) fun p hp _ => ?_
  have := f2 p (by omega)
  rw [qg, qb hp, qg, List.getElem?_replicate, if_pos (by omega)] at this
  simp only [Option.getD_some] at this
  rw [this]
  simp [quid]
 simp only [ka] at hl'
 have hw : win (List.set (List.replicate 1 (0 : Int)) 0 (1 : Int)) 0 1 = [1] := rfl
 simp only [F110, zagt, T.run, hw, za8s n hn.1 hn.2, qa, zagq]
 rw [hl'.1, hq]
 simp
def za2s : FSh := ⟨[.one (.rw 0 0), .one (.fn zbjr)], [.row 0 (.list true (.int .i64))]⟩
def za2r : List FO := [⟨[], [.row 0 (.list true (.int .i64))]⟩]
def F12 (v : (Unit × Unit) × List (List Int)) : Option (Unit × List (List Int)) := if v.2.length < 4611686018427387904 ∧ v.2.all (fun l => decide (l.length ≤ 9223372036854775807)) = true then some ((), zj9 v.2) else none
def zaie : Shelf.Ren := ⟨fun k => if k = 14 then 131 else if k = 15 then 105 else if k = 20 then 154 else if k = 21 then 155 else if k = 22 then 156 else if k = 23 then 157 else if k = 24 then 158 else if k = 25 then 159 else if k = 26 then 160 else if k = 27 then 161 else if k = 28 then 142 else if k = 29 then 143 else if k = 46 then 180 else if k = 47 then 164 else if k = 48 then 165 else if k = 49 then 181 else if k = 50 then 182 else if k = 57 then 190 else 99, fun t => if t = 0 then 0 else if t = 4 then 4 else if t = 5 then 5 else if t = 9 then 9 else if t = 22 then 28 else if t = 24 then 24 else if t = 25 then 107 else if t = 39 then 110 else if t = 45 then 138 else if t = 46 then 139 else if t = 50 then 31 else if t = 53 then 145 else if t = 55 then 75 else if t = 66 then 158 else if t = 70 then 162 else if t = 76 then 181 else if t = 77 then 182 else 3, fun x => x⟩
theorem za7e : SlLaysF.n6 Tryz.prog zaie :=
 { mixed := by kernel_rfl, f6 := ⟨"slices.SortFunc[[][]int,[]int]", by kernel_rfl, by kernel_rfl⟩, f14 := ⟨"slices.pdqsortCmpFunc[[]int]", by kernel_rfl, by kernel_rfl⟩, f15 := by kernel_rfl, f20 := ⟨"slices.insertionSortCmpFunc[[]int]", by kernel_rfl, by kernel_rfl⟩, f21 := ⟨"slices.heapSortCmpFunc[[]int]", by kernel_rfl, by kernel_rfl⟩, f22 := ⟨"slices.breakPatternsCmpFunc[[]int]", by kernel_rfl, by kernel_rfl⟩, f23 := ⟨"slices.choosePivotCmpFunc[[]int]", by kernel_rfl, by kernel_rfl⟩, f24 := ⟨"slices.reverseRangeCmpFunc[[]int]", by kernel_rfl, by kernel_rfl⟩, f25 := ⟨"slices.partialInsertionSortCmpFunc[[]int]", by kernel_rfl, by kernel_rfl⟩, f26 := ⟨"slices.partitionEqualCmpFunc[[]int]", by kernel_rfl, by kernel_rfl⟩, f27 := ⟨"slices.partitionCmpFunc[[]int]", by kernel_rfl, by kernel_rfl⟩, f28 := by kernel_rfl, f29 := by kernel_rfl, f46 := ⟨"slices.siftDownCmpFunc[[]int]", by kernel_rfl, by kernel_rfl⟩, f47 := by kernel_rfl, f48 := by kernel_rfl, f49 := ⟨"slices.medianAdjacentCmpFunc[[]int]", by kernel_rfl, by kernel_rfl⟩, f50 := ⟨"slices.medianCmpFunc[[]int]", by kernel_rfl, by kernel_rfl⟩, f57 := ⟨"slices.order2CmpFunc[[]int]", by kernel_rfl, by kernel_rfl⟩, t0 := by kernel_rfl, a0 := fun w => by kernel_rfl, z0 := fun w => by kernel_rfl, v0 := fun w => by kernel_rfl, t3 := by kernel_rfl, a3 := fun w => by kernel_rfl, z3 := fun w => by kernel_rfl, v3 := fun w => by kernel_rfl, t4 := by kernel_rfl, a4 := fun w => by kernel_rfl, z4 := fun w => by kernel_rfl, v4 := fun w => by kernel_rfl, t5 := by kernel_rfl, a5 := fun w => by kernel_rfl, z5 := fun w => by kernel_rfl, v5 := fun w => by kernel_rfl, t9 := by kernel_rfl, a9 := fun w => by kernel_rfl, z9 := fun w => by kernel_rfl, v9 := fun w => by kernel_rfl, t22 := by kernel_rfl, a22 := fun w => by kernel_rfl, z22 := fun w => by kernel_rfl, v22 := fun w => by kernel_rfl, a24 := fun w => by kernel_rfl, z24 := fun w => by kernel_rfl, t25 := by kernel_rfl, a25 := fun w => by kernel_rfl, z25 := fun w => by kernel_rfl, v25 := fun w => by kernel_rfl, t39 := by kernel_rfl, a39 := fun w => by kernel_rfl, z39 := fun w => by kernel_rfl, v39 := fun w => by kernel_rfl, t45 := by kernel_rfl, a45 := fun w => by kernel_rfl, z45 := fun w => by kernel_rfl, v45 := fun w => by kernel_rfl, t46 := by kernel_rfl, a46 := fun w => by kernel_rfl, z46 := fun w => by kernel_rfl, v46 := fun w => by kernel_rfl, t50 := by kernel_rfl, a50 := fun w => by kernel_rfl, z50 := fun w => by kernel_rfl, v50 := fun w => by kernel_rfl, t53 := by kernel_rfl, a53 := fun w => by kernel_rfl, z53 := fun w => by kernel_rfl, v53 := fun w => by kernel_rfl, t55 := by kernel_rfl, a55 := fun w => by kernel_rfl, z55 := fun w => by kernel_rfl, v55 := fun w => by kernel_rfl, t66 := by kernel_rfl, a66 := fun w => by kernel_rfl, z66 := fun w => by kernel_rfl, v66 := fun w => by kernel_rfl, t70 := by kernel_rfl, a70 := fun w => by kernel_rfl, z70 := fun w => by kernel_rfl, v70 := fun w => by kernel_rfl, t76 := by kernel_rfl, a76 := fun w => by kernel_rfl, z76 := fun w => by kernel_rfl, v76 := fun w => by kernel_rfl, t77 := by kernel_rfl, a77 := fun w => by kernel_rfl, z77 := fun w => by kernel_rfl, v77 := fun w => by kernel_rfl }
def zbe8 : Shelf.Ren := ⟨fun k => if k = 122 then 107 else 144, fun t => if t = 4 then 4 else 3, fun x => x⟩
theorem zbe7 : Lays.n122 Tryz.prog zbe8 := { mixed := by kernel_rfl, f122 := by kernel_rfl, f215 := by kernel_rfl, t3 := by kernel_rfl, a3 := fun w => by kernel_rfl, z3 := fun w => by kernel_rfl, v3 := fun w => by kernel_rfl, t4 := by kernel_rfl, a4 := fun w => by kernel_rfl, z4 := fun w => by kernel_rfl, v4 := fun w => by kernel_rfl }
theorem zaid (x y : Int) (w : World) : Calls Tryz.prog 107 #[.int .i64 x, .int .i64 y] w fun e w' => e = .returned (.int .i64 (Lib.compareInt x y)) ∧ w' = w := Any.cmp_Compare_int zbe7 x y w
theorem z8o {xs ys : List Int} : ∀ {k : Nat}, (∀ j, j < k → xs.getD j 0 = ys.getD j 0) → k ≤ xs.length → k ≤ ys.length → cmpL xs ys = cmpL (xs.drop k) (ys.drop k)
 | 0, _, _, _ => rfl
 | k + 1, h, h1, h2 => by
  match xs, ys, h, h1, h2 with
  | x :: xs, y :: ys, h, h1, h2 =>
   have h0 := h 0 (by omega)
   simp only [List.getD_cons_zero] at h0
   subst h0
   have ih := z8o (xs := xs) (ys := ys) (k := k) (fun j hj => by simpa using h (j + 1) (by omega)) (by simpa using h1) (by simpa using h2)
   simpa [cmpL] using ih
set_option maxHeartbeats 2000000 in
set_option maxRecDepth 100000 in
theorem zbe9 (a1 a2 : Option Addr) (c1 c2 b1 o1 b2 o2 n m : Nat) (xs ys : List Int) (w : World) (hn : n = xs.length) (hm : m = ys.length) (hx : n ≤ 9223372036854775807) (hy : m ≤ 9223372036854775807) (h1 : 0 < n → a1 = some ⟨b1, o1, none⟩) (h2 : 0 < m → a2 = some ⟨b2, o2, none⟩)
  (hc1 : ∀ j, j < n → w.cell? ⟨b1, o1 + j, none⟩ = some (.int .i64 (xs.getD j 0))) (hc2 : ∀ j, j < m → w.cell? ⟨b2, o2 + j, none⟩ = some (.int .i64 (ys.getD j 0))) :
  Calls Tryz.prog 100 #[.slice a1 n c1, .slice a2 m c2] w fun e w' => e = .returned (.int .i64 (cmpL xs ys)) ∧ ∃ q, w' = w.drewN q := by
 have mixed : Tryz.prog.follows .mixedOrders = true := by kernel_rfl
 have t0 : Tryz.prog.underlying 0 = some (TypeDesc.tuple #[]) := by kernel_rfl
 have a0 : ∀ w, (isAgg 0).run Tryz.prog w = .ok false w := fun w => by kernel_rfl
 have z0 : ∀ w, (Go.sizeOf 0).run Tryz.prog w = .ok 1 w := fun w => by kernel_rfl
 have v0 : ∀ w, (zeroValue 0).run Tryz.prog w = .ok (Value.tuple #[]) w := fun w => by kernel_rfl
 have t3 : Tryz.prog.underlying 3 = some (TypeDesc.int IntKind.i64) := by kernel_rfl
 have a3 : ∀ w, (isAgg 3).run Tryz.prog w = .ok false w := fun w => by kernel_rfl
 have z3 : ∀ w, (Go.sizeOf 3).run Tryz.prog w = .ok 1 w := fun w => by kernel_rfl
 have v3 : ∀ w, (zeroValue 3).run Tryz.prog w = .ok (Value.int IntKind.i64 0) w := fun w => by kernel_rfl
 have t4 : Tryz.prog.underlying 4 = some (TypeDesc.bool) := by kernel_rfl
 have a4 : ∀ w, (isAgg 4).run Tryz.prog w = .ok false w := fun w => by kernel_rfl
 have z4 : ∀ w, (Go.sizeOf 4).run Tryz.prog w = .ok 1 w := fun w => by kernel_rfl
 have v4 : ∀ w, (zeroValue 4).run Tryz.prog w = .ok (Value.bool false) w := fun w => by kernel_rfl
 have t22 : Tryz.prog.underlying 24 = some (TypeDesc.slice 3) := by kernel_rfl
 have a22 : ∀ w, (isAgg 24).run Tryz.prog w = .ok false w := fun w => by kernel_rfl
 have z22 : ∀ w, (Go.sizeOf 24).run Tryz.prog w = .ok 1 w := fun w => by kernel_rfl
 have v22 : ∀ w, (zeroValue 24).run Tryz.prog w = .ok (Value.slice none 0 0) w := fun w => by kernel_rfl
 have e104 : ∀ args w, (callFunc 107 args).run Tryz.prog w = .ok (.enter 107 args) w := enters_of Tryz.func107 (by kernel_rfl) rfl
 have K1 : Aside (∀ j, j < n → w.cell? ⟨b1, o1 + j, none⟩ = some (.int .i64 (xs.getD j 0))) := hc1
 have K2 : Aside (∀ j, j < m → w.cell? ⟨b2, o2 + j, none⟩ = some (.int .i64 (ys.getD j 0))) := hc2
 have KN : Aside (n = xs.length ∧ m = ys.length) := ⟨hn, hm⟩
 clear hc1 hc2 hn hm
 go_enter Tryz.func100, Tryz.ntmps100
 go_wp2
 go_loopg [11] n (fun g s11 wr => ∃ k q : Nat, k ≤ n ∧ k ≤ m ∧ n - k ≤ g ∧ s11 = .int .i64 k ∧ wr = w.drewN q ∧ Aside (∀ j, j < k → xs.getD j 0 = ys.getD j 0))
 case atStart => exact ⟨0, 0, Nat.zero_le _, Nat.zero_le _, by omega, rfl, rfl, fun j hj => absurd hj (Nat.not_lt_zero _)⟩
 case round =>
  obtain ⟨k, q, hk, hkm, hg, rfl, rfl, heq⟩ := hrel
  by_cases hlt : k < n
  ·obtain rfl := h1 (by omega)
   have g1 : w.cell? ⟨b1, o1 + k, none⟩ = some (.int .i64 (xs.getD k 0)) := K1.out k (by omega)
   generalize hxk : xs.getD k 0 = x at g1
   have B : Aside (xs.getD k 0 = x) := hxk
   clear hxk
   by_cases hlm : k < m
   ·obtain rfl := h2 (by omega)
    have g2 : w.cell? ⟨b2, o2 + k, none⟩ = some (.int .i64 (ys.getD k 0)) := K2.out k (by omega)
    generalize hyk : ys.getD k 0 = y at g2
    have B2 : Aside (ys.getD k 0 = y) := hyk
    clear hyk
    have hd : cmpL xs ys = if x < y then -1 else if y < x then 1 else cmpL (xs.drop (k + 1)) (ys.drop (k + 1)) := by
     obtain ⟨e1, e2⟩ := KN.out
     rw [z8o heq.out (by omega) (by omega), qm (i := k) (l := xs) (by omega), qm (i := k) (l := ys) (by omega)]
     rw [← B.out, ← B2.out, qg, qg, qb (l := xs) (by omega), qb (l := ys) (by omega)]
     rfl
    have D : Aside (cmpL xs ys = if x < y then -1 else if y < x then 1 else cmpL (xs.drop (k + 1)) (ys.drop (k + 1))) := hd
    clear hd
    rcases Int.lt_trichotomy x y with hxy | hxy | hxy
    ·have hc : Lib.compareInt x y = -1 := by unfold Lib.compareInt; rw [if_pos hxy]
     have DD : Aside (cmpL xs ys = -1) := by have := D.out; rwa [if_pos hxy] at this
     go_wp2_with fail
     refine (zaid x y _).mono ?_
     rintro e w' ⟨rfl, rfl⟩
     rw [hc]
     go_wp2
     go_ret
     exact ⟨by rw [DD.out]; rfl, q, rfl⟩
    ·subst hxy
     have hc : Lib.compareInt x x = 0 := by unfold Lib.compareInt; rw [if_neg (Int.lt_irrefl x), if_neg (Int.lt_irrefl x)]
     go_wp2_with fail
     refine (zaid x x _).mono ?_
     rintro e w' ⟨rfl, rfl⟩
     rw [hc]
     go_wp2
     go_roundg (n - (k + 1))
     case measure => omega
     case rel =>
      refine ⟨k + 1, q, by omega, by omega, by omega, by go_num, rfl, fun j hj => ?_⟩
      by_cases e : j = k
      ·subst e
       rw [B.out, B2.out]
      ·exact heq.out j (by omega)
    ·have hc : Lib.compareInt x y = 1 := by unfold Lib.compareInt; rw [if_neg (by omega), if_pos hxy]
     have DD : Aside (cmpL xs ys = 1) := by have := D.out; rwa [if_neg (by omega), if_pos hxy] at this
     go_wp2_with fail
     refine (zaid x y _).mono ?_
     rintro e w' ⟨rfl, rfl⟩
     rw [hc]
     go_wp2
     go_ret
     exact ⟨by rw [DD.out]; rfl, q, rfl⟩
   ·have D0 : cmpL xs ys = 1 := by
     obtain ⟨e1, e2⟩ := KN.out
     have hkm' : k = m := by omega
     rw [z8o heq.out (by omega) (by omega), qm (i := k) (l := xs) (by omega), ke (l := ys) (by omega)]
     rfl
    have DD : Aside (cmpL xs ys = 1) := D0
    clear D0
    go_wp2_with fail
    go_ret
    exact ⟨by rw [DD.out]; rfl, q, rfl⟩
  ·have : k = n := by omega
   subst this
   obtain ⟨e1, e2⟩ := KN.out
   have hd : cmpL xs ys = cmpL [] (ys.drop k) := by
    rw [z8o heq.out (by omega) (by omega), ke (l := xs) (by omega)]
   by_cases hkm2 : k < m
   ·have DD : Aside (cmpL xs ys = -1) := by
     show _ = _
     rw [hd, qm (i := k) (l := ys) (by omega)]
     rfl
    clear hd e1 e2
    go_wp2
    go_ret
    exact ⟨by rw [DD.out]; rfl, q, rfl⟩
   ·have DD : Aside (cmpL xs ys = 0) := by
     show _ = _
     rw [hd, ke (l := ys) (by omega)]
     rfl
    clear hd e1 e2
    go_wp2
    go_ret
    exact ⟨by rw [DD.out]; rfl, q, rfl⟩
theorem za7d : zbe3 Tryz.prog 100 := by
 intro a1 c1 a2 c2 xs ys W hx hy h1 h2
 have split : ∀ (a : Option Addr) (xs : List Int), LInt W a xs → ∃ b o, (0 < xs.length → a = some ⟨b, o, none⟩) ∧ ∀ j, j < xs.length → W.cell? ⟨b, o + j, none⟩ = some (.int .i64 (xs.getD j 0)) := fun a xs h => by
  rcases h with rfl | ⟨b, o, ha, hc⟩
  ·exact ⟨0, 0, fun h => absurd h (Nat.lt_irrefl 0), fun j hj => absurd hj (Nat.not_lt_zero j)⟩
  ·exact ⟨b, o, fun _ => ha, fun j hj => hc j _ (by rw [qg, qb hj]; rfl)⟩
 obtain ⟨b1, o1, p1, q1⟩ := split a1 xs h1
 obtain ⟨b2, o2, p2, q2⟩ := split a2 ys h2
 exact zbe9 a1 a2 c1 c2 b1 o1 b2 o2 xs.length ys.length xs ys W rfl rfl hx hy p1 p2 q1 q2
theorem zbfb : FOK Tryz.prog za07 za2s za2r F12 :=
 z4r ⟨_, zayx, by kernel_rfl, by kernel_rfl⟩ (ρr := zaie) rfl za7e (enters_of zay5 (by kernel_rfl) rfl) za7d
theorem zasn : ∀ a b : List Int, lsL a b = ltL a b
 | [], [] => rfl
 | [], y :: b => rfl
 | x :: a, [] => rfl
 | x :: a, y :: b => by
  have ih := zasn a b
  unfold lsL at ih ⊢
  unfold cmpL ltL
  split
  ·rfl
  ·split
   ·rfl
   ·exact ih
theorem zbfa (x : List (List Int)) (h : x.length < 4611686018427387904) (hb : ∀ l ∈ x, l.length ≤ 9223372036854775807) : F12 (((), ()), x) = some ((), z4p x) := by
 unfold F12
 rw [if_pos ⟨h, qt.2 fun l hl => qd (hb l hl)⟩]
 have e : z4p x = zj9 x := by
  refine zmj ((zz6 x).imp fun {a b} hab => ?_) (zfh x)
  rw [zasn]
  unfold leL at hab
  simpa using hab
 rw [e]
def zali : FSh := ⟨[(.one (.si .i64))], []⟩
def zra : LSh := ⟨(fun ex => match ex with | .norm => (nz [0, 3, 8, 9, 10]) | .exit i => if i = 0 then (nz [3]) else [] | .ret => (nz [2])), [(0, qo1), (3, qo4), (8, qo9), (9, qo1), (10, qo1)], [qr2, (.row 0 (.list true (.pair (.int .i64) (.int .i64))))], [⟨(.exit 0), [(3, qo4)], [qr2]⟩], [], []⟩
def ze1 : ((Int × Unit × Unit × Int × Int) × (List (List Int) × List (List (Int × Int)))) → T (((Int × Unit × Unit × Int × Int) × (List (List Int) × List (List (Int × Int)))) ⊕ (Unit × List (List Int))) := fun ((n, (), (), t9, t10), (out, t8)) =>(.test (decide (t10 < t9)) (.test (decide ((0 ≤ t10) ∧ (t10 < (t8.length : Int)))) (.sub (t8[(0 + (Int.toNat t10))]?) fun z0 =>(.sub (F110 (n, z0)) fun z1 =>(.test (decide ((0 + z1.2.length) ≤ z1.2.length)) (.test (decide (1 ≤ (List.length (List.set (List.replicate 1 ([] : List Int)) 0 (win z1.2 0 z1.2.length))))) (.test (decide ((0 + out.length) ≤ out.length)) (.test (decide ((2 * ((out.length + (List.length (win (List.set (List.replicate 1 ([] : List Int)) 0 (win z1.2 0 z1.2.length)) 0 1))) * 25)) ≤ 140737488355328)) (.test (decide ((0 = 0) ∧ ((out.length + (List.length (win (List.set (List.replicate 1 ([] : List Int)) 0 (win z1.2 0 z1.2.length)) 0 1))) = (List.length ((win out 0 out.length) ++ (win (List.set (List.replicate 1 ([] : List Int)) 0 (win z1.2 0 z1.2.length)) 0 1)))))) (qz t8 (.ret (Sum.inl ((n, ((), ((), (t9, (w64 (t10 + 1)))))), (((win out 0 out.length) ++ (win (List.set (List.replicate 1 ([] : List Int)) 0 (win z1.2 0 z1.2.length)) 0 1)), t8))))) .fail) .fail) .fail) .fail) .fail))) .fail) (qz out (.ret (Sum.inr ((), out)))))
def zvh (v) := zav (fun v => (ze1 v).run) v
def zalg : List FO := [⟨[(.one (.rw 0 0))], [qr2]⟩]
def za9v : Int → T (Unit × List (List Int)) := fun n =>(.sub (F35 n) fun z0 =>(.test (decide ((0 = 0) ∧ (0 = (List.length (List.replicate 0 ([] : List Int)))))) (qz z0.2 (.sub (zvh ((n, ((), ((), ((z0.2.length : Int), (0 : Int))))), ((List.replicate 0 ([] : List Int)), z0.2))) fun z1 =>(qz z1.2 (.sub (F12 (((), ()), z1.2)) fun z2 =>(.test (decide ((0 = 0) ∧ (z1.2.length = z2.2.length))) (.ret ((), z2.2)) .fail))))) .fail))
def F60 (v) := (za9v v).run
def za9u : TEnv := (((E0.add1 zbdh zaj0 zajz F35).add1 zabz zxe zxd F110).add1 za07 za2s za2r F12)
theorem zale : (za9u).OK := (((E0ok.add1 zbfy).add1 zags).add1 zbfb)
def z9i : Nat → Option zal := fun id => if id = 3 then some (LSh.told zra 0 (ze1)) else none
theorem zalf : zan Tryz.prog 0 (zad (zac zabf) [0]) (LSh.told zra 0 (ze1)) :=
 zak (E := za9u) (zale) (told := z9i) (l := zra) (step := ze1) (zab (ls := []) (by kernel_rfl) trivial) (by kernel_rfl) (fun v => by kernel_rfl)
theorem zbg2 : FOK Tryz.prog zbdx zali zalg F60 :=
 zao (E := za9u) (zale) (told := z9i) (fl := []) (c := zac zabf) (s := zali) (l := zalg) (tree := za9v) zazo (by kernel_rfl) (by kernel_rfl) (by kernel_rfl) (zab (ls := [zad (zac zabf) [0]]) (by kernel_rfl) ⟨.inr ⟨_, by kernel_rfl, zalf⟩, trivial⟩) (fun v => by kernel_rfl)
theorem zalh (n : Nat) (hn : 3 ≤ n ∧ n ≤ 9) (t : List (List Dg)) (hlen : t.length ≤ 134217728) (ht : ∀ ds ∈ t, ds.length = n - 3 ∧ ∀ d ∈ ds, 0 ≤ d.1 ∧ d.1 < d.2 ∧ d.2 < (n : Int)) :
  zvh (((n : Int), ((), ((), ((t.length : Int), (0 : Int))))), ([], t)) = some ((), t.map (quid n)) := by
 have key : ∀ m k (s : List (List Int)), k + m = t.length → s.length = k → zvh (((n : Int), ((), ((), ((t.length : Int), (k : Int))))), (s, t)) = some ((), s ++ (t.drop k).map (quid n)) := by
  intro m
  induction m with
  | zero =>
   intro k s hk hs
   have : k = t.length := by omega
   subst this
   rw [List.drop_length, List.map_nil, kq]
   simp only [zvh]
   exact zag (by simp [ze1, T.run])
  | succ m ih =>
   intro k s hk hs
   have hlt : k < t.length := by omega
   have hds := qb hlt
   obtain ⟨q1, q2⟩ := ht t[k] (List.getElem_mem hlt)
   have hq := zagr n t[k] ⟨by omega, by omega⟩ (by omega) q2
   have ih := ih (k + 1) (s ++ [quid n t[k]]) (by omega) (by simp [hs])
   rw [qm hlt, qu]
   have e : s ++ quid n t[k] :: (t.drop (k + 1)).map (quid n) = s ++ [quid n t[k]] ++ (t.drop (k + 1)).map (quid n) := by simp
   rw [e]
   simp only [zvh] at ih ⊢
   rw [← ih]
   refine zah ?_
   have c0 : (k : Int) < (t.length : Int) := by omega
   have c1 : (0 : Int) ≤ (k : Int) ∧ (k : Int) < (t.length : Int) := by omega
   have w1 : w64 ((k : Int) + 1) = ((k + 1 : Nat) : Int) := by rw [zae (by omega) (by omega)]; omega
   have c2 : 2 * ((s.length + 1) * 25) ≤ 140737488355328 := by omega
   generalize quid n t[k] = q at hq
   generalize t[k] = ds at hds hq
   clear ih e ht q1 q2 hlen
   have hone : win (List.set (List.replicate 1 ([] : List Int)) 0 q) 0 1 = [q] := rfl
   have hidx : t[0 + (k : Int).toNat]? = some ds := by rw [qe, Nat.zero_add]; exact hds
   simp only [ze1, T.run_test, T.run_sub, T.run_ret, T.run_fail]
   rw [if_pos (qd c0), if_pos (qd c1), hidx, qa, hq, qa]
   simp only [Nat.zero_add, qi, zap, hone, qk, qq, qy, kj, c2, w1, ql, decide_true, if_true, and_self]
 have h := key t.length 0 [] (by omega) rfl
 rw [List.drop_zero, qw, ka] at h
 exact h
theorem zawu (n : Nat) (hn : 3 ≤ n ∧ n ≤ 9) : zvh (((n : Int), ((), ((), (((allT n).length : Int), (0 : Int))))), ([], allT n)) = some ((), (allT n).map (quid n)) :=
 zalh n hn (allT n) (zp1 n hn.2) fun _ h => zao2 hn h
theorem zbg1 (n : Nat) (hn : 3 ≤ n ∧ n ≤ 9) : F60 (n : Int) = some ((), allQ n) := by
 have hlen := zp1 n hn.2
 have hs := zbfa ((allT n).map (quid n)) (by rw [km]; omega) (fun l hl => by
  obtain ⟨d, _, rfl⟩ := List.mem_map.1 hl
  rw [zgr]; omega)
 have hl : ((allT n).map (quid n)).length = (z4p ((allT n).map (quid n))).length := (zfh _).length_eq.symm
 rw [F60, za9v, T.run_sub, zbfx n hn, qa, T.run_test, if_pos (by rfl), T.run_test, if_pos (by simp), T.run_sub]
 rw [List.replicate_zero, zawu n hn, qa, T.run_test, if_pos (by simp), T.run_sub, hs, qa, T.run_test, if_pos (by simp [hl]), T.run_ret]
 rfl
def zajo : FSh := ⟨[(.one (.si .i64)), (.one (.si .i64))], []⟩
def zajn : List FO := [⟨[(.one .sb)], []⟩]
def za74 : (Int × Int) → T Bool := fun (given, k) =>(.test (given == 0) (.ret true) (.ret (given == k)))
def F27 (v) := (za74 v).run
def zbfp : TEnv := E0
theorem za73 : (zbfp).OK := E0ok
def zav3 : Nat → Option zal := fun id => none
theorem zbfq : FOK Tryz.prog zatd zajo zajn F27 :=
 zao (E := zbfp) (za73) (told := zav3) (fl := []) (c := zac za40) (s := zajo) (l := zajn) (tree := za74) zayr (by kernel_rfl) (by kernel_rfl) (by kernel_rfl) (zab (ls := []) (by kernel_rfl) trivial) (fun v => by kernel_rfl)
def zago : FSh := ⟨[(.one (.sl (.int .i64) false false)), (.one (.sl (.int .i64) false false)), (.one (.fn zatd))], []⟩
def zqk : LSh := ⟨(fun ex => match ex with | .norm => (nz [1, 2, 15, 16, 17]) | .exit i => if i = 0 then [] else [] | .ret => (nz [6])), [(1, qo5), (2, (.one (.fn zatd))), (15, qo5), (16, qo1), (17, qo1)], [], [⟨.ret, [(6, qo2)], []⟩, ⟨(.exit 0), [], []⟩], [], []⟩
def zdl : (List Int × Unit × List Int × Int × Int) → T ((List Int × Unit × List Int × Int × Int) ⊕ (Bool ⊕ Unit)) := fun (s2, (), t15, t16, t17) =>(.test (decide (t17 < t16)) (.test (decide ((0 ≤ t17) ∧ (t17 < (t15.length : Int)))) (.sub (t15[(Int.toNat t17)]?) fun z0 =>(.test (decide ((0 ≤ t17) ∧ (t17 < (s2.length : Int)))) (.sub (s2[(Int.toNat t17)]?) fun z1 =>(.sub (F27 (z0, z1)) fun z2 =>(.test (! z2) (.ret (Sum.inr (Sum.inl false))) (.ret (Sum.inl (s2, ((), (t15, (t16, (w64 (t17 + 1))))))))))) .fail)) .fail) (.ret (Sum.inr (Sum.inr ()))))
def za2e (v) := zav (fun v => (zdl v).run) v
def zagn : List FO := [⟨[(.one .sb)], []⟩]
def za6s : (List Int × List Int × Unit) → T Bool := fun (s1, s2, ()) =>(.test ((s1.length : Int) != (s2.length : Int)) (.ret false) (.sub (za2e (s2, ((), (s1, ((s1.length : Int), (0 : Int)))))) fun z0 =>(.test (Sum.isLeft z0) (.sub (Sum.getLeft? z0) fun z1 =>(.ret z1)) (.sub (Sum.getRight? z0) fun z2 =>(.ret true)))))
def F10 (v) := (za6s v).run
def za6r : TEnv := (E0.add1 zatd zajo zajn F27)
theorem zagl : (za6r).OK := (E0ok.add1 zbfq)
def z8d : Nat → Option zal := fun id => if id = 4 then some (LSh.told zqk 0 (zdl)) else none
theorem zagm : zan Tryz.prog 0 (zad (zac zaba) [0]) (LSh.told zqk 0 (zdl)) :=
 zak (E := za6r) (zagl) (told := z8d) (l := zqk) (step := zdl) (zab (ls := []) (by kernel_rfl) trivial) (by kernel_rfl) (fun v => by kernel_rfl)
theorem zbe4 : FOK Tryz.prog zbdg zago zagn F10 :=
 zao (E := za6r) (zagl) (told := z8d) (fl := []) (c := zac zaba) (s := zago) (l := zagn) (tree := za6s) zayy (by kernel_rfl) (by kernel_rfl) (by kernel_rfl) (zab (ls := [zad (zac zaba) [0]]) (by kernel_rfl) ⟨.inr ⟨_, by kernel_rfl, zagm⟩, trivial⟩) (fun v => by kernel_rfl)
def z84 : FSh := ⟨[(.ag [(.sl (.int .i64) false false)]), (.one (.sl (.int .i64) false false))], []⟩
def z83 : List FO := [⟨[(.one .sb)], []⟩]
def za8g : (List Int × List Int) → T Bool := fun (p_0, list) =>(.sub (F10 (p_0, (list, ()))) fun z0 =>(.ret z0))
def F36 (v) := (za8g v).run
def zbfz : TEnv := (E0.add1 zbdg zago zagn F10)
theorem za8f : (zbfz).OK := (E0ok.add1 zbe4)
def zav7 : Nat → Option zal := fun id => none
theorem za26 : FOK Tryz.prog za08 z84 z83 F36 :=
 zao (E := zbfz) (za8f) (told := zav7) (fl := []) (c := zac za43) (s := z84) (l := z83) (tree := za8g) zay0 (by kernel_rfl) (by kernel_rfl) (by kernel_rfl) (zab (ls := []) (by kernel_rfl) trivial) (fun v => by kernel_rfl)
theorem za25 (p q : List Int) (hl : p.length < 4611686018427387904) : F36 (p, q) = some (fits p q) := by
 have hc : ∀ a b, F27 (a, b) = some (a == 0 || a == b) := by
  intro a b
  simp only [F27, za74, T.run]
  cases a == 0 <;> simp
 simp only [F36, za8g, T.run, F10, za6s, fits]
 by_cases he : p.length = q.length
 ·have h := zjn (step := fun v => (zdl v).run) (xs := p.zip q) (fun x => !(x.1 == 0 || x.1 == x.2)) (fun k => (q, ((), (p, ((p.length : Int), (k : Int)))))) (.inl false) (.inr ())
   (fun k x hx => by
    obtain ⟨x1, x2⟩ := x
    rw [List.getElem?_zip_eq_some] at hx
    obtain ⟨h1, h2⟩ := hx
    simp only at h1 h2
    have hk := zai h1
    have hk2 := zai h2
    have c0 : (k : Int) < (p.length : Int) := by omega
    have c1 : (0 : Int) ≤ (k : Int) ∧ (k : Int) < (p.length : Int) := by omega
    have c2 : (0 : Int) ≤ (k : Int) ∧ (k : Int) < (q.length : Int) := by omega
    have w1 : w64 ((k : Int) + 1) = ((k + 1 : Nat) : Int) := by rw [zae (by omega) (by omega)]; omega
    simp only [zdl, T.run, c0, c1, c2, decide_true, if_true, and_self, qe, h1, h2, qa, w1, hc]
    cases (x1 == 0 || x1 == x2) <;> simp)
   (by simp [zdl, T.run, he])
  simp only [ka] at h
  have hne : ((p.length : Int) != (q.length : Int)) = false := by simp [he]
  simp only [za2e, h, hne, qd he]
  cases (p.zip q).any (fun x => !(x.1 == 0 || x.1 == x.2)) <;> simp
 ·have hne : ((p.length : Int) != (q.length : Int)) = true := by simp; omega
  simp [hne, he]
def z81 : FSh := ⟨[(.one (.sl (.int .i64) false false)), (.one (.pb (.list false (.int .i64))))], []⟩
def z80 : List FO := [⟨[(.one .sb)], []⟩]
def za8a : (List Int × List Int) → T Bool := fun (list, t1) =>(.sub ([t1][0]?) fun z0 =>(.sub (F36 (z0, list)) fun z1 =>(.ret (! z1))))
def F30 (v) := (za8a v).run
def zbfu : TEnv := (E0.add1 za08 z84 z83 F36)
theorem za79 : (zbfu).OK := (E0ok.add1 za26)
def zav5 : Nat → Option zal := fun id => none
theorem za24 : FOK Tryz.prog z3m z81 z80 F30 :=
 zao (E := zbfu) (za79) (told := zav5) (fl := []) (c := zac za41) (s := z81) (l := z80) (tree := za8a) zayu (by kernel_rfl) (by kernel_rfl) (by kernel_rfl) (zab (ls := []) (by kernel_rfl) trivial) (fun v => by kernel_rfl)
theorem zaju (p q : List Int) (hl : p.length < 4611686018427387904) : F30 (q, p) = some (!fits p q) := by
 simp only [F30, za8a, T.run, kk, qa, za25 p q hl]
def zahk : FSh := ⟨[(.one (.sl (.list true (.int .i64)) false false)), (.clo z3m [(.one (.pb (.list false (.int .i64))))])], []⟩
def zqm : LSh := ⟨(fun ex => match ex with | .norm => (nz [0, 1, 7, 8]) | .exit i => if i = 0 then [] else [] | .ret => (nz [4])), [(0, (.one (.sl (.list true (.int .i64)) false false))), (1, (.clo z3m [(.one (.pb (.list false (.int .i64))))])), (7, qo1), (8, qo1)], [], [⟨.ret, [(4, qo1)], []⟩, ⟨(.exit 0), [], []⟩], [], []⟩
def zdm : (List (List Int) × List Int × Int × Int) → T ((List (List Int) × List Int × Int × Int) ⊕ (Int ⊕ Unit)) := fun (s, f_0, t7, t8) =>(.test (decide (t8 < t7)) (.test (decide ((0 ≤ t8) ∧ (t8 < (s.length : Int)))) (.sub (s[(Int.toNat t8)]?) fun z0 =>(.sub (F30 (z0, f_0)) fun z1 =>(.test z1 (.ret (Sum.inr (Sum.inl t8))) (.ret (Sum.inl (s, (f_0, (t7, (w64 (t8 + 1)))))))))) .fail) (.ret (Sum.inr (Sum.inr ()))))
def za2m (v) := zav (fun v => (zdm v).run) v
def zahj : List FO := [⟨[(.one (.si .i64))], []⟩]
def za63 : (List (List Int) × List Int) → T Int := fun (s, f_0) =>(.sub (za2m (s, (f_0, ((s.length : Int), (0 : Int))))) fun z0 =>(.test (Sum.isLeft z0) (.sub (Sum.getLeft? z0) fun z1 =>(.ret z1)) (.sub (Sum.getRight? z0) fun z2 =>(.ret (-1)))))
def F11 (v) := (za63 v).run
def za62 : TEnv := (E0.add1 z3m z81 z80 F30)
theorem zahh : (za62).OK := (E0ok.add1 za24)
def z8h : Nat → Option zal := fun id => if id = 2 then some (LSh.told zqm 0 (zdm)) else none
theorem zahi : zan Tryz.prog 0 (zad (zac zaa7) [0]) (LSh.told zqm 0 (zdm)) :=
 zak (E := za62) (zahh) (told := z8h) (l := zqm) (step := zdm) (zab (ls := []) (by kernel_rfl) trivial) (by kernel_rfl) (fun v => by kernel_rfl)
theorem zbe6 : FOK Tryz.prog zbdd zahk zahj F11 :=
 zao (E := za62) (zahh) (told := z8h) (fl := []) (c := zac zaa7) (s := zahk) (l := zahj) (tree := za63) zayt (by kernel_rfl) (by kernel_rfl) (by kernel_rfl) (zab (ls := [zad (zac zaa7) [0]]) (by kernel_rfl) ⟨.inr ⟨_, by kernel_rfl, zahi⟩, trivial⟩) (fun v => by kernel_rfl)
theorem zbe5 (s : List (List Int)) (p : List Int) (hp : p.length < 4611686018427387904) (hl : s.length < 4611686018427387904) : F11 (s, p) = some (idxI (fun q => !fits p q) s) := by
 have h := zfr (step := fun v => (zdm v).run) (xs := s) (fun q => !fits p q) (fun k => (s, (p, ((s.length : Int), (k : Int))))) (fun k => .inl (k : Int)) (.inr ())
  (fun k x hx => by
   have hlt := zai hx
   have h1 : (k : Int) < (s.length : Int) := by omega
   have h2 : (0 : Int) ≤ k ∧ (k : Int) < (s.length : Int) := by omega
   simp only [zdm, T.run, qe, hx, qa, h1, h2, decide_true, if_true, and_self, zaju p x hp]
   rw [zae (z := (k : Int) + 1) (by omega) (by omega)]
   cases hv : fits p x <;> simp)
  (by simp [zdm, T.run])
 rw [show ((0 : Nat) : Int) = 0 from rfl] at h
 simp only [F11, za63, T.run, za2m]
 rw [h]
 simp only [idxI]
 cases hf : s.findIdx? (fun q => !fits p q) <;> simp [Sum.isLeft]
end Go.Proofs.W
