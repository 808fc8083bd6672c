/- Functions of the program, walked, and what they compute. -/
import Derived.Test.YtaanfhjiihekeaaDoorPtIds
set_option linter.unusedVariables false
set_option linter.unusedSimpArgs false
set_option maxRecDepth 100000
set_option maxHeartbeats 4000000
namespace Go.Proofs.W
open Go Go.Gm Go.Proofs
open Go.RowKit Go.Shelf
def iot (k : Int) (n : Nat) : List Int := (List.range n).map fun (i : Nat) => k + (i : Int)
theorem iot_len (k : Int) (n : Nat) : (iot k n).length = n := by simp [iot]
theorem iot_succ (k : Int) (n : Nat) : iot k (n + 1) = iot k n ++ [k + n] := by simp [iot, List.range_succ]
theorem iot_get (k : Int) {n i : Nat} (h : i < n) : (iot k n)[i]? = some (k + i) := by simp [iot, h]
theorem gcd_toNat_step {a b : Int} (ha : 0 ≤ a) (hb : 0 < b) : Nat.gcd b.toNat (Int.tmod a b).toNat = Nat.gcd a.toNat b.toNat ∧ 0 ≤ Int.tmod a b ∧ Int.tmod a b < b := by
  obtain ⟨m, rfl⟩ := Int.eq_ofNat_of_zero_le ha
  obtain ⟨n, rfl⟩ := Int.eq_ofNat_of_zero_le (Int.le_of_lt hb)
  have e : Int.tmod (m : Int) (n : Int) = ((m % n : Nat) : Int) := rfl
  rw [e]
  simp only [Int.toNat_natCast]
  refine ⟨?_, Int.natCast_nonneg _, ?_⟩
  · rw [Nat.gcd_comm m n, Nat.gcd_rec n m, Nat.gcd_comm]
  · have : n ≠ 0 := by omega
    exact Int.ofNat_lt.2 (Nat.mod_lt m (by omega))
def lowP (num den : Int) : Bool := inB 1 1000000 num && (inB 1 1000000 den && decide (Nat.gcd num.toNat den.toNat = 1))
def upQ (num den : Int) : Int := (num + den - 1) / den
theorem upQ_B {num den : Int} (hn : 1 ≤ num) (hd : 1 ≤ den) : 1 ≤ upQ num den ∧ upQ num den ≤ num ∧ num ≤ upQ num den * den ∧ upQ num den * den - num < den := by
  have h1 := Int.mul_ediv_add_emod (num + den - 1) den
  have h2 := Int.emod_nonneg (num + den - 1) (show den ≠ 0 by omega)
  have h3 := Int.emod_lt_of_pos (num + den - 1) (show 0 < den by omega)
  have h4 : 1 ≤ upQ num den := by
    unfold upQ
    exact (Int.le_ediv_iff_mul_le (by omega)).2 (by omega)
  have h5 : den * upQ num den = upQ num den * den := Int.mul_comm ..
  have h6 : upQ num den ≤ num := by
    unfold upQ
    refine Int.ediv_le_of_le_mul (by omega) ?_
    have : 0 ≤ (num - 1) * (den - 1) := Int.mul_nonneg (by omega) (by omega)
    rw [Int.sub_mul, Int.mul_sub] at this
    omega
  unfold upQ at *
  omega
def posT (l : List Int) : Bool := isTerms l && (decide (l ≠ []) && l.all (inB 1 30))
theorem isPz_len {l : List Int} (h : isPz l = true) : 3 ≤ l.length ∧ l.length ≤ 9 := by
  simp only [isPz, Bool.and_eq_true, inB_iff] at h
  omega
def fillG (l : List Int) (at' n : Int) : Bool × List Int := if isPz l && (inB 0 ((l.length : Int) - 1) at' && (inB 1 ((l.length : Int) - 2) n && decide (l[at'.toNat]? = some 0))) then (true, l.set at'.toNat n) else (false, [])
def openG (l : List Int) (at' : Int) : Bool × List Int := if isPz l && (inB 0 ((l.length : Int) - 1) at' && decide (l[at'.toNat]? ≠ some 0)) then (true, l.set at'.toNat 0) else (false, [])
theorem at_get0 {α : Type} (L : List α) (x : α) (t : List α) : (L ++ x :: t)[L.length]? = some x := by simp
theorem at_get1 {α : Type} (L : List α) (x y : α) (t : List α) : (L ++ x :: y :: t)[L.length + 1]? = some y := by
  rw [List.getElem?_append_right (by omega), show L.length + 1 - L.length = 1 by omega]; rfl
theorem at_get2 {α : Type} (L : List α) (x y z : α) (t : List α) : (L ++ x :: y :: z :: t)[L.length + 2]? = some z := by
  rw [List.getElem?_append_right (by omega), show L.length + 2 - L.length = 2 by omega]; rfl
theorem at_set0 {α : Type} (L : List α) (x v : α) (t : List α) : (L ++ x :: t).set L.length v = L ++ v :: t := by simp
theorem at_set1 {α : Type} (L : List α) (x y v : α) (t : List α) : (L ++ x :: y :: t).set (L.length + 1) v = L ++ x :: v :: t := by
  rw [List.set_append_right _ _ (by omega), show L.length + 1 - L.length = 1 by omega]; rfl
theorem at_set2 {α : Type} (L : List α) (x y z v : α) (t : List α) : (L ++ x :: y :: z :: t).set (L.length + 2) v = L ++ x :: y :: v :: t := by
  rw [List.set_append_right _ _ (by omega), show L.length + 2 - L.length = 2 by omega]; rfl
theorem at_take1 {α : Type} (L : List α) (x : α) (t : List α) : (L ++ x :: t).take (L.length + 1) = L ++ [x] := by
  rw [List.take_append, List.take_of_length_le (by omega), show L.length + 1 - L.length = 1 by omega]; rfl
theorem at_drop2 {α : Type} (L : List α) (x y : α) (t : List α) : (L ++ x :: y :: t).drop (L.length + 2) = t := by
  rw [List.drop_append, List.drop_of_length_le (by omega), show L.length + 2 - L.length = 2 by omega]; rfl
theorem at_split {α : Type} (l : List α) (k : Nat) (h : k + 2 < l.length) : ∃ L x m y R, l = L ++ x :: m :: y :: R ∧ L.length = k := by
  refine ⟨l.take k, l[k], l[k + 1], l[k + 2], l.drop (k + 3), ?_, by simp; omega⟩
  rw [← List.drop_eq_getElem_cons, ← List.drop_eq_getElem_cons, ← List.drop_eq_getElem_cons, List.take_append_drop]
theorem at_split1 {α : Type} (l : List α) (k : Nat) (h : k + 1 < l.length) : ∃ L x y R, l = L ++ x :: y :: R ∧ L.length = k := by
  refine ⟨l.take k, l[k], l[k + 1], l.drop (k + 2), ?_, by simp; omega⟩
  rw [← List.drop_eq_getElem_cons, ← List.drop_eq_getElem_cons, List.take_append_drop]
theorem at_drop1 {α : Type} (L : List α) (x : α) (t : List α) : (L ++ x :: t).drop (L.length + 1) = t := by
  rw [List.drop_append, List.drop_of_length_le (by omega), show L.length + 1 - L.length = 1 by omega]; rfl
theorem loop_listI {α β σ X : Type} {step : α → Option (α ⊕ β)} {xs : List X} (P : Nat → σ → Prop) (emb : Nat → σ → α) (body : σ → X → σ ⊕ β) (fin : σ → β)
    (hs : ∀ k s x, P k s → xs[k]? = some x → step (emb k s) = some (match body s x with | .inl s' => .inl (emb (k + 1) s') | .inr o => .inr o) ∧ ∀ s', body s x = .inl s' → P (k + 1) s')
    (he : ∀ s, P xs.length s → step (emb xs.length s) = some (.inr (fin s))) : ∀ k s, k ≤ xs.length → P k s → loopO step (emb k s) = some (forE body fin (xs.drop k) s) := by
  have key : ∀ n k s, n = xs.length - k → k ≤ xs.length → P k s → loopO step (emb k s) = some (forE body fin (xs.drop k) s) := by
    intro n
    induction n with
    | zero =>
      intro k s hn hk hP
      have : k = xs.length := by omega
      subst this
      rw [loopO_step, he _ hP, List.drop_length]
      rfl
    | succ n ih =>
      intro k s hn hk hP
      have hlt : k < xs.length := by omega
      obtain ⟨h1, h2⟩ := hs k s xs[k] hP (List.getElem?_eq_getElem hlt)
      rw [loopO_step, h1, List.drop_eq_getElem_cons hlt, forE_cons]
      cases hb : body s xs[k] with
      | inl s' => simp only []; exact ih (k + 1) s' (by omega) (by omega) (h2 s' hb)
      | inr o => rfl
  exact fun k s hk hP => key _ k s rfl hk hP
def pzCell (b : UInt8) : Option Int := if b.toNat = 46 then some 0 else if 49 ≤ b.toNat ∧ b.toNat ≤ 57 then some ((b.toNat : Int) - 48) else none
def pzRead : List UInt8 → Option (List Int)
  | [] => some []
  | b :: t => match pzCell b with
    | some z => (pzRead t).map (z :: ·)
    | none => none
theorem forE_pz {β : Type} (fin : List Int → β) (o : β) : ∀ (l : List UInt8) (acc : List Int), forE (fun acc b => match pzCell b with | some z => .inl (acc ++ [z]) | none => .inr o) fin l acc = match pzRead l with | some r => fin (acc ++ r) | none => o
  | [], acc => by simp [forE, pzRead]
  | b :: t, acc => by
    rw [forE_cons, pzRead]
    cases hc : pzCell b with
    | none => rfl
    | some z =>
      simp only []
      rw [forE_pz fin o t]
      cases pzRead t with
      | none => rfl
      | some r => simp
def pzRes (s : List UInt8) : Bool × List Int := if s.length > 9 then (false, []) else match pzRead s with
  | none => (false, [])
  | some r => if isPz r then (true, r) else (false, [])
theorem pzRead_len : ∀ {s : List UInt8} {r : List Int}, pzRead s = some r → r.length = s.length
  | [], r, h => by cases h; rfl
  | b :: t, r, h => by
    rw [pzRead] at h
    split at h
    · obtain ⟨r', h1, rfl⟩ := Option.map_eq_some_iff.1 h
      simp [pzRead_len h1]
    · cases h
theorem pzRes_len (s : List UInt8) : (pzRes s).2.length ≤ 9 := by
  unfold pzRes
  split
  · simp
  · split
    · simp
    · rename_i h
      have := pzRead_len h
      split
      · simp; omega
      · simp
theorem bytesI_get {s : List UInt8} {k : Nat} {b : UInt8} (h : s[k]? = some b) : (bytesI s)[k]? = some (b.toNat : Int) := by unfold bytesI; rw [List.getElem?_map, h]; rfl
theorem bytesI_len (s : List UInt8) : (bytesI s).length = s.length := by unfold bytesI; simp
def fits (p q : List Int) : Bool := decide (p.length = q.length) && !(p.zip q).any fun x => !(x.1 == 0 || x.1 == x.2)
def turnG (l : List Int) (k : Int) : Bool × List Int := if isPz l && inB 0 ((l.length : Int) - 1) k then (true, l.drop k.toNat ++ l.take k.toNat) else (false, [])
theorem turn_facts {l : List Int} {k : Int} (hp : isPz l = true) (hk : inB 0 ((l.length : Int) - 1) k = true) : win l k.toNat (l.length - k.toNat) = l.drop k.toNat ∧ win l 0 (k.toNat - 0) = l.take k.toNat ∧ 0 ≤ k ∧ k.toNat ≤ l.length ∧ l.length ≤ 9 := by
  have := isPz_len hp
  rw [inB_iff] at hk
  refine ⟨?_, win_take _ _, hk.1, by omega, this.2⟩
  unfold win
  rw [List.take_of_length_le (by rw [List.length_drop]; omega)]
def iotD (k : Int) (n : Nat) : List (Int × Int) := (List.range n).map fun (i : Nat) => (k + 2 * (i : Int), k + 2 * (i : Int) + 1)
theorem iotD_len (k : Int) (n : Nat) : (iotD k n).length = n := by simp [iotD]
theorem iotD_succ (k : Int) (n : Nat) : iotD k (n + 1) = iotD k n ++ [(k + 2 * (n : Int), k + 2 * (n : Int) + 1)] := by simp [iotD, List.range_succ]
theorem iotD_get (k : Int) {n i : Nat} (h : i < n) : (iotD k n)[i]? = some (k + 2 * (i : Int), k + 2 * (i : Int) + 1) := by simp [iotD, h]
theorem zip_any_neD : ∀ (a b : List (Int × Int)), a.length = b.length → ((a.zip b).any fun p => !(decide (p.1 = p.2))) = !decide (a = b)
  | [], [], _ => rfl
  | x :: a, y :: b, h => by
    have ih := zip_any_neD a b (by simpa using h)
    rw [List.zip_cons_cons, List.any_cons, ih]
    by_cases hx : x = y <;> simp [hx]

def l_szIntS_sh : FSh := ⟨[(.one (.sl (.int .i64) false false)), (.one (.si .i64))], []⟩

def l_szIntS_fo : List FO := [⟨[(.one (.si .i64))], []⟩]
noncomputable def l_szIntS_t : (List (Int) × Int) → T Int := fun (a, left) =>
  (.test (decide ((w64 (left - ((List.length a) : Int))) < 0))
  (.ret (-1))
  (.ret (w64 (left - ((List.length a) : Int)))))
noncomputable def l_szIntS (v : (List (Int) × Int)) : Option Int := (l_szIntS_t v).run
noncomputable def l_szIntS_E : TEnv := E0
theorem l_szIntS_Eok : (l_szIntS_E).OK := E0ok
noncomputable def l_szIntS_told : Nat → Option SealT := fun id => none
theorem l_szIntS_ok : FOK Tryd.prog n_l_szIntS l_szIntS_sh l_szIntS_fo l_szIntS :=
  fn_ok (E := l_szIntS_E) (l_szIntS_Eok) (told := l_szIntS_told) (fl := []) (c := bodyOf fn_l_szIntS) (s := l_szIntS_sh) (l := l_szIntS_fo) (tree := l_szIntS_t) fnat_l_szIntS (by kernel_rfl) (by kernel_rfl) (by kernel_rfl) (loopsOK_of (ls := []) (by kernel_rfl) trivial) (fun v => by kernel_rfl)

theorem l_szIntS_eq (a : List Int) (n : Int) (h1 : n.natAbs < 4611686018427387904) (h2 : a.length < 4611686018427387904) : l_szIntS (a, n) = some (if n - a.length < 0 then -1 else n - a.length) := by
  simp only [l_szIntS, l_szIntS_t, T.run]
  rw [w64_id (by omega) (by omega)]
  simp only [decide_eq_true_eq]
  split <;> rfl


def l_szPuzzle_sh : FSh := ⟨[(.ag [(.sl (.int .i64) false false)]), (.one (.si .i64))], []⟩

def l_szPuzzle_fo : List FO := [⟨[(.one (.si .i64))], []⟩]
noncomputable def l_szPuzzle_t : (List (Int) × Int) → T Int := fun (a_0, left) =>
  (.sub (l_szIntS (a_0, left)) fun z0 =>
  (.test (decide (z0 < 0))
  (.ret (-1))
  (.ret z0)))
noncomputable def l_szPuzzle (v : (List (Int) × Int)) : Option Int := (l_szPuzzle_t v).run
noncomputable def l_szPuzzle_E : TEnv := (E0.add1 n_l_szIntS l_szIntS_sh l_szIntS_fo l_szIntS)
theorem l_szPuzzle_Eok : (l_szPuzzle_E).OK := (E0ok.add1 l_szIntS_ok)
noncomputable def l_szPuzzle_told : Nat → Option SealT := fun id => none
theorem l_szPuzzle_ok : FOK Tryd.prog n_l_szPuzzle l_szPuzzle_sh l_szPuzzle_fo l_szPuzzle :=
  fn_ok (E := l_szPuzzle_E) (l_szPuzzle_Eok) (told := l_szPuzzle_told) (fl := []) (c := bodyOf fn_l_szPuzzle) (s := l_szPuzzle_sh) (l := l_szPuzzle_fo) (tree := l_szPuzzle_t) fnat_l_szPuzzle (by kernel_rfl) (by kernel_rfl) (by kernel_rfl) (loopsOK_of (ls := []) (by kernel_rfl) trivial) (fun v => by kernel_rfl)

theorem l_szPuzzle_eq (a : List Int) (n : Int) (h1 : n.natAbs < 4611686018427387904) (h2 : a.length < 4611686018427387904) : l_szPuzzle (a, n) = some (if n - a.length < 0 then -1 else n - a.length) := by
  simp only [l_szPuzzle, l_szPuzzle_t, T.run, l_szIntS_eq a n h1 h2, Option.bind_some, decide_eq_true_eq]
  split <;> simp_all


def l_toIntS_sh : FSh := ⟨[(.one (.sl (.int .i64) false false))], []⟩

def l_toIntS_L3_sh : LSh := ⟨(fun ex => match ex with | .norm => [(0, none), (3, none), (4, none)] | .exit i => if i = 0 then [(3, none)] else [] | .ret => [(2, none)]), [(0, (.one (.sl (.int .i64) false false))), (3, (.one (.rw 0 0))), (4, (.one (.si .i64)))], [(.row 0 (.int .i64))], [⟨(.exit 0), [(3, (.one (.rw 0 0)))], [(.row 0 (.int .i64))]⟩], [], []⟩
noncomputable def l_toIntS_L3_step : ((List (Int) × Unit × Int) × List (Int)) → T (((List (Int) × Unit × Int) × List (Int)) ⊕ (Unit × List (Int))) := fun ((a, (), i), out) =>
  (.test (decide (i < ((List.length a) : Int)))
  (.test (decide ((0 ≤ i) ∧ (i < ((List.length a) : Int))))
   (.sub (a[(Int.toNat i)]?) fun z0 =>
    (.test (decide ((0 ≤ i) ∧ (i < ((List.length out) : Int))))
    (.sub (out[(0 + (Int.toNat i))]?) fun z1 =>
     (.test (decide ((0 = 0) ∧ ((List.length out) = (List.length (List.set out (0 + (Int.toNat i)) z0)))))
     (.ret (Sum.inl ((a, ((), (w64 (i + 1)))), (List.set out (0 + (Int.toNat i)) z0))))
     .fail))
    .fail))
   .fail)
  (.test (decide ((0 = 0) ∧ ((List.length out) = (List.length out))))
   (.ret (Sum.inr ((), out)))
   .fail))
noncomputable def l_toIntS_L3 (v : ((List (Int) × Unit × Int) × List (Int))) : Option (Unit × List (Int)) := loopO (fun v => (l_toIntS_L3_step v).run) v

def l_toIntS_fo : List FO := [⟨[(.one (.rw 0 0))], [(.row 0 (.int .i64))]⟩]
noncomputable def l_toIntS_t : List (Int) → T (Unit × List (Int)) := fun a =>
  (.test (decide ((0 ≤ ((List.length a) : Int)) ∧ ((((List.length a) : Int) ≤ ((List.length a) : Int)) ∧ (((Int.toNat ((List.length a) : Int)) * 9) ≤ 140737488355328))))
  (.test (decide ((0 = 0) ∧ ((Int.toNat ((List.length a) : Int)) = (List.length (List.replicate (Int.toNat ((List.length a) : Int)) (0 : Int))))))
   (.sub (l_toIntS_L3 ((a, ((), (0 : Int))), (List.replicate (Int.toNat ((List.length a) : Int)) (0 : Int)))) fun z0 =>
    (.test (decide ((0 = 0) ∧ ((List.length z0.2) = (List.length z0.2))))
    (.ret ((), z0.2))
    .fail))
   .fail)
  .fail)
noncomputable def l_toIntS (v : List (Int)) : Option (Unit × List (Int)) := (l_toIntS_t v).run
noncomputable def l_toIntS_E : TEnv := E0
theorem l_toIntS_Eok : (l_toIntS_E).OK := E0ok
noncomputable def l_toIntS_told : Nat → Option SealT := fun id => if id = 3 then some (LSh.told l_toIntS_L3_sh 0 (l_toIntS_L3_step)) else none
theorem l_toIntS_L3_ok : ToldOK Tryd.prog 0 (loopAt (bodyOf fn_l_toIntS) [0]) (LSh.told l_toIntS_L3_sh 0 (l_toIntS_L3_step)) :=
  loop_ok (E := l_toIntS_E) (l_toIntS_Eok) (told := l_toIntS_told) (l := l_toIntS_L3_sh) (step := l_toIntS_L3_step) (loopsOK_of (ls := []) (by kernel_rfl) trivial) (by kernel_rfl) (fun v => by kernel_rfl)
theorem l_toIntS_ok : FOK Tryd.prog n_l_toIntS l_toIntS_sh l_toIntS_fo l_toIntS :=
  fn_ok (E := l_toIntS_E) (l_toIntS_Eok) (told := l_toIntS_told) (fl := []) (c := bodyOf fn_l_toIntS) (s := l_toIntS_sh) (l := l_toIntS_fo) (tree := l_toIntS_t) fnat_l_toIntS (by kernel_rfl) (by kernel_rfl) (by kernel_rfl) (loopsOK_of (ls := [loopAt (bodyOf fn_l_toIntS) [0]]) (by kernel_rfl) ⟨.inr ⟨_, by kernel_rfl, l_toIntS_L3_ok⟩, trivial⟩) (fun v => by kernel_rfl)

theorem l_toIntS_eq (a : List Int) (hl : a.length < 10000000000000) : l_toIntS a = some ((), a) := by
  have h := loop_eq (step := fun v => (l_toIntS_L3_step v).run) (fun v => a.length - v.1.2.2.toNat) (fun v => v.1.1 = a ∧ ∃ k : Nat, k ≤ a.length ∧ v.1.2.2 = k ∧ v.2.length = a.length ∧ v.2.take k = a.take k) (fun _ => ((), a)) (by
    rintro ⟨⟨a', ⟨⟩, i⟩, out⟩ ⟨e, k, hk, e2, hlen, ht⟩
    simp only at e e2 hlen ht
    subst e e2
    by_cases hlt : k < a'.length
    · left
      refine ⟨((a', (), (k + 1 : Nat)), out.set k a'[k]), ?_, ⟨rfl, k + 1, by omega, rfl, by simp [hlen], ?_⟩, by simp only [Int.toNat_natCast]; omega, rfl⟩
      · simp only [l_toIntS_L3_step, T.run, Int.toNat_natCast, Option.bind_some, List.getElem?_eq_getElem hlt, Nat.zero_add, List.getElem?_eq_getElem (show k < out.length by omega)]
        rw [w64_id (by omega) (by omega)]
        simp [hlen, hlt]
      · rw [List.take_succ_eq_append_getElem (by simp; omega), List.take_succ_eq_append_getElem hlt, List.take_set_of_le (Nat.le_refl _), ht]
        simp
    · right
      have : k = a'.length := by omega
      subst this
      rw [List.take_length, ← hlen, List.take_length] at ht
      subst ht
      simp [l_toIntS_L3_step, T.run])
    ((a, (), 0), List.replicate a.length 0) ⟨rfl, 0, Nat.zero_le _, rfl, by simp, by simp⟩
  simp only [l_toIntS, l_toIntS_t, T.run, l_toIntS_L3, Int.toNat_natCast]
  rw [h]
  simp
  omega


def l_toPuzzle_sh : FSh := ⟨[(.ag [(.sl (.int .i64) false false)])], []⟩

def l_toPuzzle_fo : List FO := [⟨[(.ag [(.rw 0 0)])], [(.row 0 (.int .i64))]⟩]
noncomputable def l_toPuzzle_t : List (Int) → T (Unit × List (Int)) := fun a_0 =>
  (.sub (l_toIntS a_0) fun z0 =>
  (.test (decide ((0 = 0) ∧ ((List.length z0.2) = (List.length z0.2))))
  (.ret ((), z0.2))
  .fail))
noncomputable def l_toPuzzle (v : List (Int)) : Option (Unit × List (Int)) := (l_toPuzzle_t v).run
noncomputable def l_toPuzzle_E : TEnv := (E0.add1 n_l_toIntS l_toIntS_sh l_toIntS_fo l_toIntS)
theorem l_toPuzzle_Eok : (l_toPuzzle_E).OK := (E0ok.add1 l_toIntS_ok)
noncomputable def l_toPuzzle_told : Nat → Option SealT := fun id => none
theorem l_toPuzzle_ok : FOK Tryd.prog n_l_toPuzzle l_toPuzzle_sh l_toPuzzle_fo l_toPuzzle :=
  fn_ok (E := l_toPuzzle_E) (l_toPuzzle_Eok) (told := l_toPuzzle_told) (fl := []) (c := bodyOf fn_l_toPuzzle) (s := l_toPuzzle_sh) (l := l_toPuzzle_fo) (tree := l_toPuzzle_t) fnat_l_toPuzzle (by kernel_rfl) (by kernel_rfl) (by kernel_rfl) (loopsOK_of (ls := []) (by kernel_rfl) trivial) (fun v => by kernel_rfl)

theorem l_toPuzzle_eq (a : List Int) (hl : a.length < 10000000000000) : l_toPuzzle a = some ((), a) := by
  simp [l_toPuzzle, l_toPuzzle_t, T.run, l_toIntS_eq a hl]


def s_l1In_sh : FSh := ⟨[(.one (.si .i64)), (.one (.si .i64)), (.one (.si .i64))], []⟩

def s_l1In_fo : List FO := [⟨[(.one .sb)], []⟩]
noncomputable def s_l1In_t : (Int × Int × Int) → T Bool := fun (n, lo, hi) =>
  (.test (decide (n ≥ lo))
  (.ret (decide (n ≤ hi)))
  (.ret false))
noncomputable def s_l1In (v : (Int × Int × Int)) : Option Bool := (s_l1In_t v).run
noncomputable def s_l1In_E : TEnv := E0
theorem s_l1In_Eok : (s_l1In_E).OK := E0ok
noncomputable def s_l1In_told : Nat → Option SealT := fun id => none
theorem s_l1In_ok : FOK Tryd.prog n_s_l1In s_l1In_sh s_l1In_fo s_l1In :=
  fn_ok (E := s_l1In_E) (s_l1In_Eok) (told := s_l1In_told) (fl := []) (c := bodyOf fn_s_l1In) (s := s_l1In_sh) (l := s_l1In_fo) (tree := s_l1In_t) fnat_s_l1In (by kernel_rfl) (by kernel_rfl) (by kernel_rfl) (loopsOK_of (ls := []) (by kernel_rfl) trivial) (fun v => by kernel_rfl)

theorem s_l1In_eq (n low high : Int) : s_l1In (n, low, high) = some (inB low high n) := by
  simp only [s_l1In, s_l1In_t, T.run, ge_iff_le, decide_eq_true_eq, inB]
  by_cases h : low ≤ n <;> simp [h]


def s_l1All_sh : FSh := ⟨[(.one (.sl (.int .i64) false false)), (.one (.si .i64)), (.one (.si .i64))], []⟩

def s_l1All_L2_sh : LSh := ⟨(fun ex => match ex with | .norm => [(1, none), (2, none), (9, none), (10, none), (11, none)] | .exit i => if i = 0 then [] else [] | .ret => [(6, none)]), [(1, (.one (.si .i64))), (2, (.one (.si .i64))), (9, (.one (.sl (.int .i64) false false))), (10, (.one (.si .i64))), (11, (.one (.si .i64)))], [], [⟨.ret, [(6, (.one .sb))], []⟩, ⟨(.exit 0), [], []⟩], [], []⟩
noncomputable def s_l1All_L2_step : (Int × Int × List (Int) × Int × Int) → T ((Int × Int × List (Int) × Int × Int) ⊕ (Bool ⊕ Unit)) := fun (lo, hi, t9, t10, t11) =>
  (.test (decide (t11 < t10))
  (.test (decide ((0 ≤ t11) ∧ (t11 < ((List.length t9) : Int))))
   (.sub (t9[(Int.toNat t11)]?) fun z0 =>
    (.sub (s_l1In (z0, (lo, hi))) fun z1 =>
    (.test (! z1)
    (.ret (Sum.inr (Sum.inl false)))
    (.ret (Sum.inl (lo, (hi, (t9, (t10, (w64 (t11 + 1)))))))))))
   .fail)
  (.ret (Sum.inr (Sum.inr ()))))
noncomputable def s_l1All_L2 (v : (Int × Int × List (Int) × Int × Int)) : Option (Bool ⊕ Unit) := loopO (fun v => (s_l1All_L2_step v).run) v

def s_l1All_fo : List FO := [⟨[(.one .sb)], []⟩]
noncomputable def s_l1All_t : (List (Int) × Int × Int) → T Bool := fun (l, lo, hi) =>
  (.sub (s_l1All_L2 (lo, (hi, (l, (((List.length l) : Int), (0 : Int)))))) fun z0 =>
  (.test (Sum.isLeft z0)
  (.sub (Sum.getLeft? z0) fun z1 =>
   (.ret z1))
  (.sub (Sum.getRight? z0) fun z2 =>
   (.ret true))))
noncomputable def s_l1All (v : (List (Int) × Int × Int)) : Option Bool := (s_l1All_t v).run
noncomputable def s_l1All_E : TEnv := (E0.add1 n_s_l1In s_l1In_sh s_l1In_fo s_l1In)
theorem s_l1All_Eok : (s_l1All_E).OK := (E0ok.add1 s_l1In_ok)
noncomputable def s_l1All_told : Nat → Option SealT := fun id => if id = 2 then some (LSh.told s_l1All_L2_sh 0 (s_l1All_L2_step)) else none
theorem s_l1All_L2_ok : ToldOK Tryd.prog 0 (loopAt (bodyOf fn_s_l1All) [0]) (LSh.told s_l1All_L2_sh 0 (s_l1All_L2_step)) :=
  loop_ok (E := s_l1All_E) (s_l1All_Eok) (told := s_l1All_told) (l := s_l1All_L2_sh) (step := s_l1All_L2_step) (loopsOK_of (ls := []) (by kernel_rfl) trivial) (by kernel_rfl) (fun v => by kernel_rfl)
theorem s_l1All_ok : FOK Tryd.prog n_s_l1All s_l1All_sh s_l1All_fo s_l1All :=
  fn_ok (E := s_l1All_E) (s_l1All_Eok) (told := s_l1All_told) (fl := []) (c := bodyOf fn_s_l1All) (s := s_l1All_sh) (l := s_l1All_fo) (tree := s_l1All_t) fnat_s_l1All (by kernel_rfl) (by kernel_rfl) (by kernel_rfl) (loopsOK_of (ls := [loopAt (bodyOf fn_s_l1All) [0]]) (by kernel_rfl) ⟨.inr ⟨_, by kernel_rfl, s_l1All_L2_ok⟩, trivial⟩) (fun v => by kernel_rfl)

theorem s_l1All_eq (l : List Int) (lo hi : Int) (hl : l.length < 4611686018427387904) : s_l1All (l, lo, hi) = some (l.all (inB lo hi)) := by
  have h := loop_any (step := fun v => (s_l1All_L2_step v).run) (xs := l) (fun n => !inB lo hi n) (fun k => (lo, hi, l, (l.length : Int), (k : Int))) (.inl false) (.inr ())
    (fun k x hx => by
      have hk := getElem?_lt hx
      simp only [s_l1All_L2_step, T.run, s_l1In_eq, Option.bind_some, Int.toNat_natCast, hx]
      rw [w64_id (by omega) (by omega)]
      cases inB lo hi x <;> simp [hk])
    (by simp [s_l1All_L2_step, T.run])
  simp only [s_l1All, s_l1All_t, T.run, s_l1All_L2]
  simp only [Int.natCast_zero] at h
  rw [h, ← all_any]
  cases hb : l.any (fun n => !inB lo hi n) <;> simp


def s_pzGood_sh : FSh := ⟨[(.ag [(.sl (.int .i64) false false)])], []⟩

def s_pzGood_fo : List FO := [⟨[(.one .sb)], []⟩]
noncomputable def s_pzGood_t : List (Int) → T Bool := fun p_0 =>
  (.sub (s_l1In (((List.length p_0) : Int), ((3 : Int), (9 : Int)))) fun z0 =>
  (.test z0
  (.sub (s_l1All (p_0, ((0 : Int), (w64 (((List.length p_0) : Int) - 2))))) fun z1 =>
   (.ret z1))
  (.ret false)))
noncomputable def s_pzGood (v : List (Int)) : Option Bool := (s_pzGood_t v).run
noncomputable def s_pzGood_E : TEnv := ((E0.add1 n_s_l1In s_l1In_sh s_l1In_fo s_l1In).add1 n_s_l1All s_l1All_sh s_l1All_fo s_l1All)
theorem s_pzGood_Eok : (s_pzGood_E).OK := ((E0ok.add1 s_l1In_ok).add1 s_l1All_ok)
noncomputable def s_pzGood_told : Nat → Option SealT := fun id => none
theorem s_pzGood_ok : FOK Tryd.prog n_s_pzGood s_pzGood_sh s_pzGood_fo s_pzGood :=
  fn_ok (E := s_pzGood_E) (s_pzGood_Eok) (told := s_pzGood_told) (fl := []) (c := bodyOf fn_s_pzGood) (s := s_pzGood_sh) (l := s_pzGood_fo) (tree := s_pzGood_t) fnat_s_pzGood (by kernel_rfl) (by kernel_rfl) (by kernel_rfl) (loopsOK_of (ls := []) (by kernel_rfl) trivial) (fun v => by kernel_rfl)

theorem s_pzGood_eq (l : List Int) (hl : l.length < 4611686018427387904) : s_pzGood l = some (isPz l) := by
  simp only [s_pzGood, s_pzGood_t, T.run, s_l1In_eq, Option.bind_some, s_l1All_eq _ _ _ hl, isPz]
  rw [w64_id (by omega) (by omega)]
  cases inB 3 9 l.length <;> simp


def s_l1Num_sh : FSh := ⟨[(.one (.si .i64))], []⟩

def s_l1Num_fo : List FO := [⟨[(.one .ss)], []⟩]

noncomputable def s_l1Num_t (recv : Int → Option (List UInt8)) : Int → T (List UInt8) := fun n =>
  (.test (decide (n < 10))
  (.test (decide (1 ≤ (List.length (List.set (List.replicate 1 (0 : Int)) 0 (wu8 (w64 (48 + n)))))))
   (.ret (List.map (fun z => UInt8.ofNat z.toNat) (win (List.set (List.replicate 1 (0 : Int)) 0 (wu8 (w64 (48 + n)))) 0 1)))
   .fail)
  (.test true
   (.sub (recv (w64 (Int.tdiv n (10 : Int)))) fun z0 =>
    (.test true
    (.test (decide (1 ≤ (List.length (List.set (List.replicate 1 (0 : Int)) 0 (wu8 (w64 (48 + (Int.tmod n (10 : Int)))))))))
     (.test (decide (((List.length z0) + (List.length (List.map (fun z => UInt8.ofNat z.toNat) (win (List.set (List.replicate 1 (0 : Int)) 0 (wu8 (w64 (48 + (Int.tmod n (10 : Int)))))) 0 1)))) ≤ 140737488355328))
      (.ret (z0 ++ (List.map (fun z => UInt8.ofNat z.toNat) (win (List.set (List.replicate 1 (0 : Int)) 0 (wu8 (w64 (48 + (Int.tmod n (10 : Int)))))) 0 1))))
      .fail)
     .fail)
    .fail))
   .fail))
noncomputable def s_l1Num_f (recv : Int → Option (List UInt8)) (v : Int) : Option (List UInt8) := (s_l1Num_t recv v).run
noncomputable def s_l1Num : Int → Option (List UInt8) := recF s_l1Num_f
noncomputable def s_l1Num_E (recv : Int → Option (List UInt8)) : TEnv := (E0.add1 n_s_l1Num s_l1Num_sh s_l1Num_fo recv)
theorem s_l1Num_Eok (recv : Int → Option (List UInt8)) (hrec : FOK Tryd.prog n_s_l1Num s_l1Num_sh s_l1Num_fo recv) : (s_l1Num_E recv).OK := (E0ok.add1 hrec)
noncomputable def s_l1Num_told (recv : Int → Option (List UInt8)) : Nat → Option SealT := fun id => none
theorem s_l1Num_okr (recv : Int → Option (List UInt8)) (hrec : FOK Tryd.prog n_s_l1Num s_l1Num_sh s_l1Num_fo recv) : FOK Tryd.prog n_s_l1Num s_l1Num_sh s_l1Num_fo (s_l1Num_f recv) :=
  fn_ok (E := s_l1Num_E recv) (s_l1Num_Eok recv hrec) (told := s_l1Num_told recv) (fl := []) (c := bodyOf fn_s_l1Num) (s := s_l1Num_sh) (l := s_l1Num_fo) (tree := s_l1Num_t recv) fnat_s_l1Num (by kernel_rfl) (by kernel_rfl) (by kernel_rfl) (loopsOK_of (ls := []) (by kernel_rfl) trivial) (fun v => by kernel_rfl)
theorem s_l1Num_ok : FOK Tryd.prog n_s_l1Num s_l1Num_sh s_l1Num_fo s_l1Num := FOK.rec (fun F h => s_l1Num_okr F h) recLim

theorem s_l1Num_digit {x : Int} (h : 0 ≤ x ∧ x ≤ 9) : s_l1Num x = some [UInt8.ofNat (48 + x.toNat)] := by
  have key : ∀ k, 0 < k → recN s_l1Num_f k x = some [UInt8.ofNat (48 + x.toNat)] := by
    intro k hk
    match k, hk with
    | k + 1, _ =>
      show s_l1Num_f (recN s_l1Num_f k) x = _
      rw [s_l1Num_f, s_l1Num_t, T.run_test, if_pos (decide_eq_true (by omega)), T.run_test, if_pos (by simp), T.run_ret]
      have : x = 0 ∨ x = 1 ∨ x = 2 ∨ x = 3 ∨ x = 4 ∨ x = 5 ∨ x = 6 ∨ x = 7 ∨ x = 8 ∨ x = 9 := by omega
      rcases this with rfl | rfl | rfl | rfl | rfl | rfl | rfl | rfl | rfl | rfl <;> rfl
  exact key recLim (by decide)



theorem index_cons_hit (c : UInt8) (v : List UInt8) : Lib.index (c :: v) [c] = 0 := by
  refine Lib.index_first (i := 0) (Nat.zero_le _) ?_ (fun j h => absurd h (Nat.not_lt_zero _))
  simp [Lib.occAt]
theorem index_cons_miss {c d : UInt8} (h : d ≠ c) (v : List UInt8) : Lib.index (d :: v) [c] = if Lib.index v [c] == -1 then -1 else Lib.index v [c] + 1 := by
  have hn : Lib.NoOcc (d :: v) [c] 1 := by
    intro j hj
    have : j = 0 := by omega
    subst this
    show (c == d && List.isPrefixOf [] v) = false
    rw [beq_eq_false_iff_ne.2 (Ne.symm h)]; rfl
  have := Lib.index_drop (s := d :: v) (sub := [c]) (i := 1) hn (by simp)
  rw [List.drop_one, List.tail_cons] at this
  exact this
theorem repl_all : ∀ s : List UInt8, Lib.replaceK [48] [46] (Lib.count s [48]) s = s.map (fun b => if b = 48 then 46 else b)
  | [] => by
    have : Lib.index [] [48] = -1 := Lib.index_none (fun j hj => by
      have : j = 0 := by simpa using hj
      subst this; rfl)
    rw [Lib.count_miss this]; rfl
  | c :: v => by
    have ih := repl_all v
    by_cases hc : c = 48
    · subst hc
      have h0 := index_cons_hit 48 v
      have h1 := Lib.count_hit (s := 48 :: v) (sub := [48]) (i := 0) (by simp) h0
      rw [h1, Nat.add_comm, Lib.replaceK_hit [48] [46] _ _ 0 h0]
      simp only [List.take_zero, List.nil_append, List.length_cons, List.length_nil, Nat.zero_add, List.drop_one, List.tail_cons, ih, List.map_cons, if_true]
      rfl
    · have h0 := index_cons_miss hc v
      by_cases hm : Lib.index v [48] = -1
      · rw [hm] at h0
        have h0 : Lib.index (c :: v) [48] = -1 := h0
        rw [Lib.count_miss hm] at ih
        rw [Lib.count_miss h0, List.map_cons, if_neg hc]
        show c :: v = _
        rw [← ih]; rfl
      · have hge := Lib.index_ge v [48]
        obtain ⟨i, hi⟩ : ∃ i : Nat, Lib.index v [48] = i := ⟨(Lib.index v [48]).toNat, by omega⟩
        rw [if_neg (by simpa using hm), hi] at h0
        have h0 : Lib.index (c :: v) [48] = ((i + 1 : Nat) : Int) := by rw [h0]; omega
        have e1 := Lib.count_hit (s := c :: v) (sub := [48]) (by simp) h0
        have e2 := Lib.count_hit (s := v) (sub := [48]) (by simp) hi
        rw [e2, Nat.add_comm, Lib.replaceK_hit [48] [46] _ _ i hi] at ih
        rw [e1, Nat.add_comm, Lib.replaceK_hit [48] [46] _ _ (i + 1) h0, List.map_cons, if_neg hc, ← ih]
        simp only [List.take_succ_cons, List.cons_append, List.length_cons, List.length_nil, Nat.zero_add, List.drop_succ_cons]
theorem replaceAll_val (s : List UInt8) : Lib.replaceAll s [48] [46] = s.map (fun b => if b = 48 then 46 else b) := by
  unfold Lib.replaceAll Lib.replace Lib.replaceNum
  rw [if_neg (by decide), if_pos (Or.inl (by decide)), repl_all]
theorem join_flat : ∀ xs : List (List UInt8), Lib.join xs [] = xs.flatten := by
  intro xs
  unfold Lib.join
  induction xs with
  | nil => rfl
  | cons x r ih =>
    cases r with
    | nil => simp [List.intercalate]
    | cons y r => simp only [List.intercalate, List.intersperse] at ih ⊢; simp [ih]
/-- The text of a puzzle. -/
def pzT (p : List Int) : List UInt8 := p.map fun x => if x = 0 then 46 else UInt8.ofNat (48 + x.toNat)
theorem pzT_text {p : List Int} (h : ∀ x ∈ p, 0 ≤ x ∧ x ≤ 9) : Lib.replaceAll (Lib.join (p.map fun x => Lib.decDigits x.toNat) []) [48] [46] = pzT p := by
  rw [replaceAll_val, join_flat]
  unfold pzT
  induction p with
  | nil => rfl
  | cons x p ih =>
    have ih := ih fun y hy => h y (by simp [hy])
    have hx := h x (by simp)
    rw [List.map_cons, List.flatten_cons, List.map_append, ih, List.map_cons, Lib.decDigits_one (by omega)]
    have : x = 0 ∨ x = 1 ∨ x = 2 ∨ x = 3 ∨ x = 4 ∨ x = 5 ∨ x = 6 ∨ x = 7 ∨ x = 8 ∨ x = 9 := by omega
    rcases this with rfl | rfl | rfl | rfl | rfl | rfl | rfl | rfl | rfl | rfl <;> rfl


def s_PuzzleText_sh : FSh := ⟨[(.ag [(.sl (.int .i64) false false)])], []⟩

def s_PuzzleText_L5_sh : LSh := ⟨(fun ex => match ex with | .norm => [(4, none), (11, none), (12, none), (13, none)] | .exit i => if i = 0 then [(4, none)] else [] | .ret => [(2, none), (3, none)]), [(4, (.one .ss)), (11, (.one (.sl (.int .i64) false false))), (12, (.one (.si .i64))), (13, (.one (.si .i64)))], [], [⟨(.exit 0), [(4, (.one .ss))], []⟩], [], []⟩
noncomputable def s_PuzzleText_L5_step : (List UInt8 × List (Int) × Int × Int) → T ((List UInt8 × List (Int) × Int × Int) ⊕ List UInt8) := fun (out, t11, t12, t13) =>
  (.test (decide (t13 < t12))
  (.test (decide ((0 ≤ t13) ∧ (t13 < ((List.length t11) : Int))))
   (.sub (t11[(Int.toNat t13)]?) fun z0 =>
    (.test (z0 == 0)
    (.test (decide (((List.length out) + 1) ≤ 140737488355328))
     (.ret (Sum.inl ((out ++ [(46 : UInt8)]), (t11, (t12, (w64 (t13 + 1)))))))
     .fail)
    (.sub (s_l1Num z0) fun z1 =>
     (.test (decide (((List.length out) + (List.length z1)) ≤ 140737488355328))
     (.ret (Sum.inl ((out ++ z1), (t11, (t12, (w64 (t13 + 1)))))))
     .fail))))
   .fail)
  (.ret (Sum.inr out)))
noncomputable def s_PuzzleText_L5 (v : (List UInt8 × List (Int) × Int × Int)) : Option (List UInt8) := loopO (fun v => (s_PuzzleText_L5_step v).run) v

def s_PuzzleText_fo : List FO := [⟨[(.one .ss), (.one .sb)], []⟩]
noncomputable def s_PuzzleText_t : List (Int) → T (List UInt8 × Bool) := fun p_0 =>
  (.sub (s_pzGood p_0) fun z0 =>
  (.test (! z0)
  (.ret (([] : List (UInt8)), false))
  (.sub (s_PuzzleText_L5 (([] : List (UInt8)), (p_0, (((List.length p_0) : Int), (0 : Int))))) fun z1 =>
   (.ret (z1, true)))))
noncomputable def s_PuzzleText (v : List (Int)) : Option (List UInt8 × Bool) := (s_PuzzleText_t v).run
noncomputable def s_PuzzleText_E : TEnv := ((E0.add1 n_s_pzGood s_pzGood_sh s_pzGood_fo s_pzGood).add1 n_s_l1Num s_l1Num_sh s_l1Num_fo s_l1Num)
theorem s_PuzzleText_Eok : (s_PuzzleText_E).OK := ((E0ok.add1 s_pzGood_ok).add1 s_l1Num_ok)
noncomputable def s_PuzzleText_told : Nat → Option SealT := fun id => if id = 5 then some (LSh.told s_PuzzleText_L5_sh 0 (s_PuzzleText_L5_step)) else none
theorem s_PuzzleText_L5_ok : ToldOK Tryd.prog 0 (loopAt (bodyOf fn_s_PuzzleText) [0]) (LSh.told s_PuzzleText_L5_sh 0 (s_PuzzleText_L5_step)) :=
  loop_ok (E := s_PuzzleText_E) (s_PuzzleText_Eok) (told := s_PuzzleText_told) (l := s_PuzzleText_L5_sh) (step := s_PuzzleText_L5_step) (loopsOK_of (ls := []) (by kernel_rfl) trivial) (by kernel_rfl) (fun v => by kernel_rfl)
theorem s_PuzzleText_ok : FOK Tryd.prog n_s_PuzzleText s_PuzzleText_sh s_PuzzleText_fo s_PuzzleText :=
  fn_ok (E := s_PuzzleText_E) (s_PuzzleText_Eok) (told := s_PuzzleText_told) (fl := []) (c := bodyOf fn_s_PuzzleText) (s := s_PuzzleText_sh) (l := s_PuzzleText_fo) (tree := s_PuzzleText_t) fnat_s_PuzzleText (by kernel_rfl) (by kernel_rfl) (by kernel_rfl) (loopsOK_of (ls := [loopAt (bodyOf fn_s_PuzzleText) [0]]) (by kernel_rfl) ⟨.inr ⟨_, by kernel_rfl, s_PuzzleText_L5_ok⟩, trivial⟩) (fun v => by kernel_rfl)

theorem s_PuzzleText_L5_eq (p : List Int) (hl : p.length ≤ 100) (hp : ∀ x ∈ p, 0 ≤ x ∧ x ≤ 9) : ∀ (m k : Nat) (out : List UInt8), k + m = p.length → out.length ≤ k →
    s_PuzzleText_L5 (out, (p, ((p.length : Int), (k : Int)))) = some (out ++ pzT (p.drop k)) := by
  intro m
  induction m with
  | zero =>
    intro k out hk ho
    rw [List.drop_of_length_le (by omega)]
    simp only [s_PuzzleText_L5]
    refine loopO_done ?_
    rw [s_PuzzleText_L5_step, T.run_test, if_neg (by rw [decide_eq_true_eq]; omega), T.run_ret]
    simp [pzT]
  | succ m ih =>
    intro k out hk ho
    have hlt : k < p.length := by omega
    have hx := hp p[k] (List.getElem_mem hlt)
    have w1 : w64 ((k : Int) + 1) = ((k + 1 : Nat) : Int) := by rw [w64_id (by omega) (by omega)]; omega
    have hd : pzT (p.drop k) = (if p[k] = 0 then 46 else UInt8.ofNat (48 + p[k].toNat)) :: pzT (p.drop (k + 1)) := by rw [List.drop_eq_getElem_cons hlt]; rfl
    by_cases h0 : p[k] = 0
    · have ih := ih (k + 1) (out ++ [46]) (by omega) (by simp; omega)
      rw [hd, if_pos h0]
      simp only [s_PuzzleText_L5] at ih ⊢
      rw [show out ++ 46 :: pzT (p.drop (k + 1)) = out ++ [46] ++ pzT (p.drop (k + 1)) by simp, ← ih]
      refine loopO_next ?_
      rw [s_PuzzleText_L5_step, T.run_test, if_pos (decide_eq_true (by omega)), T.run_test, if_pos (decide_eq_true (by omega)), T.run_sub, Int.toNat_natCast, List.getElem?_eq_getElem hlt, Option.bind_some, T.run_test, if_pos (by rw [h0]; rfl), T.run_test, if_pos (decide_eq_true (by omega)), T.run_ret, w1]
    · have ih := ih (k + 1) (out ++ [UInt8.ofNat (48 + p[k].toNat)]) (by omega) (by simp; omega)
      rw [hd, if_neg h0]
      simp only [s_PuzzleText_L5] at ih ⊢
      rw [show out ++ UInt8.ofNat (48 + p[k].toNat) :: pzT (p.drop (k + 1)) = out ++ [UInt8.ofNat (48 + p[k].toNat)] ++ pzT (p.drop (k + 1)) by simp, ← ih]
      refine loopO_next ?_
      rw [s_PuzzleText_L5_step, T.run_test, if_pos (decide_eq_true (by omega)), T.run_test, if_pos (decide_eq_true (by omega)), T.run_sub, Int.toNat_natCast, List.getElem?_eq_getElem hlt, Option.bind_some, T.run_test, if_neg (by rw [beq_iff_eq]; exact h0), T.run_sub, s_l1Num_digit hx, Option.bind_some, T.run_test, if_pos (decide_eq_true (by simp only [List.length_cons, List.length_nil]; omega)), T.run_ret, w1]
theorem isPz_dig {p : List Int} (h : isPz p = true) : p.length ≤ 9 ∧ ∀ x ∈ p, 0 ≤ x ∧ x ≤ 9 := by
  have hl := isPz_len h
  unfold isPz at h
  rw [Bool.and_eq_true, List.all_eq_true] at h
  refine ⟨hl.2, fun x hx => ?_⟩
  have := h.2 x hx
  rw [inB_iff] at this
  omega
theorem s_PuzzleText_eq (p : List Int) (hl : p.length < 4611686018427387904) : s_PuzzleText p = some (if isPz p then (pzT p, true) else ([], false)) := by
  rw [s_PuzzleText, s_PuzzleText_t, T.run_sub, s_pzGood_eq p hl, Option.bind_some, T.run_test]
  cases h : isPz p with
  | false => rfl
  | true =>
    obtain ⟨h1, h2⟩ := isPz_dig h
    have hL := s_PuzzleText_L5_eq p (by omega) h2 p.length 0 [] (by omega) (by simp)
    rw [Int.natCast_zero, List.drop_zero, List.nil_append] at hL
    rw [if_neg (by simp), T.run_sub, hL, Option.bind_some, T.run_ret]
    rfl


def i_within_sh : FSh := ⟨[(.one (.si .i64)), (.one (.si .i64)), (.one (.si .i64))], []⟩

def i_within_fo : List FO := [⟨[(.one .sb)], []⟩]
noncomputable def i_within_t : (Int × Int × Int) → T Bool := fun (n, low, high) =>
  (.test (decide (n ≥ low))
  (.ret (decide (n ≤ high)))
  (.ret false))
noncomputable def i_within (v : (Int × Int × Int)) : Option Bool := (i_within_t v).run
noncomputable def i_within_E : TEnv := E0
theorem i_within_Eok : (i_within_E).OK := E0ok
noncomputable def i_within_told : Nat → Option SealT := fun id => none
theorem i_within_ok : FOK Tryd.prog n_i_within i_within_sh i_within_fo i_within :=
  fn_ok (E := i_within_E) (i_within_Eok) (told := i_within_told) (fl := []) (c := bodyOf fn_i_within) (s := i_within_sh) (l := i_within_fo) (tree := i_within_t) fnat_i_within (by kernel_rfl) (by kernel_rfl) (by kernel_rfl) (loopsOK_of (ls := []) (by kernel_rfl) trivial) (fun v => by kernel_rfl)

theorem i_within_eq (n low high : Int) : i_within (n, low, high) = some (inB low high n) := by
  simp only [i_within, i_within_t, T.run, ge_iff_le, decide_eq_true_eq, inB]
  by_cases h : low ≤ n <;> simp [h]


def i_IsPuzzle_1_sh : FSh := ⟨[(.one (.si .i64)), (.one (.pf 0 0 0))], [(.rcd 0 [(.si .i64)])]⟩

def i_IsPuzzle_1_fo : List FO := [⟨[(.one .sb)], [(.rcd 0 [(.si .i64)])]⟩]
noncomputable def i_IsPuzzle_1_t : ((Int × Unit) × Int) → T (Bool × Int) := fun ((k, ()), t1_0) =>
  (.sub (i_within (k, ((0 : Int), (w64 (t1_0 - 2))))) fun z0 =>
  (.ret ((! z0), t1_0)))
noncomputable def i_IsPuzzle_1 (v : ((Int × Unit) × Int)) : Option (Bool × Int) := (i_IsPuzzle_1_t v).run
noncomputable def i_IsPuzzle_1_E : TEnv := (E0.add1 n_i_within i_within_sh i_within_fo i_within)
theorem i_IsPuzzle_1_Eok : (i_IsPuzzle_1_E).OK := (E0ok.add1 i_within_ok)
noncomputable def i_IsPuzzle_1_told : Nat → Option SealT := fun id => none
theorem i_IsPuzzle_1_ok : FOK Tryd.prog n_i_IsPuzzle_1 i_IsPuzzle_1_sh i_IsPuzzle_1_fo i_IsPuzzle_1 :=
  fn_ok (E := i_IsPuzzle_1_E) (i_IsPuzzle_1_Eok) (told := i_IsPuzzle_1_told) (fl := []) (c := bodyOf fn_i_IsPuzzle_1) (s := i_IsPuzzle_1_sh) (l := i_IsPuzzle_1_fo) (tree := i_IsPuzzle_1_t) fnat_i_IsPuzzle_1 (by kernel_rfl) (by kernel_rfl) (by kernel_rfl) (loopsOK_of (ls := []) (by kernel_rfl) trivial) (fun v => by kernel_rfl)

theorem i_IsPuzzle_1_eq (k c : Int) (h : 0 ≤ c) (h2 : c < 4611686018427387904) : i_IsPuzzle_1 ((k, ()), c) = some (!inB 0 (c - 2) k, c) := by
  simp only [i_IsPuzzle_1, i_IsPuzzle_1_t, T.run, i_within_eq, Option.bind_some]
  rw [w64_id (by omega) (by omega)]


def slices_IndexFunc_int__i_IsPuzzle_1_sh : FSh := ⟨[(.one (.sl (.int .i64) false false)), (.clo n_i_IsPuzzle_1 [(.one (.pf 0 0 0))])], [(.rcd 0 [(.si .i64)])]⟩

def slices_IndexFunc_int__i_IsPuzzle_1_L2_sh : LSh := ⟨(fun ex => match ex with | .norm => [(0, none), (1, none), (7, none), (8, none)] | .exit i => if i = 0 then [] else [] | .ret => [(4, none)]), [(0, (.one (.sl (.int .i64) false false))), (1, (.clo n_i_IsPuzzle_1 [(.one (.pf 0 0 0))])), (7, (.one (.si .i64))), (8, (.one (.si .i64)))], [(.rcd 0 [(.si .i64)])], [⟨.ret, [(4, (.one (.si .i64)))], [(.rcd 0 [(.si .i64)])]⟩, ⟨(.exit 0), [], [(.rcd 0 [(.si .i64)])]⟩], [], []⟩
noncomputable def slices_IndexFunc_int__i_IsPuzzle_1_L2_step : ((List (Int) × Unit × Int × Int) × Int) → T (((List (Int) × Unit × Int × Int) × Int) ⊕ ((Int × Int) ⊕ (Unit × Int))) := fun ((s, (), t7, t8), r0_0) =>
  (.test (decide (t8 < t7))
  (.test (decide ((0 ≤ t8) ∧ (t8 < ((List.length s) : Int))))
   (.sub (s[(Int.toNat t8)]?) fun z0 =>
    (.sub (i_IsPuzzle_1 ((z0, ()), r0_0)) fun z1 =>
    (.test z1.1
    (.ret (Sum.inr (Sum.inl (t8, z1.2))))
    (.ret (Sum.inl ((s, ((), (t7, (w64 (t8 + 1))))), z1.2))))))
   .fail)
  (.ret (Sum.inr (Sum.inr ((), r0_0)))))
noncomputable def slices_IndexFunc_int__i_IsPuzzle_1_L2 (v : ((List (Int) × Unit × Int × Int) × Int)) : Option ((Int × Int) ⊕ (Unit × Int)) := loopO (fun v => (slices_IndexFunc_int__i_IsPuzzle_1_L2_step v).run) v

def slices_IndexFunc_int__i_IsPuzzle_1_fo : List FO := [⟨[(.one (.si .i64))], [(.rcd 0 [(.si .i64)])]⟩]
noncomputable def slices_IndexFunc_int__i_IsPuzzle_1_t : ((List (Int) × Unit) × Int) → T (Int × Int) := fun ((s, ()), r0_0) =>
  (.sub (slices_IndexFunc_int__i_IsPuzzle_1_L2 ((s, ((), (((List.length s) : Int), (0 : Int)))), r0_0)) fun z0 =>
  (.test (Sum.isLeft z0)
  (.sub (Sum.getLeft? z0) fun z1 =>
   (.ret (z1.1, z1.2)))
  (.sub (Sum.getRight? z0) fun z2 =>
   (.ret ((-1), z2.2)))))
noncomputable def slices_IndexFunc_int__i_IsPuzzle_1 (v : ((List (Int) × Unit) × Int)) : Option (Int × Int) := (slices_IndexFunc_int__i_IsPuzzle_1_t v).run
noncomputable def slices_IndexFunc_int__i_IsPuzzle_1_E : TEnv := (E0.add1 n_i_IsPuzzle_1 i_IsPuzzle_1_sh i_IsPuzzle_1_fo i_IsPuzzle_1)
theorem slices_IndexFunc_int__i_IsPuzzle_1_Eok : (slices_IndexFunc_int__i_IsPuzzle_1_E).OK := (E0ok.add1 i_IsPuzzle_1_ok)
noncomputable def slices_IndexFunc_int__i_IsPuzzle_1_told : Nat → Option SealT := fun id => if id = 2 then some (LSh.told slices_IndexFunc_int__i_IsPuzzle_1_L2_sh 1 (slices_IndexFunc_int__i_IsPuzzle_1_L2_step)) else none
theorem slices_IndexFunc_int__i_IsPuzzle_1_L2_ok : ToldOK Tryd.prog 1 (loopAt (bodyOf fn_slices_IndexFunc_int) [0]) (LSh.told slices_IndexFunc_int__i_IsPuzzle_1_L2_sh 1 (slices_IndexFunc_int__i_IsPuzzle_1_L2_step)) :=
  loop_ok (E := slices_IndexFunc_int__i_IsPuzzle_1_E) (slices_IndexFunc_int__i_IsPuzzle_1_Eok) (told := slices_IndexFunc_int__i_IsPuzzle_1_told) (l := slices_IndexFunc_int__i_IsPuzzle_1_L2_sh) (step := slices_IndexFunc_int__i_IsPuzzle_1_L2_step) (loopsOK_of (ls := []) (by kernel_rfl) trivial) (by kernel_rfl) (fun v => by kernel_rfl)
theorem slices_IndexFunc_int__i_IsPuzzle_1_ok : FOK Tryd.prog n_slices_IndexFunc_int slices_IndexFunc_int__i_IsPuzzle_1_sh slices_IndexFunc_int__i_IsPuzzle_1_fo slices_IndexFunc_int__i_IsPuzzle_1 :=
  fn_ok (E := slices_IndexFunc_int__i_IsPuzzle_1_E) (slices_IndexFunc_int__i_IsPuzzle_1_Eok) (told := slices_IndexFunc_int__i_IsPuzzle_1_told) (fl := []) (c := bodyOf fn_slices_IndexFunc_int) (s := slices_IndexFunc_int__i_IsPuzzle_1_sh) (l := slices_IndexFunc_int__i_IsPuzzle_1_fo) (tree := slices_IndexFunc_int__i_IsPuzzle_1_t) fnat_slices_IndexFunc_int (by kernel_rfl) (by kernel_rfl) (by kernel_rfl) (loopsOK_of (ls := [loopAt (bodyOf fn_slices_IndexFunc_int) [0]]) (by kernel_rfl) ⟨.inr ⟨_, by kernel_rfl, slices_IndexFunc_int__i_IsPuzzle_1_L2_ok⟩, trivial⟩) (fun v => by kernel_rfl)

theorem slices_IndexFunc_int__i_IsPuzzle_1_eq (l : List Int) (c : Int) (hl : l.length < 4611686018427387904) (h : 0 ≤ c) (h2 : c < 4611686018427387904) : slices_IndexFunc_int__i_IsPuzzle_1 ((l, ()), c) = some (idxI (fun k => !inB 0 (c - 2) k) l, c) := by
  have h := loop_find (step := fun v => (slices_IndexFunc_int__i_IsPuzzle_1_L2_step v).run) (xs := l) (fun k => !inB 0 (c - 2) k) (fun k => ((l, (), (l.length : Int), (k : Int)), c)) (fun k => .inl ((k : Int), c)) (.inr ((), c))
    (fun k x hx => by
      have hk := getElem?_lt hx
      simp only [slices_IndexFunc_int__i_IsPuzzle_1_L2_step, T.run, i_IsPuzzle_1_eq _ _ h h2, Option.bind_some, Int.toNat_natCast, hx]
      rw [w64_id (by omega) (by omega)]
      cases inB 0 (c - 2) x <;> simp [hk])
    (by simp [slices_IndexFunc_int__i_IsPuzzle_1_L2_step, T.run])
  simp only [slices_IndexFunc_int__i_IsPuzzle_1, slices_IndexFunc_int__i_IsPuzzle_1_t, T.run, slices_IndexFunc_int__i_IsPuzzle_1_L2]
  simp only [Int.natCast_zero] at h
  rw [h, idxI]
  cases l.findIdx? (fun k => !inB 0 (c - 2) k) <;> simp


def slices_ContainsFunc_int__i_IsPuzzle_1_sh : FSh := ⟨[(.one (.sl (.int .i64) false false)), (.clo n_i_IsPuzzle_1 [(.one (.pf 0 0 0))])], [(.rcd 0 [(.si .i64)])]⟩

def slices_ContainsFunc_int__i_IsPuzzle_1_fo : List FO := [⟨[(.one .sb)], [(.rcd 0 [(.si .i64)])]⟩]
noncomputable def slices_ContainsFunc_int__i_IsPuzzle_1_t : ((List (Int) × Unit) × Int) → T (Bool × Int) := fun ((s, ()), r0_0) =>
  (.sub (slices_IndexFunc_int__i_IsPuzzle_1 ((s, ()), r0_0)) fun z0 =>
  (.ret ((decide (z0.1 ≥ 0)), z0.2)))
noncomputable def slices_ContainsFunc_int__i_IsPuzzle_1 (v : ((List (Int) × Unit) × Int)) : Option (Bool × Int) := (slices_ContainsFunc_int__i_IsPuzzle_1_t v).run
noncomputable def slices_ContainsFunc_int__i_IsPuzzle_1_E : TEnv := (E0.add1 n_slices_IndexFunc_int slices_IndexFunc_int__i_IsPuzzle_1_sh slices_IndexFunc_int__i_IsPuzzle_1_fo slices_IndexFunc_int__i_IsPuzzle_1)
theorem slices_ContainsFunc_int__i_IsPuzzle_1_Eok : (slices_ContainsFunc_int__i_IsPuzzle_1_E).OK := (E0ok.add1 slices_IndexFunc_int__i_IsPuzzle_1_ok)
noncomputable def slices_ContainsFunc_int__i_IsPuzzle_1_told : Nat → Option SealT := fun id => none
theorem slices_ContainsFunc_int__i_IsPuzzle_1_ok : FOK Tryd.prog n_slices_ContainsFunc_int slices_ContainsFunc_int__i_IsPuzzle_1_sh slices_ContainsFunc_int__i_IsPuzzle_1_fo slices_ContainsFunc_int__i_IsPuzzle_1 :=
  fn_ok (E := slices_ContainsFunc_int__i_IsPuzzle_1_E) (slices_ContainsFunc_int__i_IsPuzzle_1_Eok) (told := slices_ContainsFunc_int__i_IsPuzzle_1_told) (fl := []) (c := bodyOf fn_slices_ContainsFunc_int) (s := slices_ContainsFunc_int__i_IsPuzzle_1_sh) (l := slices_ContainsFunc_int__i_IsPuzzle_1_fo) (tree := slices_ContainsFunc_int__i_IsPuzzle_1_t) fnat_slices_ContainsFunc_int (by kernel_rfl) (by kernel_rfl) (by kernel_rfl) (loopsOK_of (ls := []) (by kernel_rfl) trivial) (fun v => by kernel_rfl)

theorem slices_ContainsFunc_int__i_IsPuzzle_1_eq (l : List Int) (c : Int) (hl : l.length < 4611686018427387904) (h : 0 ≤ c) (h2 : c < 4611686018427387904) : slices_ContainsFunc_int__i_IsPuzzle_1 ((l, ()), c) = some (l.any (fun k => !inB 0 (c - 2) k), c) := by
  simp only [slices_ContainsFunc_int__i_IsPuzzle_1, slices_ContainsFunc_int__i_IsPuzzle_1_t, T.run, slices_IndexFunc_int__i_IsPuzzle_1_eq _ _ hl h h2, Option.bind_some, idxI_ge]


def i_IsPuzzle_sh : FSh := ⟨[(.ag [(.sl (.int .i64) false false)])], []⟩

def i_IsPuzzle_fo : List FO := [⟨[(.one .sb)], []⟩]
noncomputable def i_IsPuzzle_t : List (Int) → T Bool := fun p_0 =>
  (.sub (i_within (((List.length p_0) : Int), ((3 : Int), (9 : Int)))) fun z0 =>
  (.test z0
  (.sub (slices_ContainsFunc_int__i_IsPuzzle_1 ((p_0, ()), ((List.length p_0) : Int))) fun z1 =>
   (.ret (! z1.1)))
  (.ret false)))
noncomputable def i_IsPuzzle (v : List (Int)) : Option Bool := (i_IsPuzzle_t v).run
noncomputable def i_IsPuzzle_E : TEnv := ((E0.add1 n_i_within i_within_sh i_within_fo i_within).add1 n_slices_ContainsFunc_int slices_ContainsFunc_int__i_IsPuzzle_1_sh slices_ContainsFunc_int__i_IsPuzzle_1_fo slices_ContainsFunc_int__i_IsPuzzle_1)
theorem i_IsPuzzle_Eok : (i_IsPuzzle_E).OK := ((E0ok.add1 i_within_ok).add1 slices_ContainsFunc_int__i_IsPuzzle_1_ok)
noncomputable def i_IsPuzzle_told : Nat → Option SealT := fun id => none
theorem i_IsPuzzle_ok : FOK Tryd.prog n_i_IsPuzzle i_IsPuzzle_sh i_IsPuzzle_fo i_IsPuzzle :=
  fn_ok (E := i_IsPuzzle_E) (i_IsPuzzle_Eok) (told := i_IsPuzzle_told) (fl := []) (c := bodyOf fn_i_IsPuzzle) (s := i_IsPuzzle_sh) (l := i_IsPuzzle_fo) (tree := i_IsPuzzle_t) fnat_i_IsPuzzle (by kernel_rfl) (by kernel_rfl) (by kernel_rfl) (loopsOK_of (ls := []) (by kernel_rfl) trivial) (fun v => by kernel_rfl)

theorem i_IsPuzzle_eq (l : List Int) (hl : l.length < 4611686018427387904) : i_IsPuzzle l = some (isPz l) := by
  simp only [i_IsPuzzle, i_IsPuzzle_t, T.run, i_within_eq, Option.bind_some, slices_ContainsFunc_int__i_IsPuzzle_1_eq l l.length hl (by omega) (by omega), all_any, isPz]
  cases inB 3 9 l.length <;> simp


def strconv_Itoa_sh : FSh := ⟨[.one (.si .i64)], []⟩
def strconv_Itoa_fo : List FO := [⟨[.one .ss], []⟩]
def strconv_Itoa (x : Int) : Option (List UInt8) := if 0 ≤ x ∧ x < 100 then some (Lib.decDigits x.toNat) else none
def strconv_Itoa_ren : Shelf.Ren := ⟨fun k => if k = 171 then 88 else if k = 243 then 111 else if k = 246 then 124 else if k = 283 then 134 else if k = 284 then 135 else if k = 285 then 136 else if k = 286 then 137 else if k = 129 then 143 else if k = 317 then 142 else if k = 318 then 144 else if k = 319 then 145 else if k = 320 then 146 else if k = 337 then 147 else if k = 338 then 148 else k, fun k => if k = 3 then 3 else if k = 9 then 9 else if k = 2 then 2 else if k = 4 then 4 else if k = 171 then 135 else if k = 0 then 0 else if k = 53 then 76 else if k = 37 then 38 else if k = 5 then 5 else if k = 173 then 138 else if k = 212 then 145 else if k = 51 then 141 else if k = 20 then 20 else if k = 213 then 146 else if k = 46 then 126 else if k = 232 then 149 else if k = 233 then 150 else k, fun k => if k = 17 then 3 else if k = 18 then 4 else if k = 19 then 5 else k⟩
theorem strconv_Itoa_lay : Lays.n171 Tryd.prog strconv_Itoa_ren :=
  { mixed := by kernel_rfl, f129 := by kernel_rfl, f171 := by kernel_rfl, f243 := by kernel_rfl, f246 := by kernel_rfl, f283 := by kernel_rfl, f284 := by kernel_rfl, f285 := by kernel_rfl, f286 := by kernel_rfl, f317 := by kernel_rfl, f318 := by kernel_rfl, f319 := by kernel_rfl, f320 := by kernel_rfl, f337 := by kernel_rfl, f338 := by kernel_rfl, t0 := by kernel_rfl, a0 := fun w => by kernel_rfl, z0 := fun w => by kernel_rfl, v0 := fun w => by kernel_rfl, t2 := by kernel_rfl, a2 := fun w => by kernel_rfl, z2 := fun w => by kernel_rfl, v2 := fun w => by kernel_rfl, t3 := by kernel_rfl, a3 := fun w => by kernel_rfl, z3 := fun w => by kernel_rfl, v3 := fun w => by kernel_rfl, t4 := by kernel_rfl, a4 := fun w => by kernel_rfl, z4 := fun w => by kernel_rfl, v4 := fun w => by kernel_rfl, t5 := by kernel_rfl, a5 := fun w => by kernel_rfl, z5 := fun w => by kernel_rfl, v5 := fun w => by kernel_rfl, t9 := by kernel_rfl, a9 := fun w => by kernel_rfl, z9 := fun w => by kernel_rfl, v9 := fun w => by kernel_rfl, t20 := by kernel_rfl, a20 := fun w => by kernel_rfl, z20 := fun w => by kernel_rfl, v20 := fun w => by kernel_rfl, t37 := by kernel_rfl, a37 := fun w => by kernel_rfl, z37 := fun w => by kernel_rfl, v37 := fun w => by kernel_rfl, t46 := by kernel_rfl, a46 := fun w => by kernel_rfl, z46 := fun w => by kernel_rfl, v46 := fun w => by kernel_rfl, t51 := by kernel_rfl, a51 := fun w => by kernel_rfl, z51 := fun w => by kernel_rfl, v51 := fun w => by kernel_rfl, t53 := by kernel_rfl, a53 := fun w => by kernel_rfl, z53 := fun w => by kernel_rfl, v53 := fun w => by kernel_rfl, t171 := by kernel_rfl, a171 := fun w => by kernel_rfl, z171 := fun w => by kernel_rfl, v171 := fun w => by kernel_rfl, t173 := by kernel_rfl, a173 := fun w => by kernel_rfl, z173 := fun w => by kernel_rfl, v173 := fun w => by kernel_rfl, t212 := by kernel_rfl, a212 := fun w => by kernel_rfl, z212 := fun w => by kernel_rfl, v212 := fun w => by kernel_rfl, t213 := by kernel_rfl, a213 := fun w => by kernel_rfl, z213 := fun w => by kernel_rfl, t232 := by kernel_rfl, a232 := fun w => by kernel_rfl, z232 := fun w => by kernel_rfl, v232 := fun w => by kernel_rfl, t233 := by kernel_rfl, a233 := fun w => by kernel_rfl, z233 := fun w => by kernel_rfl, v233 := fun w => by kernel_rfl, g17 := by kernel_rfl, g18 := by kernel_rfl, g19 := by kernel_rfl }
theorem strconv_Itoa_ok : FOK Tryd.prog n_strconv_Itoa strconv_Itoa_sh strconv_Itoa_fo strconv_Itoa :=
  strItoa_ok ⟨_, fnat_strconv_Itoa, by kernel_rfl, by kernel_rfl⟩ (ρr := strconv_Itoa_ren) rfl strconv_Itoa_lay

def strings_Join_sh : FSh := ⟨[.one (.rw 0 0), .one .ss], [.row 0 .str]⟩
def strings_Join_fo : List FO := [⟨[.one .ss], [.row 0 .str]⟩]
def strings_Join (v : (Unit × List UInt8) × List (List UInt8)) : Option (List UInt8 × List (List UInt8)) := if v.2.length ≤ 140737488355328 ∧ (Lib.join v.2 v.1.2).length ≤ 140737488355328 then some (Lib.join v.2 v.1.2, v.2) else none
def strings_Join_ren : Shelf.Ren := ⟨fun k => if k = 156 then 89 else if k = 165 then 106 else if k = 166 then 108 else if k = 169 then 110 else if k = 240 then 120 else if k = 241 then 121 else if k = 276 then 128 else if k = 277 then 129 else k, fun k => if k = 31 then 91 else if k = 9 then 9 else if k = 3 then 3 else if k = 4 then 4 else if k = 0 then 0 else if k = 20 then 20 else if k = 72 then 109 else if k = 76 then 113 else if k = 70 then 107 else if k = 37 then 38 else if k = 75 then 112 else if k = 127 then 124 else if k = 164 then 128 else if k = 5 then 5 else if k = 80 then 79 else k, fun k => k⟩
theorem strings_Join_lay : Lays.n156 Tryd.prog strings_Join_ren :=
  { mixed := by kernel_rfl, f156 := by kernel_rfl, f165 := by kernel_rfl, f166 := by kernel_rfl, f169 := by kernel_rfl, f240 := by kernel_rfl, f241 := by kernel_rfl, f276 := by kernel_rfl, f277 := by kernel_rfl, t0 := by kernel_rfl, a0 := fun w => by kernel_rfl, z0 := fun w => by kernel_rfl, v0 := fun w => by kernel_rfl, t3 := by kernel_rfl, a3 := fun w => by kernel_rfl, z3 := fun w => by kernel_rfl, v3 := fun w => by kernel_rfl, t4 := by kernel_rfl, a4 := fun w => by kernel_rfl, z4 := fun w => by kernel_rfl, v4 := fun w => by kernel_rfl, t9 := by kernel_rfl, a9 := fun w => by kernel_rfl, z9 := fun w => by kernel_rfl, v9 := fun w => by kernel_rfl, t20 := by kernel_rfl, a20 := fun w => by kernel_rfl, z20 := fun w => by kernel_rfl, v20 := fun w => by kernel_rfl, t31 := by kernel_rfl, a31 := fun w => by kernel_rfl, z31 := fun w => by kernel_rfl, v31 := fun w => by kernel_rfl, t37 := by kernel_rfl, a37 := fun w => by kernel_rfl, z37 := fun w => by kernel_rfl, v37 := fun w => by kernel_rfl, t70 := by kernel_rfl, a70 := fun w => by kernel_rfl, z70 := fun w => by kernel_rfl, v70 := fun w => by kernel_rfl, t72 := by kernel_rfl, a72 := fun w => by kernel_rfl, z72 := fun w => by kernel_rfl, v72 := fun w => by kernel_rfl, t75 := by kernel_rfl, a75 := fun w => by kernel_rfl, z75 := fun w => by kernel_rfl, v75 := fun w => by kernel_rfl, t76 := by kernel_rfl, a76 := fun w => by kernel_rfl, z76 := fun w => by kernel_rfl, v76 := fun w => by kernel_rfl, t127 := by kernel_rfl, a127 := fun w => by kernel_rfl, z127 := fun w => by kernel_rfl, v127 := fun w => by kernel_rfl, t164 := by kernel_rfl, a164 := fun w => by kernel_rfl, z164 := fun w => by kernel_rfl, v164 := fun w => by kernel_rfl }
theorem strings_Join_ext : Builder.Extra Tryd.prog strings_Join_ren :=
  { sizeBuilder := by kernel_rfl, liesBuilder := by kernel_rfl, t5 := by kernel_rfl, a5 := fun w => by kernel_rfl, z5 := fun w => by kernel_rfl, v5 := fun w => by kernel_rfl, infoByte := by kernel_rfl, cellsByte := by kernel_rfl, sizeByte := by kernel_rfl, neB5 := by decide }
theorem strings_Join_ok : FOK Tryd.prog n_strings_Join strings_Join_sh strings_Join_fo strings_Join :=
  strJoin_ok ⟨_, fnat_strings_Join, by kernel_rfl, by kernel_rfl⟩ (ρr := strings_Join_ren) rfl strings_Join_lay strings_Join_ext

def i_numbersText_sh : FSh := ⟨[(.one (.sl (.int .i64) false false)), (.one .ss)], []⟩

def i_numbersText_L3_sh : LSh := ⟨(fun ex => match ex with | .norm => [(1, none), (5, none), (9, none), (10, none), (11, none)] | .exit i => if i = 0 then [(1, none), (5, none)] else [] | .ret => [(4, none)]), [(1, (.one .ss)), (5, (.one (.rw 0 0))), (9, (.one (.sl (.int .i64) false false))), (10, (.one (.si .i64))), (11, (.one (.si .i64)))], [(.row 0 .str)], [⟨(.exit 0), [(1, (.one .ss)), (5, (.one (.rw 0 0)))], [(.row 0 .str)]⟩], [], []⟩
noncomputable def i_numbersText_L3_step : ((List UInt8 × Unit × List (Int) × Int × Int) × List (List UInt8)) → T (((List UInt8 × Unit × List (Int) × Int × Int) × List (List UInt8)) ⊕ ((List UInt8 × Unit) × List (List UInt8))) := fun ((sign, (), t9, t10, t11), words) =>
  (.test (decide (t11 < t10))
  (.test (decide ((0 ≤ t11) ∧ (t11 < ((List.length t9) : Int))))
   (.sub (t9[(Int.toNat t11)]?) fun z0 =>
    (.sub (strconv_Itoa z0) fun z1 =>
    (.test (decide (1 ≤ (List.length (List.set (List.replicate 1 ([] : List (UInt8))) 0 z1))))
    (.test (decide ((0 + (List.length words)) ≤ (List.length words)))
     (.test (decide ((2 * (((List.length words) + (List.length (win (List.set (List.replicate 1 ([] : List (UInt8))) 0 z1) 0 1))) * 17)) ≤ 140737488355328))
      (.test (decide ((0 = 0) ∧ (((List.length words) + (List.length (win (List.set (List.replicate 1 ([] : List (UInt8))) 0 z1) 0 1))) = (List.length ((win words 0 (List.length words)) ++ (win (List.set (List.replicate 1 ([] : List (UInt8))) 0 z1) 0 1))))))
       (.ret (Sum.inl ((sign, ((), (t9, (t10, (w64 (t11 + 1)))))), ((win words 0 (List.length words)) ++ (win (List.set (List.replicate 1 ([] : List (UInt8))) 0 z1) 0 1)))))
       .fail)
      .fail)
     .fail)
    .fail)))
   .fail)
  (.test (decide ((0 = 0) ∧ ((List.length words) = (List.length words))))
   (.ret (Sum.inr ((sign, ()), words)))
   .fail))
noncomputable def i_numbersText_L3 (v : ((List UInt8 × Unit × List (Int) × Int × Int) × List (List UInt8))) : Option ((List UInt8 × Unit) × List (List UInt8)) := loopO (fun v => (i_numbersText_L3_step v).run) v

def i_numbersText_fo : List FO := [⟨[(.one .ss)], []⟩]
noncomputable def i_numbersText_t : (List (Int) × List UInt8) → T (List UInt8) := fun (list, sign) =>
  (.test true
  (.sub (i_numbersText_L3 ((sign, ((), (list, (((List.length list) : Int), (0 : Int))))), (List.replicate 0 ([] : List (UInt8))))) fun z0 =>
   (.test (decide ((0 = 0) ∧ ((List.length z0.2) = (List.length z0.2))))
   (.sub (strings_Join (((), z0.1.1), z0.2)) fun z1 =>
    (.ret z1.1))
   .fail))
  .fail)
noncomputable def i_numbersText (v : (List (Int) × List UInt8)) : Option (List UInt8) := (i_numbersText_t v).run
noncomputable def i_numbersText_E : TEnv := ((E0.add1 n_strconv_Itoa strconv_Itoa_sh strconv_Itoa_fo strconv_Itoa).add1 n_strings_Join strings_Join_sh strings_Join_fo strings_Join)
theorem i_numbersText_Eok : (i_numbersText_E).OK := ((E0ok.add1 strconv_Itoa_ok).add1 strings_Join_ok)
noncomputable def i_numbersText_told : Nat → Option SealT := fun id => if id = 3 then some (LSh.told i_numbersText_L3_sh 0 (i_numbersText_L3_step)) else none
theorem i_numbersText_L3_ok : ToldOK Tryd.prog 0 (loopAt (bodyOf fn_i_numbersText) [0]) (LSh.told i_numbersText_L3_sh 0 (i_numbersText_L3_step)) :=
  loop_ok (E := i_numbersText_E) (i_numbersText_Eok) (told := i_numbersText_told) (l := i_numbersText_L3_sh) (step := i_numbersText_L3_step) (loopsOK_of (ls := []) (by kernel_rfl) trivial) (by kernel_rfl) (fun v => by kernel_rfl)
theorem i_numbersText_ok : FOK Tryd.prog n_i_numbersText i_numbersText_sh i_numbersText_fo i_numbersText :=
  fn_ok (E := i_numbersText_E) (i_numbersText_Eok) (told := i_numbersText_told) (fl := []) (c := bodyOf fn_i_numbersText) (s := i_numbersText_sh) (l := i_numbersText_fo) (tree := i_numbersText_t) fnat_i_numbersText (by kernel_rfl) (by kernel_rfl) (by kernel_rfl) (loopsOK_of (ls := [loopAt (bodyOf fn_i_numbersText) [0]]) (by kernel_rfl) ⟨.inr ⟨_, by kernel_rfl, i_numbersText_L3_ok⟩, trivial⟩) (fun v => by kernel_rfl)

theorem i_numbersText_L3_eq (p : List Int) (sign : List UInt8) (hl : p.length ≤ 1000) (hp : ∀ x ∈ p, 0 ≤ x ∧ x < 100) : ∀ (m k : Nat) (out : List (List UInt8)), k + m = p.length → out.length = k →
    i_numbersText_L3 ((sign, ((), (p, ((p.length : Int), (k : Int))))), out) = some ((sign, ()), out ++ (p.drop k).map fun x => Lib.decDigits x.toNat) := by
  intro m
  induction m with
  | zero =>
    intro k out hk ho
    rw [List.drop_of_length_le (by omega)]
    simp only [i_numbersText_L3]
    refine loopO_done ?_
    rw [i_numbersText_L3_step, T.run_test, if_neg (by rw [decide_eq_true_eq]; omega), T.run_test, if_pos (by simp), T.run_ret]
    simp
  | succ m ih =>
    intro k out hk ho
    have hlt : k < p.length := by omega
    have hx := hp p[k] (List.getElem_mem hlt)
    have w1 : w64 ((k : Int) + 1) = ((k + 1 : Nat) : Int) := by rw [w64_id (by omega) (by omega)]; omega
    have ih := ih (k + 1) (out ++ [Lib.decDigits p[k].toNat]) (by omega) (by simp [ho])
    have hone : win (List.set (List.replicate 1 ([] : List UInt8)) 0 (Lib.decDigits p[k].toNat)) 0 1 = [Lib.decDigits p[k].toNat] := rfl
    have hi : strconv_Itoa p[k] = some (Lib.decDigits p[k].toNat) := by unfold strconv_Itoa; rw [if_pos hx]
    rw [List.drop_eq_getElem_cons hlt, List.map_cons]
    simp only [i_numbersText_L3] at ih ⊢
    rw [show out ++ Lib.decDigits p[k].toNat :: ((p.drop (k + 1)).map fun x => Lib.decDigits x.toNat) = out ++ [Lib.decDigits p[k].toNat] ++ ((p.drop (k + 1)).map fun x => Lib.decDigits x.toNat) by simp, ← ih]
    refine loopO_next ?_
    rw [i_numbersText_L3_step, T.run_test, if_pos (decide_eq_true (by omega)), T.run_test, if_pos (decide_eq_true (by omega)), T.run_sub, Int.toNat_natCast, List.getElem?_eq_getElem hlt, Option.bind_some, T.run_sub, hi, Option.bind_some, T.run_test, if_pos (by simp), T.run_test, if_pos (by simp), hone, win_all,
      T.run_test, if_pos (decide_eq_true (by simp only [List.length_cons, List.length_nil]; omega)), T.run_test, if_pos (by simp), T.run_ret, w1]
theorem i_numbersText_eq (p : List Int) (sign : List UInt8) (hl : p.length ≤ 1000) (hp : ∀ x ∈ p, 0 ≤ x ∧ x < 100) (hj : (Lib.join (p.map fun x => Lib.decDigits x.toNat) sign).length ≤ 140737488355328) :
    i_numbersText (p, sign) = some (Lib.join (p.map fun x => Lib.decDigits x.toNat) sign) := by
  have hL := i_numbersText_L3_eq p sign hl hp p.length 0 [] (by omega) rfl
  rw [Int.natCast_zero, List.drop_zero, List.nil_append] at hL
  have hJ : strings_Join (((), sign), p.map fun x => Lib.decDigits x.toNat) = some (Lib.join (p.map fun x => Lib.decDigits x.toNat) sign, p.map fun x => Lib.decDigits x.toNat) := by
    unfold strings_Join
    rw [if_pos ⟨by simp only [List.length_map]; omega, hj⟩]
  rw [i_numbersText, i_numbersText_t, T.run_test, if_pos rfl, T.run_sub, List.replicate_zero, hL, Option.bind_some, T.run_test, if_pos (by simp), T.run_sub, hJ, Option.bind_some, T.run_ret]


def strings_ReplaceAll_sh : FSh := ⟨[.one .ss, .one .ss, .one .ss], []⟩
def strings_ReplaceAll_fo : List FO := [⟨[.one .ss], []⟩]
def strings_ReplaceAll (v : List UInt8 × List UInt8 × List UInt8) : Option (List UInt8) := if v.1.length < 4294967281 ∧ 1 ≤ v.2.1.length ∧ v.2.2.length ≤ v.2.1.length then some (Lib.replaceAll v.1 v.2.1 v.2.2) else none
def strings_ReplaceAll_ren : Shelf.Ren := ⟨fun k => if k = 155 then 61 else if k = 154 then 87 else if k = 138 then 105 else if k = 165 then 106 else if k = 143 then 107 else if k = 166 then 108 else if k = 197 then 109 else if k = 169 then 110 else if k = 195 then 118 else if k = 218 then 119 else if k = 240 then 120 else if k = 241 then 121 else if k = 219 then 122 else if k = 260 then 123 else if k = 276 then 128 else if k = 277 then 129 else if k = 217 then 130 else if k = 225 then 131 else if k = 224 then 132 else if k = 267 then 133 else if k = 266 then 140 else if k = 314 then 141 else k, fun k => if k = 9 then 9 else if k = 3 then 3 else if k = 4 then 4 else if k = 72 then 109 else if k = 0 then 0 else if k = 76 then 113 else if k = 105 then 115 else if k = 21 then 21 else if k = 5 then 5 else if k = 70 then 107 else if k = 20 then 20 else if k = 37 then 38 else if k = 75 then 112 else if k = 127 then 124 else if k = 164 then 128 else if k = 46 then 126 else if k = 119 then 131 else if k = 139 then 134 else if k = 138 then 133 else if k = 146 then 142 else if k = 51 then 141 else if k = 80 then 79 else k, fun k => if k = 1 then 0 else if k = 3 then 1 else if k = 4 then 2 else k⟩
theorem strings_ReplaceAll_lay : Lays.n155 Tryd.prog strings_ReplaceAll_ren :=
  { mixed := by kernel_rfl, f138 := by kernel_rfl, f143 := by kernel_rfl, f154 := by kernel_rfl, f155 := by kernel_rfl, f165 := by kernel_rfl, f166 := by kernel_rfl, f169 := by kernel_rfl, f195 := by kernel_rfl, f197 := by kernel_rfl, f217 := by kernel_rfl, f218 := by kernel_rfl, f219 := by kernel_rfl, f224 := by kernel_rfl, f225 := by kernel_rfl, f240 := by kernel_rfl, f241 := by kernel_rfl, f260 := by kernel_rfl, f266 := by kernel_rfl, f267 := by kernel_rfl, f276 := by kernel_rfl, f277 := by kernel_rfl, f314 := by kernel_rfl, t0 := by kernel_rfl, a0 := fun w => by kernel_rfl, z0 := fun w => by kernel_rfl, v0 := fun w => by kernel_rfl, t3 := by kernel_rfl, a3 := fun w => by kernel_rfl, z3 := fun w => by kernel_rfl, v3 := fun w => by kernel_rfl, t4 := by kernel_rfl, a4 := fun w => by kernel_rfl, z4 := fun w => by kernel_rfl, v4 := fun w => by kernel_rfl, t5 := by kernel_rfl, a5 := fun w => by kernel_rfl, z5 := fun w => by kernel_rfl, v5 := fun w => by kernel_rfl, t9 := by kernel_rfl, a9 := fun w => by kernel_rfl, z9 := fun w => by kernel_rfl, v9 := fun w => by kernel_rfl, t20 := by kernel_rfl, a20 := fun w => by kernel_rfl, z20 := fun w => by kernel_rfl, v20 := fun w => by kernel_rfl, t21 := by kernel_rfl, a21 := fun w => by kernel_rfl, z21 := fun w => by kernel_rfl, v21 := fun w => by kernel_rfl, t37 := by kernel_rfl, a37 := fun w => by kernel_rfl, z37 := fun w => by kernel_rfl, v37 := fun w => by kernel_rfl, t46 := by kernel_rfl, a46 := fun w => by kernel_rfl, z46 := fun w => by kernel_rfl, v46 := fun w => by kernel_rfl, t51 := by kernel_rfl, a51 := fun w => by kernel_rfl, z51 := fun w => by kernel_rfl, v51 := fun w => by kernel_rfl, t70 := by kernel_rfl, a70 := fun w => by kernel_rfl, z70 := fun w => by kernel_rfl, v70 := fun w => by kernel_rfl, t72 := by kernel_rfl, a72 := fun w => by kernel_rfl, z72 := fun w => by kernel_rfl, v72 := fun w => by kernel_rfl, t75 := by kernel_rfl, a75 := fun w => by kernel_rfl, z75 := fun w => by kernel_rfl, v75 := fun w => by kernel_rfl, t76 := by kernel_rfl, a76 := fun w => by kernel_rfl, z76 := fun w => by kernel_rfl, v76 := fun w => by kernel_rfl, t105 := by kernel_rfl, a105 := fun w => by kernel_rfl, z105 := fun w => by kernel_rfl, v105 := fun w => by kernel_rfl, t119 := by kernel_rfl, a119 := fun w => by kernel_rfl, z119 := fun w => by kernel_rfl, t127 := by kernel_rfl, a127 := fun w => by kernel_rfl, z127 := fun w => by kernel_rfl, v127 := fun w => by kernel_rfl, t138 := by kernel_rfl, a138 := fun w => by kernel_rfl, z138 := fun w => by kernel_rfl, v138 := fun w => by kernel_rfl, t139 := by kernel_rfl, a139 := fun w => by kernel_rfl, z139 := fun w => by kernel_rfl, v139 := fun w => by kernel_rfl, t146 := by kernel_rfl, a146 := fun w => by kernel_rfl, z146 := fun w => by kernel_rfl, v146 := fun w => by kernel_rfl, t164 := by kernel_rfl, a164 := fun w => by kernel_rfl, z164 := fun w => by kernel_rfl, v164 := fun w => by kernel_rfl, g1 := by kernel_rfl, g3 := by kernel_rfl, g4 := by kernel_rfl }
theorem strings_ReplaceAll_ext : Builder.Extra Tryd.prog strings_ReplaceAll_ren :=
  { sizeBuilder := by kernel_rfl, liesBuilder := by kernel_rfl, t5 := by kernel_rfl, a5 := fun w => by kernel_rfl, z5 := fun w => by kernel_rfl, v5 := fun w => by kernel_rfl, infoByte := by kernel_rfl, cellsByte := by kernel_rfl, sizeByte := by kernel_rfl, neB5 := by decide }
theorem strings_ReplaceAll_ok : FOK Tryd.prog n_strings_ReplaceAll strings_ReplaceAll_sh strings_ReplaceAll_fo strings_ReplaceAll :=
  strReplaceAll_ok ⟨_, fnat_strings_ReplaceAll, by kernel_rfl, by kernel_rfl⟩ (ρr := strings_ReplaceAll_ren) rfl strings_ReplaceAll_lay strings_ReplaceAll_ext (by decide)

def i_PuzzleText_sh : FSh := ⟨[(.ag [(.sl (.int .i64) false false)])], []⟩

def i_PuzzleText_fo : List FO := [⟨[(.one .ss), (.one .sb)], []⟩]
noncomputable def i_PuzzleText_t : List (Int) → T (List UInt8 × Bool) := fun p_0 =>
  (.sub (i_IsPuzzle p_0) fun z0 =>
  (.test (! z0)
  (.ret (([] : List (UInt8)), false))
  (.sub (i_numbersText (p_0, ([] : List (UInt8)))) fun z1 =>
   (.sub (strings_ReplaceAll (z1, ([(48 : UInt8)], [(46 : UInt8)]))) fun z2 =>
   (.ret (z2, true))))))
noncomputable def i_PuzzleText (v : List (Int)) : Option (List UInt8 × Bool) := (i_PuzzleText_t v).run
noncomputable def i_PuzzleText_E : TEnv := (((E0.add1 n_i_IsPuzzle i_IsPuzzle_sh i_IsPuzzle_fo i_IsPuzzle).add1 n_i_numbersText i_numbersText_sh i_numbersText_fo i_numbersText).add1 n_strings_ReplaceAll strings_ReplaceAll_sh strings_ReplaceAll_fo strings_ReplaceAll)
theorem i_PuzzleText_Eok : (i_PuzzleText_E).OK := (((E0ok.add1 i_IsPuzzle_ok).add1 i_numbersText_ok).add1 strings_ReplaceAll_ok)
noncomputable def i_PuzzleText_told : Nat → Option SealT := fun id => none
theorem i_PuzzleText_ok : FOK Tryd.prog n_i_PuzzleText i_PuzzleText_sh i_PuzzleText_fo i_PuzzleText :=
  fn_ok (E := i_PuzzleText_E) (i_PuzzleText_Eok) (told := i_PuzzleText_told) (fl := []) (c := bodyOf fn_i_PuzzleText) (s := i_PuzzleText_sh) (l := i_PuzzleText_fo) (tree := i_PuzzleText_t) fnat_i_PuzzleText (by kernel_rfl) (by kernel_rfl) (by kernel_rfl) (loopsOK_of (ls := []) (by kernel_rfl) trivial) (fun v => by kernel_rfl)

theorem digits_len : ∀ p : List Int, (∀ x ∈ p, 0 ≤ x ∧ x ≤ 9) → (Lib.join (p.map fun x => Lib.decDigits x.toNat) []).length = p.length := by
  intro p h
  rw [join_flat]
  induction p with
  | nil => rfl
  | cons x p ih =>
    have ih := ih fun y hy => h y (by simp [hy])
    have hx := h x (by simp)
    rw [List.map_cons, List.flatten_cons, List.length_append, ih, Lib.decDigits_one (by omega), List.length_cons, List.length_cons, List.length_nil]
    omega
theorem i_PuzzleText_eq (p : List Int) (hl : p.length < 4611686018427387904) : i_PuzzleText p = some (if isPz p then (pzT p, true) else ([], false)) := by
  rw [i_PuzzleText, i_PuzzleText_t, T.run_sub, i_IsPuzzle_eq p hl, Option.bind_some, T.run_test]
  cases h : isPz p with
  | false => rfl
  | true =>
    obtain ⟨h1, h2⟩ := isPz_dig h
    have hd := digits_len p h2
    have hR : strings_ReplaceAll (Lib.join (p.map fun x => Lib.decDigits x.toNat) [], ([48], [46])) = some (pzT p) := by
      unfold strings_ReplaceAll
      rw [if_pos ⟨by simp only; omega, by simp, by simp⟩, pzT_text h2]
    rw [if_neg (by simp), T.run_sub, i_numbersText_eq p [] (by omega) (fun x hx => by have := h2 x hx; omega) (by omega), Option.bind_some, T.run_sub, hR, Option.bind_some, T.run_ret]
    rfl


def l_eqIntS_sh : FSh := ⟨[(.one (.sl (.int .i64) false false)), (.one (.sl (.int .i64) false false))], []⟩

def l_eqIntS_L4_sh : LSh := ⟨(fun ex => match ex with | .norm => [(0, none), (1, none), (5, none)] | .exit i => if i = 0 then [] else [] | .ret => [(4, none)]), [(0, (.one (.sl (.int .i64) false false))), (1, (.one (.sl (.int .i64) false false))), (5, (.one (.si .i64)))], [], [⟨.ret, [(4, (.one .sb))], []⟩, ⟨(.exit 0), [], []⟩], [], []⟩
noncomputable def l_eqIntS_L4_step : (List (Int) × List (Int) × Int) → T ((List (Int) × List (Int) × Int) ⊕ (Bool ⊕ Unit)) := fun (a, b, i) =>
  (.test (decide (i < ((List.length a) : Int)))
  (.test (decide ((0 ≤ i) ∧ (i < ((List.length a) : Int))))
   (.sub (a[(Int.toNat i)]?) fun z0 =>
    (.test (decide ((0 ≤ i) ∧ (i < ((List.length b) : Int))))
    (.sub (b[(Int.toNat i)]?) fun z1 =>
     (.test (z0 != z1)
     (.ret (Sum.inr (Sum.inl false)))
     (.ret (Sum.inl (a, (b, (w64 (i + 1))))))))
    .fail))
   .fail)
  (.ret (Sum.inr (Sum.inr ()))))
noncomputable def l_eqIntS_L4 (v : (List (Int) × List (Int) × Int)) : Option (Bool ⊕ Unit) := loopO (fun v => (l_eqIntS_L4_step v).run) v

def l_eqIntS_fo : List FO := [⟨[(.one .sb)], []⟩]
noncomputable def l_eqIntS_t : (List (Int) × List (Int)) → T Bool := fun (a, b) =>
  (.test (((List.length a) : Int) != ((List.length b) : Int))
  (.ret false)
  (.sub (l_eqIntS_L4 (a, (b, (0 : Int)))) fun z0 =>
   (.test (Sum.isLeft z0)
   (.sub (Sum.getLeft? z0) fun z1 =>
    (.ret z1))
   (.sub (Sum.getRight? z0) fun z2 =>
    (.ret true)))))
noncomputable def l_eqIntS (v : (List (Int) × List (Int))) : Option Bool := (l_eqIntS_t v).run
noncomputable def l_eqIntS_E : TEnv := E0
theorem l_eqIntS_Eok : (l_eqIntS_E).OK := E0ok
noncomputable def l_eqIntS_told : Nat → Option SealT := fun id => if id = 4 then some (LSh.told l_eqIntS_L4_sh 0 (l_eqIntS_L4_step)) else none
theorem l_eqIntS_L4_ok : ToldOK Tryd.prog 0 (loopAt (bodyOf fn_l_eqIntS) [0]) (LSh.told l_eqIntS_L4_sh 0 (l_eqIntS_L4_step)) :=
  loop_ok (E := l_eqIntS_E) (l_eqIntS_Eok) (told := l_eqIntS_told) (l := l_eqIntS_L4_sh) (step := l_eqIntS_L4_step) (loopsOK_of (ls := []) (by kernel_rfl) trivial) (by kernel_rfl) (fun v => by kernel_rfl)
theorem l_eqIntS_ok : FOK Tryd.prog n_l_eqIntS l_eqIntS_sh l_eqIntS_fo l_eqIntS :=
  fn_ok (E := l_eqIntS_E) (l_eqIntS_Eok) (told := l_eqIntS_told) (fl := []) (c := bodyOf fn_l_eqIntS) (s := l_eqIntS_sh) (l := l_eqIntS_fo) (tree := l_eqIntS_t) fnat_l_eqIntS (by kernel_rfl) (by kernel_rfl) (by kernel_rfl) (loopsOK_of (ls := [loopAt (bodyOf fn_l_eqIntS) [0]]) (by kernel_rfl) ⟨.inr ⟨_, by kernel_rfl, l_eqIntS_L4_ok⟩, trivial⟩) (fun v => by kernel_rfl)

theorem l_eqIntS_eq (a b : List Int) (hl : a.length < 4611686018427387904) : l_eqIntS (a, b) = some (decide (a = b)) := by
  by_cases hab : a.length = b.length
  · have h := loop_any (step := fun v => (l_eqIntS_L4_step v).run) (xs := a.zip b) (fun p => p.1 != p.2) (fun k => (a, b, (k : Int))) (.inl false) (.inr ())
      (fun k x hx => by
        have hk := getElem?_lt hx
        rw [List.length_zip, hab, Nat.min_self] at hk
        rw [List.getElem?_zip_eq_some] at hx
        simp only [l_eqIntS_L4_step, T.run, Option.bind_some, Int.toNat_natCast, hx.1, hx.2]
        rw [w64_id (by omega) (by omega)]
        have hka : k < a.length := by omega
        cases x.1 != x.2 <;> simp [hk, hka])
      (by simp [l_eqIntS_L4_step, T.run, hab])
    simp only [l_eqIntS, l_eqIntS_t, T.run, l_eqIntS_L4]
    simp only [Int.natCast_zero] at h
    rw [h, hab]
    have e : (a.zip b).any (fun p => p.1 != p.2) = !decide (a = b) := zip_any_ne a b hab
    rw [e]
    cases decide (a = b) <;> simp
  · simp only [l_eqIntS, l_eqIntS_t, T.run]
    have : a ≠ b := fun e => hab (by rw [e])
    simp [this]
    omega


def l_eqPuzzle_sh : FSh := ⟨[(.ag [(.sl (.int .i64) false false)]), (.ag [(.sl (.int .i64) false false)])], []⟩

def l_eqPuzzle_fo : List FO := [⟨[(.one .sb)], []⟩]
noncomputable def l_eqPuzzle_t : (List (Int) × List (Int)) → T Bool := fun (a_0, b_0) =>
  (.sub (l_eqIntS (a_0, b_0)) fun z0 =>
  (.test (! z0)
  (.ret false)
  (.ret true)))
noncomputable def l_eqPuzzle (v : (List (Int) × List (Int))) : Option Bool := (l_eqPuzzle_t v).run
noncomputable def l_eqPuzzle_E : TEnv := (E0.add1 n_l_eqIntS l_eqIntS_sh l_eqIntS_fo l_eqIntS)
theorem l_eqPuzzle_Eok : (l_eqPuzzle_E).OK := (E0ok.add1 l_eqIntS_ok)
noncomputable def l_eqPuzzle_told : Nat → Option SealT := fun id => none
theorem l_eqPuzzle_ok : FOK Tryd.prog n_l_eqPuzzle l_eqPuzzle_sh l_eqPuzzle_fo l_eqPuzzle :=
  fn_ok (E := l_eqPuzzle_E) (l_eqPuzzle_Eok) (told := l_eqPuzzle_told) (fl := []) (c := bodyOf fn_l_eqPuzzle) (s := l_eqPuzzle_sh) (l := l_eqPuzzle_fo) (tree := l_eqPuzzle_t) fnat_l_eqPuzzle (by kernel_rfl) (by kernel_rfl) (by kernel_rfl) (loopsOK_of (ls := []) (by kernel_rfl) trivial) (fun v => by kernel_rfl)

theorem l_eqPuzzle_eq (a b : List Int) (hl : a.length < 4611686018427387904) : l_eqPuzzle (a, b) = some (decide (a = b)) := by
  simp only [l_eqPuzzle, l_eqPuzzle_t, T.run, l_eqIntS_eq a b hl, Option.bind_some]
  cases decide (a = b) <;> rfl


def l_FnExactPuzzleText_sh : FSh := ⟨[(.ag [(.sl (.int .i64) false false)])], []⟩

def l_FnExactPuzzleText_fo : List FO := [⟨[(.one .sb)], []⟩]
noncomputable def l_FnExactPuzzleText_t : List (Int) → T Bool := fun aP_0 =>
  (.sub (l_szPuzzle (aP_0, (1048576 : Int))) fun z0 =>
  (.test (decide (z0 < 0))
  (.ret true)
  (.sub (l_toPuzzle aP_0) fun z1 =>
   (.test (decide ((0 + (List.length z1.2)) ≤ (List.length z1.2)))
   (.sub (s_PuzzleText (win z1.2 0 (List.length z1.2))) fun z2 =>
    (.sub (l_toPuzzle aP_0) fun z3 =>
    (.test (decide ((0 + (List.length z3.2)) ≤ (List.length z3.2)))
    (.sub (i_PuzzleText (win z3.2 0 (List.length z3.2))) fun z4 =>
     (.test (! (z4.1 == z2.1))
     (.ret false)
     (.test (! (z4.2 == z2.2))
      (.ret false)
      (.sub (l_toPuzzle aP_0) fun z5 =>
       (.test (decide ((0 + (List.length z3.2)) ≤ (List.length z3.2)))
       (.test (decide ((0 + (List.length z5.2)) ≤ (List.length z5.2)))
        (.sub (l_eqPuzzle ((win z3.2 0 (List.length z3.2)), (win z5.2 0 (List.length z5.2)))) fun z6 =>
         (.test (! z6)
         (.ret false)
         (.ret true)))
        .fail)
       .fail)))))
    .fail)))
   .fail))))
noncomputable def l_FnExactPuzzleText (v : List (Int)) : Option Bool := (l_FnExactPuzzleText_t v).run
noncomputable def l_FnExactPuzzleText_E : TEnv := (((((E0.add1 n_l_szPuzzle l_szPuzzle_sh l_szPuzzle_fo l_szPuzzle).add1 n_l_toPuzzle l_toPuzzle_sh l_toPuzzle_fo l_toPuzzle).add1 n_s_PuzzleText s_PuzzleText_sh s_PuzzleText_fo s_PuzzleText).add1 n_i_PuzzleText i_PuzzleText_sh i_PuzzleText_fo i_PuzzleText).add1 n_l_eqPuzzle l_eqPuzzle_sh l_eqPuzzle_fo l_eqPuzzle)
theorem l_FnExactPuzzleText_Eok : (l_FnExactPuzzleText_E).OK := (((((E0ok.add1 l_szPuzzle_ok).add1 l_toPuzzle_ok).add1 s_PuzzleText_ok).add1 i_PuzzleText_ok).add1 l_eqPuzzle_ok)
noncomputable def l_FnExactPuzzleText_told : Nat → Option SealT := fun id => none
theorem l_FnExactPuzzleText_ok : FOK Tryd.prog n_l_FnExactPuzzleText l_FnExactPuzzleText_sh l_FnExactPuzzleText_fo l_FnExactPuzzleText :=
  fn_ok (E := l_FnExactPuzzleText_E) (l_FnExactPuzzleText_Eok) (told := l_FnExactPuzzleText_told) (fl := []) (c := bodyOf fn_l_FnExactPuzzleText) (s := l_FnExactPuzzleText_sh) (l := l_FnExactPuzzleText_fo) (tree := l_FnExactPuzzleText_t) fnat_l_FnExactPuzzleText (by kernel_rfl) (by kernel_rfl) (by kernel_rfl) (loopsOK_of (ls := []) (by kernel_rfl) trivial) (fun v => by kernel_rfl)

theorem l_FnExactPuzzleText_true (l : List Int) (hs : smallL ASh.small [.ag [.sl (.int .i64) false false]] l) : l_FnExactPuzzleText l = some true := by
  have hl : l.length < 4611686018427387904 := by have := hs.1; omega
  rw [l_FnExactPuzzleText, l_FnExactPuzzleText_t, T.run_sub, l_szPuzzle_eq l 1048576 (by decide) hl, Option.bind_some, T.run_test]
  by_cases hsz : ((1048576 : Int) - (l.length : Int) < 0)
  · rw [if_pos (by rw [if_pos hsz]; rfl)]; rfl
  · have h : l.length < 10000000000000 := by omega
    rw [if_neg (by rw [if_neg hsz, decide_eq_true_eq]; exact hsz)]
    simp [T.run, l_toPuzzle_eq l h, win_all, s_PuzzleText_eq l hl, i_PuzzleText_eq l hl, l_eqPuzzle_eq l l hl]


end Go.Proofs.W
