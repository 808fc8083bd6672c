/- Functions of the program, walked, and what they compute. -/
import Derived.Test.YtbheicnppelllaaTuIds
set_option linter.unusedVariables false
set_option linter.unusedSimpArgs false
set_option maxRecDepth 100000
set_option maxHeartbeats 4000000
namespace Go.Proofs.W
open Go Go.Gm Go.Proofs
open Go.RowKit Go.Shelf
def iot (k : Int) (n : Nat) : List Int := (List.range n).map fun (i : Nat) => k + (i : Int)
theorem iot_len (k : Int) (n : Nat) : (iot k n).length = n := by simp [iot]
theorem iot_succ (k : Int) (n : Nat) : iot k (n + 1) = iot k n ++ [k + n] := by simp [iot, List.range_succ]
theorem iot_get (k : Int) {n i : Nat} (h : i < n) : (iot k n)[i]? = some (k + i) := by simp [iot, h]
theorem gcd_toNat_step {a b : Int} (ha : 0 ≤ a) (hb : 0 < b) : Nat.gcd b.toNat (Int.tmod a b).toNat = Nat.gcd a.toNat b.toNat ∧ 0 ≤ Int.tmod a b ∧ Int.tmod a b < b := by
  obtain ⟨m, rfl⟩ := Int.eq_ofNat_of_zero_le ha
  obtain ⟨n, rfl⟩ := Int.eq_ofNat_of_zero_le (Int.le_of_lt hb)
  have e : Int.tmod (m : Int) (n : Int) = ((m % n : Nat) : Int) := rfl
  rw [e]
  simp only [Int.toNat_natCast]
  refine ⟨?_, Int.natCast_nonneg _, ?_⟩
  · rw [Nat.gcd_comm m n, Nat.gcd_rec n m, Nat.gcd_comm]
  · have : n ≠ 0 := by omega
    exact Int.ofNat_lt.2 (Nat.mod_lt m (by omega))
def lowP (num den : Int) : Bool := inB 1 1000000 num && (inB 1 1000000 den && decide (Nat.gcd num.toNat den.toNat = 1))
def upQ (num den : Int) : Int := (num + den - 1) / den
theorem upQ_B {num den : Int} (hn : 1 ≤ num) (hd : 1 ≤ den) : 1 ≤ upQ num den ∧ upQ num den ≤ num ∧ num ≤ upQ num den * den ∧ upQ num den * den - num < den := by
  have h1 := Int.mul_ediv_add_emod (num + den - 1) den
  have h2 := Int.emod_nonneg (num + den - 1) (show den ≠ 0 by omega)
  have h3 := Int.emod_lt_of_pos (num + den - 1) (show 0 < den by omega)
  have h4 : 1 ≤ upQ num den := by
    unfold upQ
    exact (Int.le_ediv_iff_mul_le (by omega)).2 (by omega)
  have h5 : den * upQ num den = upQ num den * den := Int.mul_comm ..
  have h6 : upQ num den ≤ num := by
    unfold upQ
    refine Int.ediv_le_of_le_mul (by omega) ?_
    have : 0 ≤ (num - 1) * (den - 1) := Int.mul_nonneg (by omega) (by omega)
    rw [Int.sub_mul, Int.mul_sub] at this
    omega
  unfold upQ at *
  omega
def posT (l : List Int) : Bool := isTerms l && (decide (l ≠ []) && l.all (inB 1 30))
theorem isPz_len {l : List Int} (h : isPz l = true) : 3 ≤ l.length ∧ l.length ≤ 9 := by
  simp only [isPz, Bool.and_eq_true, inB_iff] at h
  omega
def fillG (l : List Int) (at' n : Int) : Bool × List Int := if isPz l && (inB 0 ((l.length : Int) - 1) at' && (inB 1 ((l.length : Int) - 2) n && decide (l[at'.toNat]? = some 0))) then (true, l.set at'.toNat n) else (false, [])
def openG (l : List Int) (at' : Int) : Bool × List Int := if isPz l && (inB 0 ((l.length : Int) - 1) at' && decide (l[at'.toNat]? ≠ some 0)) then (true, l.set at'.toNat 0) else (false, [])
theorem at_get0 {α : Type} (L : List α) (x : α) (t : List α) : (L ++ x :: t)[L.length]? = some x := by simp
theorem at_get1 {α : Type} (L : List α) (x y : α) (t : List α) : (L ++ x :: y :: t)[L.length + 1]? = some y := by
  rw [List.getElem?_append_right (by omega), show L.length + 1 - L.length = 1 by omega]; rfl
theorem at_get2 {α : Type} (L : List α) (x y z : α) (t : List α) : (L ++ x :: y :: z :: t)[L.length + 2]? = some z := by
  rw [List.getElem?_append_right (by omega), show L.length + 2 - L.length = 2 by omega]; rfl
theorem at_set0 {α : Type} (L : List α) (x v : α) (t : List α) : (L ++ x :: t).set L.length v = L ++ v :: t := by simp
theorem at_set1 {α : Type} (L : List α) (x y v : α) (t : List α) : (L ++ x :: y :: t).set (L.length + 1) v = L ++ x :: v :: t := by
  rw [List.set_append_right _ _ (by omega), show L.length + 1 - L.length = 1 by omega]; rfl
theorem at_set2 {α : Type} (L : List α) (x y z v : α) (t : List α) : (L ++ x :: y :: z :: t).set (L.length + 2) v = L ++ x :: y :: v :: t := by
  rw [List.set_append_right _ _ (by omega), show L.length + 2 - L.length = 2 by omega]; rfl
theorem at_take1 {α : Type} (L : List α) (x : α) (t : List α) : (L ++ x :: t).take (L.length + 1) = L ++ [x] := by
  rw [List.take_append, List.take_of_length_le (by omega), show L.length + 1 - L.length = 1 by omega]; rfl
theorem at_drop2 {α : Type} (L : List α) (x y : α) (t : List α) : (L ++ x :: y :: t).drop (L.length + 2) = t := by
  rw [List.drop_append, List.drop_of_length_le (by omega), show L.length + 2 - L.length = 2 by omega]; rfl
theorem at_split {α : Type} (l : List α) (k : Nat) (h : k + 2 < l.length) : ∃ L x m y R, l = L ++ x :: m :: y :: R ∧ L.length = k := by
  refine ⟨l.take k, l[k], l[k + 1], l[k + 2], l.drop (k + 3), ?_, by simp; omega⟩
  rw [← List.drop_eq_getElem_cons, ← List.drop_eq_getElem_cons, ← List.drop_eq_getElem_cons, List.take_append_drop]
theorem at_split1 {α : Type} (l : List α) (k : Nat) (h : k + 1 < l.length) : ∃ L x y R, l = L ++ x :: y :: R ∧ L.length = k := by
  refine ⟨l.take k, l[k], l[k + 1], l.drop (k + 2), ?_, by simp; omega⟩
  rw [← List.drop_eq_getElem_cons, ← List.drop_eq_getElem_cons, List.take_append_drop]
theorem at_drop1 {α : Type} (L : List α) (x : α) (t : List α) : (L ++ x :: t).drop (L.length + 1) = t := by
  rw [List.drop_append, List.drop_of_length_le (by omega), show L.length + 1 - L.length = 1 by omega]; rfl
theorem loop_listI {α β σ X : Type} {step : α → Option (α ⊕ β)} {xs : List X} (P : Nat → σ → Prop) (emb : Nat → σ → α) (body : σ → X → σ ⊕ β) (fin : σ → β)
    (hs : ∀ k s x, P k s → xs[k]? = some x → step (emb k s) = some (match body s x with | .inl s' => .inl (emb (k + 1) s') | .inr o => .inr o) ∧ ∀ s', body s x = .inl s' → P (k + 1) s')
    (he : ∀ s, P xs.length s → step (emb xs.length s) = some (.inr (fin s))) : ∀ k s, k ≤ xs.length → P k s → loopO step (emb k s) = some (forE body fin (xs.drop k) s) := by
  have key : ∀ n k s, n = xs.length - k → k ≤ xs.length → P k s → loopO step (emb k s) = some (forE body fin (xs.drop k) s) := by
    intro n
    induction n with
    | zero =>
      intro k s hn hk hP
      have : k = xs.length := by omega
      subst this
      rw [loopO_step, he _ hP, List.drop_length]
      rfl
    | succ n ih =>
      intro k s hn hk hP
      have hlt : k < xs.length := by omega
      obtain ⟨h1, h2⟩ := hs k s xs[k] hP (List.getElem?_eq_getElem hlt)
      rw [loopO_step, h1, List.drop_eq_getElem_cons hlt, forE_cons]
      cases hb : body s xs[k] with
      | inl s' => simp only []; exact ih (k + 1) s' (by omega) (by omega) (h2 s' hb)
      | inr o => rfl
  exact fun k s hk hP => key _ k s rfl hk hP
def pzCell (b : UInt8) : Option Int := if b.toNat = 46 then some 0 else if 49 ≤ b.toNat ∧ b.toNat ≤ 57 then some ((b.toNat : Int) - 48) else none
def pzRead : List UInt8 → Option (List Int)
  | [] => some []
  | b :: t => match pzCell b with
    | some z => (pzRead t).map (z :: ·)
    | none => none
theorem forE_pz {β : Type} (fin : List Int → β) (o : β) : ∀ (l : List UInt8) (acc : List Int), forE (fun acc b => match pzCell b with | some z => .inl (acc ++ [z]) | none => .inr o) fin l acc = match pzRead l with | some r => fin (acc ++ r) | none => o
  | [], acc => by simp [forE, pzRead]
  | b :: t, acc => by
    rw [forE_cons, pzRead]
    cases hc : pzCell b with
    | none => rfl
    | some z =>
      simp only []
      rw [forE_pz fin o t]
      cases pzRead t with
      | none => rfl
      | some r => simp
def pzRes (s : List UInt8) : Bool × List Int := if s.length > 9 then (false, []) else match pzRead s with
  | none => (false, [])
  | some r => if isPz r then (true, r) else (false, [])
theorem pzRead_len : ∀ {s : List UInt8} {r : List Int}, pzRead s = some r → r.length = s.length
  | [], r, h => by cases h; rfl
  | b :: t, r, h => by
    rw [pzRead] at h
    split at h
    · obtain ⟨r', h1, rfl⟩ := Option.map_eq_some_iff.1 h
      simp [pzRead_len h1]
    · cases h
theorem pzRes_len (s : List UInt8) : (pzRes s).2.length ≤ 9 := by
  unfold pzRes
  split
  · simp
  · split
    · simp
    · rename_i h
      have := pzRead_len h
      split
      · simp; omega
      · simp
theorem bytesI_get {s : List UInt8} {k : Nat} {b : UInt8} (h : s[k]? = some b) : (bytesI s)[k]? = some (b.toNat : Int) := by unfold bytesI; rw [List.getElem?_map, h]; rfl
theorem bytesI_len (s : List UInt8) : (bytesI s).length = s.length := by unfold bytesI; simp
def fits (p q : List Int) : Bool := decide (p.length = q.length) && !(p.zip q).any fun x => !(x.1 == 0 || x.1 == x.2)
def turnG (l : List Int) (k : Int) : Bool × List Int := if isPz l && inB 0 ((l.length : Int) - 1) k then (true, l.drop k.toNat ++ l.take k.toNat) else (false, [])
theorem turn_facts {l : List Int} {k : Int} (hp : isPz l = true) (hk : inB 0 ((l.length : Int) - 1) k = true) : win l k.toNat (l.length - k.toNat) = l.drop k.toNat ∧ win l 0 (k.toNat - 0) = l.take k.toNat ∧ 0 ≤ k ∧ k.toNat ≤ l.length ∧ l.length ≤ 9 := by
  have := isPz_len hp
  rw [inB_iff] at hk
  refine ⟨?_, win_take _ _, hk.1, by omega, this.2⟩
  unfold win
  rw [List.take_of_length_le (by rw [List.length_drop]; omega)]

def l_szIntS_sh : FSh := ⟨[(.one (.sl (.int .i64) false false)), (.one (.si .i64))], []⟩

def l_szIntS_fo : List FO := [⟨[(.one (.si .i64))], []⟩]
noncomputable def l_szIntS_t : (List (Int) × Int) → T Int := fun (a, left) =>
  (.test (decide ((w64 (left - ((List.length a) : Int))) < 0))
  (.ret (-1))
  (.ret (w64 (left - ((List.length a) : Int)))))
noncomputable def l_szIntS (v : (List (Int) × Int)) : Option Int := (l_szIntS_t v).run
noncomputable def l_szIntS_E : TEnv := E0
theorem l_szIntS_Eok : (l_szIntS_E).OK := E0ok
noncomputable def l_szIntS_told : Nat → Option SealT := fun id => none
theorem l_szIntS_ok : FOK Try.prog n_l_szIntS l_szIntS_sh l_szIntS_fo l_szIntS :=
  fn_ok (E := l_szIntS_E) (l_szIntS_Eok) (told := l_szIntS_told) (fl := []) (c := bodyOf fn_l_szIntS) (s := l_szIntS_sh) (l := l_szIntS_fo) (tree := l_szIntS_t) fnat_l_szIntS (by kernel_rfl) (by kernel_rfl) (by kernel_rfl) (loopsOK_of (ls := []) (by kernel_rfl) trivial) (fun v => by kernel_rfl)

theorem l_szIntS_eq (a : List Int) (n : Int) (h1 : n.natAbs < 4611686018427387904) (h2 : a.length < 4611686018427387904) : l_szIntS (a, n) = some (if n - a.length < 0 then -1 else n - a.length) := by
  simp only [l_szIntS, l_szIntS_t, T.run]
  rw [w64_id (by omega) (by omega)]
  simp only [decide_eq_true_eq]
  split <;> rfl


def l_szPuzzle_sh : FSh := ⟨[(.ag [(.sl (.int .i64) false false)]), (.one (.si .i64))], []⟩

def l_szPuzzle_fo : List FO := [⟨[(.one (.si .i64))], []⟩]
noncomputable def l_szPuzzle_t : (List (Int) × Int) → T Int := fun (a_0, left) =>
  (.sub (l_szIntS (a_0, left)) fun z0 =>
  (.test (decide (z0 < 0))
  (.ret (-1))
  (.ret z0)))
noncomputable def l_szPuzzle (v : (List (Int) × Int)) : Option Int := (l_szPuzzle_t v).run
noncomputable def l_szPuzzle_E : TEnv := (E0.add1 n_l_szIntS l_szIntS_sh l_szIntS_fo l_szIntS)
theorem l_szPuzzle_Eok : (l_szPuzzle_E).OK := (E0ok.add1 l_szIntS_ok)
noncomputable def l_szPuzzle_told : Nat → Option SealT := fun id => none
theorem l_szPuzzle_ok : FOK Try.prog n_l_szPuzzle l_szPuzzle_sh l_szPuzzle_fo l_szPuzzle :=
  fn_ok (E := l_szPuzzle_E) (l_szPuzzle_Eok) (told := l_szPuzzle_told) (fl := []) (c := bodyOf fn_l_szPuzzle) (s := l_szPuzzle_sh) (l := l_szPuzzle_fo) (tree := l_szPuzzle_t) fnat_l_szPuzzle (by kernel_rfl) (by kernel_rfl) (by kernel_rfl) (loopsOK_of (ls := []) (by kernel_rfl) trivial) (fun v => by kernel_rfl)

theorem l_szPuzzle_eq (a : List Int) (n : Int) (h1 : n.natAbs < 4611686018427387904) (h2 : a.length < 4611686018427387904) : l_szPuzzle (a, n) = some (if n - a.length < 0 then -1 else n - a.length) := by
  simp only [l_szPuzzle, l_szPuzzle_t, T.run, l_szIntS_eq a n h1 h2, Option.bind_some, decide_eq_true_eq]
  split <;> simp_all


def l_toIntS_sh : FSh := ⟨[(.one (.sl (.int .i64) false false))], []⟩

def l_toIntS_L3_sh : LSh := ⟨(fun ex => match ex with | .norm => [(0, none), (3, none), (4, none)] | .exit i => if i = 0 then [(3, none)] else [] | .ret => [(2, none)]), [(0, (.one (.sl (.int .i64) false false))), (3, (.one (.rw 0 0))), (4, (.one (.si .i64)))], [(.row 0 (.int .i64))], [⟨(.exit 0), [(3, (.one (.rw 0 0)))], [(.row 0 (.int .i64))]⟩], [], []⟩
noncomputable def l_toIntS_L3_step : ((List (Int) × Unit × Int) × List (Int)) → T (((List (Int) × Unit × Int) × List (Int)) ⊕ (Unit × List (Int))) := fun ((a, (), i), out) =>
  (.test (decide (i < ((List.length a) : Int)))
  (.test (decide ((0 ≤ i) ∧ (i < ((List.length a) : Int))))
   (.sub (a[(Int.toNat i)]?) fun z0 =>
    (.test (decide ((0 ≤ i) ∧ (i < ((List.length out) : Int))))
    (.sub (out[(0 + (Int.toNat i))]?) fun z1 =>
     (.test (decide ((0 = 0) ∧ ((List.length out) = (List.length (List.set out (0 + (Int.toNat i)) z0)))))
     (.ret (Sum.inl ((a, ((), (w64 (i + 1)))), (List.set out (0 + (Int.toNat i)) z0))))
     .fail))
    .fail))
   .fail)
  (.test (decide ((0 = 0) ∧ ((List.length out) = (List.length out))))
   (.ret (Sum.inr ((), out)))
   .fail))
noncomputable def l_toIntS_L3 (v : ((List (Int) × Unit × Int) × List (Int))) : Option (Unit × List (Int)) := loopO (fun v => (l_toIntS_L3_step v).run) v

def l_toIntS_fo : List FO := [⟨[(.one (.rw 0 0))], [(.row 0 (.int .i64))]⟩]
noncomputable def l_toIntS_t : List (Int) → T (Unit × List (Int)) := fun a =>
  (.test (decide ((0 ≤ ((List.length a) : Int)) ∧ ((((List.length a) : Int) ≤ ((List.length a) : Int)) ∧ (((Int.toNat ((List.length a) : Int)) * 9) ≤ 140737488355328))))
  (.test (decide ((0 = 0) ∧ ((Int.toNat ((List.length a) : Int)) = (List.length (List.replicate (Int.toNat ((List.length a) : Int)) (0 : Int))))))
   (.sub (l_toIntS_L3 ((a, ((), (0 : Int))), (List.replicate (Int.toNat ((List.length a) : Int)) (0 : Int)))) fun z0 =>
    (.test (decide ((0 = 0) ∧ ((List.length z0.2) = (List.length z0.2))))
    (.ret ((), z0.2))
    .fail))
   .fail)
  .fail)
noncomputable def l_toIntS (v : List (Int)) : Option (Unit × List (Int)) := (l_toIntS_t v).run
noncomputable def l_toIntS_E : TEnv := E0
theorem l_toIntS_Eok : (l_toIntS_E).OK := E0ok
noncomputable def l_toIntS_told : Nat → Option SealT := fun id => if id = 3 then some (LSh.told l_toIntS_L3_sh 0 (l_toIntS_L3_step)) else none
theorem l_toIntS_L3_ok : ToldOK Try.prog 0 (loopAt (bodyOf fn_l_toIntS) [0]) (LSh.told l_toIntS_L3_sh 0 (l_toIntS_L3_step)) :=
  loop_ok (E := l_toIntS_E) (l_toIntS_Eok) (told := l_toIntS_told) (l := l_toIntS_L3_sh) (step := l_toIntS_L3_step) (loopsOK_of (ls := []) (by kernel_rfl) trivial) (by kernel_rfl) (fun v => by kernel_rfl)
theorem l_toIntS_ok : FOK Try.prog n_l_toIntS l_toIntS_sh l_toIntS_fo l_toIntS :=
  fn_ok (E := l_toIntS_E) (l_toIntS_Eok) (told := l_toIntS_told) (fl := []) (c := bodyOf fn_l_toIntS) (s := l_toIntS_sh) (l := l_toIntS_fo) (tree := l_toIntS_t) fnat_l_toIntS (by kernel_rfl) (by kernel_rfl) (by kernel_rfl) (loopsOK_of (ls := [loopAt (bodyOf fn_l_toIntS) [0]]) (by kernel_rfl) ⟨.inr ⟨_, by kernel_rfl, l_toIntS_L3_ok⟩, trivial⟩) (fun v => by kernel_rfl)

theorem l_toIntS_eq (a : List Int) (hl : a.length < 10000000000000) : l_toIntS a = some ((), a) := by
  have h := loop_eq (step := fun v => (l_toIntS_L3_step v).run) (fun v => a.length - v.1.2.2.toNat) (fun v => v.1.1 = a ∧ ∃ k : Nat, k ≤ a.length ∧ v.1.2.2 = k ∧ v.2.length = a.length ∧ v.2.take k = a.take k) (fun _ => ((), a)) (by
    rintro ⟨⟨a', ⟨⟩, i⟩, out⟩ ⟨e, k, hk, e2, hlen, ht⟩
    simp only at e e2 hlen ht
    subst e e2
    by_cases hlt : k < a'.length
    · left
      refine ⟨((a', (), (k + 1 : Nat)), out.set k a'[k]), ?_, ⟨rfl, k + 1, by omega, rfl, by simp [hlen], ?_⟩, by simp only [Int.toNat_natCast]; omega, rfl⟩
      · simp only [l_toIntS_L3_step, T.run, Int.toNat_natCast, Option.bind_some, List.getElem?_eq_getElem hlt, Nat.zero_add, List.getElem?_eq_getElem (show k < out.length by omega)]
        rw [w64_id (by omega) (by omega)]
        simp [hlen, hlt]
      · rw [List.take_succ_eq_append_getElem (by simp; omega), List.take_succ_eq_append_getElem hlt, List.take_set_of_le (Nat.le_refl _), ht]
        simp
    · right
      have : k = a'.length := by omega
      subst this
      rw [List.take_length, ← hlen, List.take_length] at ht
      subst ht
      simp [l_toIntS_L3_step, T.run])
    ((a, (), 0), List.replicate a.length 0) ⟨rfl, 0, Nat.zero_le _, rfl, by simp, by simp⟩
  simp only [l_toIntS, l_toIntS_t, T.run, l_toIntS_L3, Int.toNat_natCast]
  rw [h]
  simp
  omega


def l_toPuzzle_sh : FSh := ⟨[(.ag [(.sl (.int .i64) false false)])], []⟩

def l_toPuzzle_fo : List FO := [⟨[(.ag [(.rw 0 0)])], [(.row 0 (.int .i64))]⟩]
noncomputable def l_toPuzzle_t : List (Int) → T (Unit × List (Int)) := fun a_0 =>
  (.sub (l_toIntS a_0) fun z0 =>
  (.test (decide ((0 = 0) ∧ ((List.length z0.2) = (List.length z0.2))))
  (.ret ((), z0.2))
  .fail))
noncomputable def l_toPuzzle (v : List (Int)) : Option (Unit × List (Int)) := (l_toPuzzle_t v).run
noncomputable def l_toPuzzle_E : TEnv := (E0.add1 n_l_toIntS l_toIntS_sh l_toIntS_fo l_toIntS)
theorem l_toPuzzle_Eok : (l_toPuzzle_E).OK := (E0ok.add1 l_toIntS_ok)
noncomputable def l_toPuzzle_told : Nat → Option SealT := fun id => none
theorem l_toPuzzle_ok : FOK Try.prog n_l_toPuzzle l_toPuzzle_sh l_toPuzzle_fo l_toPuzzle :=
  fn_ok (E := l_toPuzzle_E) (l_toPuzzle_Eok) (told := l_toPuzzle_told) (fl := []) (c := bodyOf fn_l_toPuzzle) (s := l_toPuzzle_sh) (l := l_toPuzzle_fo) (tree := l_toPuzzle_t) fnat_l_toPuzzle (by kernel_rfl) (by kernel_rfl) (by kernel_rfl) (loopsOK_of (ls := []) (by kernel_rfl) trivial) (fun v => by kernel_rfl)

theorem l_toPuzzle_eq (a : List Int) (hl : a.length < 10000000000000) : l_toPuzzle a = some ((), a) := by
  simp [l_toPuzzle, l_toPuzzle_t, T.run, l_toIntS_eq a hl]


def s_l1In_sh : FSh := ⟨[(.one (.si .i64)), (.one (.si .i64)), (.one (.si .i64))], []⟩

def s_l1In_fo : List FO := [⟨[(.one .sb)], []⟩]
noncomputable def s_l1In_t : (Int × Int × Int) → T Bool := fun (n, lo, hi) =>
  (.test (decide (n ≥ lo))
  (.ret (decide (n ≤ hi)))
  (.ret false))
noncomputable def s_l1In (v : (Int × Int × Int)) : Option Bool := (s_l1In_t v).run
noncomputable def s_l1In_E : TEnv := E0
theorem s_l1In_Eok : (s_l1In_E).OK := E0ok
noncomputable def s_l1In_told : Nat → Option SealT := fun id => none
theorem s_l1In_ok : FOK Try.prog n_s_l1In s_l1In_sh s_l1In_fo s_l1In :=
  fn_ok (E := s_l1In_E) (s_l1In_Eok) (told := s_l1In_told) (fl := []) (c := bodyOf fn_s_l1In) (s := s_l1In_sh) (l := s_l1In_fo) (tree := s_l1In_t) fnat_s_l1In (by kernel_rfl) (by kernel_rfl) (by kernel_rfl) (loopsOK_of (ls := []) (by kernel_rfl) trivial) (fun v => by kernel_rfl)

theorem s_l1In_eq (n low high : Int) : s_l1In (n, low, high) = some (inB low high n) := by
  simp only [s_l1In, s_l1In_t, T.run, ge_iff_le, decide_eq_true_eq, inB]
  by_cases h : low ≤ n <;> simp [h]


def s_l1All_sh : FSh := ⟨[(.one (.sl (.int .i64) false false)), (.one (.si .i64)), (.one (.si .i64))], []⟩

def s_l1All_L2_sh : LSh := ⟨(fun ex => match ex with | .norm => [(1, none), (2, none), (9, none), (10, none), (11, none)] | .exit i => if i = 0 then [] else [] | .ret => [(6, none)]), [(1, (.one (.si .i64))), (2, (.one (.si .i64))), (9, (.one (.sl (.int .i64) false false))), (10, (.one (.si .i64))), (11, (.one (.si .i64)))], [], [⟨.ret, [(6, (.one .sb))], []⟩, ⟨(.exit 0), [], []⟩], [], []⟩
noncomputable def s_l1All_L2_step : (Int × Int × List (Int) × Int × Int) → T ((Int × Int × List (Int) × Int × Int) ⊕ (Bool ⊕ Unit)) := fun (lo, hi, t9, t10, t11) =>
  (.test (decide (t11 < t10))
  (.test (decide ((0 ≤ t11) ∧ (t11 < ((List.length t9) : Int))))
   (.sub (t9[(Int.toNat t11)]?) fun z0 =>
    (.sub (s_l1In (z0, (lo, hi))) fun z1 =>
    (.test (! z1)
    (.ret (Sum.inr (Sum.inl false)))
    (.ret (Sum.inl (lo, (hi, (t9, (t10, (w64 (t11 + 1)))))))))))
   .fail)
  (.ret (Sum.inr (Sum.inr ()))))
noncomputable def s_l1All_L2 (v : (Int × Int × List (Int) × Int × Int)) : Option (Bool ⊕ Unit) := loopO (fun v => (s_l1All_L2_step v).run) v

def s_l1All_fo : List FO := [⟨[(.one .sb)], []⟩]
noncomputable def s_l1All_t : (List (Int) × Int × Int) → T Bool := fun (l, lo, hi) =>
  (.sub (s_l1All_L2 (lo, (hi, (l, (((List.length l) : Int), (0 : Int)))))) fun z0 =>
  (.test (Sum.isLeft z0)
  (.sub (Sum.getLeft? z0) fun z1 =>
   (.ret z1))
  (.sub (Sum.getRight? z0) fun z2 =>
   (.ret true))))
noncomputable def s_l1All (v : (List (Int) × Int × Int)) : Option Bool := (s_l1All_t v).run
noncomputable def s_l1All_E : TEnv := (E0.add1 n_s_l1In s_l1In_sh s_l1In_fo s_l1In)
theorem s_l1All_Eok : (s_l1All_E).OK := (E0ok.add1 s_l1In_ok)
noncomputable def s_l1All_told : Nat → Option SealT := fun id => if id = 2 then some (LSh.told s_l1All_L2_sh 0 (s_l1All_L2_step)) else none
theorem s_l1All_L2_ok : ToldOK Try.prog 0 (loopAt (bodyOf fn_s_l1All) [0]) (LSh.told s_l1All_L2_sh 0 (s_l1All_L2_step)) :=
  loop_ok (E := s_l1All_E) (s_l1All_Eok) (told := s_l1All_told) (l := s_l1All_L2_sh) (step := s_l1All_L2_step) (loopsOK_of (ls := []) (by kernel_rfl) trivial) (by kernel_rfl) (fun v => by kernel_rfl)
theorem s_l1All_ok : FOK Try.prog n_s_l1All s_l1All_sh s_l1All_fo s_l1All :=
  fn_ok (E := s_l1All_E) (s_l1All_Eok) (told := s_l1All_told) (fl := []) (c := bodyOf fn_s_l1All) (s := s_l1All_sh) (l := s_l1All_fo) (tree := s_l1All_t) fnat_s_l1All (by kernel_rfl) (by kernel_rfl) (by kernel_rfl) (loopsOK_of (ls := [loopAt (bodyOf fn_s_l1All) [0]]) (by kernel_rfl) ⟨.inr ⟨_, by kernel_rfl, s_l1All_L2_ok⟩, trivial⟩) (fun v => by kernel_rfl)

theorem s_l1All_eq (l : List Int) (lo hi : Int) (hl : l.length < 4611686018427387904) : s_l1All (l, lo, hi) = some (l.all (inB lo hi)) := by
  have h := loop_any (step := fun v => (s_l1All_L2_step v).run) (xs := l) (fun n => !inB lo hi n) (fun k => (lo, hi, l, (l.length : Int), (k : Int))) (.inl false) (.inr ())
    (fun k x hx => by
      have hk := getElem?_lt hx
      simp only [s_l1All_L2_step, T.run, s_l1In_eq, Option.bind_some, Int.toNat_natCast, hx]
      rw [w64_id (by omega) (by omega)]
      cases inB lo hi x <;> simp [hk])
    (by simp [s_l1All_L2_step, T.run])
  simp only [s_l1All, s_l1All_t, T.run, s_l1All_L2]
  simp only [Int.natCast_zero] at h
  rw [h, ← all_any]
  cases hb : l.any (fun n => !inB lo hi n) <;> simp


def s_pzGood_sh : FSh := ⟨[(.ag [(.sl (.int .i64) false false)])], []⟩

def s_pzGood_fo : List FO := [⟨[(.one .sb)], []⟩]
noncomputable def s_pzGood_t : List (Int) → T Bool := fun p_0 =>
  (.sub (s_l1In (((List.length p_0) : Int), ((3 : Int), (9 : Int)))) fun z0 =>
  (.test z0
  (.sub (s_l1All (p_0, ((0 : Int), (w64 (((List.length p_0) : Int) - 2))))) fun z1 =>
   (.ret z1))
  (.ret false)))
noncomputable def s_pzGood (v : List (Int)) : Option Bool := (s_pzGood_t v).run
noncomputable def s_pzGood_E : TEnv := ((E0.add1 n_s_l1In s_l1In_sh s_l1In_fo s_l1In).add1 n_s_l1All s_l1All_sh s_l1All_fo s_l1All)
theorem s_pzGood_Eok : (s_pzGood_E).OK := ((E0ok.add1 s_l1In_ok).add1 s_l1All_ok)
noncomputable def s_pzGood_told : Nat → Option SealT := fun id => none
theorem s_pzGood_ok : FOK Try.prog n_s_pzGood s_pzGood_sh s_pzGood_fo s_pzGood :=
  fn_ok (E := s_pzGood_E) (s_pzGood_Eok) (told := s_pzGood_told) (fl := []) (c := bodyOf fn_s_pzGood) (s := s_pzGood_sh) (l := s_pzGood_fo) (tree := s_pzGood_t) fnat_s_pzGood (by kernel_rfl) (by kernel_rfl) (by kernel_rfl) (loopsOK_of (ls := []) (by kernel_rfl) trivial) (fun v => by kernel_rfl)

theorem s_pzGood_eq (l : List Int) (hl : l.length < 4611686018427387904) : s_pzGood l = some (isPz l) := by
  simp only [s_pzGood, s_pzGood_t, T.run, s_l1In_eq, Option.bind_some, s_l1All_eq _ _ _ hl, isPz]
  rw [w64_id (by omega) (by omega)]
  cases inB 3 9 l.length <;> simp


def s_l1Own_sh : FSh := ⟨[(.one (.sl (.int .i64) false false))], []⟩

def s_l1Own_fo : List FO := [⟨[(.one (.rw 0 0))], [(.row 0 (.int .i64))]⟩]
noncomputable def s_l1Own_t : List (Int) → T (Unit × List (Int)) := fun l =>
  (.test true
  (.test (decide ((2 * ((0 + (List.length l)) * 9)) ≤ 140737488355328))
   (.test (decide ((0 = 0) ∧ ((0 + (List.length l)) = (List.length ((win (List.replicate 0 (0 : Int)) 0 0) ++ l)))))
    (.ret ((), ((win (List.replicate 0 (0 : Int)) 0 0) ++ l)))
    .fail)
   .fail)
  .fail)
noncomputable def s_l1Own (v : List (Int)) : Option (Unit × List (Int)) := (s_l1Own_t v).run
noncomputable def s_l1Own_E : TEnv := E0
theorem s_l1Own_Eok : (s_l1Own_E).OK := E0ok
noncomputable def s_l1Own_told : Nat → Option SealT := fun id => none
theorem s_l1Own_ok : FOK Try.prog n_s_l1Own s_l1Own_sh s_l1Own_fo s_l1Own :=
  fn_ok (E := s_l1Own_E) (s_l1Own_Eok) (told := s_l1Own_told) (fl := []) (c := bodyOf fn_s_l1Own) (s := s_l1Own_sh) (l := s_l1Own_fo) (tree := s_l1Own_t) fnat_s_l1Own (by kernel_rfl) (by kernel_rfl) (by kernel_rfl) (loopsOK_of (ls := []) (by kernel_rfl) trivial) (fun v => by kernel_rfl)

theorem s_l1Own_eq (l : List Int) (hl : l.length < 1000000000000) : s_l1Own l = some ((), l) := by
  have h : 2 * (l.length * 9) ≤ 140737488355328 := by omega
  have hw : win ([] : List Int) 0 0 = [] := rfl
  simp [s_l1Own, s_l1Own_t, T.run, hw, h]


def s_TurnPuzzle_sh : FSh := ⟨[(.ag [(.sl (.int .i64) false false)]), (.one (.si .i64))], []⟩

def s_TurnPuzzle_w_fo : List FO := [⟨[(.ag [(.nl true true)]), (.one .sb)], []⟩, ⟨[(.ag [(.rw 0 0)]), (.one .sb)], [(.row 0 (.int .i64))]⟩]
noncomputable def s_TurnPuzzle_t : (List (Int) × Int) → T ((Unit × Bool) ⊕ ((Unit × Bool) × List (Int))) := fun (p_0, k) =>
  (.sub (s_pzGood p_0) fun z0 =>
  (.test (! z0)
  (.ret (Sum.inl ((), false)))
  (.sub (s_l1In (k, ((0 : Int), (w64 (((List.length p_0) : Int) - 1))))) fun z1 =>
   (.test (! z1)
   (.ret (Sum.inl ((), false)))
   (.test (decide (0 ≤ k))
    (.test (decide (((Int.toNat k) ≤ (List.length p_0)) ∧ ((List.length p_0) ≤ (List.length p_0))))
     (.sub (s_l1Own (win p_0 (Int.toNat k) ((List.length p_0) - (Int.toNat k)))) fun z2 =>
      (.test (decide (0 ≤ k))
      (.test (decide ((0 ≤ (Int.toNat k)) ∧ ((Int.toNat k) ≤ (List.length p_0))))
       (.test (decide ((0 + (List.length z2.2)) ≤ (List.length z2.2)))
        (.test (decide ((2 * (((List.length z2.2) + (List.length (win p_0 0 ((Int.toNat k) - 0)))) * 9)) ≤ 140737488355328))
         (.test (decide ((0 = 0) ∧ (((List.length z2.2) + (List.length (win p_0 0 ((Int.toNat k) - 0)))) = (List.length ((win z2.2 0 (List.length z2.2)) ++ (win p_0 0 ((Int.toNat k) - 0)))))))
          (.ret (Sum.inr (((), true), ((win z2.2 0 (List.length z2.2)) ++ (win p_0 0 ((Int.toNat k) - 0))))))
          .fail)
         .fail)
        .fail)
       .fail)
      .fail))
     .fail)
    .fail)))))
noncomputable def s_TurnPuzzle_w (v : (List (Int) × Int)) : Option ((Unit × Bool) ⊕ ((Unit × Bool) × List (Int))) := (s_TurnPuzzle_t v).run
noncomputable def s_TurnPuzzle_E : TEnv := (((E0.add1 n_s_pzGood s_pzGood_sh s_pzGood_fo s_pzGood).add1 n_s_l1In s_l1In_sh s_l1In_fo s_l1In).add1 n_s_l1Own s_l1Own_sh s_l1Own_fo s_l1Own)
theorem s_TurnPuzzle_Eok : (s_TurnPuzzle_E).OK := (((E0ok.add1 s_pzGood_ok).add1 s_l1In_ok).add1 s_l1Own_ok)
noncomputable def s_TurnPuzzle_told : Nat → Option SealT := fun id => none
theorem s_TurnPuzzle_w_ok : FOK Try.prog n_s_TurnPuzzle s_TurnPuzzle_sh s_TurnPuzzle_w_fo s_TurnPuzzle_w :=
  fn_ok (E := s_TurnPuzzle_E) (s_TurnPuzzle_Eok) (told := s_TurnPuzzle_told) (fl := []) (c := bodyOf fn_s_TurnPuzzle) (s := s_TurnPuzzle_sh) (l := s_TurnPuzzle_w_fo) (tree := s_TurnPuzzle_t) fnat_s_TurnPuzzle (by kernel_rfl) (by kernel_rfl) (by kernel_rfl) (loopsOK_of (ls := []) (by kernel_rfl) trivial) (fun v => by kernel_rfl)
def s_TurnPuzzle_fo : List FO := [⟨[(.ag [(.rw 0 0)]), (.one .sb)], [(.row 0 (.int .i64))]⟩]
def s_TurnPuzzle_m : ((Unit × Bool) ⊕ ((Unit × Bool) × List (Int))) → ((Unit × Bool) × List (Int)) := fun o => match o with | (.inl a) => (a, []) | (.inr x) => x
noncomputable def s_TurnPuzzle (v : (List (Int) × Int)) : Option ((Unit × Bool) × List (Int)) := (s_TurnPuzzle_w v).map s_TurnPuzzle_m
theorem s_TurnPuzzle_ok : FOK Try.prog n_s_TurnPuzzle s_TurnPuzzle_sh s_TurnPuzzle_fo s_TurnPuzzle :=
  FOK.own (l' := s_TurnPuzzle_fo) s_TurnPuzzle_w_ok s_TurnPuzzle_m [(.int .i64)] (by decide) (fun o => match o with | (.inl a) => .inr (by kernel_rfl) | (.inr x) => .inl (by kernel_rfl))

theorem s_TurnPuzzle_eq (l : List Int) (k : Int) (hl : l.length < 4611686018427387904) : s_TurnPuzzle (l, k) = some (((), (turnG l k).1), (turnG l k).2) := by
  simp only [s_TurnPuzzle, s_TurnPuzzle_w, s_TurnPuzzle_t, T.run, s_pzGood_eq l hl, s_l1In_eq, Option.bind_some, turnG]
  rw [w64_id (z := (l.length : Int) - 1) (by omega) (by omega)]
  cases hp : isPz l with
  | false => simp [s_TurnPuzzle_m]
  | true =>
    cases hk : inB 0 ((l.length : Int) - 1) k with
    | false => simp [s_TurnPuzzle_m]
    | true =>
      obtain ⟨w1, w2, k0, k1, l9⟩ := turn_facts hp hk
      have ho := s_l1Own_eq (l.drop k.toNat) (by rw [List.length_drop]; omega)
      have c1 : 2 * ((l.length - k.toNat + k.toNat) * 9) ≤ 140737488355328 := by omega
      have lt : (l.take k.toNat).length = k.toNat := by rw [List.length_take]; omega
      simp only [w1, w2, ho, k0, lt, List.length_drop, win_all, Option.bind_some]
      have e : win (l.drop k.toNat) 0 (l.length - k.toNat) = l.drop k.toNat := by have := win_all (l.drop k.toNat); rwa [List.length_drop] at this
      simp only [e, List.length_append, List.length_drop, lt]
      simp [k1, c1, s_TurnPuzzle_m]
      omega


def i_within_sh : FSh := ⟨[(.one (.si .i64)), (.one (.si .i64)), (.one (.si .i64))], []⟩

def i_within_fo : List FO := [⟨[(.one .sb)], []⟩]
noncomputable def i_within_t : (Int × Int × Int) → T Bool := fun (n, low, high) =>
  (.test (decide (n ≥ low))
  (.ret (decide (n ≤ high)))
  (.ret false))
noncomputable def i_within (v : (Int × Int × Int)) : Option Bool := (i_within_t v).run
noncomputable def i_within_E : TEnv := E0
theorem i_within_Eok : (i_within_E).OK := E0ok
noncomputable def i_within_told : Nat → Option SealT := fun id => none
theorem i_within_ok : FOK Try.prog n_i_within i_within_sh i_within_fo i_within :=
  fn_ok (E := i_within_E) (i_within_Eok) (told := i_within_told) (fl := []) (c := bodyOf fn_i_within) (s := i_within_sh) (l := i_within_fo) (tree := i_within_t) fnat_i_within (by kernel_rfl) (by kernel_rfl) (by kernel_rfl) (loopsOK_of (ls := []) (by kernel_rfl) trivial) (fun v => by kernel_rfl)

theorem i_within_eq (n low high : Int) : i_within (n, low, high) = some (inB low high n) := by
  simp only [i_within, i_within_t, T.run, ge_iff_le, decide_eq_true_eq, inB]
  by_cases h : low ≤ n <;> simp [h]


def i_IsPuzzle_1_sh : FSh := ⟨[(.one (.si .i64)), (.one (.pf 0 0 0))], [(.rcd 0 [(.si .i64)])]⟩

def i_IsPuzzle_1_fo : List FO := [⟨[(.one .sb)], [(.rcd 0 [(.si .i64)])]⟩]
noncomputable def i_IsPuzzle_1_t : ((Int × Unit) × Int) → T (Bool × Int) := fun ((k, ()), t1_0) =>
  (.sub (i_within (k, ((0 : Int), (w64 (t1_0 - 2))))) fun z0 =>
  (.ret ((! z0), t1_0)))
noncomputable def i_IsPuzzle_1 (v : ((Int × Unit) × Int)) : Option (Bool × Int) := (i_IsPuzzle_1_t v).run
noncomputable def i_IsPuzzle_1_E : TEnv := (E0.add1 n_i_within i_within_sh i_within_fo i_within)
theorem i_IsPuzzle_1_Eok : (i_IsPuzzle_1_E).OK := (E0ok.add1 i_within_ok)
noncomputable def i_IsPuzzle_1_told : Nat → Option SealT := fun id => none
theorem i_IsPuzzle_1_ok : FOK Try.prog n_i_IsPuzzle_1 i_IsPuzzle_1_sh i_IsPuzzle_1_fo i_IsPuzzle_1 :=
  fn_ok (E := i_IsPuzzle_1_E) (i_IsPuzzle_1_Eok) (told := i_IsPuzzle_1_told) (fl := []) (c := bodyOf fn_i_IsPuzzle_1) (s := i_IsPuzzle_1_sh) (l := i_IsPuzzle_1_fo) (tree := i_IsPuzzle_1_t) fnat_i_IsPuzzle_1 (by kernel_rfl) (by kernel_rfl) (by kernel_rfl) (loopsOK_of (ls := []) (by kernel_rfl) trivial) (fun v => by kernel_rfl)

theorem i_IsPuzzle_1_eq (k c : Int) (h : 0 ≤ c) (h2 : c < 4611686018427387904) : i_IsPuzzle_1 ((k, ()), c) = some (!inB 0 (c - 2) k, c) := by
  simp only [i_IsPuzzle_1, i_IsPuzzle_1_t, T.run, i_within_eq, Option.bind_some]
  rw [w64_id (by omega) (by omega)]


def slices_IndexFunc_int__i_IsPuzzle_1_sh : FSh := ⟨[(.one (.sl (.int .i64) false false)), (.clo n_i_IsPuzzle_1 [(.one (.pf 0 0 0))])], [(.rcd 0 [(.si .i64)])]⟩

def slices_IndexFunc_int__i_IsPuzzle_1_L2_sh : LSh := ⟨(fun ex => match ex with | .norm => [(0, none), (1, none), (7, none), (8, none)] | .exit i => if i = 0 then [] else [] | .ret => [(4, none)]), [(0, (.one (.sl (.int .i64) false false))), (1, (.clo n_i_IsPuzzle_1 [(.one (.pf 0 0 0))])), (7, (.one (.si .i64))), (8, (.one (.si .i64)))], [(.rcd 0 [(.si .i64)])], [⟨.ret, [(4, (.one (.si .i64)))], [(.rcd 0 [(.si .i64)])]⟩, ⟨(.exit 0), [], [(.rcd 0 [(.si .i64)])]⟩], [], []⟩
noncomputable def slices_IndexFunc_int__i_IsPuzzle_1_L2_step : ((List (Int) × Unit × Int × Int) × Int) → T (((List (Int) × Unit × Int × Int) × Int) ⊕ ((Int × Int) ⊕ (Unit × Int))) := fun ((s, (), t7, t8), r0_0) =>
  (.test (decide (t8 < t7))
  (.test (decide ((0 ≤ t8) ∧ (t8 < ((List.length s) : Int))))
   (.sub (s[(Int.toNat t8)]?) fun z0 =>
    (.sub (i_IsPuzzle_1 ((z0, ()), r0_0)) fun z1 =>
    (.test z1.1
    (.ret (Sum.inr (Sum.inl (t8, z1.2))))
    (.ret (Sum.inl ((s, ((), (t7, (w64 (t8 + 1))))), z1.2))))))
   .fail)
  (.ret (Sum.inr (Sum.inr ((), r0_0)))))
noncomputable def slices_IndexFunc_int__i_IsPuzzle_1_L2 (v : ((List (Int) × Unit × Int × Int) × Int)) : Option ((Int × Int) ⊕ (Unit × Int)) := loopO (fun v => (slices_IndexFunc_int__i_IsPuzzle_1_L2_step v).run) v

def slices_IndexFunc_int__i_IsPuzzle_1_fo : List FO := [⟨[(.one (.si .i64))], [(.rcd 0 [(.si .i64)])]⟩]
noncomputable def slices_IndexFunc_int__i_IsPuzzle_1_t : ((List (Int) × Unit) × Int) → T (Int × Int) := fun ((s, ()), r0_0) =>
  (.sub (slices_IndexFunc_int__i_IsPuzzle_1_L2 ((s, ((), (((List.length s) : Int), (0 : Int)))), r0_0)) fun z0 =>
  (.test (Sum.isLeft z0)
  (.sub (Sum.getLeft? z0) fun z1 =>
   (.ret (z1.1, z1.2)))
  (.sub (Sum.getRight? z0) fun z2 =>
   (.ret ((-1), z2.2)))))
noncomputable def slices_IndexFunc_int__i_IsPuzzle_1 (v : ((List (Int) × Unit) × Int)) : Option (Int × Int) := (slices_IndexFunc_int__i_IsPuzzle_1_t v).run
noncomputable def slices_IndexFunc_int__i_IsPuzzle_1_E : TEnv := (E0.add1 n_i_IsPuzzle_1 i_IsPuzzle_1_sh i_IsPuzzle_1_fo i_IsPuzzle_1)
theorem slices_IndexFunc_int__i_IsPuzzle_1_Eok : (slices_IndexFunc_int__i_IsPuzzle_1_E).OK := (E0ok.add1 i_IsPuzzle_1_ok)
noncomputable def slices_IndexFunc_int__i_IsPuzzle_1_told : Nat → Option SealT := fun id => if id = 2 then some (LSh.told slices_IndexFunc_int__i_IsPuzzle_1_L2_sh 1 (slices_IndexFunc_int__i_IsPuzzle_1_L2_step)) else none
theorem slices_IndexFunc_int__i_IsPuzzle_1_L2_ok : ToldOK Try.prog 1 (loopAt (bodyOf fn_slices_IndexFunc_int) [0]) (LSh.told slices_IndexFunc_int__i_IsPuzzle_1_L2_sh 1 (slices_IndexFunc_int__i_IsPuzzle_1_L2_step)) :=
  loop_ok (E := slices_IndexFunc_int__i_IsPuzzle_1_E) (slices_IndexFunc_int__i_IsPuzzle_1_Eok) (told := slices_IndexFunc_int__i_IsPuzzle_1_told) (l := slices_IndexFunc_int__i_IsPuzzle_1_L2_sh) (step := slices_IndexFunc_int__i_IsPuzzle_1_L2_step) (loopsOK_of (ls := []) (by kernel_rfl) trivial) (by kernel_rfl) (fun v => by kernel_rfl)
theorem slices_IndexFunc_int__i_IsPuzzle_1_ok : FOK Try.prog n_slices_IndexFunc_int slices_IndexFunc_int__i_IsPuzzle_1_sh slices_IndexFunc_int__i_IsPuzzle_1_fo slices_IndexFunc_int__i_IsPuzzle_1 :=
  fn_ok (E := slices_IndexFunc_int__i_IsPuzzle_1_E) (slices_IndexFunc_int__i_IsPuzzle_1_Eok) (told := slices_IndexFunc_int__i_IsPuzzle_1_told) (fl := []) (c := bodyOf fn_slices_IndexFunc_int) (s := slices_IndexFunc_int__i_IsPuzzle_1_sh) (l := slices_IndexFunc_int__i_IsPuzzle_1_fo) (tree := slices_IndexFunc_int__i_IsPuzzle_1_t) fnat_slices_IndexFunc_int (by kernel_rfl) (by kernel_rfl) (by kernel_rfl) (loopsOK_of (ls := [loopAt (bodyOf fn_slices_IndexFunc_int) [0]]) (by kernel_rfl) ⟨.inr ⟨_, by kernel_rfl, slices_IndexFunc_int__i_IsPuzzle_1_L2_ok⟩, trivial⟩) (fun v => by kernel_rfl)

theorem slices_IndexFunc_int__i_IsPuzzle_1_eq (l : List Int) (c : Int) (hl : l.length < 4611686018427387904) (h : 0 ≤ c) (h2 : c < 4611686018427387904) : slices_IndexFunc_int__i_IsPuzzle_1 ((l, ()), c) = some (idxI (fun k => !inB 0 (c - 2) k) l, c) := by
  have h := loop_find (step := fun v => (slices_IndexFunc_int__i_IsPuzzle_1_L2_step v).run) (xs := l) (fun k => !inB 0 (c - 2) k) (fun k => ((l, (), (l.length : Int), (k : Int)), c)) (fun k => .inl ((k : Int), c)) (.inr ((), c))
    (fun k x hx => by
      have hk := getElem?_lt hx
      simp only [slices_IndexFunc_int__i_IsPuzzle_1_L2_step, T.run, i_IsPuzzle_1_eq _ _ h h2, Option.bind_some, Int.toNat_natCast, hx]
      rw [w64_id (by omega) (by omega)]
      cases inB 0 (c - 2) x <;> simp [hk])
    (by simp [slices_IndexFunc_int__i_IsPuzzle_1_L2_step, T.run])
  simp only [slices_IndexFunc_int__i_IsPuzzle_1, slices_IndexFunc_int__i_IsPuzzle_1_t, T.run, slices_IndexFunc_int__i_IsPuzzle_1_L2]
  simp only [Int.natCast_zero] at h
  rw [h, idxI]
  cases l.findIdx? (fun k => !inB 0 (c - 2) k) <;> simp


def slices_ContainsFunc_int__i_IsPuzzle_1_sh : FSh := ⟨[(.one (.sl (.int .i64) false false)), (.clo n_i_IsPuzzle_1 [(.one (.pf 0 0 0))])], [(.rcd 0 [(.si .i64)])]⟩

def slices_ContainsFunc_int__i_IsPuzzle_1_fo : List FO := [⟨[(.one .sb)], [(.rcd 0 [(.si .i64)])]⟩]
noncomputable def slices_ContainsFunc_int__i_IsPuzzle_1_t : ((List (Int) × Unit) × Int) → T (Bool × Int) := fun ((s, ()), r0_0) =>
  (.sub (slices_IndexFunc_int__i_IsPuzzle_1 ((s, ()), r0_0)) fun z0 =>
  (.ret ((decide (z0.1 ≥ 0)), z0.2)))
noncomputable def slices_ContainsFunc_int__i_IsPuzzle_1 (v : ((List (Int) × Unit) × Int)) : Option (Bool × Int) := (slices_ContainsFunc_int__i_IsPuzzle_1_t v).run
noncomputable def slices_ContainsFunc_int__i_IsPuzzle_1_E : TEnv := (E0.add1 n_slices_IndexFunc_int slices_IndexFunc_int__i_IsPuzzle_1_sh slices_IndexFunc_int__i_IsPuzzle_1_fo slices_IndexFunc_int__i_IsPuzzle_1)
theorem slices_ContainsFunc_int__i_IsPuzzle_1_Eok : (slices_ContainsFunc_int__i_IsPuzzle_1_E).OK := (E0ok.add1 slices_IndexFunc_int__i_IsPuzzle_1_ok)
noncomputable def slices_ContainsFunc_int__i_IsPuzzle_1_told : Nat → Option SealT := fun id => none
theorem slices_ContainsFunc_int__i_IsPuzzle_1_ok : FOK Try.prog n_slices_ContainsFunc_int slices_ContainsFunc_int__i_IsPuzzle_1_sh slices_ContainsFunc_int__i_IsPuzzle_1_fo slices_ContainsFunc_int__i_IsPuzzle_1 :=
  fn_ok (E := slices_ContainsFunc_int__i_IsPuzzle_1_E) (slices_ContainsFunc_int__i_IsPuzzle_1_Eok) (told := slices_ContainsFunc_int__i_IsPuzzle_1_told) (fl := []) (c := bodyOf fn_slices_ContainsFunc_int) (s := slices_ContainsFunc_int__i_IsPuzzle_1_sh) (l := slices_ContainsFunc_int__i_IsPuzzle_1_fo) (tree := slices_ContainsFunc_int__i_IsPuzzle_1_t) fnat_slices_ContainsFunc_int (by kernel_rfl) (by kernel_rfl) (by kernel_rfl) (loopsOK_of (ls := []) (by kernel_rfl) trivial) (fun v => by kernel_rfl)

theorem slices_ContainsFunc_int__i_IsPuzzle_1_eq (l : List Int) (c : Int) (hl : l.length < 4611686018427387904) (h : 0 ≤ c) (h2 : c < 4611686018427387904) : slices_ContainsFunc_int__i_IsPuzzle_1 ((l, ()), c) = some (l.any (fun k => !inB 0 (c - 2) k), c) := by
  simp only [slices_ContainsFunc_int__i_IsPuzzle_1, slices_ContainsFunc_int__i_IsPuzzle_1_t, T.run, slices_IndexFunc_int__i_IsPuzzle_1_eq _ _ hl h h2, Option.bind_some, idxI_ge]


def i_IsPuzzle_sh : FSh := ⟨[(.ag [(.sl (.int .i64) false false)])], []⟩

def i_IsPuzzle_fo : List FO := [⟨[(.one .sb)], []⟩]
noncomputable def i_IsPuzzle_t : List (Int) → T Bool := fun p_0 =>
  (.sub (i_within (((List.length p_0) : Int), ((3 : Int), (9 : Int)))) fun z0 =>
  (.test z0
  (.sub (slices_ContainsFunc_int__i_IsPuzzle_1 ((p_0, ()), ((List.length p_0) : Int))) fun z1 =>
   (.ret (! z1.1)))
  (.ret false)))
noncomputable def i_IsPuzzle (v : List (Int)) : Option Bool := (i_IsPuzzle_t v).run
noncomputable def i_IsPuzzle_E : TEnv := ((E0.add1 n_i_within i_within_sh i_within_fo i_within).add1 n_slices_ContainsFunc_int slices_ContainsFunc_int__i_IsPuzzle_1_sh slices_ContainsFunc_int__i_IsPuzzle_1_fo slices_ContainsFunc_int__i_IsPuzzle_1)
theorem i_IsPuzzle_Eok : (i_IsPuzzle_E).OK := ((E0ok.add1 i_within_ok).add1 slices_ContainsFunc_int__i_IsPuzzle_1_ok)
noncomputable def i_IsPuzzle_told : Nat → Option SealT := fun id => none
theorem i_IsPuzzle_ok : FOK Try.prog n_i_IsPuzzle i_IsPuzzle_sh i_IsPuzzle_fo i_IsPuzzle :=
  fn_ok (E := i_IsPuzzle_E) (i_IsPuzzle_Eok) (told := i_IsPuzzle_told) (fl := []) (c := bodyOf fn_i_IsPuzzle) (s := i_IsPuzzle_sh) (l := i_IsPuzzle_fo) (tree := i_IsPuzzle_t) fnat_i_IsPuzzle (by kernel_rfl) (by kernel_rfl) (by kernel_rfl) (loopsOK_of (ls := []) (by kernel_rfl) trivial) (fun v => by kernel_rfl)

theorem i_IsPuzzle_eq (l : List Int) (hl : l.length < 4611686018427387904) : i_IsPuzzle l = some (isPz l) := by
  simp only [i_IsPuzzle, i_IsPuzzle_t, T.run, i_within_eq, Option.bind_some, slices_ContainsFunc_int__i_IsPuzzle_1_eq l l.length hl (by omega) (by omega), all_any, isPz]
  cases inB 3 9 l.length <;> simp


def i_Puzzle_isPlace_sh : FSh := ⟨[(.ag [(.sl (.int .i64) false false)]), (.one (.si .i64))], []⟩

def i_Puzzle_isPlace_fo : List FO := [⟨[(.one .sb)], []⟩]
noncomputable def i_Puzzle_isPlace_t : (List (Int) × Int) → T Bool := fun (p_0, at') =>
  (.sub (i_IsPuzzle p_0) fun z0 =>
  (.test z0
  (.sub (i_within (at', ((0 : Int), (w64 (((List.length p_0) : Int) - 1))))) fun z1 =>
   (.ret z1))
  (.ret false)))
noncomputable def i_Puzzle_isPlace (v : (List (Int) × Int)) : Option Bool := (i_Puzzle_isPlace_t v).run
noncomputable def i_Puzzle_isPlace_E : TEnv := ((E0.add1 n_i_IsPuzzle i_IsPuzzle_sh i_IsPuzzle_fo i_IsPuzzle).add1 n_i_within i_within_sh i_within_fo i_within)
theorem i_Puzzle_isPlace_Eok : (i_Puzzle_isPlace_E).OK := ((E0ok.add1 i_IsPuzzle_ok).add1 i_within_ok)
noncomputable def i_Puzzle_isPlace_told : Nat → Option SealT := fun id => none
theorem i_Puzzle_isPlace_ok : FOK Try.prog n_i_Puzzle_isPlace i_Puzzle_isPlace_sh i_Puzzle_isPlace_fo i_Puzzle_isPlace :=
  fn_ok (E := i_Puzzle_isPlace_E) (i_Puzzle_isPlace_Eok) (told := i_Puzzle_isPlace_told) (fl := []) (c := bodyOf fn_i_Puzzle_isPlace) (s := i_Puzzle_isPlace_sh) (l := i_Puzzle_isPlace_fo) (tree := i_Puzzle_isPlace_t) fnat_i_Puzzle_isPlace (by kernel_rfl) (by kernel_rfl) (by kernel_rfl) (loopsOK_of (ls := []) (by kernel_rfl) trivial) (fun v => by kernel_rfl)

theorem i_Puzzle_isPlace_eq (l : List Int) (at' : Int) (hl : l.length < 4611686018427387904) : i_Puzzle_isPlace (l, at') = some (isPz l && inB 0 ((l.length : Int) - 1) at') := by
  simp only [i_Puzzle_isPlace, i_Puzzle_isPlace_t, T.run, i_IsPuzzle_eq l hl, Option.bind_some, i_within_eq]
  rw [w64_id (z := (l.length : Int) - 1) (by omega) (by omega)]
  cases isPz l <;> simp


def slices_Grow_int_sh : FSh := ⟨[.one (.nl true true), .one (.si .i64)], []⟩
def slices_Grow_int_fo : List FO := [⟨[.one (.rw 0 0)], [.row 0 (.int .i64)]⟩]
def slices_Grow_int (v : Unit × Int) : Option (Unit × List Int) := if 0 ≤ v.2 ∧ v.2 ≤ 1000000000000 ∧ v.2.toNat * 8 ≤ 140737488355328 then some ((), []) else none
def slices_Grow_int_ren : Shelf.Ren := ⟨fun _ => n_slices_Grow_int, fun t => if t = 0 then 0 else if t = 4 then 4 else if t = 9 then 9 else if t = 20 then 20 else if t = 22 then 22 else 3, fun x => x⟩
theorem slices_Grow_int_lay : Lays8.n4 Try.prog slices_Grow_int_ren :=
  { f4 := ⟨"slices.Grow[[]int,int]", by kernel_rfl, by kernel_rfl⟩, mixed := by kernel_rfl, t0 := by kernel_rfl, a0 := fun w => by kernel_rfl, z0 := fun w => by kernel_rfl, v0 := fun w => by kernel_rfl, t3 := by kernel_rfl, a3 := fun w => by kernel_rfl, z3 := fun w => by kernel_rfl, v3 := fun w => by kernel_rfl, t4 := by kernel_rfl, a4 := fun w => by kernel_rfl, z4 := fun w => by kernel_rfl, v4 := fun w => by kernel_rfl, t9 := by kernel_rfl, a9 := fun w => by kernel_rfl, z9 := fun w => by kernel_rfl, v9 := fun w => by kernel_rfl, t20 := by kernel_rfl, a20 := fun w => by kernel_rfl, z20 := fun w => by kernel_rfl, v20 := fun w => by kernel_rfl, t22 := by kernel_rfl, a22 := fun w => by kernel_rfl, z22 := fun w => by kernel_rfl, v22 := fun w => by kernel_rfl }
noncomputable def slices_Grow_int_info : TypeInfo := (Try.prog.info? 3).get (by kernel_rfl)
theorem slices_Grow_int_ok : FOK Try.prog n_slices_Grow_int slices_Grow_int_sh slices_Grow_int_fo slices_Grow_int :=
  grow_ok ⟨_, fnat_slices_Grow_int, by kernel_rfl, by kernel_rfl⟩ (ρr := slices_Grow_int_ren) rfl slices_Grow_int_lay (.int .i64) slices_Grow_int_info (.int .i64 0) (by kernel_rfl) (by kernel_rfl) (by kernel_rfl) (by decide) 8 (by kernel_rfl)

def slices_Concat_int_sh : FSh := ⟨[(.one (.sl (.list false (.int .i64)) false false))], []⟩

def slices_Concat_int_L3_sh : LSh := ⟨(fun ex => match ex with | .norm => [(0, none), (3, none), (9, none), (10, none), (11, none)] | .exit i => if i = 0 then [(0, none), (3, none)] else [] | .ret => [(2, none)]), [(0, (.one (.sl (.list false (.int .i64)) false false))), (3, (.one (.si .i64))), (9, (.one (.sl (.list false (.int .i64)) false false))), (10, (.one (.si .i64))), (11, (.one (.si .i64)))], [], [⟨(.exit 0), [(0, (.one (.sl (.list false (.int .i64)) false false))), (3, (.one (.si .i64)))], []⟩], [], []⟩
noncomputable def slices_Concat_int_L3_step : (List (List (Int)) × Int × List (List (Int)) × Int × Int) → T ((List (List (Int)) × Int × List (List (Int)) × Int × Int) ⊕ (List (List (Int)) × Int)) := fun (slices, size, t9, t10, t11) =>
  (.test (decide (t11 < t10))
  (.test (decide ((0 ≤ t11) ∧ (t11 < ((List.length t9) : Int))))
   (.sub (t9[(Int.toNat t11)]?) fun z0 =>
    (.test (decide ((w64 (size + ((List.length z0) : Int))) < 0))
    .fail
    (.ret (Sum.inl (slices, ((w64 (size + ((List.length z0) : Int))), (t9, (t10, (w64 (t11 + 1))))))))))
   .fail)
  (.ret (Sum.inr (slices, size))))
noncomputable def slices_Concat_int_L3 (v : (List (List (Int)) × Int × List (List (Int)) × Int × Int)) : Option (List (List (Int)) × Int) := loopO (fun v => (slices_Concat_int_L3_step v).run) v

def slices_Concat_int_L11_sh : LSh := ⟨(fun ex => match ex with | .norm => [(6, none), (25, none), (26, none), (27, none)] | .exit i => if i = 2 then [(6, none)] else [] | .ret => [(2, none)]), [(6, (.one (.rw 0 0))), (25, (.one (.sl (.list false (.int .i64)) false false))), (26, (.one (.si .i64))), (27, (.one (.si .i64)))], [(.row 0 (.int .i64))], [⟨(.exit 2), [(6, (.one (.rw 0 0)))], [(.row 0 (.int .i64))]⟩], [], []⟩
noncomputable def slices_Concat_int_L11_step : ((Unit × List (List (Int)) × Int × Int) × List (Int)) → T (((Unit × List (List (Int)) × Int × Int) × List (Int)) ⊕ (Unit × List (Int))) := fun (((), t25, t26, t27), newslice) =>
  (.test (decide (t27 < t26))
  (.test (decide ((0 ≤ t27) ∧ (t27 < ((List.length t25) : Int))))
   (.sub (t25[(Int.toNat t27)]?) fun z0 =>
    (.test (decide ((0 + (List.length newslice)) ≤ (List.length newslice)))
    (.test (decide ((2 * (((List.length newslice) + (List.length z0)) * 9)) ≤ 140737488355328))
     (.test (decide ((0 = 0) ∧ (((List.length newslice) + (List.length z0)) = (List.length ((win newslice 0 (List.length newslice)) ++ z0)))))
      (.ret (Sum.inl (((), (t25, (t26, (w64 (t27 + 1))))), ((win newslice 0 (List.length newslice)) ++ z0))))
      .fail)
     .fail)
    .fail))
   .fail)
  (.test (decide ((0 = 0) ∧ ((List.length newslice) = (List.length newslice))))
   (.ret (Sum.inr ((), newslice)))
   .fail))
noncomputable def slices_Concat_int_L11 (v : ((Unit × List (List (Int)) × Int × Int) × List (Int))) : Option (Unit × List (Int)) := loopO (fun v => (slices_Concat_int_L11_step v).run) v

def slices_Concat_int_fo : List FO := [⟨[(.one (.rw 0 0))], [(.row 0 (.int .i64))]⟩]
noncomputable def slices_Concat_int_t : List (List (Int)) → T (Unit × List (Int)) := fun slices =>
  (.sub (slices_Concat_int_L3 (slices, ((0 : Int), (slices, (((List.length slices) : Int), (0 : Int)))))) fun z0 =>
  (.sub (slices_Grow_int ((), z0.2)) fun z1 =>
  (.test (decide ((0 = 0) ∧ ((List.length z1.2) = (List.length z1.2))))
  (.sub (slices_Concat_int_L11 (((), (z0.1, (((List.length z0.1) : Int), (0 : Int)))), z1.2)) fun z2 =>
   (.test (decide ((0 = 0) ∧ ((List.length z2.2) = (List.length z2.2))))
   (.ret ((), z2.2))
   .fail))
  .fail)))
noncomputable def slices_Concat_int (v : List (List (Int))) : Option (Unit × List (Int)) := (slices_Concat_int_t v).run
noncomputable def slices_Concat_int_E : TEnv := (E0.add1 n_slices_Grow_int slices_Grow_int_sh slices_Grow_int_fo slices_Grow_int)
theorem slices_Concat_int_Eok : (slices_Concat_int_E).OK := (E0ok.add1 slices_Grow_int_ok)
noncomputable def slices_Concat_int_told : Nat → Option SealT := fun id => if id = 3 then some (LSh.told slices_Concat_int_L3_sh 0 (slices_Concat_int_L3_step)) else if id = 11 then some (LSh.told slices_Concat_int_L11_sh 0 (slices_Concat_int_L11_step)) else none
theorem slices_Concat_int_L3_ok : ToldOK Try.prog 0 (loopAt (bodyOf fn_slices_Concat_int) [0]) (LSh.told slices_Concat_int_L3_sh 0 (slices_Concat_int_L3_step)) :=
  loop_ok (E := slices_Concat_int_E) (slices_Concat_int_Eok) (told := slices_Concat_int_told) (l := slices_Concat_int_L3_sh) (step := slices_Concat_int_L3_step) (loopsOK_of (ls := []) (by kernel_rfl) trivial) (by kernel_rfl) (fun v => by kernel_rfl)
theorem slices_Concat_int_L11_ok : ToldOK Try.prog 0 (loopAt (bodyOf fn_slices_Concat_int) [1]) (LSh.told slices_Concat_int_L11_sh 0 (slices_Concat_int_L11_step)) :=
  loop_ok (E := slices_Concat_int_E) (slices_Concat_int_Eok) (told := slices_Concat_int_told) (l := slices_Concat_int_L11_sh) (step := slices_Concat_int_L11_step) (loopsOK_of (ls := []) (by kernel_rfl) trivial) (by kernel_rfl) (fun v => by kernel_rfl)
theorem slices_Concat_int_ok : FOK Try.prog n_slices_Concat_int slices_Concat_int_sh slices_Concat_int_fo slices_Concat_int :=
  fn_ok (E := slices_Concat_int_E) (slices_Concat_int_Eok) (told := slices_Concat_int_told) (fl := []) (c := bodyOf fn_slices_Concat_int) (s := slices_Concat_int_sh) (l := slices_Concat_int_fo) (tree := slices_Concat_int_t) fnat_slices_Concat_int (by kernel_rfl) (by kernel_rfl) (by kernel_rfl) (loopsOK_of (ls := [loopAt (bodyOf fn_slices_Concat_int) [0], loopAt (bodyOf fn_slices_Concat_int) [1]]) (by kernel_rfl) ⟨.inr ⟨_, by kernel_rfl, slices_Concat_int_L3_ok⟩, ⟨.inr ⟨_, by kernel_rfl, slices_Concat_int_L11_ok⟩, trivial⟩⟩) (fun v => by kernel_rfl)

theorem slices_Concat_int_two (a b : List Int) (hl : a.length + b.length ≤ 1000) : slices_Concat_int [a, b] = some ((), a ++ b) := by
  have h3 : slices_Concat_int_L3 ([a, b], ((0 : Int), ([a, b], ((2 : Int), (0 : Int))))) = some ([a, b], ((a.length + b.length : Nat) : Int)) := by
    simp only [slices_Concat_int_L3]
    have w0 : w64 (a.length : Int) = (a.length : Int) := w64_id (by omega) (by omega)
    have w1 : w64 (1 : Int) = 1 := w64_id (by omega) (by omega)
    have w2 : w64 ((a.length : Int) + (b.length : Int)) = ((a.length + b.length : Nat) : Int) := by rw [w64_id (by omega) (by omega)]; omega
    have w3 : w64 ((1 : Int) + 1) = 2 := w64_id (by omega) (by omega)
    have c0 : ¬ ((a.length : Int) < 0) := by omega
    have c1 : ¬ (((a.length + b.length : Nat) : Int) < 0) := by omega
    have s1 : (slices_Concat_int_L3_step ([a, b], ((0 : Int), ([a, b], ((2 : Int), (0 : Int)))))).run = some (.inl ([a, b], ((a.length : Int), ([a, b], ((2 : Int), (1 : Int)))))) := by
      simp [slices_Concat_int_L3_step, T.run, w0, w1, c0]
    have s2 : (slices_Concat_int_L3_step ([a, b], ((a.length : Int), ([a, b], ((2 : Int), (1 : Int)))))).run = some (.inl ([a, b], (((a.length + b.length : Nat) : Int), ([a, b], ((2 : Int), (2 : Int)))))) := by
      simp only [slices_Concat_int_L3_step, T.run, w2, w3]
      simp [c1]
      omega
    have s3 : (slices_Concat_int_L3_step ([a, b], (((a.length + b.length : Nat) : Int), ([a, b], ((2 : Int), (2 : Int)))))).run = some (.inr ([a, b], ((a.length + b.length : Nat) : Int))) := by
      simp [slices_Concat_int_L3_step, T.run]
    rw [loopO_next s1, loopO_next s2, loopO_done s3]
  have hg : slices_Grow_int ((), ((a.length + b.length : Nat) : Int)) = some ((), []) := by
    unfold slices_Grow_int
    rw [if_pos ⟨by simp only []; omega, by simp only []; omega, by simp only []; omega⟩]
  have h11 : slices_Concat_int_L11 (((), ([a, b], ((2 : Int), (0 : Int)))), ([] : List Int)) = some ((), a ++ b) := by
    simp only [slices_Concat_int_L11]
    have w1 : w64 (1 : Int) = 1 := w64_id (by omega) (by omega)
    have w3 : w64 (2 : Int) = 2 := w64_id (by omega) (by omega)
    have c0 : 2 * (a.length * 9) ≤ 140737488355328 := by omega
    have c1 : 2 * ((a.length + b.length) * 9) ≤ 140737488355328 := by omega
    have hw : win ([] : List Int) 0 0 = [] := rfl
    have s1 : (slices_Concat_int_L11_step (((), ([a, b], ((2 : Int), (0 : Int)))), ([] : List Int))).run = some (.inl (((), ([a, b], ((2 : Int), (1 : Int)))), a)) := by
      simp [slices_Concat_int_L11_step, T.run, w1, c0, hw]
    have s2 : (slices_Concat_int_L11_step (((), ([a, b], ((2 : Int), (1 : Int)))), a)).run = some (.inl (((), ([a, b], ((2 : Int), (2 : Int)))), a ++ b)) := by
      simp [slices_Concat_int_L11_step, T.run, w3, c1, win_all]
    have s3 : (slices_Concat_int_L11_step (((), ([a, b], ((2 : Int), (2 : Int)))), a ++ b)).run = some (.inr ((), a ++ b)) := by
      simp [slices_Concat_int_L11_step, T.run]
    rw [loopO_next s1, loopO_next s2, loopO_done s3]
  simp only [slices_Concat_int, slices_Concat_int_t, T.run, List.length_cons, List.length_nil]
  have e2 : ((0 + 1 + 1 : Nat) : Int) = 2 := rfl
  simp only [e2, h3, Option.bind_some, hg, List.length_nil, true_and, decide_true, if_true, List.length_cons, h11]


def i_TurnPuzzle_sh : FSh := ⟨[(.ag [(.sl (.int .i64) false false)]), (.one (.si .i64))], []⟩

def i_TurnPuzzle_w_fo : List FO := [⟨[(.ag [(.nl true true)]), (.one .sb)], []⟩, ⟨[(.ag [(.rw 0 0)]), (.one .sb)], [(.row 0 (.int .i64))]⟩]
noncomputable def i_TurnPuzzle_t : (List (Int) × Int) → T ((Unit × Bool) ⊕ ((Unit × Bool) × List (Int))) := fun (p_0, k) =>
  (.sub (i_Puzzle_isPlace (p_0, k)) fun z0 =>
  (.test (! z0)
  (.ret (Sum.inl ((), false)))
  (.test (decide (0 ≤ k))
   (.test (decide (((Int.toNat k) ≤ (List.length p_0)) ∧ ((List.length p_0) ≤ (List.length p_0))))
    (.test (decide (0 ≤ k))
     (.test (decide ((0 ≤ (Int.toNat k)) ∧ ((Int.toNat k) ≤ (List.length p_0))))
      (.test (decide (2 ≤ (List.length [(win p_0 (Int.toNat k) ((List.length p_0) - (Int.toNat k))), (win p_0 0 ((Int.toNat k) - 0))])))
       (.sub (slices_Concat_int (win [(win p_0 (Int.toNat k) ((List.length p_0) - (Int.toNat k))), (win p_0 0 ((Int.toNat k) - 0))] 0 2)) fun z1 =>
        (.test (decide ((0 = 0) ∧ ((List.length z1.2) = (List.length z1.2))))
        (.ret (Sum.inr (((), true), z1.2)))
        .fail))
       .fail)
      .fail)
     .fail)
    .fail)
   .fail)))
noncomputable def i_TurnPuzzle_w (v : (List (Int) × Int)) : Option ((Unit × Bool) ⊕ ((Unit × Bool) × List (Int))) := (i_TurnPuzzle_t v).run
noncomputable def i_TurnPuzzle_E : TEnv := ((E0.add1 n_i_Puzzle_isPlace i_Puzzle_isPlace_sh i_Puzzle_isPlace_fo i_Puzzle_isPlace).add1 n_slices_Concat_int slices_Concat_int_sh slices_Concat_int_fo slices_Concat_int)
theorem i_TurnPuzzle_Eok : (i_TurnPuzzle_E).OK := ((E0ok.add1 i_Puzzle_isPlace_ok).add1 slices_Concat_int_ok)
noncomputable def i_TurnPuzzle_told : Nat → Option SealT := fun id => none
theorem i_TurnPuzzle_w_ok : FOK Try.prog n_i_TurnPuzzle i_TurnPuzzle_sh i_TurnPuzzle_w_fo i_TurnPuzzle_w :=
  fn_ok (E := i_TurnPuzzle_E) (i_TurnPuzzle_Eok) (told := i_TurnPuzzle_told) (fl := []) (c := bodyOf fn_i_TurnPuzzle) (s := i_TurnPuzzle_sh) (l := i_TurnPuzzle_w_fo) (tree := i_TurnPuzzle_t) fnat_i_TurnPuzzle (by kernel_rfl) (by kernel_rfl) (by kernel_rfl) (loopsOK_of (ls := []) (by kernel_rfl) trivial) (fun v => by kernel_rfl)
def i_TurnPuzzle_fo : List FO := [⟨[(.ag [(.rw 0 0)]), (.one .sb)], [(.row 0 (.int .i64))]⟩]
def i_TurnPuzzle_m : ((Unit × Bool) ⊕ ((Unit × Bool) × List (Int))) → ((Unit × Bool) × List (Int)) := fun o => match o with | (.inl a) => (a, []) | (.inr x) => x
noncomputable def i_TurnPuzzle (v : (List (Int) × Int)) : Option ((Unit × Bool) × List (Int)) := (i_TurnPuzzle_w v).map i_TurnPuzzle_m
theorem i_TurnPuzzle_ok : FOK Try.prog n_i_TurnPuzzle i_TurnPuzzle_sh i_TurnPuzzle_fo i_TurnPuzzle :=
  FOK.own (l' := i_TurnPuzzle_fo) i_TurnPuzzle_w_ok i_TurnPuzzle_m [(.int .i64)] (by decide) (fun o => match o with | (.inl a) => .inr (by kernel_rfl) | (.inr x) => .inl (by kernel_rfl))

theorem i_TurnPuzzle_eq (l : List Int) (k : Int) (hl : l.length < 4611686018427387904) : i_TurnPuzzle (l, k) = some (((), (turnG l k).1), (turnG l k).2) := by
  simp only [i_TurnPuzzle, i_TurnPuzzle_w, i_TurnPuzzle_t, T.run, i_Puzzle_isPlace_eq l k hl, Option.bind_some, turnG]
  cases hp : isPz l with
  | false => simp [i_TurnPuzzle_m]
  | true =>
    cases hk : inB 0 ((l.length : Int) - 1) k with
    | false => simp [i_TurnPuzzle_m]
    | true =>
      obtain ⟨w1, w2, k0, k1, l9⟩ := turn_facts hp hk
      have hc := slices_Concat_int_two (l.drop k.toNat) (l.take k.toNat) (by rw [List.length_drop, List.length_take]; omega)
      have hw : ∀ a b : List Int, win [a, b] 0 2 = [a, b] := fun _ _ => rfl
      simp only [w1, w2, hw, k0, hc]
      simp [k1, i_TurnPuzzle_m]


def l_eqIntS_sh : FSh := ⟨[(.one (.sl (.int .i64) false false)), (.one (.sl (.int .i64) false false))], []⟩

def l_eqIntS_L4_sh : LSh := ⟨(fun ex => match ex with | .norm => [(0, none), (1, none), (5, none)] | .exit i => if i = 0 then [] else [] | .ret => [(4, none)]), [(0, (.one (.sl (.int .i64) false false))), (1, (.one (.sl (.int .i64) false false))), (5, (.one (.si .i64)))], [], [⟨.ret, [(4, (.one .sb))], []⟩, ⟨(.exit 0), [], []⟩], [], []⟩
noncomputable def l_eqIntS_L4_step : (List (Int) × List (Int) × Int) → T ((List (Int) × List (Int) × Int) ⊕ (Bool ⊕ Unit)) := fun (a, b, i) =>
  (.test (decide (i < ((List.length a) : Int)))
  (.test (decide ((0 ≤ i) ∧ (i < ((List.length a) : Int))))
   (.sub (a[(Int.toNat i)]?) fun z0 =>
    (.test (decide ((0 ≤ i) ∧ (i < ((List.length b) : Int))))
    (.sub (b[(Int.toNat i)]?) fun z1 =>
     (.test (z0 != z1)
     (.ret (Sum.inr (Sum.inl false)))
     (.ret (Sum.inl (a, (b, (w64 (i + 1))))))))
    .fail))
   .fail)
  (.ret (Sum.inr (Sum.inr ()))))
noncomputable def l_eqIntS_L4 (v : (List (Int) × List (Int) × Int)) : Option (Bool ⊕ Unit) := loopO (fun v => (l_eqIntS_L4_step v).run) v

def l_eqIntS_fo : List FO := [⟨[(.one .sb)], []⟩]
noncomputable def l_eqIntS_t : (List (Int) × List (Int)) → T Bool := fun (a, b) =>
  (.test (((List.length a) : Int) != ((List.length b) : Int))
  (.ret false)
  (.sub (l_eqIntS_L4 (a, (b, (0 : Int)))) fun z0 =>
   (.test (Sum.isLeft z0)
   (.sub (Sum.getLeft? z0) fun z1 =>
    (.ret z1))
   (.sub (Sum.getRight? z0) fun z2 =>
    (.ret true)))))
noncomputable def l_eqIntS (v : (List (Int) × List (Int))) : Option Bool := (l_eqIntS_t v).run
noncomputable def l_eqIntS_E : TEnv := E0
theorem l_eqIntS_Eok : (l_eqIntS_E).OK := E0ok
noncomputable def l_eqIntS_told : Nat → Option SealT := fun id => if id = 4 then some (LSh.told l_eqIntS_L4_sh 0 (l_eqIntS_L4_step)) else none
theorem l_eqIntS_L4_ok : ToldOK Try.prog 0 (loopAt (bodyOf fn_l_eqIntS) [0]) (LSh.told l_eqIntS_L4_sh 0 (l_eqIntS_L4_step)) :=
  loop_ok (E := l_eqIntS_E) (l_eqIntS_Eok) (told := l_eqIntS_told) (l := l_eqIntS_L4_sh) (step := l_eqIntS_L4_step) (loopsOK_of (ls := []) (by kernel_rfl) trivial) (by kernel_rfl) (fun v => by kernel_rfl)
theorem l_eqIntS_ok : FOK Try.prog n_l_eqIntS l_eqIntS_sh l_eqIntS_fo l_eqIntS :=
  fn_ok (E := l_eqIntS_E) (l_eqIntS_Eok) (told := l_eqIntS_told) (fl := []) (c := bodyOf fn_l_eqIntS) (s := l_eqIntS_sh) (l := l_eqIntS_fo) (tree := l_eqIntS_t) fnat_l_eqIntS (by kernel_rfl) (by kernel_rfl) (by kernel_rfl) (loopsOK_of (ls := [loopAt (bodyOf fn_l_eqIntS) [0]]) (by kernel_rfl) ⟨.inr ⟨_, by kernel_rfl, l_eqIntS_L4_ok⟩, trivial⟩) (fun v => by kernel_rfl)

theorem l_eqIntS_eq (a b : List Int) (hl : a.length < 4611686018427387904) : l_eqIntS (a, b) = some (decide (a = b)) := by
  by_cases hab : a.length = b.length
  · have h := loop_any (step := fun v => (l_eqIntS_L4_step v).run) (xs := a.zip b) (fun p => p.1 != p.2) (fun k => (a, b, (k : Int))) (.inl false) (.inr ())
      (fun k x hx => by
        have hk := getElem?_lt hx
        rw [List.length_zip, hab, Nat.min_self] at hk
        rw [List.getElem?_zip_eq_some] at hx
        simp only [l_eqIntS_L4_step, T.run, Option.bind_some, Int.toNat_natCast, hx.1, hx.2]
        rw [w64_id (by omega) (by omega)]
        have hka : k < a.length := by omega
        cases x.1 != x.2 <;> simp [hk, hka])
      (by simp [l_eqIntS_L4_step, T.run, hab])
    simp only [l_eqIntS, l_eqIntS_t, T.run, l_eqIntS_L4]
    simp only [Int.natCast_zero] at h
    rw [h, hab]
    have e : (a.zip b).any (fun p => p.1 != p.2) = !decide (a = b) := zip_any_ne a b hab
    rw [e]
    cases decide (a = b) <;> simp
  · simp only [l_eqIntS, l_eqIntS_t, T.run]
    have : a ≠ b := fun e => hab (by rw [e])
    simp [this]
    omega


def l_eqPuzzle_sh : FSh := ⟨[(.ag [(.sl (.int .i64) false false)]), (.ag [(.sl (.int .i64) false false)])], []⟩

def l_eqPuzzle_fo : List FO := [⟨[(.one .sb)], []⟩]
noncomputable def l_eqPuzzle_t : (List (Int) × List (Int)) → T Bool := fun (a_0, b_0) =>
  (.sub (l_eqIntS (a_0, b_0)) fun z0 =>
  (.test (! z0)
  (.ret false)
  (.ret true)))
noncomputable def l_eqPuzzle (v : (List (Int) × List (Int))) : Option Bool := (l_eqPuzzle_t v).run
noncomputable def l_eqPuzzle_E : TEnv := (E0.add1 n_l_eqIntS l_eqIntS_sh l_eqIntS_fo l_eqIntS)
theorem l_eqPuzzle_Eok : (l_eqPuzzle_E).OK := (E0ok.add1 l_eqIntS_ok)
noncomputable def l_eqPuzzle_told : Nat → Option SealT := fun id => none
theorem l_eqPuzzle_ok : FOK Try.prog n_l_eqPuzzle l_eqPuzzle_sh l_eqPuzzle_fo l_eqPuzzle :=
  fn_ok (E := l_eqPuzzle_E) (l_eqPuzzle_Eok) (told := l_eqPuzzle_told) (fl := []) (c := bodyOf fn_l_eqPuzzle) (s := l_eqPuzzle_sh) (l := l_eqPuzzle_fo) (tree := l_eqPuzzle_t) fnat_l_eqPuzzle (by kernel_rfl) (by kernel_rfl) (by kernel_rfl) (loopsOK_of (ls := []) (by kernel_rfl) trivial) (fun v => by kernel_rfl)

theorem l_eqPuzzle_eq (a b : List Int) (hl : a.length < 4611686018427387904) : l_eqPuzzle (a, b) = some (decide (a = b)) := by
  simp only [l_eqPuzzle, l_eqPuzzle_t, T.run, l_eqIntS_eq a b hl, Option.bind_some]
  cases decide (a = b) <;> rfl


def l_markIntS_sh : FSh := ⟨[(.one (.rw 0 0)), (.one (.si .i64))], [(.row 0 (.int .i64))]⟩

def l_markIntS_L2_sh : LSh := ⟨(fun ex => match ex with | .norm => [(0, none), (1, none), (5, none)] | .exit i => if i = 0 then [(1, none)] else [] | .ret => [(4, none)]), [(0, (.one (.rw 0 0))), (1, (.one (.si .i64))), (5, (.one (.si .i64)))], [(.row 0 (.int .i64))], [⟨(.exit 0), [(1, (.one (.si .i64)))], [(.row 0 (.int .i64))]⟩], [], []⟩
noncomputable def l_markIntS_L2_step : ((Unit × Int × Int) × List (Int)) → T (((Unit × Int × Int) × List (Int)) ⊕ (Int × List (Int))) := fun (((), k, i), a) =>
  (.test (decide (i < ((List.length a) : Int)))
  (.test (decide ((0 ≤ i) ∧ (i < ((List.length a) : Int))))
   (.sub (a[(0 + (Int.toNat i))]?) fun z0 =>
    (.test (decide ((0 = 0) ∧ ((List.length a) = (List.length (List.set a (0 + (Int.toNat i)) k)))))
    (.ret (Sum.inl (((), ((w64 (k + 1)), (w64 (i + 1)))), (List.set a (0 + (Int.toNat i)) k))))
    .fail))
   .fail)
  (.ret (Sum.inr (k, a))))
noncomputable def l_markIntS_L2 (v : ((Unit × Int × Int) × List (Int))) : Option (Int × List (Int)) := loopO (fun v => (l_markIntS_L2_step v).run) v

def l_markIntS_fo : List FO := [⟨[(.one (.si .i64))], [(.row 0 (.int .i64))]⟩]
noncomputable def l_markIntS_t : ((Unit × Int) × List (Int)) → T (Int × List (Int)) := fun (((), k), a) =>
  (.test (decide ((0 = 0) ∧ ((List.length a) = (List.length a))))
  (.sub (l_markIntS_L2 (((), (k, (0 : Int))), a)) fun z0 =>
   (.ret (z0.1, z0.2)))
  .fail)
noncomputable def l_markIntS (v : ((Unit × Int) × List (Int))) : Option (Int × List (Int)) := (l_markIntS_t v).run
noncomputable def l_markIntS_E : TEnv := E0
theorem l_markIntS_Eok : (l_markIntS_E).OK := E0ok
noncomputable def l_markIntS_told : Nat → Option SealT := fun id => if id = 2 then some (LSh.told l_markIntS_L2_sh 1 (l_markIntS_L2_step)) else none
theorem l_markIntS_L2_ok : ToldOK Try.prog 1 (loopAt (bodyOf fn_l_markIntS) [0]) (LSh.told l_markIntS_L2_sh 1 (l_markIntS_L2_step)) :=
  loop_ok (E := l_markIntS_E) (l_markIntS_Eok) (told := l_markIntS_told) (l := l_markIntS_L2_sh) (step := l_markIntS_L2_step) (loopsOK_of (ls := []) (by kernel_rfl) trivial) (by kernel_rfl) (fun v => by kernel_rfl)
theorem l_markIntS_ok : FOK Try.prog n_l_markIntS l_markIntS_sh l_markIntS_fo l_markIntS :=
  fn_ok (E := l_markIntS_E) (l_markIntS_Eok) (told := l_markIntS_told) (fl := []) (c := bodyOf fn_l_markIntS) (s := l_markIntS_sh) (l := l_markIntS_fo) (tree := l_markIntS_t) fnat_l_markIntS (by kernel_rfl) (by kernel_rfl) (by kernel_rfl) (loopsOK_of (ls := [loopAt (bodyOf fn_l_markIntS) [0]]) (by kernel_rfl) ⟨.inr ⟨_, by kernel_rfl, l_markIntS_L2_ok⟩, trivial⟩) (fun v => by kernel_rfl)

theorem l_markIntS_L2_eq (k : Int) (l : List Int) (hk : 0 ≤ k ∧ k < 1000000000000) (hl : l.length < 1000000000000000) : ∀ n i, i + n = l.length →
    l_markIntS_L2 (((), (k + i, (i : Int))), iot k i ++ l.drop i) = some (k + l.length, iot k l.length) := by
  intro n
  induction n with
  | zero =>
    intro i hi
    obtain rfl : i = l.length := by omega
    rw [List.drop_length, List.append_nil]
    simp only [l_markIntS_L2]
    exact loopO_done (by simp [l_markIntS_L2_step, T.run, iot_len])
  | succ n ih =>
    intro i hi
    have hlt : i < l.length := by omega
    have hd : l.drop i = l[i] :: l.drop (i + 1) := List.drop_eq_getElem_cons hlt
    have hlen : (iot k i ++ l.drop i).length = l.length := by rw [List.length_append, iot_len, List.length_drop]; omega
    have hget : (iot k i ++ l.drop i)[i]? = some l[i] := by
      rw [List.getElem?_append_right (by rw [iot_len]; omega), iot_len, Nat.sub_self, hd]; rfl
    have hset : List.set (iot k i ++ l.drop i) i (k + i) = iot k (i + 1) ++ l.drop (i + 1) := by
      rw [List.set_append_right _ _ (by rw [iot_len]; omega), iot_len, Nat.sub_self, hd, iot_succ, List.append_assoc]; rfl
    simp only [l_markIntS_L2] at ih ⊢
    have hst : (l_markIntS_L2_step (((), (k + i, (i : Int))), iot k i ++ l.drop i)).run = some (.inl (((), (k + (i + 1 : Nat), ((i + 1 : Nat) : Int))), iot k (i + 1) ++ l.drop (i + 1))) := by
      simp only [l_markIntS_L2_step, T.run, hlen, Int.toNat_natCast, Nat.zero_add, hget, Option.bind_some, hset]
      rw [w64_id (z := k + i + 1) (by omega) (by omega), w64_id (z := (i : Int) + 1) (by omega) (by omega)]
      have h1 : (i : Int) < (l.length : Int) := by omega
      have h2 : (0 : Int) ≤ i ∧ (i : Int) < (l.length : Int) := by omega
      simp only [h1, h2, decide_true, if_true]
      have h3 : (iot k (i + 1) ++ l.drop (i + 1)).length = l.length := by rw [List.length_append, iot_len, List.length_drop]; omega
      simp [h3, Int.add_assoc]
    rw [loopO_next hst]
    exact ih (i + 1) (by omega)
theorem l_markIntS_eq (k : Int) (l : List Int) (hk : 0 ≤ k ∧ k < 1000000000000) (hl : l.length < 1000000000000000) : l_markIntS (((), k), l) = some (k + l.length, iot k l.length) := by
  have h := l_markIntS_L2_eq k l hk hl l.length 0 (by omega)
  simp only [l_markIntS, l_markIntS_t, T.run]
  have e : iot k 0 ++ l.drop 0 = l := by simp [iot]
  rw [e, show ((0 : Nat) : Int) = 0 from rfl, Int.add_zero] at h
  simp [h]


def l_markPuzzle_sh : FSh := ⟨[(.ag [(.rw 0 0)]), (.one (.si .i64))], [(.row 0 (.int .i64))]⟩

def l_markPuzzle_fo : List FO := [⟨[(.one (.si .i64))], [(.row 0 (.int .i64))]⟩]
noncomputable def l_markPuzzle_t : ((Unit × Int) × List (Int)) → T (Int × List (Int)) := fun (((), k), a_r) =>
  (.test (decide ((0 = 0) ∧ ((List.length a_r) = (List.length a_r))))
  (.sub (l_markIntS (((), k), a_r)) fun z0 =>
   (.ret (z0.1, z0.2)))
  .fail)
noncomputable def l_markPuzzle (v : ((Unit × Int) × List (Int))) : Option (Int × List (Int)) := (l_markPuzzle_t v).run
noncomputable def l_markPuzzle_E : TEnv := (E0.add1 n_l_markIntS l_markIntS_sh l_markIntS_fo l_markIntS)
theorem l_markPuzzle_Eok : (l_markPuzzle_E).OK := (E0ok.add1 l_markIntS_ok)
noncomputable def l_markPuzzle_told : Nat → Option SealT := fun id => none
theorem l_markPuzzle_ok : FOK Try.prog n_l_markPuzzle l_markPuzzle_sh l_markPuzzle_fo l_markPuzzle :=
  fn_ok (E := l_markPuzzle_E) (l_markPuzzle_Eok) (told := l_markPuzzle_told) (fl := []) (c := bodyOf fn_l_markPuzzle) (s := l_markPuzzle_sh) (l := l_markPuzzle_fo) (tree := l_markPuzzle_t) fnat_l_markPuzzle (by kernel_rfl) (by kernel_rfl) (by kernel_rfl) (loopsOK_of (ls := []) (by kernel_rfl) trivial) (fun v => by kernel_rfl)

theorem l_markPuzzle_eq (k : Int) (l : List Int) (hk : 0 ≤ k ∧ k < 1000000000000) (hl : l.length < 1000000000000000) : l_markPuzzle (((), k), l) = some (k + l.length, iot k l.length) := by
  simp [l_markPuzzle, l_markPuzzle_t, T.run, l_markIntS_eq k l hk hl]


def l_heldIntS_sh : FSh := ⟨[(.one (.sl (.int .i64) false false)), (.one (.si .i64))], []⟩

def l_heldIntS_L2_sh : LSh := ⟨(fun ex => match ex with | .norm => [(0, none), (1, none), (5, none)] | .exit i => if i = 0 then [(1, none)] else [] | .ret => [(4, none)]), [(0, (.one (.sl (.int .i64) false false))), (1, (.one (.si .i64))), (5, (.one (.si .i64)))], [], [⟨.ret, [(4, (.one (.si .i64)))], []⟩, ⟨(.exit 0), [(1, (.one (.si .i64)))], []⟩], [], []⟩
noncomputable def l_heldIntS_L2_step : (List (Int) × Int × Int) → T ((List (Int) × Int × Int) ⊕ (Int ⊕ Int)) := fun (a, k, i) =>
  (.test (decide (i < ((List.length a) : Int)))
  (.test (decide ((0 ≤ i) ∧ (i < ((List.length a) : Int))))
   (.sub (a[(Int.toNat i)]?) fun z0 =>
    (.test (z0 != k)
    (.ret (Sum.inr (Sum.inl (-1))))
    (.ret (Sum.inl (a, ((w64 (k + 1)), (w64 (i + 1))))))))
   .fail)
  (.ret (Sum.inr (Sum.inr k))))
noncomputable def l_heldIntS_L2 (v : (List (Int) × Int × Int)) : Option (Int ⊕ Int) := loopO (fun v => (l_heldIntS_L2_step v).run) v

def l_heldIntS_fo : List FO := [⟨[(.one (.si .i64))], []⟩]
noncomputable def l_heldIntS_t : (List (Int) × Int) → T Int := fun (a, k) =>
  (.sub (l_heldIntS_L2 (a, (k, (0 : Int)))) fun z0 =>
  (.test (Sum.isLeft z0)
  (.sub (Sum.getLeft? z0) fun z1 =>
   (.ret z1))
  (.sub (Sum.getRight? z0) fun z2 =>
   (.ret z2))))
noncomputable def l_heldIntS (v : (List (Int) × Int)) : Option Int := (l_heldIntS_t v).run
noncomputable def l_heldIntS_E : TEnv := E0
theorem l_heldIntS_Eok : (l_heldIntS_E).OK := E0ok
noncomputable def l_heldIntS_told : Nat → Option SealT := fun id => if id = 2 then some (LSh.told l_heldIntS_L2_sh 0 (l_heldIntS_L2_step)) else none
theorem l_heldIntS_L2_ok : ToldOK Try.prog 0 (loopAt (bodyOf fn_l_heldIntS) [0]) (LSh.told l_heldIntS_L2_sh 0 (l_heldIntS_L2_step)) :=
  loop_ok (E := l_heldIntS_E) (l_heldIntS_Eok) (told := l_heldIntS_told) (l := l_heldIntS_L2_sh) (step := l_heldIntS_L2_step) (loopsOK_of (ls := []) (by kernel_rfl) trivial) (by kernel_rfl) (fun v => by kernel_rfl)
theorem l_heldIntS_ok : FOK Try.prog n_l_heldIntS l_heldIntS_sh l_heldIntS_fo l_heldIntS :=
  fn_ok (E := l_heldIntS_E) (l_heldIntS_Eok) (told := l_heldIntS_told) (fl := []) (c := bodyOf fn_l_heldIntS) (s := l_heldIntS_sh) (l := l_heldIntS_fo) (tree := l_heldIntS_t) fnat_l_heldIntS (by kernel_rfl) (by kernel_rfl) (by kernel_rfl) (loopsOK_of (ls := [loopAt (bodyOf fn_l_heldIntS) [0]]) (by kernel_rfl) ⟨.inr ⟨_, by kernel_rfl, l_heldIntS_L2_ok⟩, trivial⟩) (fun v => by kernel_rfl)

theorem l_heldIntS_eq (k : Int) (n : Nat) (hk : 0 ≤ k ∧ k < 1000000000000) (hl : n < 1000000000000000) : l_heldIntS (iot k n, k) = some (k + n) := by
  have h := loop_count (step := fun v => (l_heldIntS_L2_step v).run) (n := n) (fun i (_ : Unit) => (iot k n, (k + (i : Int), (i : Int)))) (fun _ _ => Sum.inl ()) (fun _ => Sum.inr (k + (n : Int)))
    (by
      intro i s hi
      simp only [l_heldIntS_L2_step, T.run, iot_len, Int.toNat_natCast, iot_get k hi, Option.bind_some]
      rw [w64_id (z := k + i + 1) (by omega) (by omega), w64_id (z := (i : Int) + 1) (by omega) (by omega)]
      have h1 : (i : Int) < (n : Int) := by omega
      have h2 : (0 : Int) ≤ i ∧ (i : Int) < (n : Int) := by omega
      simp [h1, h2, Int.add_assoc])
    (by intro s; simp [l_heldIntS_L2_step, T.run, iot_len]) 0 () (Nat.zero_le _)
  rw [show ((0 : Nat) : Int) = 0 from rfl, Int.add_zero] at h
  have hf : ∀ l : List Nat, forE (fun (_ : Unit) (_ : Nat) => (Sum.inl () : Unit ⊕ (Int ⊕ Int))) (fun _ => Sum.inr (k + (n : Int))) l () = Sum.inr (k + (n : Int)) := by
    intro l
    induction l with
    | nil => rfl
    | cons x t ih => rw [forE_cons]; exact ih
  rw [hf] at h
  simp only [l_heldIntS, l_heldIntS_t, T.run, l_heldIntS_L2]
  rw [h]
  simp [Sum.isLeft]


def l_heldPuzzle_sh : FSh := ⟨[(.ag [(.sl (.int .i64) false false)]), (.one (.si .i64))], []⟩

def l_heldPuzzle_fo : List FO := [⟨[(.one (.si .i64))], []⟩]
noncomputable def l_heldPuzzle_t : (List (Int) × Int) → T Int := fun (a_0, k) =>
  (.sub (l_heldIntS (a_0, k)) fun z0 =>
  (.test (decide (z0 < 0))
  (.ret (-1))
  (.ret z0)))
noncomputable def l_heldPuzzle (v : (List (Int) × Int)) : Option Int := (l_heldPuzzle_t v).run
noncomputable def l_heldPuzzle_E : TEnv := (E0.add1 n_l_heldIntS l_heldIntS_sh l_heldIntS_fo l_heldIntS)
theorem l_heldPuzzle_Eok : (l_heldPuzzle_E).OK := (E0ok.add1 l_heldIntS_ok)
noncomputable def l_heldPuzzle_told : Nat → Option SealT := fun id => none
theorem l_heldPuzzle_ok : FOK Try.prog n_l_heldPuzzle l_heldPuzzle_sh l_heldPuzzle_fo l_heldPuzzle :=
  fn_ok (E := l_heldPuzzle_E) (l_heldPuzzle_Eok) (told := l_heldPuzzle_told) (fl := []) (c := bodyOf fn_l_heldPuzzle) (s := l_heldPuzzle_sh) (l := l_heldPuzzle_fo) (tree := l_heldPuzzle_t) fnat_l_heldPuzzle (by kernel_rfl) (by kernel_rfl) (by kernel_rfl) (loopsOK_of (ls := []) (by kernel_rfl) trivial) (fun v => by kernel_rfl)

theorem l_heldPuzzle_eq (k : Int) (n : Nat) (hk : 0 ≤ k ∧ k < 1000000000000) (hl : n < 1000000000000000) : l_heldPuzzle (iot k n, k) = some (k + n) := by
  have : ¬ (k + (n : Int) < 0) := by omega
  simp [l_heldPuzzle, l_heldPuzzle_t, T.run, l_heldIntS_eq k n hk hl, this]


def l_FnExactTurnPuzzle_sh : FSh := ⟨[(.ag [(.sl (.int .i64) false false)]), (.one (.si .i64))], []⟩

def l_FnExactTurnPuzzle_fo : List FO := [⟨[(.one .sb)], []⟩]
noncomputable def l_FnExactTurnPuzzle_t : (List (Int) × Int) → T Bool := fun (aP_0, aK) =>
  (.sub (l_szPuzzle (aP_0, (1048576 : Int))) fun z0 =>
  (.test (decide (z0 < 0))
  (.ret true)
  (.sub (l_toPuzzle aP_0) fun z1 =>
   (.test (decide ((0 + (List.length z1.2)) ≤ (List.length z1.2)))
   (.sub (s_TurnPuzzle ((win z1.2 0 (List.length z1.2)), aK)) fun z2 =>
    (.sub (l_toPuzzle aP_0) fun z3 =>
    (.test (decide ((0 + (List.length z3.2)) ≤ (List.length z3.2)))
    (.sub (i_TurnPuzzle ((win z3.2 0 (List.length z3.2)), aK)) fun z4 =>
     (.test (decide ((0 + (List.length z4.2)) ≤ (List.length z4.2)))
     (.test (decide ((0 + (List.length z2.2)) ≤ (List.length z2.2)))
      (.sub (l_eqPuzzle ((win z4.2 0 (List.length z4.2)), (win z2.2 0 (List.length z2.2)))) fun z5 =>
       (.test (! z5)
       (.ret false)
       (.test (! (z4.1.2 == z2.1.2))
        (.ret false)
        (.sub (l_toPuzzle aP_0) fun z6 =>
         (.test (decide ((0 + (List.length z3.2)) ≤ (List.length z3.2)))
         (.test (decide ((0 + (List.length z6.2)) ≤ (List.length z6.2)))
          (.sub (l_eqPuzzle ((win z3.2 0 (List.length z3.2)), (win z6.2 0 (List.length z6.2)))) fun z7 =>
           (.test (! z7)
           (.ret false)
           (.test (decide ((0 = 0) ∧ ((List.length z3.2) = (List.length z3.2))))
            (.sub (l_markPuzzle (((), (1 : Int)), z3.2)) fun z8 =>
             (.test (decide (z8.1 < 0))
             (.ret false)
             (.test (decide ((0 + (List.length z4.2)) ≤ (List.length z4.2)))
              (.test (decide ((0 + (List.length z2.2)) ≤ (List.length z2.2)))
               (.sub (l_eqPuzzle ((win z4.2 0 (List.length z4.2)), (win z2.2 0 (List.length z2.2)))) fun z9 =>
                (.test (! z9)
                (.ret false)
                (.test (! (z4.1.2 == z2.1.2))
                 (.ret false)
                 (.test (decide ((0 = 0) ∧ ((List.length z4.2) = (List.length z4.2))))
                  (.sub (l_markPuzzle (((), (1 : Int)), z4.2)) fun z10 =>
                   (.test (decide ((0 + (List.length z4.2)) ≤ (List.length z10.2)))
                   (.sub (l_heldPuzzle ((win z10.2 0 (List.length z4.2)), (1 : Int))) fun z11 =>
                    (.test (decide (z11 < 0))
                    (.ret false)
                    (.test (z11 != z10.1)
                     (.ret false)
                     (.sub (l_toPuzzle aP_0) fun z12 =>
                      (.test (decide ((0 + (List.length z12.2)) ≤ (List.length z12.2)))
                      (.sub (i_TurnPuzzle ((win z12.2 0 (List.length z12.2)), aK)) fun z13 =>
                       (.test (decide ((0 + (List.length z13.2)) ≤ (List.length z13.2)))
                       (.test (decide ((0 + (List.length z2.2)) ≤ (List.length z2.2)))
                        (.sub (l_eqPuzzle ((win z13.2 0 (List.length z13.2)), (win z2.2 0 (List.length z2.2)))) fun z14 =>
                         (.test (! z14)
                         (.ret false)
                         (.test (! (z13.1.2 == z2.1.2))
                          (.ret false)
                          (.test (decide ((0 + (List.length z4.2)) ≤ (List.length z10.2)))
                           (.sub (l_heldPuzzle ((win z10.2 0 (List.length z4.2)), (1 : Int))) fun z15 =>
                            (.test (decide (z15 < 0))
                            (.ret false)
                            (.test (z15 != z10.1)
                             (.ret false)
                             (.ret true))))
                           .fail))))
                        .fail)
                       .fail))
                      .fail)))))
                   .fail))
                  .fail))))
               .fail)
              .fail)))
            .fail)))
          .fail)
         .fail)))))
      .fail)
     .fail))
    .fail)))
   .fail))))
noncomputable def l_FnExactTurnPuzzle (v : (List (Int) × Int)) : Option Bool := (l_FnExactTurnPuzzle_t v).run
noncomputable def l_FnExactTurnPuzzle_E : TEnv := (((((((E0.add1 n_l_szPuzzle l_szPuzzle_sh l_szPuzzle_fo l_szPuzzle).add1 n_l_toPuzzle l_toPuzzle_sh l_toPuzzle_fo l_toPuzzle).add1 n_s_TurnPuzzle s_TurnPuzzle_sh s_TurnPuzzle_fo s_TurnPuzzle).add1 n_i_TurnPuzzle i_TurnPuzzle_sh i_TurnPuzzle_fo i_TurnPuzzle).add1 n_l_eqPuzzle l_eqPuzzle_sh l_eqPuzzle_fo l_eqPuzzle).add1 n_l_markPuzzle l_markPuzzle_sh l_markPuzzle_fo l_markPuzzle).add1 n_l_heldPuzzle l_heldPuzzle_sh l_heldPuzzle_fo l_heldPuzzle)
theorem l_FnExactTurnPuzzle_Eok : (l_FnExactTurnPuzzle_E).OK := (((((((E0ok.add1 l_szPuzzle_ok).add1 l_toPuzzle_ok).add1 s_TurnPuzzle_ok).add1 i_TurnPuzzle_ok).add1 l_eqPuzzle_ok).add1 l_markPuzzle_ok).add1 l_heldPuzzle_ok)
noncomputable def l_FnExactTurnPuzzle_told : Nat → Option SealT := fun id => none
theorem l_FnExactTurnPuzzle_ok : FOK Try.prog n_l_FnExactTurnPuzzle l_FnExactTurnPuzzle_sh l_FnExactTurnPuzzle_fo l_FnExactTurnPuzzle :=
  fn_ok (E := l_FnExactTurnPuzzle_E) (l_FnExactTurnPuzzle_Eok) (told := l_FnExactTurnPuzzle_told) (fl := []) (c := bodyOf fn_l_FnExactTurnPuzzle) (s := l_FnExactTurnPuzzle_sh) (l := l_FnExactTurnPuzzle_fo) (tree := l_FnExactTurnPuzzle_t) fnat_l_FnExactTurnPuzzle (by kernel_rfl) (by kernel_rfl) (by kernel_rfl) (loopsOK_of (ls := []) (by kernel_rfl) trivial) (fun v => by kernel_rfl)

theorem l_FnExactTurnPuzzle_true (v : List Int × Int) (hs : smallL ASh.small [.ag [.sl (.int .i64) false false], .one (.si .i64)] v) : l_FnExactTurnPuzzle v = some true := by
  obtain ⟨l, k⟩ := v
  have hl0 : l.length < 140737488355328 := hs.1.1
  have hl : l.length < 4611686018427387904 := by omega
  have hl2 : (turnG l k).2.length ≤ 9 := by
    unfold turnG
    split
    · rename_i h; rw [Bool.and_eq_true] at h; have := isPz_len h.1; simp only [List.length_append, List.length_drop, List.length_take]; omega
    · simp
  have hr := i_TurnPuzzle_eq l k hl
  have hsp := s_TurnPuzzle_eq l k hl
  generalize turnG l k = r at *
  obtain ⟨ok, r⟩ := r
  simp only at hl2 hr hsp
  rw [l_FnExactTurnPuzzle, l_FnExactTurnPuzzle_t, T.run_sub, l_szPuzzle_eq l _ (by decide) hl, Option.bind_some, T.run_test]
  split
  · rfl
  · rename_i hsz
    have hlen : l.length < 10000000000000 := by
      omega
    have hl1 : r.length < 4611686018427387904 := by omega
    have hm := l_markPuzzle_eq 1 r (by omega) (by omega)
    have hml := l_markPuzzle_eq 1 l (by omega) (by omega)
    have hh := l_heldPuzzle_eq 1 r.length (by omega) (by omega)
    have hw : win (iot 1 r.length) 0 r.length = iot 1 r.length := by have := win_all (iot 1 r.length); rwa [iot_len] at this
    have hx : ¬ ((1 : Int) + r.length < 0) := by omega
    have hx2 : ¬ ((1 : Int) + l.length < 0) := by omega
    simp (config := { maxSteps := 10000000 }) [T.run, hsz, l_toPuzzle_eq l hlen, win_all, hr, hsp, l_eqPuzzle_eq r r hl1, l_eqPuzzle_eq l l hl, hm, hml, iot_len, hw, hh, hx, hx2]


end Go.Proofs.W
