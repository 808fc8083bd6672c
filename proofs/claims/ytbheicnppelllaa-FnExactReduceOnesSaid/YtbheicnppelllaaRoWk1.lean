/- Functions of the program, walked, and what they compute. -/
import Derived.Test.YtbheicnppelllaaRoIds
set_option linter.unusedVariables false
set_option linter.unusedSimpArgs false
set_option maxRecDepth 100000
set_option maxHeartbeats 4000000
namespace Go.Proofs.W
open Go Go.Gm Go.Proofs
open Go.RowKit Go.Shelf
def iot (k : Int) (n : Nat) : List Int := (List.range n).map fun (i : Nat) => k + (i : Int)
theorem iot_len (k : Int) (n : Nat) : (iot k n).length = n := by simp [iot]
theorem iot_succ (k : Int) (n : Nat) : iot k (n + 1) = iot k n ++ [k + n] := by simp [iot, List.range_succ]
theorem iot_get (k : Int) {n i : Nat} (h : i < n) : (iot k n)[i]? = some (k + i) := by simp [iot, h]
theorem gcd_toNat_step {a b : Int} (ha : 0 ≤ a) (hb : 0 < b) : Nat.gcd b.toNat (Int.tmod a b).toNat = Nat.gcd a.toNat b.toNat ∧ 0 ≤ Int.tmod a b ∧ Int.tmod a b < b := by
  obtain ⟨m, rfl⟩ := Int.eq_ofNat_of_zero_le ha
  obtain ⟨n, rfl⟩ := Int.eq_ofNat_of_zero_le (Int.le_of_lt hb)
  have e : Int.tmod (m : Int) (n : Int) = ((m % n : Nat) : Int) := rfl
  rw [e]
  simp only [Int.toNat_natCast]
  refine ⟨?_, Int.natCast_nonneg _, ?_⟩
  · rw [Nat.gcd_comm m n, Nat.gcd_rec n m, Nat.gcd_comm]
  · have : n ≠ 0 := by omega
    exact Int.ofNat_lt.2 (Nat.mod_lt m (by omega))
def lowP (num den : Int) : Bool := inB 1 1000000 num && (inB 1 1000000 den && decide (Nat.gcd num.toNat den.toNat = 1))
def upQ (num den : Int) : Int := (num + den - 1) / den
theorem upQ_B {num den : Int} (hn : 1 ≤ num) (hd : 1 ≤ den) : 1 ≤ upQ num den ∧ upQ num den ≤ num ∧ num ≤ upQ num den * den ∧ upQ num den * den - num < den := by
  have h1 := Int.mul_ediv_add_emod (num + den - 1) den
  have h2 := Int.emod_nonneg (num + den - 1) (show den ≠ 0 by omega)
  have h3 := Int.emod_lt_of_pos (num + den - 1) (show 0 < den by omega)
  have h4 : 1 ≤ upQ num den := by
    unfold upQ
    exact (Int.le_ediv_iff_mul_le (by omega)).2 (by omega)
  have h5 : den * upQ num den = upQ num den * den := Int.mul_comm ..
  have h6 : upQ num den ≤ num := by
    unfold upQ
    refine Int.ediv_le_of_le_mul (by omega) ?_
    have : 0 ≤ (num - 1) * (den - 1) := Int.mul_nonneg (by omega) (by omega)
    rw [Int.sub_mul, Int.mul_sub] at this
    omega
  unfold upQ at *
  omega
def posT (l : List Int) : Bool := isTerms l && (decide (l ≠ []) && l.all (inB 1 30))
theorem isPz_len {l : List Int} (h : isPz l = true) : 3 ≤ l.length ∧ l.length ≤ 9 := by
  simp only [isPz, Bool.and_eq_true, inB_iff] at h
  omega
def fillG (l : List Int) (at' n : Int) : Bool × List Int := if isPz l && (inB 0 ((l.length : Int) - 1) at' && (inB 1 ((l.length : Int) - 2) n && decide (l[at'.toNat]? = some 0))) then (true, l.set at'.toNat n) else (false, [])
def openG (l : List Int) (at' : Int) : Bool × List Int := if isPz l && (inB 0 ((l.length : Int) - 1) at' && decide (l[at'.toNat]? ≠ some 0)) then (true, l.set at'.toNat 0) else (false, [])
theorem at_get0 {α : Type} (L : List α) (x : α) (t : List α) : (L ++ x :: t)[L.length]? = some x := by simp
theorem at_get1 {α : Type} (L : List α) (x y : α) (t : List α) : (L ++ x :: y :: t)[L.length + 1]? = some y := by
  rw [List.getElem?_append_right (by omega), show L.length + 1 - L.length = 1 by omega]; rfl
theorem at_get2 {α : Type} (L : List α) (x y z : α) (t : List α) : (L ++ x :: y :: z :: t)[L.length + 2]? = some z := by
  rw [List.getElem?_append_right (by omega), show L.length + 2 - L.length = 2 by omega]; rfl
theorem at_set0 {α : Type} (L : List α) (x v : α) (t : List α) : (L ++ x :: t).set L.length v = L ++ v :: t := by simp
theorem at_set1 {α : Type} (L : List α) (x y v : α) (t : List α) : (L ++ x :: y :: t).set (L.length + 1) v = L ++ x :: v :: t := by
  rw [List.set_append_right _ _ (by omega), show L.length + 1 - L.length = 1 by omega]; rfl
theorem at_set2 {α : Type} (L : List α) (x y z v : α) (t : List α) : (L ++ x :: y :: z :: t).set (L.length + 2) v = L ++ x :: y :: v :: t := by
  rw [List.set_append_right _ _ (by omega), show L.length + 2 - L.length = 2 by omega]; rfl
theorem at_take1 {α : Type} (L : List α) (x : α) (t : List α) : (L ++ x :: t).take (L.length + 1) = L ++ [x] := by
  rw [List.take_append, List.take_of_length_le (by omega), show L.length + 1 - L.length = 1 by omega]; rfl
theorem at_drop2 {α : Type} (L : List α) (x y : α) (t : List α) : (L ++ x :: y :: t).drop (L.length + 2) = t := by
  rw [List.drop_append, List.drop_of_length_le (by omega), show L.length + 2 - L.length = 2 by omega]; rfl
theorem at_split {α : Type} (l : List α) (k : Nat) (h : k + 2 < l.length) : ∃ L x m y R, l = L ++ x :: m :: y :: R ∧ L.length = k := by
  refine ⟨l.take k, l[k], l[k + 1], l[k + 2], l.drop (k + 3), ?_, by simp; omega⟩
  rw [← List.drop_eq_getElem_cons, ← List.drop_eq_getElem_cons, ← List.drop_eq_getElem_cons, List.take_append_drop]

def l_toIntS_sh : FSh := ⟨[(.one (.sl (.int .i64) false false))], []⟩

def l_toIntS_L3_sh : LSh := ⟨(fun ex => match ex with | .norm => [(0, none), (3, none), (4, none)] | .exit i => if i = 0 then [(3, none)] else [] | .ret => [(2, none)]), [(0, (.one (.sl (.int .i64) false false))), (3, (.one (.rw 0 0))), (4, (.one (.si .i64)))], [(.row 0 (.int .i64))], [⟨(.exit 0), [(3, (.one (.rw 0 0)))], [(.row 0 (.int .i64))]⟩]⟩
noncomputable def l_toIntS_L3_step : ((List (Int) × Unit × Int) × List (Int)) → T (((List (Int) × Unit × Int) × List (Int)) ⊕ (Unit × List (Int))) := fun ((a, (), i), out) =>
  (.test (decide (i < ((List.length a) : Int)))
  (.test (decide ((0 ≤ i) ∧ (i < ((List.length a) : Int))))
   (.sub (a[(Int.toNat i)]?) fun z0 =>
    (.test (decide ((0 ≤ i) ∧ (i < ((List.length out) : Int))))
    (.sub (out[(0 + (Int.toNat i))]?) fun z1 =>
     (.test (decide ((0 = 0) ∧ ((List.length out) = (List.length (List.set out (0 + (Int.toNat i)) z0)))))
     (.ret (Sum.inl ((a, ((), (w64 (i + 1)))), (List.set out (0 + (Int.toNat i)) z0))))
     .fail))
    .fail))
   .fail)
  (.test (decide ((0 = 0) ∧ ((List.length out) = (List.length out))))
   (.ret (Sum.inr ((), out)))
   .fail))
noncomputable def l_toIntS_L3 (v : ((List (Int) × Unit × Int) × List (Int))) : Option (Unit × List (Int)) := loopO (fun v => (l_toIntS_L3_step v).run) v

def l_toIntS_fo : List FO := [⟨[(.one (.rw 0 0))], [(.row 0 (.int .i64))]⟩]
noncomputable def l_toIntS_t : List (Int) → T (Unit × List (Int)) := fun a =>
  (.test (decide ((0 ≤ ((List.length a) : Int)) ∧ ((((List.length a) : Int) ≤ ((List.length a) : Int)) ∧ (((Int.toNat ((List.length a) : Int)) * 9) ≤ 140737488355328))))
  (.test (decide ((0 = 0) ∧ ((Int.toNat ((List.length a) : Int)) = (List.length (List.replicate (Int.toNat ((List.length a) : Int)) (0 : Int))))))
   (.sub (l_toIntS_L3 ((a, ((), (0 : Int))), (List.replicate (Int.toNat ((List.length a) : Int)) (0 : Int)))) fun z0 =>
    (.test (decide ((0 = 0) ∧ ((List.length z0.2) = (List.length z0.2))))
    (.ret ((), z0.2))
    .fail))
   .fail)
  .fail)
noncomputable def l_toIntS (v : List (Int)) : Option (Unit × List (Int)) := (l_toIntS_t v).run
noncomputable def l_toIntS_E : TEnv := E0
theorem l_toIntS_Eok : (l_toIntS_E).OK := E0ok
noncomputable def l_toIntS_told : Nat → Option SealT := fun id => if id = 3 then some (LSh.told l_toIntS_L3_sh 0 (l_toIntS_L3_step)) else none
theorem l_toIntS_L3_ok : ToldOK Try.prog 0 (loopAt (bodyOf fn_l_toIntS) [0]) (LSh.told l_toIntS_L3_sh 0 (l_toIntS_L3_step)) :=
  loop_ok (E := l_toIntS_E) (l_toIntS_Eok) (told := l_toIntS_told) (l := l_toIntS_L3_sh) (step := l_toIntS_L3_step) (loopsOK_of (ls := []) (by kernel_rfl) trivial) (by kernel_rfl) (fun v => by kernel_rfl)
theorem l_toIntS_ok : FOK Try.prog n_l_toIntS l_toIntS_sh l_toIntS_fo l_toIntS :=
  fn_ok (E := l_toIntS_E) (l_toIntS_Eok) (told := l_toIntS_told) (fl := []) (c := bodyOf fn_l_toIntS) (s := l_toIntS_sh) (l := l_toIntS_fo) (tree := l_toIntS_t) fnat_l_toIntS (by kernel_rfl) (by kernel_rfl) (by kernel_rfl) (loopsOK_of (ls := [loopAt (bodyOf fn_l_toIntS) [0]]) (by kernel_rfl) ⟨.inr ⟨_, by kernel_rfl, l_toIntS_L3_ok⟩, trivial⟩) (fun v => by kernel_rfl)

theorem l_toIntS_eq (a : List Int) (hl : a.length < 10000000000000) : l_toIntS a = some ((), a) := by
  have h := loop_eq (step := fun v => (l_toIntS_L3_step v).run) (fun v => a.length - v.1.2.2.toNat) (fun v => v.1.1 = a ∧ ∃ k : Nat, k ≤ a.length ∧ v.1.2.2 = k ∧ v.2.length = a.length ∧ v.2.take k = a.take k) (fun _ => ((), a)) (by
    rintro ⟨⟨a', ⟨⟩, i⟩, out⟩ ⟨e, k, hk, e2, hlen, ht⟩
    simp only at e e2 hlen ht
    subst e e2
    by_cases hlt : k < a'.length
    · left
      refine ⟨((a', (), (k + 1 : Nat)), out.set k a'[k]), ?_, ⟨rfl, k + 1, by omega, rfl, by simp [hlen], ?_⟩, by simp only [Int.toNat_natCast]; omega, rfl⟩
      · simp only [l_toIntS_L3_step, T.run, Int.toNat_natCast, Option.bind_some, List.getElem?_eq_getElem hlt, Nat.zero_add, List.getElem?_eq_getElem (show k < out.length by omega)]
        rw [w64_id (by omega) (by omega)]
        simp [hlen, hlt]
      · rw [List.take_succ_eq_append_getElem (by simp; omega), List.take_succ_eq_append_getElem hlt, List.take_set_of_le (Nat.le_refl _), ht]
        simp
    · right
      have : k = a'.length := by omega
      subst this
      rw [List.take_length, ← hlen, List.take_length] at ht
      subst ht
      simp [l_toIntS_L3_step, T.run])
    ((a, (), 0), List.replicate a.length 0) ⟨rfl, 0, Nat.zero_le _, rfl, by simp, by simp⟩
  simp only [l_toIntS, l_toIntS_t, T.run, l_toIntS_L3, Int.toNat_natCast]
  rw [h]
  simp
  omega


def s_l1In_sh : FSh := ⟨[(.one (.si .i64)), (.one (.si .i64)), (.one (.si .i64))], []⟩

def s_l1In_fo : List FO := [⟨[(.one .sb)], []⟩]
noncomputable def s_l1In_t : (Int × Int × Int) → T Bool := fun (n, lo, hi) =>
  (.test (decide (n ≥ lo))
  (.ret (decide (n ≤ hi)))
  (.ret false))
noncomputable def s_l1In (v : (Int × Int × Int)) : Option Bool := (s_l1In_t v).run
noncomputable def s_l1In_E : TEnv := E0
theorem s_l1In_Eok : (s_l1In_E).OK := E0ok
noncomputable def s_l1In_told : Nat → Option SealT := fun id => none
theorem s_l1In_ok : FOK Try.prog n_s_l1In s_l1In_sh s_l1In_fo s_l1In :=
  fn_ok (E := s_l1In_E) (s_l1In_Eok) (told := s_l1In_told) (fl := []) (c := bodyOf fn_s_l1In) (s := s_l1In_sh) (l := s_l1In_fo) (tree := s_l1In_t) fnat_s_l1In (by kernel_rfl) (by kernel_rfl) (by kernel_rfl) (loopsOK_of (ls := []) (by kernel_rfl) trivial) (fun v => by kernel_rfl)

theorem s_l1In_eq (n low high : Int) : s_l1In (n, low, high) = some (inB low high n) := by
  simp only [s_l1In, s_l1In_t, T.run, ge_iff_le, decide_eq_true_eq, inB]
  by_cases h : low ≤ n <;> simp [h]


def s_l1All_sh : FSh := ⟨[(.one (.sl (.int .i64) false false)), (.one (.si .i64)), (.one (.si .i64))], []⟩

def s_l1All_L2_sh : LSh := ⟨(fun ex => match ex with | .norm => [(1, none), (2, none), (9, none), (10, none), (11, none)] | .exit i => if i = 0 then [] else [] | .ret => [(6, none)]), [(1, (.one (.si .i64))), (2, (.one (.si .i64))), (9, (.one (.sl (.int .i64) false false))), (10, (.one (.si .i64))), (11, (.one (.si .i64)))], [], [⟨.ret, [(6, (.one .sb))], []⟩, ⟨(.exit 0), [], []⟩]⟩
noncomputable def s_l1All_L2_step : (Int × Int × List (Int) × Int × Int) → T ((Int × Int × List (Int) × Int × Int) ⊕ (Bool ⊕ Unit)) := fun (lo, hi, t9, t10, t11) =>
  (.test (decide (t11 < t10))
  (.test (decide ((0 ≤ t11) ∧ (t11 < ((List.length t9) : Int))))
   (.sub (t9[(Int.toNat t11)]?) fun z0 =>
    (.sub (s_l1In (z0, (lo, hi))) fun z1 =>
    (.test (! z1)
    (.ret (Sum.inr (Sum.inl false)))
    (.ret (Sum.inl (lo, (hi, (t9, (t10, (w64 (t11 + 1)))))))))))
   .fail)
  (.ret (Sum.inr (Sum.inr ()))))
noncomputable def s_l1All_L2 (v : (Int × Int × List (Int) × Int × Int)) : Option (Bool ⊕ Unit) := loopO (fun v => (s_l1All_L2_step v).run) v

def s_l1All_fo : List FO := [⟨[(.one .sb)], []⟩]
noncomputable def s_l1All_t : (List (Int) × Int × Int) → T Bool := fun (l, lo, hi) =>
  (.sub (s_l1All_L2 (lo, (hi, (l, (((List.length l) : Int), (0 : Int)))))) fun z0 =>
  (.test (Sum.isLeft z0)
  (.sub (Sum.getLeft? z0) fun z1 =>
   (.ret z1))
  (.sub (Sum.getRight? z0) fun z2 =>
   (.ret true))))
noncomputable def s_l1All (v : (List (Int) × Int × Int)) : Option Bool := (s_l1All_t v).run
noncomputable def s_l1All_E : TEnv := (E0.add1 n_s_l1In s_l1In_sh s_l1In_fo s_l1In)
theorem s_l1All_Eok : (s_l1All_E).OK := (E0ok.add1 s_l1In_ok)
noncomputable def s_l1All_told : Nat → Option SealT := fun id => if id = 2 then some (LSh.told s_l1All_L2_sh 0 (s_l1All_L2_step)) else none
theorem s_l1All_L2_ok : ToldOK Try.prog 0 (loopAt (bodyOf fn_s_l1All) [0]) (LSh.told s_l1All_L2_sh 0 (s_l1All_L2_step)) :=
  loop_ok (E := s_l1All_E) (s_l1All_Eok) (told := s_l1All_told) (l := s_l1All_L2_sh) (step := s_l1All_L2_step) (loopsOK_of (ls := []) (by kernel_rfl) trivial) (by kernel_rfl) (fun v => by kernel_rfl)
theorem s_l1All_ok : FOK Try.prog n_s_l1All s_l1All_sh s_l1All_fo s_l1All :=
  fn_ok (E := s_l1All_E) (s_l1All_Eok) (told := s_l1All_told) (fl := []) (c := bodyOf fn_s_l1All) (s := s_l1All_sh) (l := s_l1All_fo) (tree := s_l1All_t) fnat_s_l1All (by kernel_rfl) (by kernel_rfl) (by kernel_rfl) (loopsOK_of (ls := [loopAt (bodyOf fn_s_l1All) [0]]) (by kernel_rfl) ⟨.inr ⟨_, by kernel_rfl, s_l1All_L2_ok⟩, trivial⟩) (fun v => by kernel_rfl)

theorem s_l1All_eq (l : List Int) (lo hi : Int) (hl : l.length < 4611686018427387904) : s_l1All (l, lo, hi) = some (l.all (inB lo hi)) := by
  have h := loop_any (step := fun v => (s_l1All_L2_step v).run) (xs := l) (fun n => !inB lo hi n) (fun k => (lo, hi, l, (l.length : Int), (k : Int))) (.inl false) (.inr ())
    (fun k x hx => by
      have hk := getElem?_lt hx
      simp only [s_l1All_L2_step, T.run, s_l1In_eq, Option.bind_some, Int.toNat_natCast, hx]
      rw [w64_id (by omega) (by omega)]
      cases inB lo hi x <;> simp [hk])
    (by simp [s_l1All_L2_step, T.run])
  simp only [s_l1All, s_l1All_t, T.run, s_l1All_L2]
  simp only [Int.natCast_zero] at h
  rw [h, ← all_any]
  cases hb : l.any (fun n => !inB lo hi n) <;> simp


def s_ctGood_sh : FSh := ⟨[(.one (.sl (.int .i64) false false))], []⟩

def s_ctGood_fo : List FO := [⟨[(.one .sb)], []⟩]
noncomputable def s_ctGood_t : List (Int) → T Bool := fun list =>
  (.test (decide (((List.length list) : Int) ≤ 10))
  (.sub (s_l1All (list, ((-30), (30 : Int)))) fun z0 =>
   (.ret z0))
  (.ret false))
noncomputable def s_ctGood (v : List (Int)) : Option Bool := (s_ctGood_t v).run
noncomputable def s_ctGood_E : TEnv := (E0.add1 n_s_l1All s_l1All_sh s_l1All_fo s_l1All)
theorem s_ctGood_Eok : (s_ctGood_E).OK := (E0ok.add1 s_l1All_ok)
noncomputable def s_ctGood_told : Nat → Option SealT := fun id => none
theorem s_ctGood_ok : FOK Try.prog n_s_ctGood s_ctGood_sh s_ctGood_fo s_ctGood :=
  fn_ok (E := s_ctGood_E) (s_ctGood_Eok) (told := s_ctGood_told) (fl := []) (c := bodyOf fn_s_ctGood) (s := s_ctGood_sh) (l := s_ctGood_fo) (tree := s_ctGood_t) fnat_s_ctGood (by kernel_rfl) (by kernel_rfl) (by kernel_rfl) (loopsOK_of (ls := []) (by kernel_rfl) trivial) (fun v => by kernel_rfl)

theorem s_ctGood_eq (l : List Int) (hl : l.length < 4611686018427387904) : s_ctGood l = some (isTerms l) := by
  simp only [s_ctGood, s_ctGood_t, T.run, s_l1All_eq _ _ _ hl, Option.bind_some, isTerms, decide_eq_true_eq]
  by_cases h : l.length ≤ 10
  · rw [if_pos (by omega)]; simp [h]
  · rw [if_neg (by omega)]; simp [h]


def s_l1Own_sh : FSh := ⟨[(.one (.sl (.int .i64) false false))], []⟩

def s_l1Own_fo : List FO := [⟨[(.one (.rw 0 0))], [(.row 0 (.int .i64))]⟩]
noncomputable def s_l1Own_t : List (Int) → T (Unit × List (Int)) := fun l =>
  (.test true
  (.test (decide ((2 * ((0 + (List.length l)) * 9)) ≤ 140737488355328))
   (.test (decide ((0 = 0) ∧ ((0 + (List.length l)) = (List.length ((win (List.replicate 0 (0 : Int)) 0 0) ++ l)))))
    (.ret ((), ((win (List.replicate 0 (0 : Int)) 0 0) ++ l)))
    .fail)
   .fail)
  .fail)
noncomputable def s_l1Own (v : List (Int)) : Option (Unit × List (Int)) := (s_l1Own_t v).run
noncomputable def s_l1Own_E : TEnv := E0
theorem s_l1Own_Eok : (s_l1Own_E).OK := E0ok
noncomputable def s_l1Own_told : Nat → Option SealT := fun id => none
theorem s_l1Own_ok : FOK Try.prog n_s_l1Own s_l1Own_sh s_l1Own_fo s_l1Own :=
  fn_ok (E := s_l1Own_E) (s_l1Own_Eok) (told := s_l1Own_told) (fl := []) (c := bodyOf fn_s_l1Own) (s := s_l1Own_sh) (l := s_l1Own_fo) (tree := s_l1Own_t) fnat_s_l1Own (by kernel_rfl) (by kernel_rfl) (by kernel_rfl) (loopsOK_of (ls := []) (by kernel_rfl) trivial) (fun v => by kernel_rfl)

theorem s_l1Own_eq (l : List Int) (hl : l.length < 1000000000000) : s_l1Own l = some ((), l) := by
  have h : 2 * (l.length * 9) ≤ 140737488355328 := by omega
  have hw : win ([] : List Int) 0 0 = [] := rfl
  simp [s_l1Own, s_l1Own_t, T.run, hw, h]


def s_ctTake_sh : FSh := ⟨[(.one (.sl (.int .i64) false false)), (.one (.si .i64))], []⟩

def s_ctTake_fo : List FO := [⟨[(.one (.rw 0 0)), (.one .sb)], [(.row 0 (.int .i64))]⟩]
noncomputable def s_ctTake_t : (List (Int) × Int) → T ((Unit × Bool) × List (Int)) := fun (list, at') =>
  (.test (decide (0 ≤ at'))
  (.test (decide ((0 ≤ (Int.toNat at')) ∧ ((Int.toNat at') ≤ (List.length list))))
   (.sub (s_l1Own (win list 0 ((Int.toNat at') - 0))) fun z0 =>
    (.test (decide (0 ≤ (w64 (at' + 1))))
    (.test (decide (((Int.toNat (w64 (at' + 1))) ≤ (List.length list)) ∧ ((List.length list) ≤ (List.length list))))
     (.test (decide ((0 + (List.length z0.2)) ≤ (List.length z0.2)))
      (.test (decide ((2 * (((List.length z0.2) + (List.length (win list (Int.toNat (w64 (at' + 1))) ((List.length list) - (Int.toNat (w64 (at' + 1))))))) * 9)) ≤ 140737488355328))
       (.test (decide ((0 ≤ (w64 (at' - 1))) ∧ ((w64 (at' - 1)) < (((List.length z0.2) + (List.length (win list (Int.toNat (w64 (at' + 1))) ((List.length list) - (Int.toNat (w64 (at' + 1))))))) : Int))))
        (.sub (((win z0.2 0 (List.length z0.2)) ++ (win list (Int.toNat (w64 (at' + 1))) ((List.length list) - (Int.toNat (w64 (at' + 1))))))[(0 + (Int.toNat (w64 (at' - 1))))]?) fun z1 =>
         (.test (decide ((0 ≤ (w64 (at' - 1))) ∧ ((w64 (at' - 1)) < (((List.length z0.2) + (List.length (win list (Int.toNat (w64 (at' + 1))) ((List.length list) - (Int.toNat (w64 (at' + 1))))))) : Int))))
         (.sub (((win z0.2 0 (List.length z0.2)) ++ (win list (Int.toNat (w64 (at' + 1))) ((List.length list) - (Int.toNat (w64 (at' + 1))))))[(0 + (Int.toNat (w64 (at' - 1))))]?) fun z2 =>
          (.test (decide ((0 ≤ at') ∧ (at' < (((List.length z0.2) + (List.length (win list (Int.toNat (w64 (at' + 1))) ((List.length list) - (Int.toNat (w64 (at' + 1))))))) : Int))))
          (.sub ((List.set ((win z0.2 0 (List.length z0.2)) ++ (win list (Int.toNat (w64 (at' + 1))) ((List.length list) - (Int.toNat (w64 (at' + 1)))))) (0 + (Int.toNat (w64 (at' - 1)))) (w64 (z1 - 1)))[(0 + (Int.toNat at'))]?) fun z3 =>
           (.test (decide ((0 ≤ at') ∧ (at' < (((List.length z0.2) + (List.length (win list (Int.toNat (w64 (at' + 1))) ((List.length list) - (Int.toNat (w64 (at' + 1))))))) : Int))))
           (.sub ((List.set ((win z0.2 0 (List.length z0.2)) ++ (win list (Int.toNat (w64 (at' + 1))) ((List.length list) - (Int.toNat (w64 (at' + 1)))))) (0 + (Int.toNat (w64 (at' - 1)))) (w64 (z1 - 1)))[(0 + (Int.toNat at'))]?) fun z4 =>
            (.test (decide ((0 + ((List.length z0.2) + (List.length (win list (Int.toNat (w64 (at' + 1))) ((List.length list) - (Int.toNat (w64 (at' + 1)))))))) ≤ (List.length (List.set (List.set ((win z0.2 0 (List.length z0.2)) ++ (win list (Int.toNat (w64 (at' + 1))) ((List.length list) - (Int.toNat (w64 (at' + 1)))))) (0 + (Int.toNat (w64 (at' - 1)))) (w64 (z1 - 1))) (0 + (Int.toNat at')) (w64 (z3 - 1))))))
            (.sub (s_ctGood (win (List.set (List.set ((win z0.2 0 (List.length z0.2)) ++ (win list (Int.toNat (w64 (at' + 1))) ((List.length list) - (Int.toNat (w64 (at' + 1)))))) (0 + (Int.toNat (w64 (at' - 1)))) (w64 (z1 - 1))) (0 + (Int.toNat at')) (w64 (z3 - 1))) 0 ((List.length z0.2) + (List.length (win list (Int.toNat (w64 (at' + 1))) ((List.length list) - (Int.toNat (w64 (at' + 1))))))))) fun z5 =>
             (.test (decide ((0 = 0) ∧ (((List.length z0.2) + (List.length (win list (Int.toNat (w64 (at' + 1))) ((List.length list) - (Int.toNat (w64 (at' + 1))))))) = (List.length (List.set (List.set ((win z0.2 0 (List.length z0.2)) ++ (win list (Int.toNat (w64 (at' + 1))) ((List.length list) - (Int.toNat (w64 (at' + 1)))))) (0 + (Int.toNat (w64 (at' - 1)))) (w64 (z1 - 1))) (0 + (Int.toNat at')) (w64 (z3 - 1)))))))
             (.ret (((), z5), (List.set (List.set ((win z0.2 0 (List.length z0.2)) ++ (win list (Int.toNat (w64 (at' + 1))) ((List.length list) - (Int.toNat (w64 (at' + 1)))))) (0 + (Int.toNat (w64 (at' - 1)))) (w64 (z1 - 1))) (0 + (Int.toNat at')) (w64 (z3 - 1)))))
             .fail))
            .fail))
           .fail))
          .fail))
         .fail))
        .fail)
       .fail)
      .fail)
     .fail)
    .fail))
   .fail)
  .fail)
noncomputable def s_ctTake (v : (List (Int) × Int)) : Option ((Unit × Bool) × List (Int)) := (s_ctTake_t v).run
noncomputable def s_ctTake_E : TEnv := ((E0.add1 n_s_l1Own s_l1Own_sh s_l1Own_fo s_l1Own).add1 n_s_ctGood s_ctGood_sh s_ctGood_fo s_ctGood)
theorem s_ctTake_Eok : (s_ctTake_E).OK := ((E0ok.add1 s_l1Own_ok).add1 s_ctGood_ok)
noncomputable def s_ctTake_told : Nat → Option SealT := fun id => none
theorem s_ctTake_ok : FOK Try.prog n_s_ctTake s_ctTake_sh s_ctTake_fo s_ctTake :=
  fn_ok (E := s_ctTake_E) (s_ctTake_Eok) (told := s_ctTake_told) (fl := []) (c := bodyOf fn_s_ctTake) (s := s_ctTake_sh) (l := s_ctTake_fo) (tree := s_ctTake_t) fnat_s_ctTake (by kernel_rfl) (by kernel_rfl) (by kernel_rfl) (loopsOK_of (ls := []) (by kernel_rfl) trivial) (fun v => by kernel_rfl)

theorem s_ctTake_eq (L : List Int) (x m y : Int) (R : List Int) (at' : Int) (ha : at' = (L.length : Int) + 1) (hl : (L ++ x :: m :: y :: R).length < 1000000) (hx : -1000000 ≤ x ∧ x ≤ 1000000) (hy : -1000000 ≤ y ∧ y ≤ 1000000) :
    s_ctTake (L ++ x :: m :: y :: R, at') = some (((), isTerms (L ++ (x - 1) :: (y - 1) :: R)), L ++ (x - 1) :: (y - 1) :: R) := by
  subst ha
  have hll : (L ++ x :: m :: y :: R).length = L.length + R.length + 3 := by simp; omega
  have w1 : w64 ((L.length : Int) + 1 - 1) = (L.length : Int) := by rw [w64_id (by omega) (by omega)]; omega
  have w2 : w64 ((L.length : Int) + 1 + 1) = ((L.length + 2 : Nat) : Int) := by rw [w64_id (by omega) (by omega)]; omega
  have w3 : w64 (x - 1) = x - 1 := w64_id (by omega) (by omega)
  have w4 : w64 (y - 1) = y - 1 := w64_id (by omega) (by omega)
  have t1 : ((L.length : Int) + 1).toNat = L.length + 1 := by omega
  have e1 : win (L ++ x :: m :: y :: R) 0 (L.length + 1 - 0) = L ++ [x] := by rw [win_take]; exact at_take1 L x _
  have e2 : win (L ++ x :: m :: y :: R) (L.length + 2) (L.length + R.length + 3 - (L.length + 2)) = y :: R := by
    unfold win
    rw [at_drop2, List.take_of_length_le (by simp; omega)]
  have o1 : s_l1Own (L ++ [x]) = some ((), L ++ [x]) := s_l1Own_eq _ (by simp at hl ⊢; omega)
  have e3 : L ++ [x] ++ y :: R = L ++ x :: y :: R := by simp
  have l1 : (L ++ [x]).length = L.length + 1 := by simp
  have l2 : (y :: R).length = R.length + 1 := by simp
  have hl3 : (L ++ (x - 1) :: (y - 1) :: R).length < 4611686018427387904 := by simp at hl ⊢; omega
  have e4 : win (L ++ (x - 1) :: (y - 1) :: R) 0 (L.length + 1 + (R.length + 1)) = L ++ (x - 1) :: (y - 1) :: R := by
    have := win_all (L ++ (x - 1) :: (y - 1) :: R)
    rwa [show (L ++ (x - 1) :: (y - 1) :: R).length = L.length + 1 + (R.length + 1) by simp; omega] at this
  have l4 : (L ++ (x - 1) :: (y - 1) :: R).length = L.length + 1 + (R.length + 1) := by simp; omega
  have c0 : (0 : Int) ≤ (L.length : Int) + 1 := by omega
  have c1 : 0 ≤ L.length + 1 ∧ L.length + 1 ≤ L.length + R.length + 3 := by omega
  have c2 : (0 : Int) ≤ ((L.length + 2 : Nat) : Int) := by omega
  have c3 : L.length + 2 ≤ L.length + R.length + 3 ∧ L.length + R.length + 3 ≤ L.length + R.length + 3 := by omega
  have c4 : 2 * ((L.length + 1 + (R.length + 1)) * 9) ≤ 140737488355328 := by omega
  have c5 : (0 : Int) ≤ (L.length : Int) := by omega
  have c6 : (L.length : Int) < ((L.length + 1 : Nat) : Int) + ((R.length + 1 : Nat) : Int) := by omega
  have c7 : (L.length : Int) + 1 < ((L.length + 1 : Nat) : Int) + ((R.length + 1 : Nat) : Int) := by omega
  simp only [s_ctTake, s_ctTake_t, T.run, hll, t1, w1, w2, Int.toNat_natCast, Option.bind_some, c0, c1, c2, c3, and_self, decide_true, if_true, e1, o1, e2, win_all, l1, l2, Nat.zero_add, Nat.le_refl, c4, c5, c6, c7, e3, at_get0, w3, at_set0, at_get1, w4, at_set1, l4, e4, s_ctGood_eq _ hl3]


def s_ReduceOnes_sh : FSh := ⟨[(.one (.sl (.int .i64) false false))], []⟩

def s_ReduceOnes_L5_sh : LSh := ⟨(fun ex => match ex with | .norm => [(4, none), (5, none)] | .exit i => if i = 0 then [(4, none)] else [] | .ret => [(2, none), (3, none)]), [(4, (.one (.rw 0 0))), (5, (.one (.si .i64)))], [(.row 0 (.int .i64))], [⟨.ret, [(2, (.one (.rw 0 0))), (3, (.one .sb))], [(.row 0 (.int .i64))]⟩, ⟨(.exit 0), [(4, (.one (.rw 0 0)))], [(.row 0 (.int .i64))]⟩]⟩
noncomputable def s_ReduceOnes_L5_step : ((Unit × Int) × List (Int)) → T (((Unit × Int) × List (Int)) ⊕ (((Unit × Bool) × List (Int)) ⊕ (Unit × List (Int)))) := fun (((), at'), out) =>
  (.test (decide ((w64 (at' + 1)) < ((List.length out) : Int)))
  (.test (decide ((0 ≤ at') ∧ (at' < ((List.length out) : Int))))
   (.sub (out[(0 + (Int.toNat at'))]?) fun z0 =>
    (.test (z0 != 1)
    (.test (decide ((0 = 0) ∧ ((List.length out) = (List.length out))))
     (.ret (Sum.inl (((), (w64 (at' + 1))), out)))
     .fail)
    (.test (decide ((0 + (List.length out)) ≤ (List.length out)))
     (.sub (s_ctTake ((win out 0 (List.length out)), at')) fun z1 =>
      (.test (! z1.1.2)
      (.test true
       (.ret (Sum.inr (Sum.inl (((), false), ([] : List (Int))))))
       .fail)
      (.test (decide ((0 = 0) ∧ ((List.length z1.2) = (List.length z1.2))))
       (.ret (Sum.inl (((), (1 : Int)), z1.2)))
       .fail)))
     .fail)))
   .fail)
  (.test (decide ((0 = 0) ∧ ((List.length out) = (List.length out))))
   (.ret (Sum.inr (Sum.inr ((), out))))
   .fail))
noncomputable def s_ReduceOnes_L5 (v : ((Unit × Int) × List (Int))) : Option (((Unit × Bool) × List (Int)) ⊕ (Unit × List (Int))) := loopO (fun v => (s_ReduceOnes_L5_step v).run) v

def s_ReduceOnes_fo : List FO := [⟨[(.one (.rw 0 0)), (.one .sb)], [(.row 0 (.int .i64))]⟩]
noncomputable def s_ReduceOnes_t : List (Int) → T ((Unit × Bool) × List (Int)) := fun list =>
  (.sub (s_ctGood list) fun z0 =>
  (.test (! z0)
  (.test true
   (.ret (((), false), ([] : List (Int))))
   .fail)
  (.sub (s_l1Own list) fun z1 =>
   (.test (decide ((0 = 0) ∧ ((List.length z1.2) = (List.length z1.2))))
   (.sub (s_ReduceOnes_L5 (((), (1 : Int)), z1.2)) fun z2 =>
    (.test (Sum.isLeft z2)
    (.sub (Sum.getLeft? z2) fun z3 =>
     (.test (decide ((0 = 0) ∧ ((List.length z3.2) = (List.length z3.2))))
     (.ret (((), z3.1.2), z3.2))
     .fail))
    (.sub (Sum.getRight? z2) fun z4 =>
     (.test (decide ((0 = 0) ∧ ((List.length z4.2) = (List.length z4.2))))
     (.ret (((), true), z4.2))
     .fail))))
   .fail))))
noncomputable def s_ReduceOnes (v : List (Int)) : Option ((Unit × Bool) × List (Int)) := (s_ReduceOnes_t v).run
noncomputable def s_ReduceOnes_E : TEnv := (((E0.add1 n_s_ctGood s_ctGood_sh s_ctGood_fo s_ctGood).add1 n_s_l1Own s_l1Own_sh s_l1Own_fo s_l1Own).add1 n_s_ctTake s_ctTake_sh s_ctTake_fo s_ctTake)
theorem s_ReduceOnes_Eok : (s_ReduceOnes_E).OK := (((E0ok.add1 s_ctGood_ok).add1 s_l1Own_ok).add1 s_ctTake_ok)
noncomputable def s_ReduceOnes_told : Nat → Option SealT := fun id => if id = 5 then some (LSh.told s_ReduceOnes_L5_sh 0 (s_ReduceOnes_L5_step)) else none
theorem s_ReduceOnes_L5_ok : ToldOK Try.prog 0 (loopAt (bodyOf fn_s_ReduceOnes) [0]) (LSh.told s_ReduceOnes_L5_sh 0 (s_ReduceOnes_L5_step)) :=
  loop_ok (E := s_ReduceOnes_E) (s_ReduceOnes_Eok) (told := s_ReduceOnes_told) (l := s_ReduceOnes_L5_sh) (step := s_ReduceOnes_L5_step) (loopsOK_of (ls := []) (by kernel_rfl) trivial) (by kernel_rfl) (fun v => by kernel_rfl)
theorem s_ReduceOnes_ok : FOK Try.prog n_s_ReduceOnes s_ReduceOnes_sh s_ReduceOnes_fo s_ReduceOnes :=
  fn_ok (E := s_ReduceOnes_E) (s_ReduceOnes_Eok) (told := s_ReduceOnes_told) (fl := []) (c := bodyOf fn_s_ReduceOnes) (s := s_ReduceOnes_sh) (l := s_ReduceOnes_fo) (tree := s_ReduceOnes_t) fnat_s_ReduceOnes (by kernel_rfl) (by kernel_rfl) (by kernel_rfl) (loopsOK_of (ls := [loopAt (bodyOf fn_s_ReduceOnes) [0]]) (by kernel_rfl) ⟨.inr ⟨_, by kernel_rfl, s_ReduceOnes_L5_ok⟩, trivial⟩) (fun v => by kernel_rfl)

theorem reduce_scan (out : List Int) (h10 : out.length ≤ 10) (k : Nat) (hk : k + 1 ≤ out.length) (hn : ∀ t (h : t < out.length), 1 ≤ t → t < k → out[t] ≠ 1) (h1 : 1 ≤ k) :
    s_ReduceOnes_L5 (((), (1 : Int)), out) = s_ReduceOnes_L5 (((), (k : Int)), out) := by
  induction k with
  | zero => omega
  | succ k ih =>
    by_cases h0 : k = 0
    · subst h0; rfl
    · rw [ih (by omega) (fun t h a b => hn t h a (by omega)) (by omega)]
      have hlt : k < out.length := by omega
      have hne := hn k hlt (by omega) (by omega)
      simp only [s_ReduceOnes_L5]
      refine loopO_next ?_
      have w1 : w64 ((k : Int) + 1) = ((k + 1 : Nat) : Int) := by rw [w64_id (by omega) (by omega)]; omega
      have c1 : ((k + 1 : Nat) : Int) < (out.length : Int) := by omega
      have c2 : (0 : Int) ≤ (k : Int) ∧ (k : Int) < (out.length : Int) := by omega
      simp only [s_ReduceOnes_L5_step, T.run, w1, c1, c2, decide_true, if_true, and_self, Int.toNat_natCast, Nat.zero_add, List.getElem?_eq_getElem hlt, Option.bind_some]
      simp [hne]


def i_within_sh : FSh := ⟨[(.one (.si .i64)), (.one (.si .i64)), (.one (.si .i64))], []⟩

def i_within_fo : List FO := [⟨[(.one .sb)], []⟩]
noncomputable def i_within_t : (Int × Int × Int) → T Bool := fun (n, low, high) =>
  (.test (decide (n ≥ low))
  (.ret (decide (n ≤ high)))
  (.ret false))
noncomputable def i_within (v : (Int × Int × Int)) : Option Bool := (i_within_t v).run
noncomputable def i_within_E : TEnv := E0
theorem i_within_Eok : (i_within_E).OK := E0ok
noncomputable def i_within_told : Nat → Option SealT := fun id => none
theorem i_within_ok : FOK Try.prog n_i_within i_within_sh i_within_fo i_within :=
  fn_ok (E := i_within_E) (i_within_Eok) (told := i_within_told) (fl := []) (c := bodyOf fn_i_within) (s := i_within_sh) (l := i_within_fo) (tree := i_within_t) fnat_i_within (by kernel_rfl) (by kernel_rfl) (by kernel_rfl) (loopsOK_of (ls := []) (by kernel_rfl) trivial) (fun v => by kernel_rfl)

theorem i_within_eq (n low high : Int) : i_within (n, low, high) = some (inB low high n) := by
  simp only [i_within, i_within_t, T.run, ge_iff_le, decide_eq_true_eq, inB]
  by_cases h : low ≤ n <;> simp [h]


def i_IsTermList_1_sh : FSh := ⟨[(.one (.si .i64))], []⟩

def i_IsTermList_1_fo : List FO := [⟨[(.one .sb)], []⟩]
noncomputable def i_IsTermList_1_t : Int → T Bool := fun n =>
  (.sub (i_within (n, ((-30), (30 : Int)))) fun z0 =>
  (.ret (! z0)))
noncomputable def i_IsTermList_1 (v : Int) : Option Bool := (i_IsTermList_1_t v).run
noncomputable def i_IsTermList_1_E : TEnv := (E0.add1 n_i_within i_within_sh i_within_fo i_within)
theorem i_IsTermList_1_Eok : (i_IsTermList_1_E).OK := (E0ok.add1 i_within_ok)
noncomputable def i_IsTermList_1_told : Nat → Option SealT := fun id => none
theorem i_IsTermList_1_ok : FOK Try.prog n_i_IsTermList_1 i_IsTermList_1_sh i_IsTermList_1_fo i_IsTermList_1 :=
  fn_ok (E := i_IsTermList_1_E) (i_IsTermList_1_Eok) (told := i_IsTermList_1_told) (fl := []) (c := bodyOf fn_i_IsTermList_1) (s := i_IsTermList_1_sh) (l := i_IsTermList_1_fo) (tree := i_IsTermList_1_t) fnat_i_IsTermList_1 (by kernel_rfl) (by kernel_rfl) (by kernel_rfl) (loopsOK_of (ls := []) (by kernel_rfl) trivial) (fun v => by kernel_rfl)

theorem i_IsTermList_1_eq (k : Int) : i_IsTermList_1 k = some (!inB (-30) 30 k) := by
  simp only [i_IsTermList_1, i_IsTermList_1_t, T.run, i_within_eq, Option.bind_some]


def slices_IndexFunc_int__i_IsTermList_1_sh : FSh := ⟨[(.one (.sl (.int .i64) false false)), (.one (.fn n_i_IsTermList_1))], []⟩

def slices_IndexFunc_int__i_IsTermList_1_L2_sh : LSh := ⟨(fun ex => match ex with | .norm => [(0, none), (1, none), (7, none), (8, none)] | .exit i => if i = 0 then [] else [] | .ret => [(4, none)]), [(0, (.one (.sl (.int .i64) false false))), (1, (.one (.fn n_i_IsTermList_1))), (7, (.one (.si .i64))), (8, (.one (.si .i64)))], [], [⟨.ret, [(4, (.one (.si .i64)))], []⟩, ⟨(.exit 0), [], []⟩]⟩
noncomputable def slices_IndexFunc_int__i_IsTermList_1_L2_step : (List (Int) × Unit × Int × Int) → T ((List (Int) × Unit × Int × Int) ⊕ (Int ⊕ Unit)) := fun (s, (), t7, t8) =>
  (.test (decide (t8 < t7))
  (.test (decide ((0 ≤ t8) ∧ (t8 < ((List.length s) : Int))))
   (.sub (s[(Int.toNat t8)]?) fun z0 =>
    (.sub (i_IsTermList_1 z0) fun z1 =>
    (.test z1
    (.ret (Sum.inr (Sum.inl t8)))
    (.ret (Sum.inl (s, ((), (t7, (w64 (t8 + 1))))))))))
   .fail)
  (.ret (Sum.inr (Sum.inr ()))))
noncomputable def slices_IndexFunc_int__i_IsTermList_1_L2 (v : (List (Int) × Unit × Int × Int)) : Option (Int ⊕ Unit) := loopO (fun v => (slices_IndexFunc_int__i_IsTermList_1_L2_step v).run) v

def slices_IndexFunc_int__i_IsTermList_1_fo : List FO := [⟨[(.one (.si .i64))], []⟩]
noncomputable def slices_IndexFunc_int__i_IsTermList_1_t : (List (Int) × Unit) → T Int := fun (s, ()) =>
  (.sub (slices_IndexFunc_int__i_IsTermList_1_L2 (s, ((), (((List.length s) : Int), (0 : Int))))) fun z0 =>
  (.test (Sum.isLeft z0)
  (.sub (Sum.getLeft? z0) fun z1 =>
   (.ret z1))
  (.sub (Sum.getRight? z0) fun z2 =>
   (.ret (-1)))))
noncomputable def slices_IndexFunc_int__i_IsTermList_1 (v : (List (Int) × Unit)) : Option Int := (slices_IndexFunc_int__i_IsTermList_1_t v).run
noncomputable def slices_IndexFunc_int__i_IsTermList_1_E : TEnv := (E0.add1 n_i_IsTermList_1 i_IsTermList_1_sh i_IsTermList_1_fo i_IsTermList_1)
theorem slices_IndexFunc_int__i_IsTermList_1_Eok : (slices_IndexFunc_int__i_IsTermList_1_E).OK := (E0ok.add1 i_IsTermList_1_ok)
noncomputable def slices_IndexFunc_int__i_IsTermList_1_told : Nat → Option SealT := fun id => if id = 2 then some (LSh.told slices_IndexFunc_int__i_IsTermList_1_L2_sh 0 (slices_IndexFunc_int__i_IsTermList_1_L2_step)) else none
theorem slices_IndexFunc_int__i_IsTermList_1_L2_ok : ToldOK Try.prog 0 (loopAt (bodyOf fn_slices_IndexFunc_int) [0]) (LSh.told slices_IndexFunc_int__i_IsTermList_1_L2_sh 0 (slices_IndexFunc_int__i_IsTermList_1_L2_step)) :=
  loop_ok (E := slices_IndexFunc_int__i_IsTermList_1_E) (slices_IndexFunc_int__i_IsTermList_1_Eok) (told := slices_IndexFunc_int__i_IsTermList_1_told) (l := slices_IndexFunc_int__i_IsTermList_1_L2_sh) (step := slices_IndexFunc_int__i_IsTermList_1_L2_step) (loopsOK_of (ls := []) (by kernel_rfl) trivial) (by kernel_rfl) (fun v => by kernel_rfl)
theorem slices_IndexFunc_int__i_IsTermList_1_ok : FOK Try.prog n_slices_IndexFunc_int slices_IndexFunc_int__i_IsTermList_1_sh slices_IndexFunc_int__i_IsTermList_1_fo slices_IndexFunc_int__i_IsTermList_1 :=
  fn_ok (E := slices_IndexFunc_int__i_IsTermList_1_E) (slices_IndexFunc_int__i_IsTermList_1_Eok) (told := slices_IndexFunc_int__i_IsTermList_1_told) (fl := []) (c := bodyOf fn_slices_IndexFunc_int) (s := slices_IndexFunc_int__i_IsTermList_1_sh) (l := slices_IndexFunc_int__i_IsTermList_1_fo) (tree := slices_IndexFunc_int__i_IsTermList_1_t) fnat_slices_IndexFunc_int (by kernel_rfl) (by kernel_rfl) (by kernel_rfl) (loopsOK_of (ls := [loopAt (bodyOf fn_slices_IndexFunc_int) [0]]) (by kernel_rfl) ⟨.inr ⟨_, by kernel_rfl, slices_IndexFunc_int__i_IsTermList_1_L2_ok⟩, trivial⟩) (fun v => by kernel_rfl)

theorem slices_IndexFunc_int__i_IsTermList_1_eq (l : List Int) (hl : l.length < 4611686018427387904) : slices_IndexFunc_int__i_IsTermList_1 (l, ()) = some (idxI (fun k => !inB (-30) 30 k) l) := by
  have h := loop_find (step := fun v => (slices_IndexFunc_int__i_IsTermList_1_L2_step v).run) (xs := l) (fun k => !inB (-30) 30 k) (fun k => (l, (), (l.length : Int), (k : Int))) (fun k => .inl (k : Int)) (.inr ())
    (fun k x hx => by
      have hk := getElem?_lt hx
      simp only [slices_IndexFunc_int__i_IsTermList_1_L2_step, T.run, i_IsTermList_1_eq, Option.bind_some, Int.toNat_natCast, hx]
      rw [w64_id (by omega) (by omega)]
      cases inB (-30) 30 x <;> simp [hk])
    (by simp [slices_IndexFunc_int__i_IsTermList_1_L2_step, T.run])
  simp only [slices_IndexFunc_int__i_IsTermList_1, slices_IndexFunc_int__i_IsTermList_1_t, T.run, slices_IndexFunc_int__i_IsTermList_1_L2]
  simp only [Int.natCast_zero] at h
  rw [h, idxI]
  cases l.findIdx? (fun k => !inB (-30) 30 k) <;> simp


def slices_ContainsFunc_int__i_IsTermList_1_sh : FSh := ⟨[(.one (.sl (.int .i64) false false)), (.one (.fn n_i_IsTermList_1))], []⟩

def slices_ContainsFunc_int__i_IsTermList_1_fo : List FO := [⟨[(.one .sb)], []⟩]
noncomputable def slices_ContainsFunc_int__i_IsTermList_1_t : (List (Int) × Unit) → T Bool := fun (s, ()) =>
  (.sub (slices_IndexFunc_int__i_IsTermList_1 (s, ())) fun z0 =>
  (.ret (decide (z0 ≥ 0))))
noncomputable def slices_ContainsFunc_int__i_IsTermList_1 (v : (List (Int) × Unit)) : Option Bool := (slices_ContainsFunc_int__i_IsTermList_1_t v).run
noncomputable def slices_ContainsFunc_int__i_IsTermList_1_E : TEnv := (E0.add1 n_slices_IndexFunc_int slices_IndexFunc_int__i_IsTermList_1_sh slices_IndexFunc_int__i_IsTermList_1_fo slices_IndexFunc_int__i_IsTermList_1)
theorem slices_ContainsFunc_int__i_IsTermList_1_Eok : (slices_ContainsFunc_int__i_IsTermList_1_E).OK := (E0ok.add1 slices_IndexFunc_int__i_IsTermList_1_ok)
noncomputable def slices_ContainsFunc_int__i_IsTermList_1_told : Nat → Option SealT := fun id => none
theorem slices_ContainsFunc_int__i_IsTermList_1_ok : FOK Try.prog n_slices_ContainsFunc_int slices_ContainsFunc_int__i_IsTermList_1_sh slices_ContainsFunc_int__i_IsTermList_1_fo slices_ContainsFunc_int__i_IsTermList_1 :=
  fn_ok (E := slices_ContainsFunc_int__i_IsTermList_1_E) (slices_ContainsFunc_int__i_IsTermList_1_Eok) (told := slices_ContainsFunc_int__i_IsTermList_1_told) (fl := []) (c := bodyOf fn_slices_ContainsFunc_int) (s := slices_ContainsFunc_int__i_IsTermList_1_sh) (l := slices_ContainsFunc_int__i_IsTermList_1_fo) (tree := slices_ContainsFunc_int__i_IsTermList_1_t) fnat_slices_ContainsFunc_int (by kernel_rfl) (by kernel_rfl) (by kernel_rfl) (loopsOK_of (ls := []) (by kernel_rfl) trivial) (fun v => by kernel_rfl)

theorem slices_ContainsFunc_int__i_IsTermList_1_eq (l : List Int) (hl : l.length < 4611686018427387904) : slices_ContainsFunc_int__i_IsTermList_1 (l, ()) = some (l.any (fun k => !inB (-30) 30 k)) := by
  simp only [slices_ContainsFunc_int__i_IsTermList_1, slices_ContainsFunc_int__i_IsTermList_1_t, T.run, slices_IndexFunc_int__i_IsTermList_1_eq _ hl, Option.bind_some, idxI_ge]


def i_IsTermList_sh : FSh := ⟨[(.one (.sl (.int .i64) false false))], []⟩

def i_IsTermList_fo : List FO := [⟨[(.one .sb)], []⟩]
noncomputable def i_IsTermList_t : List (Int) → T Bool := fun list =>
  (.test (decide (((List.length list) : Int) ≤ 10))
  (.sub (slices_ContainsFunc_int__i_IsTermList_1 (list, ())) fun z0 =>
   (.ret (! z0)))
  (.ret false))
noncomputable def i_IsTermList (v : List (Int)) : Option Bool := (i_IsTermList_t v).run
noncomputable def i_IsTermList_E : TEnv := (E0.add1 n_slices_ContainsFunc_int slices_ContainsFunc_int__i_IsTermList_1_sh slices_ContainsFunc_int__i_IsTermList_1_fo slices_ContainsFunc_int__i_IsTermList_1)
theorem i_IsTermList_Eok : (i_IsTermList_E).OK := (E0ok.add1 slices_ContainsFunc_int__i_IsTermList_1_ok)
noncomputable def i_IsTermList_told : Nat → Option SealT := fun id => none
theorem i_IsTermList_ok : FOK Try.prog n_i_IsTermList i_IsTermList_sh i_IsTermList_fo i_IsTermList :=
  fn_ok (E := i_IsTermList_E) (i_IsTermList_Eok) (told := i_IsTermList_told) (fl := []) (c := bodyOf fn_i_IsTermList) (s := i_IsTermList_sh) (l := i_IsTermList_fo) (tree := i_IsTermList_t) fnat_i_IsTermList (by kernel_rfl) (by kernel_rfl) (by kernel_rfl) (loopsOK_of (ls := []) (by kernel_rfl) trivial) (fun v => by kernel_rfl)

theorem i_IsTermList_eq (l : List Int) (hl : l.length < 4611686018427387904) : i_IsTermList l = some (isTerms l) := by
  simp only [i_IsTermList, i_IsTermList_t, T.run, slices_ContainsFunc_int__i_IsTermList_1_eq _ hl, Option.bind_some, isTerms, decide_eq_true_eq, all_any]
  by_cases h : l.length ≤ 10
  · rw [if_pos (by omega)]; simp [h]
  · rw [if_neg (by omega)]; simp [h]


def slices_Clone_int_sh : FSh := ⟨[.one (.sl (.int .i64) false false)], []⟩
def slices_Clone_int_fo : List FO := [⟨[.one (.rw 0 0)], [.row 0 (.int .i64)]⟩]
def slices_Clone_int (v : List Int) : Option (Unit × List Int) := if v.length ≤ maxLen ∧ v.length * 8 ≤ 140737488355328 then some ((), v) else none
def slices_Clone_int_ren : Shelf.Ren := ⟨fun _ => n_slices_Clone_int, fun t => if t = 4 then 4 else if t = 22 then 22 else 3, fun x => x⟩
theorem slices_Clone_int_lay : SlLaysE0.n41 Try.prog slices_Clone_int_ren :=
  { mixed := by kernel_rfl, f41 := ⟨"slices.Clone[[]int,int]", by kernel_rfl, by kernel_rfl⟩, t4 := by kernel_rfl, a4 := fun w => by kernel_rfl, z4 := fun w => by kernel_rfl, v4 := fun w => by kernel_rfl, t22 := by kernel_rfl, a22 := fun w => by kernel_rfl, z22 := fun w => by kernel_rfl, v22 := fun w => by kernel_rfl }
noncomputable def slices_Clone_int_info : TypeInfo := (Try.prog.info? 3).get (by kernel_rfl)
theorem slices_Clone_int_ok : FOK Try.prog n_slices_Clone_int slices_Clone_int_sh slices_Clone_int_fo slices_Clone_int :=
  clone_ok (e := .int .i64) ⟨_, fnat_slices_Clone_int, by kernel_rfl, by kernel_rfl⟩ (ρr := slices_Clone_int_ren) rfl slices_Clone_int_lay rfl slices_Clone_int_info (.int .i64 0) 8 (by kernel_rfl) (by kernel_rfl) (by kernel_rfl) (by kernel_rfl) (by decide) (by decide) (fun w => by kernel_rfl)

def slices_Index_int_sh : FSh := ⟨[(.one (.sl (.int .i64) false false)), (.one (.si .i64))], []⟩

def slices_Index_int_L2_sh : LSh := ⟨(fun ex => match ex with | .norm => [(0, none), (1, none), (7, none), (8, none)] | .exit i => if i = 0 then [] else [] | .ret => [(4, none)]), [(0, (.one (.sl (.int .i64) false false))), (1, (.one (.si .i64))), (7, (.one (.si .i64))), (8, (.one (.si .i64)))], [], [⟨.ret, [(4, (.one (.si .i64)))], []⟩, ⟨(.exit 0), [], []⟩]⟩
noncomputable def slices_Index_int_L2_step : (List (Int) × Int × Int × Int) → T ((List (Int) × Int × Int × Int) ⊕ (Int ⊕ Unit)) := fun (s, v, t7, t8) =>
  (.test (decide (t8 < t7))
  (.test (decide ((0 ≤ t8) ∧ (t8 < ((List.length s) : Int))))
   (.sub (s[(Int.toNat t8)]?) fun z0 =>
    (.test (v == z0)
    (.ret (Sum.inr (Sum.inl t8)))
    (.ret (Sum.inl (s, (v, (t7, (w64 (t8 + 1)))))))))
   .fail)
  (.ret (Sum.inr (Sum.inr ()))))
noncomputable def slices_Index_int_L2 (v : (List (Int) × Int × Int × Int)) : Option (Int ⊕ Unit) := loopO (fun v => (slices_Index_int_L2_step v).run) v

def slices_Index_int_fo : List FO := [⟨[(.one (.si .i64))], []⟩]
noncomputable def slices_Index_int_t : (List (Int) × Int) → T Int := fun (s, v) =>
  (.sub (slices_Index_int_L2 (s, (v, (((List.length s) : Int), (0 : Int))))) fun z0 =>
  (.test (Sum.isLeft z0)
  (.sub (Sum.getLeft? z0) fun z1 =>
   (.ret z1))
  (.sub (Sum.getRight? z0) fun z2 =>
   (.ret (-1)))))
noncomputable def slices_Index_int (v : (List (Int) × Int)) : Option Int := (slices_Index_int_t v).run
noncomputable def slices_Index_int_E : TEnv := E0
theorem slices_Index_int_Eok : (slices_Index_int_E).OK := E0ok
noncomputable def slices_Index_int_told : Nat → Option SealT := fun id => if id = 2 then some (LSh.told slices_Index_int_L2_sh 0 (slices_Index_int_L2_step)) else none
theorem slices_Index_int_L2_ok : ToldOK Try.prog 0 (loopAt (bodyOf fn_slices_Index_int) [0]) (LSh.told slices_Index_int_L2_sh 0 (slices_Index_int_L2_step)) :=
  loop_ok (E := slices_Index_int_E) (slices_Index_int_Eok) (told := slices_Index_int_told) (l := slices_Index_int_L2_sh) (step := slices_Index_int_L2_step) (loopsOK_of (ls := []) (by kernel_rfl) trivial) (by kernel_rfl) (fun v => by kernel_rfl)
theorem slices_Index_int_ok : FOK Try.prog n_slices_Index_int slices_Index_int_sh slices_Index_int_fo slices_Index_int :=
  fn_ok (E := slices_Index_int_E) (slices_Index_int_Eok) (told := slices_Index_int_told) (fl := []) (c := bodyOf fn_slices_Index_int) (s := slices_Index_int_sh) (l := slices_Index_int_fo) (tree := slices_Index_int_t) fnat_slices_Index_int (by kernel_rfl) (by kernel_rfl) (by kernel_rfl) (loopsOK_of (ls := [loopAt (bodyOf fn_slices_Index_int) [0]]) (by kernel_rfl) ⟨.inr ⟨_, by kernel_rfl, slices_Index_int_L2_ok⟩, trivial⟩) (fun v => by kernel_rfl)

theorem slices_Index_int_eq (s : List Int) (v : Int) (hl : s.length < 4611686018427387904) : slices_Index_int (s, v) = some (idxI (fun x => v == x) s) := by
  have h := loop_find (step := fun v => (slices_Index_int_L2_step v).run) (xs := s) (fun x => v == x) (fun k => (s, (v, ((s.length : Int), (k : Int))))) (fun k => .inl (k : Int)) (.inr ())
    (fun k x hx => by
      have hlt := getElem?_lt hx
      have h1 : (k : Int) < (s.length : Int) := by omega
      have h2 : (0 : Int) ≤ k ∧ (k : Int) < (s.length : Int) := by omega
      simp only [slices_Index_int_L2_step, T.run, Int.toNat_natCast, hx, Option.bind_some, h1, h2, decide_true, if_true, and_self]
      rw [w64_id (z := (k : Int) + 1) (by omega) (by omega)]
      cases hv : (v == x) <;> simp [hv])
    (by simp [slices_Index_int_L2_step, T.run])
  rw [show ((0 : Nat) : Int) = 0 from rfl] at h
  simp only [slices_Index_int, slices_Index_int_t, T.run, slices_Index_int_L2]
  rw [h]
  simp only [idxI]
  cases hf : s.findIdx? (fun x => v == x) <;> simp [Sum.isLeft, hf]


def slices_Delete_int_sh : FSh := ⟨[.one (.rw 0 0), .one (.si .i64), .one (.si .i64)], [.row 0 (.int .i64)]⟩
def slices_Delete_int_fo : List FO := [⟨[.one (.rw 0 0)], [.row 0 (.int .i64)]⟩]
def slices_Delete_int (v : (Unit × Int × Int) × List Int) : Option (Unit × List Int) := if 0 ≤ v.1.2.1 ∧ v.1.2.1 < v.1.2.2 ∧ v.1.2.2 ≤ (v.2.length : Int) ∧ v.2.length ≤ 4611686018427387904 then some ((), v.2.take v.1.2.1.toNat ++ v.2.drop v.1.2.2.toNat) else none
def slices_Delete_int_ren : Shelf.Ren := ⟨fun _ => n_slices_Delete_int, fun t => if t = 0 then 0 else if t = 3 then 3 else if t = 4 then 4 else if t = 22 then 22 else 3, fun x => x⟩
theorem slices_Delete_int_lay : SlLaysE0.n45 Try.prog slices_Delete_int_ren :=
  { mixed := by kernel_rfl, f45 := ⟨"slices.Delete[[]int,int]", by kernel_rfl, by kernel_rfl⟩, t0 := by kernel_rfl, a0 := fun w => by kernel_rfl, z0 := fun w => by kernel_rfl, v0 := fun w => by kernel_rfl, t3 := by kernel_rfl, a3 := fun w => by kernel_rfl, z3 := fun w => by kernel_rfl, v3 := fun w => by kernel_rfl, t4 := by kernel_rfl, a4 := fun w => by kernel_rfl, z4 := fun w => by kernel_rfl, v4 := fun w => by kernel_rfl, t22 := by kernel_rfl, a22 := fun w => by kernel_rfl, z22 := fun w => by kernel_rfl, v22 := fun w => by kernel_rfl }
noncomputable def slices_Delete_int_info : TypeInfo := (Try.prog.info? 3).get (by kernel_rfl)
theorem slices_Delete_int_ok : FOK Try.prog n_slices_Delete_int slices_Delete_int_sh slices_Delete_int_fo slices_Delete_int :=
  delete_ok ⟨_, fnat_slices_Delete_int, by kernel_rfl, by kernel_rfl⟩ (ρr := slices_Delete_int_ren) rfl slices_Delete_int_lay (fun w => by kernel_rfl) (fun w => by kernel_rfl) (fun w => by kernel_rfl) slices_Delete_int_info (by kernel_rfl) (by kernel_rfl)

def i_listed_sh : FSh := ⟨[(.one (.rw 0 0)), (.one .sb)], [(.row 0 (.int .i64))]⟩

def i_listed_fo : List FO := [⟨[(.one (.rw 1 0)), (.one .sb)], [(.row 0 (.int .i64)), (.row 0 (.int .i64))]⟩, ⟨[(.one (.rw 0 0)), (.one .sb)], [(.row 0 (.int .i64))]⟩]
noncomputable def i_listed_t : ((Unit × Bool) × List (Int)) → T (((Unit × Bool) × (List (Int) × List (Int))) ⊕ ((Unit × Bool) × List (Int))) := fun (((), ok), list) =>
  (.test (! ok)
  (.test (decide ((0 = 0) ∧ (0 = (List.length ([] : List (Int))))))
   (.ret (Sum.inl (((), false), (list, ([] : List (Int))))))
   .fail)
  (.test (decide ((0 = 0) ∧ ((List.length list) = (List.length list))))
   (.ret (Sum.inr (((), true), list)))
   .fail))
noncomputable def i_listed (v : ((Unit × Bool) × List (Int))) : Option (((Unit × Bool) × (List (Int) × List (Int))) ⊕ ((Unit × Bool) × List (Int))) := (i_listed_t v).run
noncomputable def i_listed_E : TEnv := E0
theorem i_listed_Eok : (i_listed_E).OK := E0ok
noncomputable def i_listed_told : Nat → Option SealT := fun id => none
theorem i_listed_ok : FOK Try.prog n_i_listed i_listed_sh i_listed_fo i_listed :=
  fn_ok (E := i_listed_E) (i_listed_Eok) (told := i_listed_told) (fl := []) (c := bodyOf fn_i_listed) (s := i_listed_sh) (l := i_listed_fo) (tree := i_listed_t) fnat_i_listed (by kernel_rfl) (by kernel_rfl) (by kernel_rfl) (loopsOK_of (ls := []) (by kernel_rfl) trivial) (fun v => by kernel_rfl)

theorem i_listed_eq (ok : Bool) (l : List Int) : i_listed (((), ok), l) = some (if ok then .inr (((), true), l) else .inl (((), false), (l, []))) := by
  cases ok <;> simp [i_listed, i_listed_t, T.run]


def i_takeOne_sh : FSh := ⟨[(.one (.sl (.int .i64) false false)), (.one (.si .i64))], []⟩

def i_takeOne_fo : List FO := [⟨[(.one (.rw 0 0)), (.one .sb)], [(.row 0 (.int .i64))]⟩]
noncomputable def i_takeOne_t : (List (Int) × Int) → T ((Unit × Bool) × List (Int)) := fun (list, at') =>
  (.sub (slices_Clone_int list) fun z0 =>
  (.test (decide ((0 ≤ (w64 (at' - 1))) ∧ ((w64 (at' - 1)) < ((List.length z0.2) : Int))))
  (.sub (z0.2[(0 + (Int.toNat (w64 (at' - 1))))]?) fun z1 =>
   (.test (decide ((0 ≤ (w64 (at' - 1))) ∧ ((w64 (at' - 1)) < ((List.length z0.2) : Int))))
   (.sub (z0.2[(0 + (Int.toNat (w64 (at' - 1))))]?) fun z2 =>
    (.test (decide ((0 ≤ (w64 (at' + 1))) ∧ ((w64 (at' + 1)) < ((List.length z0.2) : Int))))
    (.sub ((List.set z0.2 (0 + (Int.toNat (w64 (at' - 1)))) (w64 (z1 - 1)))[(0 + (Int.toNat (w64 (at' + 1))))]?) fun z3 =>
     (.test (decide ((0 ≤ (w64 (at' + 1))) ∧ ((w64 (at' + 1)) < ((List.length z0.2) : Int))))
     (.sub ((List.set z0.2 (0 + (Int.toNat (w64 (at' - 1)))) (w64 (z1 - 1)))[(0 + (Int.toNat (w64 (at' + 1))))]?) fun z4 =>
      (.test (decide ((0 = 0) ∧ ((List.length z0.2) = (List.length (List.set (List.set z0.2 (0 + (Int.toNat (w64 (at' - 1)))) (w64 (z1 - 1))) (0 + (Int.toNat (w64 (at' + 1)))) (w64 (z3 - 1)))))))
      (.sub (slices_Delete_int (((), (at', (w64 (at' + 1)))), (List.set (List.set z0.2 (0 + (Int.toNat (w64 (at' - 1)))) (w64 (z1 - 1))) (0 + (Int.toNat (w64 (at' + 1)))) (w64 (z3 - 1))))) fun z5 =>
       (.test (decide ((0 + (List.length z5.2)) ≤ (List.length z5.2)))
       (.sub (i_IsTermList (win z5.2 0 (List.length z5.2))) fun z6 =>
        (.test (decide ((0 = 0) ∧ ((List.length z5.2) = (List.length z5.2))))
        (.sub (i_listed (((), z6), z5.2)) fun z7 =>
         (.test (Sum.isLeft z7)
         (.sub (Sum.getLeft? z7) fun z8 =>
          (.test (decide ((0 = 0) ∧ ((List.length z8.2.2) = (List.length z8.2.2))))
          (.ret (((), z8.1.2), z8.2.2))
          .fail))
         (.sub (Sum.getRight? z7) fun z9 =>
          (.test (decide ((0 = 0) ∧ ((List.length z9.2) = (List.length z9.2))))
          (.ret (((), z9.1.2), z9.2))
          .fail))))
        .fail))
       .fail))
      .fail))
     .fail))
    .fail))
   .fail))
  .fail))
noncomputable def i_takeOne (v : (List (Int) × Int)) : Option ((Unit × Bool) × List (Int)) := (i_takeOne_t v).run
noncomputable def i_takeOne_E : TEnv := ((((E0.add1 n_slices_Clone_int slices_Clone_int_sh slices_Clone_int_fo slices_Clone_int).add1 n_slices_Delete_int slices_Delete_int_sh slices_Delete_int_fo slices_Delete_int).add1 n_i_IsTermList i_IsTermList_sh i_IsTermList_fo i_IsTermList).add1 n_i_listed i_listed_sh i_listed_fo i_listed)
theorem i_takeOne_Eok : (i_takeOne_E).OK := ((((E0ok.add1 slices_Clone_int_ok).add1 slices_Delete_int_ok).add1 i_IsTermList_ok).add1 i_listed_ok)
noncomputable def i_takeOne_told : Nat → Option SealT := fun id => none
theorem i_takeOne_ok : FOK Try.prog n_i_takeOne i_takeOne_sh i_takeOne_fo i_takeOne :=
  fn_ok (E := i_takeOne_E) (i_takeOne_Eok) (told := i_takeOne_told) (fl := []) (c := bodyOf fn_i_takeOne) (s := i_takeOne_sh) (l := i_takeOne_fo) (tree := i_takeOne_t) fnat_i_takeOne (by kernel_rfl) (by kernel_rfl) (by kernel_rfl) (loopsOK_of (ls := []) (by kernel_rfl) trivial) (fun v => by kernel_rfl)

theorem i_takeOne_eq (L : List Int) (x m y : Int) (R : List Int) (at' : Int) (ha : at' = (L.length : Int) + 1) (hl : (L ++ x :: m :: y :: R).length < 1000000) (hx : -1000000 ≤ x ∧ x ≤ 1000000) (hy : -1000000 ≤ y ∧ y ≤ 1000000) :
    i_takeOne (L ++ x :: m :: y :: R, at') = some (((), isTerms (L ++ (x - 1) :: (y - 1) :: R)), if isTerms (L ++ (x - 1) :: (y - 1) :: R) then L ++ (x - 1) :: (y - 1) :: R else []) := by
  subst ha
  have hll : (L ++ x :: m :: y :: R).length = L.length + R.length + 3 := by simp; omega
  have hc : slices_Clone_int (L ++ x :: m :: y :: R) = some ((), L ++ x :: m :: y :: R) := by
    unfold slices_Clone_int
    rw [if_pos]
    exact ⟨by unfold maxLen; omega, by omega⟩
  have w1 : w64 ((L.length : Int) + 1 - 1) = (L.length : Int) := by rw [w64_id (by omega) (by omega)]; omega
  have w2 : w64 ((L.length : Int) + 1 + 1) = ((L.length + 2 : Nat) : Int) := by rw [w64_id (by omega) (by omega)]; omega
  have w3 : w64 (x - 1) = x - 1 := w64_id (by omega) (by omega)
  have w4 : w64 (y - 1) = y - 1 := w64_id (by omega) (by omega)
  have c1 : (0 : Int) ≤ (L.length : Int) ∧ (L.length : Int) < ((L ++ x :: m :: y :: R).length : Int) := by omega
  have c2 : (0 : Int) ≤ ((L.length + 2 : Nat) : Int) ∧ ((L.length + 2 : Nat) : Int) < ((L ++ x :: m :: y :: R).length : Int) := by omega
  have hd : slices_Delete_int (((), ((L.length : Int) + 1, ((L.length + 2 : Nat) : Int))), L ++ (x - 1) :: m :: (y - 1) :: R) = some ((), L ++ (x - 1) :: (y - 1) :: R) := by
    unfold slices_Delete_int
    have hll2 : (L ++ (x - 1) :: m :: (y - 1) :: R).length = L.length + R.length + 3 := by simp; omega
    rw [if_pos (by simp only [hll2]; omega)]
    simp only
    rw [show ((L.length : Int) + 1).toNat = L.length + 1 by omega, Int.toNat_natCast, at_take1, at_drop2]
    simp
  have hl3 : (L ++ (x - 1) :: (y - 1) :: R).length < 4611686018427387904 := by simp at hl ⊢; omega
  simp only [i_takeOne, i_takeOne_t, T.run, hc, Option.bind_some, w1, w2, c1, c2, and_self, decide_true, if_true, Int.toNat_natCast, Nat.zero_add, at_get0, w3, at_set0, at_get2, w4, at_set2, List.length_set, hd, win_all, Nat.le_refl, i_IsTermList_eq _ hl3, i_listed_eq]
  cases isTerms (L ++ (x - 1) :: (y - 1) :: R) <;> simp [Sum.isLeft]


def i_ReduceOnes_sh : FSh := ⟨[(.one (.sl (.int .i64) false false))], []⟩

def i_ReduceOnes_L4_sh : LSh := ⟨(fun ex => match ex with | .norm => [(4, none)] | .exit i => if i = 0 then [(4, none)] else [] | .ret => [(2, none), (3, none)]), [(4, (.one (.rw 0 0)))], [(.row 0 (.int .i64))], [⟨(.exit 0), [(4, (.one (.rw 0 0)))], [(.row 0 (.int .i64))]⟩, ⟨.ret, [(2, (.one (.rw 0 0))), (3, (.one .sb))], [(.row 0 (.int .i64))]⟩]⟩
noncomputable def i_ReduceOnes_L4_step : (Unit × List (Int)) → T ((Unit × List (Int)) ⊕ ((Unit × List (Int)) ⊕ ((Unit × Bool) × List (Int)))) := fun ((), out) =>
  (.test (decide (((List.length out) : Int) > 2))
  (.test true
   (.test (decide (0 ≤ (w64 (((List.length out) : Int) - 1))))
    (.test (decide ((1 ≤ (Int.toNat (w64 (((List.length out) : Int) - 1)))) ∧ ((Int.toNat (w64 (((List.length out) : Int) - 1))) ≤ (List.length out))))
     (.test (decide ((1 + ((Int.toNat (w64 (((List.length out) : Int) - 1))) - 1)) ≤ (List.length out)))
      (.sub (slices_Index_int ((win out 1 ((Int.toNat (w64 (((List.length out) : Int) - 1))) - 1)), (1 : Int))) fun z0 =>
       (.test (decide (z0 < 0))
       (.test (decide ((0 = 0) ∧ ((List.length out) = (List.length out))))
        (.ret (Sum.inr (Sum.inl ((), out))))
        .fail)
       (.test (decide ((0 + (List.length out)) ≤ (List.length out)))
        (.sub (i_takeOne ((win out 0 (List.length out)), (w64 (z0 + 1)))) fun z1 =>
         (.test (! z1.1.2)
         (.test true
          (.ret (Sum.inr (Sum.inr (((), false), ([] : List (Int))))))
          .fail)
         (.test (decide ((0 = 0) ∧ ((List.length z1.2) = (List.length z1.2))))
          (.ret (Sum.inl ((), z1.2)))
          .fail)))
        .fail)))
      .fail)
     .fail)
    .fail)
   .fail)
  (.test (decide ((0 = 0) ∧ ((List.length out) = (List.length out))))
   (.ret (Sum.inr (Sum.inl ((), out))))
   .fail))
noncomputable def i_ReduceOnes_L4 (v : (Unit × List (Int))) : Option ((Unit × List (Int)) ⊕ ((Unit × Bool) × List (Int))) := loopO (fun v => (i_ReduceOnes_L4_step v).run) v

def i_ReduceOnes_fo : List FO := [⟨[(.one (.rw 0 0)), (.one .sb)], [(.row 0 (.int .i64))]⟩]
noncomputable def i_ReduceOnes_t : List (Int) → T ((Unit × Bool) × List (Int)) := fun list =>
  (.sub (i_IsTermList list) fun z0 =>
  (.test (! z0)
  (.test true
   (.ret (((), false), ([] : List (Int))))
   .fail)
  (.sub (slices_Clone_int list) fun z1 =>
   (.test (decide ((0 = 0) ∧ ((List.length z1.2) = (List.length z1.2))))
   (.sub (i_ReduceOnes_L4 ((), z1.2)) fun z2 =>
    (.test (Sum.isLeft z2)
    (.sub (Sum.getLeft? z2) fun z3 =>
     (.test (decide ((0 = 0) ∧ ((List.length z3.2) = (List.length z3.2))))
     (.ret (((), true), z3.2))
     .fail))
    (.sub (Sum.getRight? z2) fun z4 =>
     (.test (decide ((0 = 0) ∧ ((List.length z4.2) = (List.length z4.2))))
     (.ret (((), z4.1.2), z4.2))
     .fail))))
   .fail))))
noncomputable def i_ReduceOnes (v : List (Int)) : Option ((Unit × Bool) × List (Int)) := (i_ReduceOnes_t v).run
noncomputable def i_ReduceOnes_E : TEnv := ((((E0.add1 n_i_IsTermList i_IsTermList_sh i_IsTermList_fo i_IsTermList).add1 n_slices_Clone_int slices_Clone_int_sh slices_Clone_int_fo slices_Clone_int).add1 n_slices_Index_int slices_Index_int_sh slices_Index_int_fo slices_Index_int).add1 n_i_takeOne i_takeOne_sh i_takeOne_fo i_takeOne)
theorem i_ReduceOnes_Eok : (i_ReduceOnes_E).OK := ((((E0ok.add1 i_IsTermList_ok).add1 slices_Clone_int_ok).add1 slices_Index_int_ok).add1 i_takeOne_ok)
noncomputable def i_ReduceOnes_told : Nat → Option SealT := fun id => if id = 4 then some (LSh.told i_ReduceOnes_L4_sh 0 (i_ReduceOnes_L4_step)) else none
theorem i_ReduceOnes_L4_ok : ToldOK Try.prog 0 (loopAt (bodyOf fn_i_ReduceOnes) [0]) (LSh.told i_ReduceOnes_L4_sh 0 (i_ReduceOnes_L4_step)) :=
  loop_ok (E := i_ReduceOnes_E) (i_ReduceOnes_Eok) (told := i_ReduceOnes_told) (l := i_ReduceOnes_L4_sh) (step := i_ReduceOnes_L4_step) (loopsOK_of (ls := []) (by kernel_rfl) trivial) (by kernel_rfl) (fun v => by kernel_rfl)
theorem i_ReduceOnes_ok : FOK Try.prog n_i_ReduceOnes i_ReduceOnes_sh i_ReduceOnes_fo i_ReduceOnes :=
  fn_ok (E := i_ReduceOnes_E) (i_ReduceOnes_Eok) (told := i_ReduceOnes_told) (fl := []) (c := bodyOf fn_i_ReduceOnes) (s := i_ReduceOnes_sh) (l := i_ReduceOnes_fo) (tree := i_ReduceOnes_t) fnat_i_ReduceOnes (by kernel_rfl) (by kernel_rfl) (by kernel_rfl) (loopsOK_of (ls := [loopAt (bodyOf fn_i_ReduceOnes) [0]]) (by kernel_rfl) ⟨.inr ⟨_, by kernel_rfl, i_ReduceOnes_L4_ok⟩, trivial⟩) (fun v => by kernel_rfl)

theorem reduce_both : ∀ (n : Nat) (out : List Int), out.length = n → isTerms out = true →
    ∃ r : Bool × List Int, r.2.length ≤ 10 ∧ i_ReduceOnes_L4 ((), out) = some (if r.1 then .inl ((), r.2) else .inr (((), false), [])) ∧
      s_ReduceOnes_L5 (((), (1 : Int)), out) = some (if r.1 then .inr ((), r.2) else .inl (((), false), [])) ∧ (r.1 = false → r.2 = []) := by
  intro n
  induction n using Nat.strongRecOn with
  | ind n ih =>
    intro out hn ht
    have ht' := isTerms_iff.1 ht
    by_cases h2 : out.length ≤ 2
    · refine ⟨(true, out), ht'.1, ?_, ?_, by simp⟩
      · simp only [i_ReduceOnes_L4]
        have : ¬ ((out.length : Int) > 2) := by omega
        exact loopO_done (by simp only [i_ReduceOnes_L4_step, T.run, this]; simp)
      · simp only [s_ReduceOnes_L5]
        have : ¬ (w64 ((1 : Int) + 1) < (out.length : Int)) := by rw [w64_id (by omega) (by omega)]; omega
        exact loopO_done (by simp only [s_ReduceOnes_L5_step, T.run, this]; simp)
    · have g2 : (out.length : Int) > 2 := by omega
      have w1 : w64 ((out.length : Int) - 1) = ((out.length - 1 : Nat) : Int) := by rw [w64_id (by omega) (by omega)]; omega
      have c1 : (0 : Int) ≤ ((out.length - 1 : Nat) : Int) := by omega
      have c2 : 1 ≤ out.length - 1 ∧ out.length - 1 ≤ out.length := by omega
      have c3 : 1 + (out.length - 1 - 1) ≤ out.length := by omega
      have hml : (win out 1 (out.length - 1 - 1)).length = out.length - 2 := by unfold win; simp; omega
      have hidx := slices_Index_int_eq (win out 1 (out.length - 1 - 1)) 1 (by omega)
      have hget : ∀ t, t < out.length - 2 → (win out 1 (out.length - 1 - 1))[t]? = out[t + 1]? := by
        intro t h
        unfold win
        rw [List.getElem?_take, if_pos (by omega), List.getElem?_drop, Nat.add_comm]
      cases hf : (win out 1 (out.length - 1 - 1)).findIdx? (fun x => (1 : Int) == x) with
      | none =>
        have hi : idxI (fun x => (1 : Int) == x) (win out 1 (out.length - 1 - 1)) = -1 := by unfold idxI; rw [hf]
        refine ⟨(true, out), ht'.1, ?_, ?_, by simp⟩
        · simp only [i_ReduceOnes_L4]
          exact loopO_done (by simp only [i_ReduceOnes_L4_step, T.run, g2, w1, c1, c2, c3, Int.toNat_natCast, hidx, hi, decide_true, if_true, Option.bind_some, and_self]; simp)
        · have hno : ∀ t (h : t < out.length), 1 ≤ t → t < out.length - 1 → out[t] ≠ 1 := by
            intro t h a b e
            rw [List.findIdx?_eq_none_iff] at hf
            have hm := hget (t - 1) (by omega)
            rw [show t - 1 + 1 = t by omega, List.getElem?_eq_getElem h] at hm
            have := hf _ (List.mem_of_getElem? hm)
            rw [e] at this
            simp at this
          rw [reduce_scan out ht'.1 (out.length - 1) (by omega) hno (by omega)]
          simp only [s_ReduceOnes_L5]
          have : ¬ (w64 (((out.length - 1 : Nat) : Int) + 1) < (out.length : Int)) := by rw [w64_id (by omega) (by omega)]; omega
          exact loopO_done (by simp only [s_ReduceOnes_L5_step, T.run, this]; simp)
      | some p =>
        obtain ⟨hp, hp1, hp2⟩ := List.findIdx?_eq_some_iff_getElem.1 hf
        have hi : idxI (fun x => (1 : Int) == x) (win out 1 (out.length - 1 - 1)) = (p : Int) := by unfold idxI; rw [hf]
        have hpl : p < out.length - 2 := by omega
        have hno : ∀ t (h : t < out.length), 1 ≤ t → t < p + 1 → out[t] ≠ 1 := by
          intro t h a b e
          have hj := hp2 (t - 1) (by omega)
          have hm := hget (t - 1) (by omega)
          rw [show t - 1 + 1 = t by omega, List.getElem?_eq_getElem h, List.getElem?_eq_getElem (by omega)] at hm
          simp only [Option.some.injEq] at hm
          rw [hm, e] at hj
          simp at hj
        have hmid : out[p + 1]? = some 1 := by
          have hm := hget p hpl
          rw [List.getElem?_eq_getElem hp] at hm
          have := (beq_iff_eq).1 hp1
          rw [← this] at hm
          exact hm.symm
        obtain ⟨L, x, m, y, R, e, hL⟩ := at_split out p (by omega)
        subst hL
        have hm1 : m = 1 := by
          rw [e, at_get1] at hmid
          exact Option.some.inj hmid
        subst hm1
        have hx := ht'.2 x (by rw [e]; simp)
        have hy := ht'.2 y (by rw [e]; simp)
        have hlen : out.length = L.length + R.length + 3 := by rw [e]; simp; omega
        have it := i_takeOne_eq L x 1 y R ((L.length : Int) + 1) rfl (by rw [← e]; omega) (by omega) (by omega)
        have st := s_ctTake_eq L x 1 y R ((L.length : Int) + 1) rfl (by rw [← e]; omega) (by omega) (by omega)
        rw [← e] at it st
        have wi : w64 ((L.length : Int) + 1) = (L.length : Int) + 1 := w64_id (by omega) (by omega)
        have ci : ¬ ((L.length : Int) < 0) := by omega
        have sc := reduce_scan out ht'.1 (L.length + 1) (by omega) hno (by omega)
        have ws : w64 (((L.length + 1 : Nat) : Int) + 1) = ((L.length + 2 : Nat) : Int) := by rw [w64_id (by omega) (by omega)]; omega
        have cs1 : ((L.length + 2 : Nat) : Int) < (out.length : Int) := by omega
        have cs2 : (0 : Int) ≤ ((L.length + 1 : Nat) : Int) ∧ ((L.length + 1 : Nat) : Int) < (out.length : Int) := by omega
        have cs3 : ((L.length + 1 : Nat) : Int) = (L.length : Int) + 1 := by omega
        have stI : (i_ReduceOnes_L4_step ((), out)).run = some (if isTerms (L ++ (x - 1) :: (y - 1) :: R) then .inl ((), L ++ (x - 1) :: (y - 1) :: R) else .inr (.inr (((), false), []))) := by
          simp only [i_ReduceOnes_L4_step, T.run, g2, w1, c1, c2, c3, Int.toNat_natCast, hidx, hi, decide_true, if_true, Option.bind_some, and_self, ci, decide_false, Bool.false_eq_true, if_false, wi, win_all, it, Nat.zero_add, Nat.le_refl]
          cases isTerms (L ++ (x - 1) :: (y - 1) :: R) <;> simp
        have stS : (s_ReduceOnes_L5_step (((), ((L.length + 1 : Nat) : Int)), out)).run = some (if isTerms (L ++ (x - 1) :: (y - 1) :: R) then .inl (((), (1 : Int)), L ++ (x - 1) :: (y - 1) :: R) else .inr (.inl (((), false), []))) := by
          simp only [s_ReduceOnes_L5_step, T.run, ws, cs1, cs2, decide_true, if_true, and_self, Int.toNat_natCast, Nat.zero_add, hmid, Option.bind_some, win_all, Nat.le_refl]
          rw [cs3, st]
          simp only [Option.bind_some]
          cases isTerms (L ++ (x - 1) :: (y - 1) :: R) <;> simp
        rw [sc]
        simp only [i_ReduceOnes_L4, s_ReduceOnes_L5] at ih ⊢
        cases hr : isTerms (L ++ (x - 1) :: (y - 1) :: R) with
        | true =>
          rw [hr] at stI stS
          obtain ⟨r, r1, r2, r3, r4⟩ := ih (L ++ (x - 1) :: (y - 1) :: R).length (by simp; omega) _ rfl hr
          exact ⟨r, r1, by rw [loopO_next stI]; exact r2, by rw [loopO_next stS]; exact r3, r4⟩
        | false =>
          rw [hr] at stI stS
          exact ⟨(false, []), by simp, loopO_done stI, loopO_done stS, fun _ => rfl⟩
theorem reduce_ones (l : List Int) (hl : l.length < 4611686018427387904) : ∃ r : Bool × List Int, r.2.length ≤ 10 ∧ i_ReduceOnes l = some (((), r.1), r.2) ∧ s_ReduceOnes l = some (((), r.1), r.2) := by
  simp only [i_ReduceOnes, i_ReduceOnes_t, s_ReduceOnes, s_ReduceOnes_t, T.run, i_IsTermList_eq l hl, s_ctGood_eq l hl, Option.bind_some]
  cases ht : isTerms l with
  | false => exact ⟨(false, []), by simp, by simp, by simp⟩
  | true =>
    have ht' := isTerms_iff.1 ht
    have hc : slices_Clone_int l = some ((), l) := by
      unfold slices_Clone_int
      rw [if_pos]
      exact ⟨by unfold maxLen; omega, by omega⟩
    have ho := s_l1Own_eq l (by omega)
    obtain ⟨⟨ok, r⟩, r1, r2, r3, r4⟩ := reduce_both l.length l rfl ht
    refine ⟨(ok, r), r1, ?_, ?_⟩
    · simp only [Bool.not_true, Bool.false_eq_true, if_false, hc, Option.bind_some, r2]
      cases ok with
      | true => simp [Sum.isLeft]
      | false => have e : r = [] := r4 rfl
                 subst e; simp [Sum.isLeft]
    · simp only [Bool.not_true, Bool.false_eq_true, if_false, ho, Option.bind_some, r3]
      cases ok with
      | true => simp [Sum.isLeft]
      | false => have e : r = [] := r4 rfl
                 subst e; simp [Sum.isLeft]


def l_eqIntS_sh : FSh := ⟨[(.one (.sl (.int .i64) false false)), (.one (.sl (.int .i64) false false))], []⟩

def l_eqIntS_L4_sh : LSh := ⟨(fun ex => match ex with | .norm => [(0, none), (1, none), (5, none)] | .exit i => if i = 0 then [] else [] | .ret => [(4, none)]), [(0, (.one (.sl (.int .i64) false false))), (1, (.one (.sl (.int .i64) false false))), (5, (.one (.si .i64)))], [], [⟨.ret, [(4, (.one .sb))], []⟩, ⟨(.exit 0), [], []⟩]⟩
noncomputable def l_eqIntS_L4_step : (List (Int) × List (Int) × Int) → T ((List (Int) × List (Int) × Int) ⊕ (Bool ⊕ Unit)) := fun (a, b, i) =>
  (.test (decide (i < ((List.length a) : Int)))
  (.test (decide ((0 ≤ i) ∧ (i < ((List.length a) : Int))))
   (.sub (a[(Int.toNat i)]?) fun z0 =>
    (.test (decide ((0 ≤ i) ∧ (i < ((List.length b) : Int))))
    (.sub (b[(Int.toNat i)]?) fun z1 =>
     (.test (z0 != z1)
     (.ret (Sum.inr (Sum.inl false)))
     (.ret (Sum.inl (a, (b, (w64 (i + 1))))))))
    .fail))
   .fail)
  (.ret (Sum.inr (Sum.inr ()))))
noncomputable def l_eqIntS_L4 (v : (List (Int) × List (Int) × Int)) : Option (Bool ⊕ Unit) := loopO (fun v => (l_eqIntS_L4_step v).run) v

def l_eqIntS_fo : List FO := [⟨[(.one .sb)], []⟩]
noncomputable def l_eqIntS_t : (List (Int) × List (Int)) → T Bool := fun (a, b) =>
  (.test (((List.length a) : Int) != ((List.length b) : Int))
  (.ret false)
  (.sub (l_eqIntS_L4 (a, (b, (0 : Int)))) fun z0 =>
   (.test (Sum.isLeft z0)
   (.sub (Sum.getLeft? z0) fun z1 =>
    (.ret z1))
   (.sub (Sum.getRight? z0) fun z2 =>
    (.ret true)))))
noncomputable def l_eqIntS (v : (List (Int) × List (Int))) : Option Bool := (l_eqIntS_t v).run
noncomputable def l_eqIntS_E : TEnv := E0
theorem l_eqIntS_Eok : (l_eqIntS_E).OK := E0ok
noncomputable def l_eqIntS_told : Nat → Option SealT := fun id => if id = 4 then some (LSh.told l_eqIntS_L4_sh 0 (l_eqIntS_L4_step)) else none
theorem l_eqIntS_L4_ok : ToldOK Try.prog 0 (loopAt (bodyOf fn_l_eqIntS) [0]) (LSh.told l_eqIntS_L4_sh 0 (l_eqIntS_L4_step)) :=
  loop_ok (E := l_eqIntS_E) (l_eqIntS_Eok) (told := l_eqIntS_told) (l := l_eqIntS_L4_sh) (step := l_eqIntS_L4_step) (loopsOK_of (ls := []) (by kernel_rfl) trivial) (by kernel_rfl) (fun v => by kernel_rfl)
theorem l_eqIntS_ok : FOK Try.prog n_l_eqIntS l_eqIntS_sh l_eqIntS_fo l_eqIntS :=
  fn_ok (E := l_eqIntS_E) (l_eqIntS_Eok) (told := l_eqIntS_told) (fl := []) (c := bodyOf fn_l_eqIntS) (s := l_eqIntS_sh) (l := l_eqIntS_fo) (tree := l_eqIntS_t) fnat_l_eqIntS (by kernel_rfl) (by kernel_rfl) (by kernel_rfl) (loopsOK_of (ls := [loopAt (bodyOf fn_l_eqIntS) [0]]) (by kernel_rfl) ⟨.inr ⟨_, by kernel_rfl, l_eqIntS_L4_ok⟩, trivial⟩) (fun v => by kernel_rfl)

theorem l_eqIntS_eq (a b : List Int) (hl : a.length < 4611686018427387904) : l_eqIntS (a, b) = some (decide (a = b)) := by
  by_cases hab : a.length = b.length
  · have h := loop_any (step := fun v => (l_eqIntS_L4_step v).run) (xs := a.zip b) (fun p => p.1 != p.2) (fun k => (a, b, (k : Int))) (.inl false) (.inr ())
      (fun k x hx => by
        have hk := getElem?_lt hx
        rw [List.length_zip, hab, Nat.min_self] at hk
        rw [List.getElem?_zip_eq_some] at hx
        simp only [l_eqIntS_L4_step, T.run, Option.bind_some, Int.toNat_natCast, hx.1, hx.2]
        rw [w64_id (by omega) (by omega)]
        have hka : k < a.length := by omega
        cases x.1 != x.2 <;> simp [hk, hka])
      (by simp [l_eqIntS_L4_step, T.run, hab])
    simp only [l_eqIntS, l_eqIntS_t, T.run, l_eqIntS_L4]
    simp only [Int.natCast_zero] at h
    rw [h, hab]
    have e : (a.zip b).any (fun p => p.1 != p.2) = !decide (a = b) := zip_any_ne a b hab
    rw [e]
    cases decide (a = b) <;> simp
  · simp only [l_eqIntS, l_eqIntS_t, T.run]
    have : a ≠ b := fun e => hab (by rw [e])
    simp [this]
    omega


def l_markIntS_sh : FSh := ⟨[(.one (.rw 0 0)), (.one (.si .i64))], [(.row 0 (.int .i64))]⟩

def l_markIntS_L2_sh : LSh := ⟨(fun ex => match ex with | .norm => [(0, none), (1, none), (5, none)] | .exit i => if i = 0 then [(1, none)] else [] | .ret => [(4, none)]), [(0, (.one (.rw 0 0))), (1, (.one (.si .i64))), (5, (.one (.si .i64)))], [(.row 0 (.int .i64))], [⟨(.exit 0), [(1, (.one (.si .i64)))], [(.row 0 (.int .i64))]⟩]⟩
noncomputable def l_markIntS_L2_step : ((Unit × Int × Int) × List (Int)) → T (((Unit × Int × Int) × List (Int)) ⊕ (Int × List (Int))) := fun (((), k, i), a) =>
  (.test (decide (i < ((List.length a) : Int)))
  (.test (decide ((0 ≤ i) ∧ (i < ((List.length a) : Int))))
   (.sub (a[(0 + (Int.toNat i))]?) fun z0 =>
    (.test (decide ((0 = 0) ∧ ((List.length a) = (List.length (List.set a (0 + (Int.toNat i)) k)))))
    (.ret (Sum.inl (((), ((w64 (k + 1)), (w64 (i + 1)))), (List.set a (0 + (Int.toNat i)) k))))
    .fail))
   .fail)
  (.ret (Sum.inr (k, a))))
noncomputable def l_markIntS_L2 (v : ((Unit × Int × Int) × List (Int))) : Option (Int × List (Int)) := loopO (fun v => (l_markIntS_L2_step v).run) v

def l_markIntS_fo : List FO := [⟨[(.one (.si .i64))], [(.row 0 (.int .i64))]⟩]
noncomputable def l_markIntS_t : ((Unit × Int) × List (Int)) → T (Int × List (Int)) := fun (((), k), a) =>
  (.test (decide ((0 = 0) ∧ ((List.length a) = (List.length a))))
  (.sub (l_markIntS_L2 (((), (k, (0 : Int))), a)) fun z0 =>
   (.ret (z0.1, z0.2)))
  .fail)
noncomputable def l_markIntS (v : ((Unit × Int) × List (Int))) : Option (Int × List (Int)) := (l_markIntS_t v).run
noncomputable def l_markIntS_E : TEnv := E0
theorem l_markIntS_Eok : (l_markIntS_E).OK := E0ok
noncomputable def l_markIntS_told : Nat → Option SealT := fun id => if id = 2 then some (LSh.told l_markIntS_L2_sh 1 (l_markIntS_L2_step)) else none
theorem l_markIntS_L2_ok : ToldOK Try.prog 1 (loopAt (bodyOf fn_l_markIntS) [0]) (LSh.told l_markIntS_L2_sh 1 (l_markIntS_L2_step)) :=
  loop_ok (E := l_markIntS_E) (l_markIntS_Eok) (told := l_markIntS_told) (l := l_markIntS_L2_sh) (step := l_markIntS_L2_step) (loopsOK_of (ls := []) (by kernel_rfl) trivial) (by kernel_rfl) (fun v => by kernel_rfl)
theorem l_markIntS_ok : FOK Try.prog n_l_markIntS l_markIntS_sh l_markIntS_fo l_markIntS :=
  fn_ok (E := l_markIntS_E) (l_markIntS_Eok) (told := l_markIntS_told) (fl := []) (c := bodyOf fn_l_markIntS) (s := l_markIntS_sh) (l := l_markIntS_fo) (tree := l_markIntS_t) fnat_l_markIntS (by kernel_rfl) (by kernel_rfl) (by kernel_rfl) (loopsOK_of (ls := [loopAt (bodyOf fn_l_markIntS) [0]]) (by kernel_rfl) ⟨.inr ⟨_, by kernel_rfl, l_markIntS_L2_ok⟩, trivial⟩) (fun v => by kernel_rfl)

theorem l_markIntS_L2_eq (k : Int) (l : List Int) (hk : 0 ≤ k ∧ k < 1000000000000) (hl : l.length < 1000000000000000) : ∀ n i, i + n = l.length →
    l_markIntS_L2 (((), (k + i, (i : Int))), iot k i ++ l.drop i) = some (k + l.length, iot k l.length) := by
  intro n
  induction n with
  | zero =>
    intro i hi
    obtain rfl : i = l.length := by omega
    rw [List.drop_length, List.append_nil]
    simp only [l_markIntS_L2]
    exact loopO_done (by simp [l_markIntS_L2_step, T.run, iot_len])
  | succ n ih =>
    intro i hi
    have hlt : i < l.length := by omega
    have hd : l.drop i = l[i] :: l.drop (i + 1) := List.drop_eq_getElem_cons hlt
    have hlen : (iot k i ++ l.drop i).length = l.length := by rw [List.length_append, iot_len, List.length_drop]; omega
    have hget : (iot k i ++ l.drop i)[i]? = some l[i] := by
      rw [List.getElem?_append_right (by rw [iot_len]; omega), iot_len, Nat.sub_self, hd]; rfl
    have hset : List.set (iot k i ++ l.drop i) i (k + i) = iot k (i + 1) ++ l.drop (i + 1) := by
      rw [List.set_append_right _ _ (by rw [iot_len]; omega), iot_len, Nat.sub_self, hd, iot_succ, List.append_assoc]; rfl
    simp only [l_markIntS_L2] at ih ⊢
    have hst : (l_markIntS_L2_step (((), (k + i, (i : Int))), iot k i ++ l.drop i)).run = some (.inl (((), (k + (i + 1 : Nat), ((i + 1 : Nat) : Int))), iot k (i + 1) ++ l.drop (i + 1))) := by
      simp only [l_markIntS_L2_step, T.run, hlen, Int.toNat_natCast, Nat.zero_add, hget, Option.bind_some, hset]
      rw [w64_id (z := k + i + 1) (by omega) (by omega), w64_id (z := (i : Int) + 1) (by omega) (by omega)]
      have h1 : (i : Int) < (l.length : Int) := by omega
      have h2 : (0 : Int) ≤ i ∧ (i : Int) < (l.length : Int) := by omega
      simp only [h1, h2, decide_true, if_true]
      have h3 : (iot k (i + 1) ++ l.drop (i + 1)).length = l.length := by rw [List.length_append, iot_len, List.length_drop]; omega
      simp [h3, Int.add_assoc]
    rw [loopO_next hst]
    exact ih (i + 1) (by omega)
theorem l_markIntS_eq (k : Int) (l : List Int) (hk : 0 ≤ k ∧ k < 1000000000000) (hl : l.length < 1000000000000000) : l_markIntS (((), k), l) = some (k + l.length, iot k l.length) := by
  have h := l_markIntS_L2_eq k l hk hl l.length 0 (by omega)
  simp only [l_markIntS, l_markIntS_t, T.run]
  have e : iot k 0 ++ l.drop 0 = l := by simp [iot]
  rw [e, show ((0 : Nat) : Int) = 0 from rfl, Int.add_zero] at h
  simp [h]


def l_heldIntS_sh : FSh := ⟨[(.one (.sl (.int .i64) false false)), (.one (.si .i64))], []⟩

def l_heldIntS_L2_sh : LSh := ⟨(fun ex => match ex with | .norm => [(0, none), (1, none), (5, none)] | .exit i => if i = 0 then [(1, none)] else [] | .ret => [(4, none)]), [(0, (.one (.sl (.int .i64) false false))), (1, (.one (.si .i64))), (5, (.one (.si .i64)))], [], [⟨.ret, [(4, (.one (.si .i64)))], []⟩, ⟨(.exit 0), [(1, (.one (.si .i64)))], []⟩]⟩
noncomputable def l_heldIntS_L2_step : (List (Int) × Int × Int) → T ((List (Int) × Int × Int) ⊕ (Int ⊕ Int)) := fun (a, k, i) =>
  (.test (decide (i < ((List.length a) : Int)))
  (.test (decide ((0 ≤ i) ∧ (i < ((List.length a) : Int))))
   (.sub (a[(Int.toNat i)]?) fun z0 =>
    (.test (z0 != k)
    (.ret (Sum.inr (Sum.inl (-1))))
    (.ret (Sum.inl (a, ((w64 (k + 1)), (w64 (i + 1))))))))
   .fail)
  (.ret (Sum.inr (Sum.inr k))))
noncomputable def l_heldIntS_L2 (v : (List (Int) × Int × Int)) : Option (Int ⊕ Int) := loopO (fun v => (l_heldIntS_L2_step v).run) v

def l_heldIntS_fo : List FO := [⟨[(.one (.si .i64))], []⟩]
noncomputable def l_heldIntS_t : (List (Int) × Int) → T Int := fun (a, k) =>
  (.sub (l_heldIntS_L2 (a, (k, (0 : Int)))) fun z0 =>
  (.test (Sum.isLeft z0)
  (.sub (Sum.getLeft? z0) fun z1 =>
   (.ret z1))
  (.sub (Sum.getRight? z0) fun z2 =>
   (.ret z2))))
noncomputable def l_heldIntS (v : (List (Int) × Int)) : Option Int := (l_heldIntS_t v).run
noncomputable def l_heldIntS_E : TEnv := E0
theorem l_heldIntS_Eok : (l_heldIntS_E).OK := E0ok
noncomputable def l_heldIntS_told : Nat → Option SealT := fun id => if id = 2 then some (LSh.told l_heldIntS_L2_sh 0 (l_heldIntS_L2_step)) else none
theorem l_heldIntS_L2_ok : ToldOK Try.prog 0 (loopAt (bodyOf fn_l_heldIntS) [0]) (LSh.told l_heldIntS_L2_sh 0 (l_heldIntS_L2_step)) :=
  loop_ok (E := l_heldIntS_E) (l_heldIntS_Eok) (told := l_heldIntS_told) (l := l_heldIntS_L2_sh) (step := l_heldIntS_L2_step) (loopsOK_of (ls := []) (by kernel_rfl) trivial) (by kernel_rfl) (fun v => by kernel_rfl)
theorem l_heldIntS_ok : FOK Try.prog n_l_heldIntS l_heldIntS_sh l_heldIntS_fo l_heldIntS :=
  fn_ok (E := l_heldIntS_E) (l_heldIntS_Eok) (told := l_heldIntS_told) (fl := []) (c := bodyOf fn_l_heldIntS) (s := l_heldIntS_sh) (l := l_heldIntS_fo) (tree := l_heldIntS_t) fnat_l_heldIntS (by kernel_rfl) (by kernel_rfl) (by kernel_rfl) (loopsOK_of (ls := [loopAt (bodyOf fn_l_heldIntS) [0]]) (by kernel_rfl) ⟨.inr ⟨_, by kernel_rfl, l_heldIntS_L2_ok⟩, trivial⟩) (fun v => by kernel_rfl)

theorem l_heldIntS_eq (k : Int) (n : Nat) (hk : 0 ≤ k ∧ k < 1000000000000) (hl : n < 1000000000000000) : l_heldIntS (iot k n, k) = some (k + n) := by
  have h := loop_count (step := fun v => (l_heldIntS_L2_step v).run) (n := n) (fun i (_ : Unit) => (iot k n, (k + (i : Int), (i : Int)))) (fun _ _ => Sum.inl ()) (fun _ => Sum.inr (k + (n : Int)))
    (by
      intro i s hi
      simp only [l_heldIntS_L2_step, T.run, iot_len, Int.toNat_natCast, iot_get k hi, Option.bind_some]
      rw [w64_id (z := k + i + 1) (by omega) (by omega), w64_id (z := (i : Int) + 1) (by omega) (by omega)]
      have h1 : (i : Int) < (n : Int) := by omega
      have h2 : (0 : Int) ≤ i ∧ (i : Int) < (n : Int) := by omega
      simp [h1, h2, Int.add_assoc])
    (by intro s; simp [l_heldIntS_L2_step, T.run, iot_len]) 0 () (Nat.zero_le _)
  rw [show ((0 : Nat) : Int) = 0 from rfl, Int.add_zero] at h
  have hf : ∀ l : List Nat, forE (fun (_ : Unit) (_ : Nat) => (Sum.inl () : Unit ⊕ (Int ⊕ Int))) (fun _ => Sum.inr (k + (n : Int))) l () = Sum.inr (k + (n : Int)) := by
    intro l
    induction l with
    | nil => rfl
    | cons x t ih => rw [forE_cons]; exact ih
  rw [hf] at h
  simp only [l_heldIntS, l_heldIntS_t, T.run, l_heldIntS_L2]
  rw [h]
  simp [Sum.isLeft]


def l_FnExactReduceOnes_sh : FSh := ⟨[(.one (.sl (.int .i64) false false))], []⟩

def l_FnExactReduceOnes_fo : List FO := [⟨[(.one .sb)], []⟩]
noncomputable def l_FnExactReduceOnes_t : List (Int) → T Bool := fun aList =>
  (.test (decide (((List.length aList) : Int) > 1048576))
  (.ret true)
  (.sub (l_toIntS aList) fun z0 =>
   (.test (decide ((0 + (List.length z0.2)) ≤ (List.length z0.2)))
   (.sub (s_ReduceOnes (win z0.2 0 (List.length z0.2))) fun z1 =>
    (.sub (l_toIntS aList) fun z2 =>
    (.test (decide ((0 + (List.length z2.2)) ≤ (List.length z2.2)))
    (.sub (i_ReduceOnes (win z2.2 0 (List.length z2.2))) fun z3 =>
     (.test (decide ((0 + (List.length z3.2)) ≤ (List.length z3.2)))
     (.test (decide ((0 + (List.length z1.2)) ≤ (List.length z1.2)))
      (.sub (l_eqIntS ((win z3.2 0 (List.length z3.2)), (win z1.2 0 (List.length z1.2)))) fun z4 =>
       (.test (! z4)
       (.ret false)
       (.test (! (z3.1.2 == z1.1.2))
        (.ret false)
        (.sub (l_toIntS aList) fun z5 =>
         (.test (decide ((0 + (List.length z2.2)) ≤ (List.length z2.2)))
         (.test (decide ((0 + (List.length z5.2)) ≤ (List.length z5.2)))
          (.sub (l_eqIntS ((win z2.2 0 (List.length z2.2)), (win z5.2 0 (List.length z5.2)))) fun z6 =>
           (.test (! z6)
           (.ret false)
           (.test (decide ((0 = 0) ∧ ((List.length z2.2) = (List.length z2.2))))
            (.sub (l_markIntS (((), (1 : Int)), z2.2)) fun z7 =>
             (.test (decide (z7.1 < 0))
             (.ret false)
             (.test (decide ((0 + (List.length z3.2)) ≤ (List.length z3.2)))
              (.test (decide ((0 + (List.length z1.2)) ≤ (List.length z1.2)))
               (.sub (l_eqIntS ((win z3.2 0 (List.length z3.2)), (win z1.2 0 (List.length z1.2)))) fun z8 =>
                (.test (! z8)
                (.ret false)
                (.test (! (z3.1.2 == z1.1.2))
                 (.ret false)
                 (.test (decide ((0 = 0) ∧ ((List.length z3.2) = (List.length z3.2))))
                  (.sub (l_markIntS (((), (1 : Int)), z3.2)) fun z9 =>
                   (.test (decide ((0 + (List.length z3.2)) ≤ (List.length z9.2)))
                   (.sub (l_heldIntS ((win z9.2 0 (List.length z3.2)), (1 : Int))) fun z10 =>
                    (.test (decide (z10 < 0))
                    (.ret false)
                    (.test (z10 != z9.1)
                     (.ret false)
                     (.sub (l_toIntS aList) fun z11 =>
                      (.test (decide ((0 + (List.length z11.2)) ≤ (List.length z11.2)))
                      (.sub (i_ReduceOnes (win z11.2 0 (List.length z11.2))) fun z12 =>
                       (.test (decide ((0 + (List.length z12.2)) ≤ (List.length z12.2)))
                       (.test (decide ((0 + (List.length z1.2)) ≤ (List.length z1.2)))
                        (.sub (l_eqIntS ((win z12.2 0 (List.length z12.2)), (win z1.2 0 (List.length z1.2)))) fun z13 =>
                         (.test (! z13)
                         (.ret false)
                         (.test (! (z12.1.2 == z1.1.2))
                          (.ret false)
                          (.test (decide ((0 + (List.length z3.2)) ≤ (List.length z9.2)))
                           (.sub (l_heldIntS ((win z9.2 0 (List.length z3.2)), (1 : Int))) fun z14 =>
                            (.test (decide (z14 < 0))
                            (.ret false)
                            (.test (z14 != z9.1)
                             (.ret false)
                             (.ret true))))
                           .fail))))
                        .fail)
                       .fail))
                      .fail)))))
                   .fail))
                  .fail))))
               .fail)
              .fail)))
            .fail)))
          .fail)
         .fail)))))
      .fail)
     .fail))
    .fail)))
   .fail)))
noncomputable def l_FnExactReduceOnes (v : List (Int)) : Option Bool := (l_FnExactReduceOnes_t v).run
noncomputable def l_FnExactReduceOnes_E : TEnv := ((((((E0.add1 n_l_toIntS l_toIntS_sh l_toIntS_fo l_toIntS).add1 n_s_ReduceOnes s_ReduceOnes_sh s_ReduceOnes_fo s_ReduceOnes).add1 n_i_ReduceOnes i_ReduceOnes_sh i_ReduceOnes_fo i_ReduceOnes).add1 n_l_eqIntS l_eqIntS_sh l_eqIntS_fo l_eqIntS).add1 n_l_markIntS l_markIntS_sh l_markIntS_fo l_markIntS).add1 n_l_heldIntS l_heldIntS_sh l_heldIntS_fo l_heldIntS)
theorem l_FnExactReduceOnes_Eok : (l_FnExactReduceOnes_E).OK := ((((((E0ok.add1 l_toIntS_ok).add1 s_ReduceOnes_ok).add1 i_ReduceOnes_ok).add1 l_eqIntS_ok).add1 l_markIntS_ok).add1 l_heldIntS_ok)
noncomputable def l_FnExactReduceOnes_told : Nat → Option SealT := fun id => none
theorem l_FnExactReduceOnes_ok : FOK Try.prog n_l_FnExactReduceOnes l_FnExactReduceOnes_sh l_FnExactReduceOnes_fo l_FnExactReduceOnes :=
  fn_ok (E := l_FnExactReduceOnes_E) (l_FnExactReduceOnes_Eok) (told := l_FnExactReduceOnes_told) (fl := []) (c := bodyOf fn_l_FnExactReduceOnes) (s := l_FnExactReduceOnes_sh) (l := l_FnExactReduceOnes_fo) (tree := l_FnExactReduceOnes_t) fnat_l_FnExactReduceOnes (by kernel_rfl) (by kernel_rfl) (by kernel_rfl) (loopsOK_of (ls := []) (by kernel_rfl) trivial) (fun v => by kernel_rfl)

theorem l_FnExactReduceOnes_true (l : List Int) (hs : smallL ASh.small [.one (.sl (.int .i64) false false)] l) : l_FnExactReduceOnes l = some true := by
  have hl : l.length < 4611686018427387904 := Nat.lt_trans (m := 140737488355328) hs.1 (by decide)
  obtain ⟨⟨ok, r⟩, hr, h1, h2⟩ := reduce_ones l hl
  simp only at hr h1 h2
  rw [l_FnExactReduceOnes, l_FnExactReduceOnes_t, T.run_test]
  simp only [decide_eq_true_eq]
  split
  · rfl
  · have h : l.length < 10000000000000 := by omega
    have hl1 : r.length < 4611686018427387904 := by omega
    have hm := l_markIntS_eq 1 r (by omega) (by omega)
    have hml := l_markIntS_eq 1 l (by omega) (by omega)
    have hh := l_heldIntS_eq 1 r.length (by omega) (by omega)
    have hw : win (iot 1 r.length) 0 r.length = iot 1 r.length := by have := win_all (iot 1 r.length); rwa [iot_len] at this
    have hx : ¬ ((1 : Int) + r.length < 0) := by omega
    have hx2 : ¬ ((1 : Int) + l.length < 0) := by omega
    simp (config := { maxSteps := 10000000 }) [T.run, l_toIntS_eq l h, win_all, h1, h2, l_eqIntS_eq r r hl1, l_eqIntS_eq l l hl, hm, hml, iot_len, hw, hh, hx, hx2]


end Go.Proofs.W
