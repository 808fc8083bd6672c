/- Functions of the program, walked, and what they compute. -/
import Derived.Test.YtbheicnppelllaaPoIds
set_option linter.unusedVariables false
set_option linter.unusedSimpArgs false
set_option maxRecDepth 100000
set_option maxHeartbeats 4000000
namespace Go.Proofs.W
open Go Go.Gm Go.Proofs
open Go.RowKit Go.Shelf
def iot (k : Int) (n : Nat) : List Int := (List.range n).map fun (i : Nat) => k + (i : Int)
theorem iot_len (k : Int) (n : Nat) : (iot k n).length = n := by simp [iot]
theorem iot_succ (k : Int) (n : Nat) : iot k (n + 1) = iot k n ++ [k + n] := by simp [iot, List.range_succ]
theorem iot_get (k : Int) {n i : Nat} (h : i < n) : (iot k n)[i]? = some (k + i) := by simp [iot, h]
theorem gcd_toNat_step {a b : Int} (ha : 0 ≤ a) (hb : 0 < b) : Nat.gcd b.toNat (Int.tmod a b).toNat = Nat.gcd a.toNat b.toNat ∧ 0 ≤ Int.tmod a b ∧ Int.tmod a b < b := by
  obtain ⟨m, rfl⟩ := Int.eq_ofNat_of_zero_le ha
  obtain ⟨n, rfl⟩ := Int.eq_ofNat_of_zero_le (Int.le_of_lt hb)
  have e : Int.tmod (m : Int) (n : Int) = ((m % n : Nat) : Int) := rfl
  rw [e]
  simp only [Int.toNat_natCast]
  refine ⟨?_, Int.natCast_nonneg _, ?_⟩
  · rw [Nat.gcd_comm m n, Nat.gcd_rec n m, Nat.gcd_comm]
  · have : n ≠ 0 := by omega
    exact Int.ofNat_lt.2 (Nat.mod_lt m (by omega))
def lowP (num den : Int) : Bool := inB 1 1000000 num && (inB 1 1000000 den && decide (Nat.gcd num.toNat den.toNat = 1))
def upQ (num den : Int) : Int := (num + den - 1) / den
theorem upQ_B {num den : Int} (hn : 1 ≤ num) (hd : 1 ≤ den) : 1 ≤ upQ num den ∧ upQ num den ≤ num ∧ num ≤ upQ num den * den ∧ upQ num den * den - num < den := by
  have h1 := Int.mul_ediv_add_emod (num + den - 1) den
  have h2 := Int.emod_nonneg (num + den - 1) (show den ≠ 0 by omega)
  have h3 := Int.emod_lt_of_pos (num + den - 1) (show 0 < den by omega)
  have h4 : 1 ≤ upQ num den := by
    unfold upQ
    exact (Int.le_ediv_iff_mul_le (by omega)).2 (by omega)
  have h5 : den * upQ num den = upQ num den * den := Int.mul_comm ..
  have h6 : upQ num den ≤ num := by
    unfold upQ
    refine Int.ediv_le_of_le_mul (by omega) ?_
    have : 0 ≤ (num - 1) * (den - 1) := Int.mul_nonneg (by omega) (by omega)
    rw [Int.sub_mul, Int.mul_sub] at this
    omega
  unfold upQ at *
  omega
def posT (l : List Int) : Bool := isTerms l && (decide (l ≠ []) && l.all (inB 1 30))
theorem isPz_len {l : List Int} (h : isPz l = true) : 3 ≤ l.length ∧ l.length ≤ 9 := by
  simp only [isPz, Bool.and_eq_true, inB_iff] at h
  omega
def fillG (l : List Int) (at' n : Int) : Bool × List Int := if isPz l && (inB 0 ((l.length : Int) - 1) at' && (inB 1 ((l.length : Int) - 2) n && decide (l[at'.toNat]? = some 0))) then (true, l.set at'.toNat n) else (false, [])
def openG (l : List Int) (at' : Int) : Bool × List Int := if isPz l && (inB 0 ((l.length : Int) - 1) at' && decide (l[at'.toNat]? ≠ some 0)) then (true, l.set at'.toNat 0) else (false, [])
theorem at_get0 {α : Type} (L : List α) (x : α) (t : List α) : (L ++ x :: t)[L.length]? = some x := by simp
theorem at_get1 {α : Type} (L : List α) (x y : α) (t : List α) : (L ++ x :: y :: t)[L.length + 1]? = some y := by
  rw [List.getElem?_append_right (by omega), show L.length + 1 - L.length = 1 by omega]; rfl
theorem at_get2 {α : Type} (L : List α) (x y z : α) (t : List α) : (L ++ x :: y :: z :: t)[L.length + 2]? = some z := by
  rw [List.getElem?_append_right (by omega), show L.length + 2 - L.length = 2 by omega]; rfl
theorem at_set0 {α : Type} (L : List α) (x v : α) (t : List α) : (L ++ x :: t).set L.length v = L ++ v :: t := by simp
theorem at_set1 {α : Type} (L : List α) (x y v : α) (t : List α) : (L ++ x :: y :: t).set (L.length + 1) v = L ++ x :: v :: t := by
  rw [List.set_append_right _ _ (by omega), show L.length + 1 - L.length = 1 by omega]; rfl
theorem at_set2 {α : Type} (L : List α) (x y z v : α) (t : List α) : (L ++ x :: y :: z :: t).set (L.length + 2) v = L ++ x :: y :: v :: t := by
  rw [List.set_append_right _ _ (by omega), show L.length + 2 - L.length = 2 by omega]; rfl
theorem at_take1 {α : Type} (L : List α) (x : α) (t : List α) : (L ++ x :: t).take (L.length + 1) = L ++ [x] := by
  rw [List.take_append, List.take_of_length_le (by omega), show L.length + 1 - L.length = 1 by omega]; rfl
theorem at_drop2 {α : Type} (L : List α) (x y : α) (t : List α) : (L ++ x :: y :: t).drop (L.length + 2) = t := by
  rw [List.drop_append, List.drop_of_length_le (by omega), show L.length + 2 - L.length = 2 by omega]; rfl
theorem at_split {α : Type} (l : List α) (k : Nat) (h : k + 2 < l.length) : ∃ L x m y R, l = L ++ x :: m :: y :: R ∧ L.length = k := by
  refine ⟨l.take k, l[k], l[k + 1], l[k + 2], l.drop (k + 3), ?_, by simp; omega⟩
  rw [← List.drop_eq_getElem_cons, ← List.drop_eq_getElem_cons, ← List.drop_eq_getElem_cons, List.take_append_drop]
theorem at_split1 {α : Type} (l : List α) (k : Nat) (h : k + 1 < l.length) : ∃ L x y R, l = L ++ x :: y :: R ∧ L.length = k := by
  refine ⟨l.take k, l[k], l[k + 1], l.drop (k + 2), ?_, by simp; omega⟩
  rw [← List.drop_eq_getElem_cons, ← List.drop_eq_getElem_cons, List.take_append_drop]
theorem at_drop1 {α : Type} (L : List α) (x : α) (t : List α) : (L ++ x :: t).drop (L.length + 1) = t := by
  rw [List.drop_append, List.drop_of_length_le (by omega), show L.length + 1 - L.length = 1 by omega]; rfl

def l_toIntS_sh : FSh := ⟨[(.one (.sl (.int .i64) false false))], []⟩

def l_toIntS_L3_sh : LSh := ⟨(fun ex => match ex with | .norm => [(0, none), (3, none), (4, none)] | .exit i => if i = 0 then [(3, none)] else [] | .ret => [(2, none)]), [(0, (.one (.sl (.int .i64) false false))), (3, (.one (.rw 0 0))), (4, (.one (.si .i64)))], [(.row 0 (.int .i64))], [⟨(.exit 0), [(3, (.one (.rw 0 0)))], [(.row 0 (.int .i64))]⟩]⟩
noncomputable def l_toIntS_L3_step : ((List (Int) × Unit × Int) × List (Int)) → T (((List (Int) × Unit × Int) × List (Int)) ⊕ (Unit × List (Int))) := fun ((a, (), i), out) =>
  (.test (decide (i < ((List.length a) : Int)))
  (.test (decide ((0 ≤ i) ∧ (i < ((List.length a) : Int))))
   (.sub (a[(Int.toNat i)]?) fun z0 =>
    (.test (decide ((0 ≤ i) ∧ (i < ((List.length out) : Int))))
    (.sub (out[(0 + (Int.toNat i))]?) fun z1 =>
     (.test (decide ((0 = 0) ∧ ((List.length out) = (List.length (List.set out (0 + (Int.toNat i)) z0)))))
     (.ret (Sum.inl ((a, ((), (w64 (i + 1)))), (List.set out (0 + (Int.toNat i)) z0))))
     .fail))
    .fail))
   .fail)
  (.test (decide ((0 = 0) ∧ ((List.length out) = (List.length out))))
   (.ret (Sum.inr ((), out)))
   .fail))
noncomputable def l_toIntS_L3 (v : ((List (Int) × Unit × Int) × List (Int))) : Option (Unit × List (Int)) := loopO (fun v => (l_toIntS_L3_step v).run) v

def l_toIntS_fo : List FO := [⟨[(.one (.rw 0 0))], [(.row 0 (.int .i64))]⟩]
noncomputable def l_toIntS_t : List (Int) → T (Unit × List (Int)) := fun a =>
  (.test (decide ((0 ≤ ((List.length a) : Int)) ∧ ((((List.length a) : Int) ≤ ((List.length a) : Int)) ∧ (((Int.toNat ((List.length a) : Int)) * 9) ≤ 140737488355328))))
  (.test (decide ((0 = 0) ∧ ((Int.toNat ((List.length a) : Int)) = (List.length (List.replicate (Int.toNat ((List.length a) : Int)) (0 : Int))))))
   (.sub (l_toIntS_L3 ((a, ((), (0 : Int))), (List.replicate (Int.toNat ((List.length a) : Int)) (0 : Int)))) fun z0 =>
    (.test (decide ((0 = 0) ∧ ((List.length z0.2) = (List.length z0.2))))
    (.ret ((), z0.2))
    .fail))
   .fail)
  .fail)
noncomputable def l_toIntS (v : List (Int)) : Option (Unit × List (Int)) := (l_toIntS_t v).run
noncomputable def l_toIntS_E : TEnv := E0
theorem l_toIntS_Eok : (l_toIntS_E).OK := E0ok
noncomputable def l_toIntS_told : Nat → Option SealT := fun id => if id = 3 then some (LSh.told l_toIntS_L3_sh 0 (l_toIntS_L3_step)) else none
theorem l_toIntS_L3_ok : ToldOK Try.prog 0 (loopAt (bodyOf fn_l_toIntS) [0]) (LSh.told l_toIntS_L3_sh 0 (l_toIntS_L3_step)) :=
  loop_ok (E := l_toIntS_E) (l_toIntS_Eok) (told := l_toIntS_told) (l := l_toIntS_L3_sh) (step := l_toIntS_L3_step) (loopsOK_of (ls := []) (by kernel_rfl) trivial) (by kernel_rfl) (fun v => by kernel_rfl)
theorem l_toIntS_ok : FOK Try.prog n_l_toIntS l_toIntS_sh l_toIntS_fo l_toIntS :=
  fn_ok (E := l_toIntS_E) (l_toIntS_Eok) (told := l_toIntS_told) (fl := []) (c := bodyOf fn_l_toIntS) (s := l_toIntS_sh) (l := l_toIntS_fo) (tree := l_toIntS_t) fnat_l_toIntS (by kernel_rfl) (by kernel_rfl) (by kernel_rfl) (loopsOK_of (ls := [loopAt (bodyOf fn_l_toIntS) [0]]) (by kernel_rfl) ⟨.inr ⟨_, by kernel_rfl, l_toIntS_L3_ok⟩, trivial⟩) (fun v => by kernel_rfl)

theorem l_toIntS_eq (a : List Int) (hl : a.length < 10000000000000) : l_toIntS a = some ((), a) := by
  have h := loop_eq (step := fun v => (l_toIntS_L3_step v).run) (fun v => a.length - v.1.2.2.toNat) (fun v => v.1.1 = a ∧ ∃ k : Nat, k ≤ a.length ∧ v.1.2.2 = k ∧ v.2.length = a.length ∧ v.2.take k = a.take k) (fun _ => ((), a)) (by
    rintro ⟨⟨a', ⟨⟩, i⟩, out⟩ ⟨e, k, hk, e2, hlen, ht⟩
    simp only at e e2 hlen ht
    subst e e2
    by_cases hlt : k < a'.length
    · left
      refine ⟨((a', (), (k + 1 : Nat)), out.set k a'[k]), ?_, ⟨rfl, k + 1, by omega, rfl, by simp [hlen], ?_⟩, by simp only [Int.toNat_natCast]; omega, rfl⟩
      · simp only [l_toIntS_L3_step, T.run, Int.toNat_natCast, Option.bind_some, List.getElem?_eq_getElem hlt, Nat.zero_add, List.getElem?_eq_getElem (show k < out.length by omega)]
        rw [w64_id (by omega) (by omega)]
        simp [hlen, hlt]
      · rw [List.take_succ_eq_append_getElem (by simp; omega), List.take_succ_eq_append_getElem hlt, List.take_set_of_le (Nat.le_refl _), ht]
        simp
    · right
      have : k = a'.length := by omega
      subst this
      rw [List.take_length, ← hlen, List.take_length] at ht
      subst ht
      simp [l_toIntS_L3_step, T.run])
    ((a, (), 0), List.replicate a.length 0) ⟨rfl, 0, Nat.zero_le _, rfl, by simp, by simp⟩
  simp only [l_toIntS, l_toIntS_t, T.run, l_toIntS_L3, Int.toNat_natCast]
  rw [h]
  simp
  omega


def s_l1In_sh : FSh := ⟨[(.one (.si .i64)), (.one (.si .i64)), (.one (.si .i64))], []⟩

def s_l1In_fo : List FO := [⟨[(.one .sb)], []⟩]
noncomputable def s_l1In_t : (Int × Int × Int) → T Bool := fun (n, lo, hi) =>
  (.test (decide (n ≥ lo))
  (.ret (decide (n ≤ hi)))
  (.ret false))
noncomputable def s_l1In (v : (Int × Int × Int)) : Option Bool := (s_l1In_t v).run
noncomputable def s_l1In_E : TEnv := E0
theorem s_l1In_Eok : (s_l1In_E).OK := E0ok
noncomputable def s_l1In_told : Nat → Option SealT := fun id => none
theorem s_l1In_ok : FOK Try.prog n_s_l1In s_l1In_sh s_l1In_fo s_l1In :=
  fn_ok (E := s_l1In_E) (s_l1In_Eok) (told := s_l1In_told) (fl := []) (c := bodyOf fn_s_l1In) (s := s_l1In_sh) (l := s_l1In_fo) (tree := s_l1In_t) fnat_s_l1In (by kernel_rfl) (by kernel_rfl) (by kernel_rfl) (loopsOK_of (ls := []) (by kernel_rfl) trivial) (fun v => by kernel_rfl)

theorem s_l1In_eq (n low high : Int) : s_l1In (n, low, high) = some (inB low high n) := by
  simp only [s_l1In, s_l1In_t, T.run, ge_iff_le, decide_eq_true_eq, inB]
  by_cases h : low ≤ n <;> simp [h]


def s_l1All_sh : FSh := ⟨[(.one (.sl (.int .i64) false false)), (.one (.si .i64)), (.one (.si .i64))], []⟩

def s_l1All_L2_sh : LSh := ⟨(fun ex => match ex with | .norm => [(1, none), (2, none), (9, none), (10, none), (11, none)] | .exit i => if i = 0 then [] else [] | .ret => [(6, none)]), [(1, (.one (.si .i64))), (2, (.one (.si .i64))), (9, (.one (.sl (.int .i64) false false))), (10, (.one (.si .i64))), (11, (.one (.si .i64)))], [], [⟨.ret, [(6, (.one .sb))], []⟩, ⟨(.exit 0), [], []⟩]⟩
noncomputable def s_l1All_L2_step : (Int × Int × List (Int) × Int × Int) → T ((Int × Int × List (Int) × Int × Int) ⊕ (Bool ⊕ Unit)) := fun (lo, hi, t9, t10, t11) =>
  (.test (decide (t11 < t10))
  (.test (decide ((0 ≤ t11) ∧ (t11 < ((List.length t9) : Int))))
   (.sub (t9[(Int.toNat t11)]?) fun z0 =>
    (.sub (s_l1In (z0, (lo, hi))) fun z1 =>
    (.test (! z1)
    (.ret (Sum.inr (Sum.inl false)))
    (.ret (Sum.inl (lo, (hi, (t9, (t10, (w64 (t11 + 1)))))))))))
   .fail)
  (.ret (Sum.inr (Sum.inr ()))))
noncomputable def s_l1All_L2 (v : (Int × Int × List (Int) × Int × Int)) : Option (Bool ⊕ Unit) := loopO (fun v => (s_l1All_L2_step v).run) v

def s_l1All_fo : List FO := [⟨[(.one .sb)], []⟩]
noncomputable def s_l1All_t : (List (Int) × Int × Int) → T Bool := fun (l, lo, hi) =>
  (.sub (s_l1All_L2 (lo, (hi, (l, (((List.length l) : Int), (0 : Int)))))) fun z0 =>
  (.test (Sum.isLeft z0)
  (.sub (Sum.getLeft? z0) fun z1 =>
   (.ret z1))
  (.sub (Sum.getRight? z0) fun z2 =>
   (.ret true))))
noncomputable def s_l1All (v : (List (Int) × Int × Int)) : Option Bool := (s_l1All_t v).run
noncomputable def s_l1All_E : TEnv := (E0.add1 n_s_l1In s_l1In_sh s_l1In_fo s_l1In)
theorem s_l1All_Eok : (s_l1All_E).OK := (E0ok.add1 s_l1In_ok)
noncomputable def s_l1All_told : Nat → Option SealT := fun id => if id = 2 then some (LSh.told s_l1All_L2_sh 0 (s_l1All_L2_step)) else none
theorem s_l1All_L2_ok : ToldOK Try.prog 0 (loopAt (bodyOf fn_s_l1All) [0]) (LSh.told s_l1All_L2_sh 0 (s_l1All_L2_step)) :=
  loop_ok (E := s_l1All_E) (s_l1All_Eok) (told := s_l1All_told) (l := s_l1All_L2_sh) (step := s_l1All_L2_step) (loopsOK_of (ls := []) (by kernel_rfl) trivial) (by kernel_rfl) (fun v => by kernel_rfl)
theorem s_l1All_ok : FOK Try.prog n_s_l1All s_l1All_sh s_l1All_fo s_l1All :=
  fn_ok (E := s_l1All_E) (s_l1All_Eok) (told := s_l1All_told) (fl := []) (c := bodyOf fn_s_l1All) (s := s_l1All_sh) (l := s_l1All_fo) (tree := s_l1All_t) fnat_s_l1All (by kernel_rfl) (by kernel_rfl) (by kernel_rfl) (loopsOK_of (ls := [loopAt (bodyOf fn_s_l1All) [0]]) (by kernel_rfl) ⟨.inr ⟨_, by kernel_rfl, s_l1All_L2_ok⟩, trivial⟩) (fun v => by kernel_rfl)

theorem s_l1All_eq (l : List Int) (lo hi : Int) (hl : l.length < 4611686018427387904) : s_l1All (l, lo, hi) = some (l.all (inB lo hi)) := by
  have h := loop_any (step := fun v => (s_l1All_L2_step v).run) (xs := l) (fun n => !inB lo hi n) (fun k => (lo, hi, l, (l.length : Int), (k : Int))) (.inl false) (.inr ())
    (fun k x hx => by
      have hk := getElem?_lt hx
      simp only [s_l1All_L2_step, T.run, s_l1In_eq, Option.bind_some, Int.toNat_natCast, hx]
      rw [w64_id (by omega) (by omega)]
      cases inB lo hi x <;> simp [hk])
    (by simp [s_l1All_L2_step, T.run])
  simp only [s_l1All, s_l1All_t, T.run, s_l1All_L2]
  simp only [Int.natCast_zero] at h
  rw [h, ← all_any]
  cases hb : l.any (fun n => !inB lo hi n) <;> simp


def s_ctGood_sh : FSh := ⟨[(.one (.sl (.int .i64) false false))], []⟩

def s_ctGood_fo : List FO := [⟨[(.one .sb)], []⟩]
noncomputable def s_ctGood_t : List (Int) → T Bool := fun list =>
  (.test (decide (((List.length list) : Int) ≤ 10))
  (.sub (s_l1All (list, ((-30), (30 : Int)))) fun z0 =>
   (.ret z0))
  (.ret false))
noncomputable def s_ctGood (v : List (Int)) : Option Bool := (s_ctGood_t v).run
noncomputable def s_ctGood_E : TEnv := (E0.add1 n_s_l1All s_l1All_sh s_l1All_fo s_l1All)
theorem s_ctGood_Eok : (s_ctGood_E).OK := (E0ok.add1 s_l1All_ok)
noncomputable def s_ctGood_told : Nat → Option SealT := fun id => none
theorem s_ctGood_ok : FOK Try.prog n_s_ctGood s_ctGood_sh s_ctGood_fo s_ctGood :=
  fn_ok (E := s_ctGood_E) (s_ctGood_Eok) (told := s_ctGood_told) (fl := []) (c := bodyOf fn_s_ctGood) (s := s_ctGood_sh) (l := s_ctGood_fo) (tree := s_ctGood_t) fnat_s_ctGood (by kernel_rfl) (by kernel_rfl) (by kernel_rfl) (loopsOK_of (ls := []) (by kernel_rfl) trivial) (fun v => by kernel_rfl)

theorem s_ctGood_eq (l : List Int) (hl : l.length < 4611686018427387904) : s_ctGood l = some (isTerms l) := by
  simp only [s_ctGood, s_ctGood_t, T.run, s_l1All_eq _ _ _ hl, Option.bind_some, isTerms, decide_eq_true_eq]
  by_cases h : l.length ≤ 10
  · rw [if_pos (by omega)]; simp [h]
  · rw [if_neg (by omega)]; simp [h]


def s_l1Own_sh : FSh := ⟨[(.one (.sl (.int .i64) false false))], []⟩

def s_l1Own_fo : List FO := [⟨[(.one (.rw 0 0))], [(.row 0 (.int .i64))]⟩]
noncomputable def s_l1Own_t : List (Int) → T (Unit × List (Int)) := fun l =>
  (.test true
  (.test (decide ((2 * ((0 + (List.length l)) * 9)) ≤ 140737488355328))
   (.test (decide ((0 = 0) ∧ ((0 + (List.length l)) = (List.length ((win (List.replicate 0 (0 : Int)) 0 0) ++ l)))))
    (.ret ((), ((win (List.replicate 0 (0 : Int)) 0 0) ++ l)))
    .fail)
   .fail)
  .fail)
noncomputable def s_l1Own (v : List (Int)) : Option (Unit × List (Int)) := (s_l1Own_t v).run
noncomputable def s_l1Own_E : TEnv := E0
theorem s_l1Own_Eok : (s_l1Own_E).OK := E0ok
noncomputable def s_l1Own_told : Nat → Option SealT := fun id => none
theorem s_l1Own_ok : FOK Try.prog n_s_l1Own s_l1Own_sh s_l1Own_fo s_l1Own :=
  fn_ok (E := s_l1Own_E) (s_l1Own_Eok) (told := s_l1Own_told) (fl := []) (c := bodyOf fn_s_l1Own) (s := s_l1Own_sh) (l := s_l1Own_fo) (tree := s_l1Own_t) fnat_s_l1Own (by kernel_rfl) (by kernel_rfl) (by kernel_rfl) (loopsOK_of (ls := []) (by kernel_rfl) trivial) (fun v => by kernel_rfl)

theorem s_l1Own_eq (l : List Int) (hl : l.length < 1000000000000) : s_l1Own l = some ((), l) := by
  have h : 2 * (l.length * 9) ≤ 140737488355328 := by omega
  have hw : win ([] : List Int) 0 0 = [] := rfl
  simp [s_l1Own, s_l1Own_t, T.run, hw, h]


def s_PutOne_sh : FSh := ⟨[(.one (.sl (.int .i64) false false)), (.one (.si .i64))], []⟩

def s_PutOne_fo : List FO := [⟨[(.one (.rw 0 0)), (.one .sb)], [(.row 0 (.int .i64))]⟩]
noncomputable def s_PutOne_t : (List (Int) × Int) → T ((Unit × Bool) × List (Int)) := fun (list, at') =>
  (.sub (s_ctGood list) fun z0 =>
  (.test (! z0)
  (.test true
   (.ret (((), false), ([] : List (Int))))
   .fail)
  (.sub (s_l1In (at', ((1 : Int), (w64 (((List.length list) : Int) - 1))))) fun z1 =>
   (.test (! z1)
   (.test true
    (.ret (((), false), ([] : List (Int))))
    .fail)
   (.test (decide (0 ≤ at'))
    (.test (decide ((0 ≤ (Int.toNat at')) ∧ ((Int.toNat at') ≤ (List.length list))))
     (.sub (s_l1Own (win list 0 ((Int.toNat at') - 0))) fun z2 =>
      (.test true
      (.test (decide ((0 + (List.length z2.2)) ≤ (List.length z2.2)))
       (.test (decide ((2 * (((List.length z2.2) + 1) * 9)) ≤ 140737488355328))
        (.test (decide (0 ≤ at'))
         (.test (decide (((Int.toNat at') ≤ (List.length list)) ∧ ((List.length list) ≤ (List.length list))))
          (.test (decide ((0 + ((List.length z2.2) + 1)) ≤ (List.length ((win z2.2 0 (List.length z2.2)) ++ (win (List.set (List.replicate 1 (0 : Int)) 0 (1 : Int)) 0 1)))))
           (.test (decide ((2 * ((((List.length z2.2) + 1) + (List.length (win list (Int.toNat at') ((List.length list) - (Int.toNat at'))))) * 9)) ≤ 140737488355328))
            (.test (decide ((0 ≤ (w64 (at' - 1))) ∧ ((w64 (at' - 1)) < ((((List.length z2.2) + 1) + (List.length (win list (Int.toNat at') ((List.length list) - (Int.toNat at'))))) : Int))))
             (.sub (((win ((win z2.2 0 (List.length z2.2)) ++ (win (List.set (List.replicate 1 (0 : Int)) 0 (1 : Int)) 0 1)) 0 ((List.length z2.2) + 1)) ++ (win list (Int.toNat at') ((List.length list) - (Int.toNat at'))))[(0 + (Int.toNat (w64 (at' - 1))))]?) fun z3 =>
              (.test (decide ((0 ≤ (w64 (at' - 1))) ∧ ((w64 (at' - 1)) < ((((List.length z2.2) + 1) + (List.length (win list (Int.toNat at') ((List.length list) - (Int.toNat at'))))) : Int))))
              (.sub (((win ((win z2.2 0 (List.length z2.2)) ++ (win (List.set (List.replicate 1 (0 : Int)) 0 (1 : Int)) 0 1)) 0 ((List.length z2.2) + 1)) ++ (win list (Int.toNat at') ((List.length list) - (Int.toNat at'))))[(0 + (Int.toNat (w64 (at' - 1))))]?) fun z4 =>
               (.test (decide ((0 ≤ (w64 (at' + 1))) ∧ ((w64 (at' + 1)) < ((((List.length z2.2) + 1) + (List.length (win list (Int.toNat at') ((List.length list) - (Int.toNat at'))))) : Int))))
               (.sub ((List.set ((win ((win z2.2 0 (List.length z2.2)) ++ (win (List.set (List.replicate 1 (0 : Int)) 0 (1 : Int)) 0 1)) 0 ((List.length z2.2) + 1)) ++ (win list (Int.toNat at') ((List.length list) - (Int.toNat at')))) (0 + (Int.toNat (w64 (at' - 1)))) (w64 (z3 + 1)))[(0 + (Int.toNat (w64 (at' + 1))))]?) fun z5 =>
                (.test (decide ((0 ≤ (w64 (at' + 1))) ∧ ((w64 (at' + 1)) < ((((List.length z2.2) + 1) + (List.length (win list (Int.toNat at') ((List.length list) - (Int.toNat at'))))) : Int))))
                (.sub ((List.set ((win ((win z2.2 0 (List.length z2.2)) ++ (win (List.set (List.replicate 1 (0 : Int)) 0 (1 : Int)) 0 1)) 0 ((List.length z2.2) + 1)) ++ (win list (Int.toNat at') ((List.length list) - (Int.toNat at')))) (0 + (Int.toNat (w64 (at' - 1)))) (w64 (z3 + 1)))[(0 + (Int.toNat (w64 (at' + 1))))]?) fun z6 =>
                 (.test (decide ((0 + (((List.length z2.2) + 1) + (List.length (win list (Int.toNat at') ((List.length list) - (Int.toNat at')))))) ≤ (List.length (List.set (List.set ((win ((win z2.2 0 (List.length z2.2)) ++ (win (List.set (List.replicate 1 (0 : Int)) 0 (1 : Int)) 0 1)) 0 ((List.length z2.2) + 1)) ++ (win list (Int.toNat at') ((List.length list) - (Int.toNat at')))) (0 + (Int.toNat (w64 (at' - 1)))) (w64 (z3 + 1))) (0 + (Int.toNat (w64 (at' + 1)))) (w64 (z5 + 1))))))
                 (.sub (s_ctGood (win (List.set (List.set ((win ((win z2.2 0 (List.length z2.2)) ++ (win (List.set (List.replicate 1 (0 : Int)) 0 (1 : Int)) 0 1)) 0 ((List.length z2.2) + 1)) ++ (win list (Int.toNat at') ((List.length list) - (Int.toNat at')))) (0 + (Int.toNat (w64 (at' - 1)))) (w64 (z3 + 1))) (0 + (Int.toNat (w64 (at' + 1)))) (w64 (z5 + 1))) 0 (((List.length z2.2) + 1) + (List.length (win list (Int.toNat at') ((List.length list) - (Int.toNat at'))))))) fun z7 =>
                  (.test (! z7)
                  (.test true
                   (.ret (((), false), ([] : List (Int))))
                   .fail)
                  (.test (decide ((0 = 0) ∧ ((((List.length z2.2) + 1) + (List.length (win list (Int.toNat at') ((List.length list) - (Int.toNat at'))))) = (List.length (List.set (List.set ((win ((win z2.2 0 (List.length z2.2)) ++ (win (List.set (List.replicate 1 (0 : Int)) 0 (1 : Int)) 0 1)) 0 ((List.length z2.2) + 1)) ++ (win list (Int.toNat at') ((List.length list) - (Int.toNat at')))) (0 + (Int.toNat (w64 (at' - 1)))) (w64 (z3 + 1))) (0 + (Int.toNat (w64 (at' + 1)))) (w64 (z5 + 1)))))))
                   (.ret (((), true), (List.set (List.set ((win ((win z2.2 0 (List.length z2.2)) ++ (win (List.set (List.replicate 1 (0 : Int)) 0 (1 : Int)) 0 1)) 0 ((List.length z2.2) + 1)) ++ (win list (Int.toNat at') ((List.length list) - (Int.toNat at')))) (0 + (Int.toNat (w64 (at' - 1)))) (w64 (z3 + 1))) (0 + (Int.toNat (w64 (at' + 1)))) (w64 (z5 + 1)))))
                   .fail)))
                 .fail))
                .fail))
               .fail))
              .fail))
             .fail)
            .fail)
           .fail)
          .fail)
         .fail)
        .fail)
       .fail)
      .fail))
     .fail)
    .fail)))))
noncomputable def s_PutOne (v : (List (Int) × Int)) : Option ((Unit × Bool) × List (Int)) := (s_PutOne_t v).run
noncomputable def s_PutOne_E : TEnv := (((E0.add1 n_s_ctGood s_ctGood_sh s_ctGood_fo s_ctGood).add1 n_s_l1In s_l1In_sh s_l1In_fo s_l1In).add1 n_s_l1Own s_l1Own_sh s_l1Own_fo s_l1Own)
theorem s_PutOne_Eok : (s_PutOne_E).OK := (((E0ok.add1 s_ctGood_ok).add1 s_l1In_ok).add1 s_l1Own_ok)
noncomputable def s_PutOne_told : Nat → Option SealT := fun id => none
theorem s_PutOne_ok : FOK Try.prog n_s_PutOne s_PutOne_sh s_PutOne_fo s_PutOne :=
  fn_ok (E := s_PutOne_E) (s_PutOne_Eok) (told := s_PutOne_told) (fl := []) (c := bodyOf fn_s_PutOne) (s := s_PutOne_sh) (l := s_PutOne_fo) (tree := s_PutOne_t) fnat_s_PutOne (by kernel_rfl) (by kernel_rfl) (by kernel_rfl) (loopsOK_of (ls := []) (by kernel_rfl) trivial) (fun v => by kernel_rfl)

def i_within_sh : FSh := ⟨[(.one (.si .i64)), (.one (.si .i64)), (.one (.si .i64))], []⟩

def i_within_fo : List FO := [⟨[(.one .sb)], []⟩]
noncomputable def i_within_t : (Int × Int × Int) → T Bool := fun (n, low, high) =>
  (.test (decide (n ≥ low))
  (.ret (decide (n ≤ high)))
  (.ret false))
noncomputable def i_within (v : (Int × Int × Int)) : Option Bool := (i_within_t v).run
noncomputable def i_within_E : TEnv := E0
theorem i_within_Eok : (i_within_E).OK := E0ok
noncomputable def i_within_told : Nat → Option SealT := fun id => none
theorem i_within_ok : FOK Try.prog n_i_within i_within_sh i_within_fo i_within :=
  fn_ok (E := i_within_E) (i_within_Eok) (told := i_within_told) (fl := []) (c := bodyOf fn_i_within) (s := i_within_sh) (l := i_within_fo) (tree := i_within_t) fnat_i_within (by kernel_rfl) (by kernel_rfl) (by kernel_rfl) (loopsOK_of (ls := []) (by kernel_rfl) trivial) (fun v => by kernel_rfl)

theorem i_within_eq (n low high : Int) : i_within (n, low, high) = some (inB low high n) := by
  simp only [i_within, i_within_t, T.run, ge_iff_le, decide_eq_true_eq, inB]
  by_cases h : low ≤ n <;> simp [h]


def i_IsTermList_1_sh : FSh := ⟨[(.one (.si .i64))], []⟩

def i_IsTermList_1_fo : List FO := [⟨[(.one .sb)], []⟩]
noncomputable def i_IsTermList_1_t : Int → T Bool := fun n =>
  (.sub (i_within (n, ((-30), (30 : Int)))) fun z0 =>
  (.ret (! z0)))
noncomputable def i_IsTermList_1 (v : Int) : Option Bool := (i_IsTermList_1_t v).run
noncomputable def i_IsTermList_1_E : TEnv := (E0.add1 n_i_within i_within_sh i_within_fo i_within)
theorem i_IsTermList_1_Eok : (i_IsTermList_1_E).OK := (E0ok.add1 i_within_ok)
noncomputable def i_IsTermList_1_told : Nat → Option SealT := fun id => none
theorem i_IsTermList_1_ok : FOK Try.prog n_i_IsTermList_1 i_IsTermList_1_sh i_IsTermList_1_fo i_IsTermList_1 :=
  fn_ok (E := i_IsTermList_1_E) (i_IsTermList_1_Eok) (told := i_IsTermList_1_told) (fl := []) (c := bodyOf fn_i_IsTermList_1) (s := i_IsTermList_1_sh) (l := i_IsTermList_1_fo) (tree := i_IsTermList_1_t) fnat_i_IsTermList_1 (by kernel_rfl) (by kernel_rfl) (by kernel_rfl) (loopsOK_of (ls := []) (by kernel_rfl) trivial) (fun v => by kernel_rfl)

theorem i_IsTermList_1_eq (k : Int) : i_IsTermList_1 k = some (!inB (-30) 30 k) := by
  simp only [i_IsTermList_1, i_IsTermList_1_t, T.run, i_within_eq, Option.bind_some]


def slices_IndexFunc_int__i_IsTermList_1_sh : FSh := ⟨[(.one (.sl (.int .i64) false false)), (.one (.fn n_i_IsTermList_1))], []⟩

def slices_IndexFunc_int__i_IsTermList_1_L2_sh : LSh := ⟨(fun ex => match ex with | .norm => [(0, none), (1, none), (7, none), (8, none)] | .exit i => if i = 0 then [] else [] | .ret => [(4, none)]), [(0, (.one (.sl (.int .i64) false false))), (1, (.one (.fn n_i_IsTermList_1))), (7, (.one (.si .i64))), (8, (.one (.si .i64)))], [], [⟨.ret, [(4, (.one (.si .i64)))], []⟩, ⟨(.exit 0), [], []⟩]⟩
noncomputable def slices_IndexFunc_int__i_IsTermList_1_L2_step : (List (Int) × Unit × Int × Int) → T ((List (Int) × Unit × Int × Int) ⊕ (Int ⊕ Unit)) := fun (s, (), t7, t8) =>
  (.test (decide (t8 < t7))
  (.test (decide ((0 ≤ t8) ∧ (t8 < ((List.length s) : Int))))
   (.sub (s[(Int.toNat t8)]?) fun z0 =>
    (.sub (i_IsTermList_1 z0) fun z1 =>
    (.test z1
    (.ret (Sum.inr (Sum.inl t8)))
    (.ret (Sum.inl (s, ((), (t7, (w64 (t8 + 1))))))))))
   .fail)
  (.ret (Sum.inr (Sum.inr ()))))
noncomputable def slices_IndexFunc_int__i_IsTermList_1_L2 (v : (List (Int) × Unit × Int × Int)) : Option (Int ⊕ Unit) := loopO (fun v => (slices_IndexFunc_int__i_IsTermList_1_L2_step v).run) v

def slices_IndexFunc_int__i_IsTermList_1_fo : List FO := [⟨[(.one (.si .i64))], []⟩]
noncomputable def slices_IndexFunc_int__i_IsTermList_1_t : (List (Int) × Unit) → T Int := fun (s, ()) =>
  (.sub (slices_IndexFunc_int__i_IsTermList_1_L2 (s, ((), (((List.length s) : Int), (0 : Int))))) fun z0 =>
  (.test (Sum.isLeft z0)
  (.sub (Sum.getLeft? z0) fun z1 =>
   (.ret z1))
  (.sub (Sum.getRight? z0) fun z2 =>
   (.ret (-1)))))
noncomputable def slices_IndexFunc_int__i_IsTermList_1 (v : (List (Int) × Unit)) : Option Int := (slices_IndexFunc_int__i_IsTermList_1_t v).run
noncomputable def slices_IndexFunc_int__i_IsTermList_1_E : TEnv := (E0.add1 n_i_IsTermList_1 i_IsTermList_1_sh i_IsTermList_1_fo i_IsTermList_1)
theorem slices_IndexFunc_int__i_IsTermList_1_Eok : (slices_IndexFunc_int__i_IsTermList_1_E).OK := (E0ok.add1 i_IsTermList_1_ok)
noncomputable def slices_IndexFunc_int__i_IsTermList_1_told : Nat → Option SealT := fun id => if id = 2 then some (LSh.told slices_IndexFunc_int__i_IsTermList_1_L2_sh 0 (slices_IndexFunc_int__i_IsTermList_1_L2_step)) else none
theorem slices_IndexFunc_int__i_IsTermList_1_L2_ok : ToldOK Try.prog 0 (loopAt (bodyOf fn_slices_IndexFunc_int) [0]) (LSh.told slices_IndexFunc_int__i_IsTermList_1_L2_sh 0 (slices_IndexFunc_int__i_IsTermList_1_L2_step)) :=
  loop_ok (E := slices_IndexFunc_int__i_IsTermList_1_E) (slices_IndexFunc_int__i_IsTermList_1_Eok) (told := slices_IndexFunc_int__i_IsTermList_1_told) (l := slices_IndexFunc_int__i_IsTermList_1_L2_sh) (step := slices_IndexFunc_int__i_IsTermList_1_L2_step) (loopsOK_of (ls := []) (by kernel_rfl) trivial) (by kernel_rfl) (fun v => by kernel_rfl)
theorem slices_IndexFunc_int__i_IsTermList_1_ok : FOK Try.prog n_slices_IndexFunc_int slices_IndexFunc_int__i_IsTermList_1_sh slices_IndexFunc_int__i_IsTermList_1_fo slices_IndexFunc_int__i_IsTermList_1 :=
  fn_ok (E := slices_IndexFunc_int__i_IsTermList_1_E) (slices_IndexFunc_int__i_IsTermList_1_Eok) (told := slices_IndexFunc_int__i_IsTermList_1_told) (fl := []) (c := bodyOf fn_slices_IndexFunc_int) (s := slices_IndexFunc_int__i_IsTermList_1_sh) (l := slices_IndexFunc_int__i_IsTermList_1_fo) (tree := slices_IndexFunc_int__i_IsTermList_1_t) fnat_slices_IndexFunc_int (by kernel_rfl) (by kernel_rfl) (by kernel_rfl) (loopsOK_of (ls := [loopAt (bodyOf fn_slices_IndexFunc_int) [0]]) (by kernel_rfl) ⟨.inr ⟨_, by kernel_rfl, slices_IndexFunc_int__i_IsTermList_1_L2_ok⟩, trivial⟩) (fun v => by kernel_rfl)

theorem slices_IndexFunc_int__i_IsTermList_1_eq (l : List Int) (hl : l.length < 4611686018427387904) : slices_IndexFunc_int__i_IsTermList_1 (l, ()) = some (idxI (fun k => !inB (-30) 30 k) l) := by
  have h := loop_find (step := fun v => (slices_IndexFunc_int__i_IsTermList_1_L2_step v).run) (xs := l) (fun k => !inB (-30) 30 k) (fun k => (l, (), (l.length : Int), (k : Int))) (fun k => .inl (k : Int)) (.inr ())
    (fun k x hx => by
      have hk := getElem?_lt hx
      simp only [slices_IndexFunc_int__i_IsTermList_1_L2_step, T.run, i_IsTermList_1_eq, Option.bind_some, Int.toNat_natCast, hx]
      rw [w64_id (by omega) (by omega)]
      cases inB (-30) 30 x <;> simp [hk])
    (by simp [slices_IndexFunc_int__i_IsTermList_1_L2_step, T.run])
  simp only [slices_IndexFunc_int__i_IsTermList_1, slices_IndexFunc_int__i_IsTermList_1_t, T.run, slices_IndexFunc_int__i_IsTermList_1_L2]
  simp only [Int.natCast_zero] at h
  rw [h, idxI]
  cases l.findIdx? (fun k => !inB (-30) 30 k) <;> simp


def slices_ContainsFunc_int__i_IsTermList_1_sh : FSh := ⟨[(.one (.sl (.int .i64) false false)), (.one (.fn n_i_IsTermList_1))], []⟩

def slices_ContainsFunc_int__i_IsTermList_1_fo : List FO := [⟨[(.one .sb)], []⟩]
noncomputable def slices_ContainsFunc_int__i_IsTermList_1_t : (List (Int) × Unit) → T Bool := fun (s, ()) =>
  (.sub (slices_IndexFunc_int__i_IsTermList_1 (s, ())) fun z0 =>
  (.ret (decide (z0 ≥ 0))))
noncomputable def slices_ContainsFunc_int__i_IsTermList_1 (v : (List (Int) × Unit)) : Option Bool := (slices_ContainsFunc_int__i_IsTermList_1_t v).run
noncomputable def slices_ContainsFunc_int__i_IsTermList_1_E : TEnv := (E0.add1 n_slices_IndexFunc_int slices_IndexFunc_int__i_IsTermList_1_sh slices_IndexFunc_int__i_IsTermList_1_fo slices_IndexFunc_int__i_IsTermList_1)
theorem slices_ContainsFunc_int__i_IsTermList_1_Eok : (slices_ContainsFunc_int__i_IsTermList_1_E).OK := (E0ok.add1 slices_IndexFunc_int__i_IsTermList_1_ok)
noncomputable def slices_ContainsFunc_int__i_IsTermList_1_told : Nat → Option SealT := fun id => none
theorem slices_ContainsFunc_int__i_IsTermList_1_ok : FOK Try.prog n_slices_ContainsFunc_int slices_ContainsFunc_int__i_IsTermList_1_sh slices_ContainsFunc_int__i_IsTermList_1_fo slices_ContainsFunc_int__i_IsTermList_1 :=
  fn_ok (E := slices_ContainsFunc_int__i_IsTermList_1_E) (slices_ContainsFunc_int__i_IsTermList_1_Eok) (told := slices_ContainsFunc_int__i_IsTermList_1_told) (fl := []) (c := bodyOf fn_slices_ContainsFunc_int) (s := slices_ContainsFunc_int__i_IsTermList_1_sh) (l := slices_ContainsFunc_int__i_IsTermList_1_fo) (tree := slices_ContainsFunc_int__i_IsTermList_1_t) fnat_slices_ContainsFunc_int (by kernel_rfl) (by kernel_rfl) (by kernel_rfl) (loopsOK_of (ls := []) (by kernel_rfl) trivial) (fun v => by kernel_rfl)

theorem slices_ContainsFunc_int__i_IsTermList_1_eq (l : List Int) (hl : l.length < 4611686018427387904) : slices_ContainsFunc_int__i_IsTermList_1 (l, ()) = some (l.any (fun k => !inB (-30) 30 k)) := by
  simp only [slices_ContainsFunc_int__i_IsTermList_1, slices_ContainsFunc_int__i_IsTermList_1_t, T.run, slices_IndexFunc_int__i_IsTermList_1_eq _ hl, Option.bind_some, idxI_ge]


def i_IsTermList_sh : FSh := ⟨[(.one (.sl (.int .i64) false false))], []⟩

def i_IsTermList_fo : List FO := [⟨[(.one .sb)], []⟩]
noncomputable def i_IsTermList_t : List (Int) → T Bool := fun list =>
  (.test (decide (((List.length list) : Int) ≤ 10))
  (.sub (slices_ContainsFunc_int__i_IsTermList_1 (list, ())) fun z0 =>
   (.ret (! z0)))
  (.ret false))
noncomputable def i_IsTermList (v : List (Int)) : Option Bool := (i_IsTermList_t v).run
noncomputable def i_IsTermList_E : TEnv := (E0.add1 n_slices_ContainsFunc_int slices_ContainsFunc_int__i_IsTermList_1_sh slices_ContainsFunc_int__i_IsTermList_1_fo slices_ContainsFunc_int__i_IsTermList_1)
theorem i_IsTermList_Eok : (i_IsTermList_E).OK := (E0ok.add1 slices_ContainsFunc_int__i_IsTermList_1_ok)
noncomputable def i_IsTermList_told : Nat → Option SealT := fun id => none
theorem i_IsTermList_ok : FOK Try.prog n_i_IsTermList i_IsTermList_sh i_IsTermList_fo i_IsTermList :=
  fn_ok (E := i_IsTermList_E) (i_IsTermList_Eok) (told := i_IsTermList_told) (fl := []) (c := bodyOf fn_i_IsTermList) (s := i_IsTermList_sh) (l := i_IsTermList_fo) (tree := i_IsTermList_t) fnat_i_IsTermList (by kernel_rfl) (by kernel_rfl) (by kernel_rfl) (loopsOK_of (ls := []) (by kernel_rfl) trivial) (fun v => by kernel_rfl)

theorem i_IsTermList_eq (l : List Int) (hl : l.length < 4611686018427387904) : i_IsTermList l = some (isTerms l) := by
  simp only [i_IsTermList, i_IsTermList_t, T.run, slices_ContainsFunc_int__i_IsTermList_1_eq _ hl, Option.bind_some, isTerms, decide_eq_true_eq, all_any]
  by_cases h : l.length ≤ 10
  · rw [if_pos (by omega)]; simp [h]
  · rw [if_neg (by omega)]; simp [h]


def slices_Clone_int_sh : FSh := ⟨[.one (.sl (.int .i64) false false)], []⟩
def slices_Clone_int_fo : List FO := [⟨[.one (.rw 0 0)], [.row 0 (.int .i64)]⟩]
def slices_Clone_int (v : List Int) : Option (Unit × List Int) := if v.length ≤ maxLen ∧ v.length * 8 ≤ 140737488355328 then some ((), v) else none
def slices_Clone_int_ren : Shelf.Ren := ⟨fun _ => n_slices_Clone_int, fun t => if t = 4 then 4 else if t = 22 then 22 else 3, fun x => x⟩
theorem slices_Clone_int_lay : SlLaysE0.n41 Try.prog slices_Clone_int_ren :=
  { mixed := by kernel_rfl, f41 := ⟨"slices.Clone[[]int,int]", by kernel_rfl, by kernel_rfl⟩, t4 := by kernel_rfl, a4 := fun w => by kernel_rfl, z4 := fun w => by kernel_rfl, v4 := fun w => by kernel_rfl, t22 := by kernel_rfl, a22 := fun w => by kernel_rfl, z22 := fun w => by kernel_rfl, v22 := fun w => by kernel_rfl }
noncomputable def slices_Clone_int_info : TypeInfo := (Try.prog.info? 3).get (by kernel_rfl)
theorem slices_Clone_int_ok : FOK Try.prog n_slices_Clone_int slices_Clone_int_sh slices_Clone_int_fo slices_Clone_int :=
  clone_ok (e := .int .i64) ⟨_, fnat_slices_Clone_int, by kernel_rfl, by kernel_rfl⟩ (ρr := slices_Clone_int_ren) rfl slices_Clone_int_lay rfl slices_Clone_int_info (.int .i64 0) 8 (by kernel_rfl) (by kernel_rfl) (by kernel_rfl) (by kernel_rfl) (by decide) (by decide) (fun w => by kernel_rfl)

def slices_Insert_int_sh : FSh := ⟨[.one (.rw 0 0), .one (.si .i64), .one (.rw 1 0)], [.row 0 (.int .i64), .row 0 (.int .i64)]⟩
def slices_Insert_int_fo : List FO := [⟨[.one (.rw 0 1)], [.row 1 (.int .i64), .row 0 (.int .i64)]⟩]
def slices_Insert_int (v : (Unit × Int × Unit) × (List Int × List Int)) : Option (Unit × (List Int × List Int)) := match v.2.2 with
  | [x] => if 0 ≤ v.1.2.1 ∧ v.1.2.1 ≤ (v.2.1.length : Int) ∧ v.2.1.length ≤ 1000000000000 then some ((), v.2.1.take v.1.2.1.toNat ++ [x] ++ v.2.1.drop v.1.2.1.toNat, [x]) else none
  | _ => none
def slices_Insert_int_ren : Shelf.Ren := ⟨fun k => if k = 21 then n_slices_Insert_int else if k = 27 then 90 else if k = 28 then 91 else if k = 35 then 95 else 96, fun t => if t = 0 then 0 else if t = 4 then 4 else if t = 22 then 22 else 3, fun x => x⟩
theorem slices_Insert_int_lay : Lays2.n21 Try.prog slices_Insert_int_ren :=
  { mixed := by kernel_rfl, f21 := by kernel_rfl, f27 := by kernel_rfl, f28 := by kernel_rfl, f35 := by kernel_rfl, f39 := by kernel_rfl, t0 := by kernel_rfl, a0 := fun w => by kernel_rfl, z0 := fun w => by kernel_rfl, v0 := fun w => by kernel_rfl, t3 := by kernel_rfl, a3 := fun w => by kernel_rfl, z3 := fun w => by kernel_rfl, v3 := fun w => by kernel_rfl, t4 := by kernel_rfl, a4 := fun w => by kernel_rfl, z4 := fun w => by kernel_rfl, v4 := fun w => by kernel_rfl, t22 := by kernel_rfl, a22 := fun w => by kernel_rfl, z22 := fun w => by kernel_rfl, v22 := fun w => by kernel_rfl, i3 := by kernel_rfl }
theorem slices_Insert_int_ok : FOK Try.prog n_slices_Insert_int slices_Insert_int_sh slices_Insert_int_fo slices_Insert_int :=
  insert_ok ⟨_, fnat_slices_Insert_int, by kernel_rfl, by kernel_rfl⟩ (ρr := slices_Insert_int_ren) rfl slices_Insert_int_lay

def i_listed_sh : FSh := ⟨[(.one (.rw 0 0)), (.one .sb)], [(.row 0 (.int .i64))]⟩

def i_listed_fo : List FO := [⟨[(.one (.rw 1 0)), (.one .sb)], [(.row 0 (.int .i64)), (.row 0 (.int .i64))]⟩, ⟨[(.one (.rw 0 0)), (.one .sb)], [(.row 0 (.int .i64))]⟩]
noncomputable def i_listed_t : ((Unit × Bool) × List (Int)) → T (((Unit × Bool) × (List (Int) × List (Int))) ⊕ ((Unit × Bool) × List (Int))) := fun (((), ok), list) =>
  (.test (! ok)
  (.test (decide ((0 = 0) ∧ (0 = (List.length ([] : List (Int))))))
   (.ret (Sum.inl (((), false), (list, ([] : List (Int))))))
   .fail)
  (.test (decide ((0 = 0) ∧ ((List.length list) = (List.length list))))
   (.ret (Sum.inr (((), true), list)))
   .fail))
noncomputable def i_listed (v : ((Unit × Bool) × List (Int))) : Option (((Unit × Bool) × (List (Int) × List (Int))) ⊕ ((Unit × Bool) × List (Int))) := (i_listed_t v).run
noncomputable def i_listed_E : TEnv := E0
theorem i_listed_Eok : (i_listed_E).OK := E0ok
noncomputable def i_listed_told : Nat → Option SealT := fun id => none
theorem i_listed_ok : FOK Try.prog n_i_listed i_listed_sh i_listed_fo i_listed :=
  fn_ok (E := i_listed_E) (i_listed_Eok) (told := i_listed_told) (fl := []) (c := bodyOf fn_i_listed) (s := i_listed_sh) (l := i_listed_fo) (tree := i_listed_t) fnat_i_listed (by kernel_rfl) (by kernel_rfl) (by kernel_rfl) (loopsOK_of (ls := []) (by kernel_rfl) trivial) (fun v => by kernel_rfl)

theorem i_listed_eq (ok : Bool) (l : List Int) : i_listed (((), ok), l) = some (if ok then .inr (((), true), l) else .inl (((), false), (l, []))) := by
  cases ok <;> simp [i_listed, i_listed_t, T.run]


def i_PutOne_sh : FSh := ⟨[(.one (.sl (.int .i64) false false)), (.one (.si .i64))], []⟩

def i_PutOne_fo : List FO := [⟨[(.one (.rw 0 0)), (.one .sb)], [(.row 0 (.int .i64))]⟩]
noncomputable def i_PutOne_t : (List (Int) × Int) → T ((Unit × Bool) × List (Int)) := fun (list, at') =>
  (.sub (i_IsTermList list) fun z0 =>
  (.test (! z0)
  (.test true
   (.ret (((), false), ([] : List (Int))))
   .fail)
  (.sub (i_within (at', ((1 : Int), (w64 (((List.length list) : Int) - 1))))) fun z1 =>
   (.test (! z1)
   (.test true
    (.ret (((), false), ([] : List (Int))))
    .fail)
   (.sub (slices_Clone_int list) fun z2 =>
    (.test (decide ((0 = 0) ∧ ((List.length z2.2) = (List.length z2.2))))
    (.test (decide ((0 = 0) ∧ (1 = (List.length (List.set (List.replicate 1 (0 : Int)) 0 (1 : Int))))))
     (.sub (slices_Insert_int (((), (at', ())), (z2.2, (List.set (List.replicate 1 (0 : Int)) 0 (1 : Int))))) fun z3 =>
      (.test (decide ((0 ≤ (w64 (at' - 1))) ∧ ((w64 (at' - 1)) < ((List.length z3.2.1) : Int))))
      (.sub (z3.2.1[(0 + (Int.toNat (w64 (at' - 1))))]?) fun z4 =>
       (.test (decide ((0 ≤ (w64 (at' - 1))) ∧ ((w64 (at' - 1)) < ((List.length z3.2.1) : Int))))
       (.sub (z3.2.1[(0 + (Int.toNat (w64 (at' - 1))))]?) fun z5 =>
        (.test (decide ((0 ≤ (w64 (at' + 1))) ∧ ((w64 (at' + 1)) < ((List.length z3.2.1) : Int))))
        (.sub ((List.set z3.2.1 (0 + (Int.toNat (w64 (at' - 1)))) (w64 (z4 + 1)))[(0 + (Int.toNat (w64 (at' + 1))))]?) fun z6 =>
         (.test (decide ((0 ≤ (w64 (at' + 1))) ∧ ((w64 (at' + 1)) < ((List.length z3.2.1) : Int))))
         (.sub ((List.set z3.2.1 (0 + (Int.toNat (w64 (at' - 1)))) (w64 (z4 + 1)))[(0 + (Int.toNat (w64 (at' + 1))))]?) fun z7 =>
          (.test (decide ((0 + (List.length z3.2.1)) ≤ (List.length (List.set (List.set z3.2.1 (0 + (Int.toNat (w64 (at' - 1)))) (w64 (z4 + 1))) (0 + (Int.toNat (w64 (at' + 1)))) (w64 (z6 + 1))))))
          (.sub (i_IsTermList (win (List.set (List.set z3.2.1 (0 + (Int.toNat (w64 (at' - 1)))) (w64 (z4 + 1))) (0 + (Int.toNat (w64 (at' + 1)))) (w64 (z6 + 1))) 0 (List.length z3.2.1))) fun z8 =>
           (.test (decide ((0 = 0) ∧ ((List.length z3.2.1) = (List.length (List.set (List.set z3.2.1 (0 + (Int.toNat (w64 (at' - 1)))) (w64 (z4 + 1))) (0 + (Int.toNat (w64 (at' + 1)))) (w64 (z6 + 1)))))))
           (.sub (i_listed (((), z8), (List.set (List.set z3.2.1 (0 + (Int.toNat (w64 (at' - 1)))) (w64 (z4 + 1))) (0 + (Int.toNat (w64 (at' + 1)))) (w64 (z6 + 1))))) fun z9 =>
            (.test (Sum.isLeft z9)
            (.sub (Sum.getLeft? z9) fun z10 =>
             (.test (decide ((0 = 0) ∧ ((List.length z10.2.2) = (List.length z10.2.2))))
             (.ret (((), z10.1.2), z10.2.2))
             .fail))
            (.sub (Sum.getRight? z9) fun z11 =>
             (.test (decide ((0 = 0) ∧ ((List.length z11.2) = (List.length z11.2))))
             (.ret (((), z11.1.2), z11.2))
             .fail))))
           .fail))
          .fail))
         .fail))
        .fail))
       .fail))
      .fail))
     .fail)
    .fail))))))
noncomputable def i_PutOne (v : (List (Int) × Int)) : Option ((Unit × Bool) × List (Int)) := (i_PutOne_t v).run
noncomputable def i_PutOne_E : TEnv := (((((E0.add1 n_i_IsTermList i_IsTermList_sh i_IsTermList_fo i_IsTermList).add1 n_i_within i_within_sh i_within_fo i_within).add1 n_slices_Clone_int slices_Clone_int_sh slices_Clone_int_fo slices_Clone_int).add1 n_slices_Insert_int slices_Insert_int_sh slices_Insert_int_fo slices_Insert_int).add1 n_i_listed i_listed_sh i_listed_fo i_listed)
theorem i_PutOne_Eok : (i_PutOne_E).OK := (((((E0ok.add1 i_IsTermList_ok).add1 i_within_ok).add1 slices_Clone_int_ok).add1 slices_Insert_int_ok).add1 i_listed_ok)
noncomputable def i_PutOne_told : Nat → Option SealT := fun id => none
theorem i_PutOne_ok : FOK Try.prog n_i_PutOne i_PutOne_sh i_PutOne_fo i_PutOne :=
  fn_ok (E := i_PutOne_E) (i_PutOne_Eok) (told := i_PutOne_told) (fl := []) (c := bodyOf fn_i_PutOne) (s := i_PutOne_sh) (l := i_PutOne_fo) (tree := i_PutOne_t) fnat_i_PutOne (by kernel_rfl) (by kernel_rfl) (by kernel_rfl) (loopsOK_of (ls := []) (by kernel_rfl) trivial) (fun v => by kernel_rfl)

theorem put_i (L R : List Int) (x y : Int) (hx : -30 ≤ x ∧ x ≤ 30) (hy : -30 ≤ y ∧ y ≤ 30) (hl : L.length + R.length ≤ 8) (ht : isTerms (L ++ x :: y :: R) = true) :
    i_PutOne (L ++ x :: y :: R, (L.length : Int) + 1) = some (if isTerms (L ++ (x + 1) :: 1 :: (y + 1) :: R) then (((), true), L ++ (x + 1) :: 1 :: (y + 1) :: R) else (((), false), [])) := by
  have hlen : (L ++ x :: y :: R).length = L.length + R.length + 2 := by simp; omega
  have c1 : inB 1 (((L ++ x :: y :: R).length : Int) - 1) ((L.length : Int) + 1) = true := by rw [inB_iff, hlen]; omega
  have w1 : w64 (((L ++ x :: y :: R).length : Int) - 1) = ((L ++ x :: y :: R).length : Int) - 1 := w64_id (by omega) (by omega)
  have hcl : slices_Clone_int (L ++ x :: y :: R) = some ((), L ++ x :: y :: R) := by unfold slices_Clone_int; rw [if_pos (by unfold maxLen; omega)]
  have hins : slices_Insert_int (((), ((L.length : Int) + 1, ())), (L ++ x :: y :: R, [1])) = some ((), L ++ x :: 1 :: y :: R, [1]) := by
    unfold slices_Insert_int
    simp only
    rw [if_pos (by omega), show ((L.length : Int) + 1).toNat = L.length + 1 by omega, at_take1, at_drop1]
    simp
  have t0 : Int.toNat (w64 ((L.length : Int) + 1 - 1)) = L.length := by rw [w64_id (by omega) (by omega)]; omega
  have t2 : Int.toNat (w64 ((L.length : Int) + 1 + 1)) = L.length + 2 := by rw [w64_id (by omega) (by omega)]; omega
  have b0 : 0 ≤ w64 ((L.length : Int) + 1 - 1) ∧ w64 ((L.length : Int) + 1 - 1) < ((L ++ x :: 1 :: y :: R).length : Int) := by rw [w64_id (by omega) (by omega)]; simp; omega
  have b2 : 0 ≤ w64 ((L.length : Int) + 1 + 1) ∧ w64 ((L.length : Int) + 1 + 1) < ((L ++ x :: 1 :: y :: R).length : Int) := by rw [w64_id (by omega) (by omega)]; simp; omega
  have g0 := at_get0 L x (1 :: y :: R)
  have g2 : (L ++ (x + 1) :: 1 :: y :: R)[L.length + 2]? = some y := at_get2 L (x + 1) 1 y R
  have s0 := at_set0 L x (x + 1) (1 :: y :: R)
  have s2 := at_set2 L (x + 1) 1 y (y + 1) R
  have wx : w64 (x + 1) = x + 1 := w64_id (by omega) (by omega)
  have wy : w64 (y + 1) = y + 1 := w64_id (by omega) (by omega)
  have e1 : (L ++ x :: 1 :: y :: R).length = (L ++ (x + 1) :: 1 :: (y + 1) :: R).length := by simp
  have hlast := i_IsTermList_eq (L ++ (x + 1) :: 1 :: (y + 1) :: R) (by simp; omega)
  simp only [i_PutOne, i_PutOne_t, T.run, i_IsTermList_eq (L ++ x :: y :: R) (by omega), i_within_eq, w1, ht, c1, hcl, win_one, Option.bind_some, List.replicate, List.set, hins, t0, t2, b0, b2, Nat.zero_add, g0, g2, s0, s2, wx, wy]
  rw [e1]
  simp only [win_all, hlast, i_listed_eq, Option.bind_some]
  cases isTerms (L ++ (x + 1) :: 1 :: (y + 1) :: R) <;> simp
theorem put_s (L R : List Int) (x y : Int) (hx : -30 ≤ x ∧ x ≤ 30) (hy : -30 ≤ y ∧ y ≤ 30) (hl : L.length + R.length ≤ 8) (ht : isTerms (L ++ x :: y :: R) = true) :
    s_PutOne (L ++ x :: y :: R, (L.length : Int) + 1) = some (if isTerms (L ++ (x + 1) :: 1 :: (y + 1) :: R) then (((), true), L ++ (x + 1) :: 1 :: (y + 1) :: R) else (((), false), [])) := by
  have hlen : (L ++ x :: y :: R).length = L.length + R.length + 2 := by simp; omega
  have c1 : inB 1 (((L ++ x :: y :: R).length : Int) - 1) ((L.length : Int) + 1) = true := by rw [inB_iff, hlen]; omega
  have w1 : w64 (((L ++ x :: y :: R).length : Int) - 1) = ((L ++ x :: y :: R).length : Int) - 1 := w64_id (by omega) (by omega)
  have tt : ((L.length : Int) + 1).toNat = L.length + 1 := by omega
  have c0 : (0 : Int) ≤ (L.length : Int) + 1 := by omega
  have wt : win (L ++ x :: y :: R) 0 (L.length + 1) = L ++ [x] := by rw [win_take, at_take1]
  have wd : win (L ++ x :: y :: R) (L.length + 1) ((L ++ x :: y :: R).length - (L.length + 1)) = y :: R := by
    unfold win; rw [at_drop1, hlen]; rw [List.take_of_length_le]; simp; omega
  have ho : s_l1Own (L ++ [x]) = some ((), L ++ [x]) := s_l1Own_eq _ (by simp; omega)
  have hlx : (L ++ [x]).length = L.length + 1 := by simp
  have wl : win (L ++ [x]) 0 (L.length + 1) = L ++ [x] := by have := win_all (L ++ [x]); rwa [hlx] at this
  have wl2 : win (L ++ [x] ++ [1]) 0 (L.length + 1 + 1) = L ++ [x] ++ [1] := by have := win_all (L ++ [x] ++ [(1 : Int)]); rwa [show (L ++ [x] ++ [(1 : Int)]).length = L.length + 1 + 1 by simp] at this
  have ea : L ++ [x] ++ [1] ++ y :: R = L ++ x :: 1 :: y :: R := by simp
  have t0 : Int.toNat (w64 ((L.length : Int) + 1 - 1)) = L.length := by rw [w64_id (by omega) (by omega)]; omega
  have t2 : Int.toNat (w64 ((L.length : Int) + 1 + 1)) = L.length + 2 := by rw [w64_id (by omega) (by omega)]; omega
  have hyR : (y :: R).length = R.length + 1 := rfl
  have b0 : 0 ≤ w64 ((L.length : Int) + 1 - 1) ∧ w64 ((L.length : Int) + 1 - 1) < ((L.length + 1 + 1 + (R.length + 1) : Nat) : Int) := by rw [w64_id (by omega) (by omega)]; omega
  have b2 : 0 ≤ w64 ((L.length : Int) + 1 + 1) ∧ w64 ((L.length : Int) + 1 + 1) < ((L.length + 1 + 1 + (R.length + 1) : Nat) : Int) := by rw [w64_id (by omega) (by omega)]; omega
  have g0 := at_get0 L x (1 :: y :: R)
  have g2 : (L ++ (x + 1) :: 1 :: y :: R)[L.length + 2]? = some y := at_get2 L (x + 1) 1 y R
  have s0 := at_set0 L x (x + 1) (1 :: y :: R)
  have s2 := at_set2 L (x + 1) 1 y (y + 1) R
  have wx : w64 (x + 1) = x + 1 := w64_id (by omega) (by omega)
  have wy : w64 (y + 1) = y + 1 := w64_id (by omega) (by omega)
  have e1 : L.length + 1 + 1 + (R.length + 1) = (L ++ (x + 1) :: 1 :: (y + 1) :: R).length := by simp; omega
  have hlast := s_ctGood_eq (L ++ (x + 1) :: 1 :: (y + 1) :: R) (by simp; omega)
  have d1 : 2 * ((L.length + 1 + 1) * 9) ≤ 140737488355328 := by omega
  have d2 : 2 * ((L.length + 1 + 1 + (R.length + 1)) * 9) ≤ 140737488355328 := by omega
  have d3 : 0 ≤ L.length + 1 ∧ L.length + 1 ≤ (L ++ x :: y :: R).length := by omega
  have d4 : L.length + 1 ≤ (L ++ x :: y :: R).length ∧ (L ++ x :: y :: R).length ≤ (L ++ x :: y :: R).length := by omega
  have d5 : 0 + (L.length + 1 + 1) ≤ (L ++ [x] ++ [(1 : Int)]).length := by simp
  simp only [s_PutOne, s_PutOne_t, T.run, s_ctGood_eq (L ++ x :: y :: R) (by omega), s_l1In_eq, w1, ht, c1, tt, c0, Nat.sub_zero, wt, wd, ho, hlx, wl, win_one, wl2, ea, hyR, Option.bind_some, t0, t2, b0, b2, Nat.zero_add, g0, g2, s0, s2, wx, wy, d1, d2, d3, d4]
  rw [e1]
  simp only [win_all, hlast, Option.bind_some]
  cases isTerms (L ++ (x + 1) :: 1 :: (y + 1) :: R) <;> simp <;> (constructor <;> (rw [w64_id (by omega) (by omega)]; omega))
theorem put_both (l : List Int) (at' : Int) (hl : l.length < 4611686018427387904) : ∃ r : Bool × List Int, r.2.length ≤ 10 ∧ i_PutOne (l, at') = some (((), r.1), r.2) ∧ s_PutOne (l, at') = some (((), r.1), r.2) := by
  cases ht : isTerms l with
  | false =>
    refine ⟨(false, []), by simp, ?_, ?_⟩
    · simp only [i_PutOne, i_PutOne_t, T.run, i_IsTermList_eq l hl, ht, Option.bind_some]; simp
    · simp only [s_PutOne, s_PutOne_t, T.run, s_ctGood_eq l hl, ht, Option.bind_some]; simp
  | true =>
    have ht' := isTerms_iff.1 ht
    have w1 : w64 ((l.length : Int) - 1) = (l.length : Int) - 1 := w64_id (by omega) (by omega)
    cases ha : inB 1 ((l.length : Int) - 1) at' with
    | false =>
      refine ⟨(false, []), by simp, ?_, ?_⟩
      · simp only [i_PutOne, i_PutOne_t, T.run, i_IsTermList_eq l hl, i_within_eq, w1, ht, ha, Option.bind_some]; simp
      · simp only [s_PutOne, s_PutOne_t, T.run, s_ctGood_eq l hl, s_l1In_eq, w1, ht, ha, Option.bind_some]; simp
    | true =>
      rw [inB_iff] at ha
      obtain ⟨k, rfl⟩ : ∃ k : Nat, at' = (k : Int) + 1 := ⟨(at' - 1).toNat, by omega⟩
      obtain ⟨L, x, y, R, rfl, hk⟩ := at_split1 l k (by omega)
      subst hk
      have hx := ht'.2 x (by simp)
      have hy := ht'.2 y (by simp)
      have hlen : (L ++ x :: y :: R).length = L.length + R.length + 2 := by simp; omega
      rw [put_i L R x y (by omega) (by omega) (by omega) ht, put_s L R x y (by omega) (by omega) (by omega) ht]
      cases hr : isTerms (L ++ (x + 1) :: 1 :: (y + 1) :: R) with
      | true => exact ⟨(true, L ++ (x + 1) :: 1 :: (y + 1) :: R), (isTerms_iff.1 hr).1, by simp, by simp⟩
      | false => exact ⟨(false, []), by simp, by simp, by simp⟩


def l_eqIntS_sh : FSh := ⟨[(.one (.sl (.int .i64) false false)), (.one (.sl (.int .i64) false false))], []⟩

def l_eqIntS_L4_sh : LSh := ⟨(fun ex => match ex with | .norm => [(0, none), (1, none), (5, none)] | .exit i => if i = 0 then [] else [] | .ret => [(4, none)]), [(0, (.one (.sl (.int .i64) false false))), (1, (.one (.sl (.int .i64) false false))), (5, (.one (.si .i64)))], [], [⟨.ret, [(4, (.one .sb))], []⟩, ⟨(.exit 0), [], []⟩]⟩
noncomputable def l_eqIntS_L4_step : (List (Int) × List (Int) × Int) → T ((List (Int) × List (Int) × Int) ⊕ (Bool ⊕ Unit)) := fun (a, b, i) =>
  (.test (decide (i < ((List.length a) : Int)))
  (.test (decide ((0 ≤ i) ∧ (i < ((List.length a) : Int))))
   (.sub (a[(Int.toNat i)]?) fun z0 =>
    (.test (decide ((0 ≤ i) ∧ (i < ((List.length b) : Int))))
    (.sub (b[(Int.toNat i)]?) fun z1 =>
     (.test (z0 != z1)
     (.ret (Sum.inr (Sum.inl false)))
     (.ret (Sum.inl (a, (b, (w64 (i + 1))))))))
    .fail))
   .fail)
  (.ret (Sum.inr (Sum.inr ()))))
noncomputable def l_eqIntS_L4 (v : (List (Int) × List (Int) × Int)) : Option (Bool ⊕ Unit) := loopO (fun v => (l_eqIntS_L4_step v).run) v

def l_eqIntS_fo : List FO := [⟨[(.one .sb)], []⟩]
noncomputable def l_eqIntS_t : (List (Int) × List (Int)) → T Bool := fun (a, b) =>
  (.test (((List.length a) : Int) != ((List.length b) : Int))
  (.ret false)
  (.sub (l_eqIntS_L4 (a, (b, (0 : Int)))) fun z0 =>
   (.test (Sum.isLeft z0)
   (.sub (Sum.getLeft? z0) fun z1 =>
    (.ret z1))
   (.sub (Sum.getRight? z0) fun z2 =>
    (.ret true)))))
noncomputable def l_eqIntS (v : (List (Int) × List (Int))) : Option Bool := (l_eqIntS_t v).run
noncomputable def l_eqIntS_E : TEnv := E0
theorem l_eqIntS_Eok : (l_eqIntS_E).OK := E0ok
noncomputable def l_eqIntS_told : Nat → Option SealT := fun id => if id = 4 then some (LSh.told l_eqIntS_L4_sh 0 (l_eqIntS_L4_step)) else none
theorem l_eqIntS_L4_ok : ToldOK Try.prog 0 (loopAt (bodyOf fn_l_eqIntS) [0]) (LSh.told l_eqIntS_L4_sh 0 (l_eqIntS_L4_step)) :=
  loop_ok (E := l_eqIntS_E) (l_eqIntS_Eok) (told := l_eqIntS_told) (l := l_eqIntS_L4_sh) (step := l_eqIntS_L4_step) (loopsOK_of (ls := []) (by kernel_rfl) trivial) (by kernel_rfl) (fun v => by kernel_rfl)
theorem l_eqIntS_ok : FOK Try.prog n_l_eqIntS l_eqIntS_sh l_eqIntS_fo l_eqIntS :=
  fn_ok (E := l_eqIntS_E) (l_eqIntS_Eok) (told := l_eqIntS_told) (fl := []) (c := bodyOf fn_l_eqIntS) (s := l_eqIntS_sh) (l := l_eqIntS_fo) (tree := l_eqIntS_t) fnat_l_eqIntS (by kernel_rfl) (by kernel_rfl) (by kernel_rfl) (loopsOK_of (ls := [loopAt (bodyOf fn_l_eqIntS) [0]]) (by kernel_rfl) ⟨.inr ⟨_, by kernel_rfl, l_eqIntS_L4_ok⟩, trivial⟩) (fun v => by kernel_rfl)

theorem l_eqIntS_eq (a b : List Int) (hl : a.length < 4611686018427387904) : l_eqIntS (a, b) = some (decide (a = b)) := by
  by_cases hab : a.length = b.length
  · have h := loop_any (step := fun v => (l_eqIntS_L4_step v).run) (xs := a.zip b) (fun p => p.1 != p.2) (fun k => (a, b, (k : Int))) (.inl false) (.inr ())
      (fun k x hx => by
        have hk := getElem?_lt hx
        rw [List.length_zip, hab, Nat.min_self] at hk
        rw [List.getElem?_zip_eq_some] at hx
        simp only [l_eqIntS_L4_step, T.run, Option.bind_some, Int.toNat_natCast, hx.1, hx.2]
        rw [w64_id (by omega) (by omega)]
        have hka : k < a.length := by omega
        cases x.1 != x.2 <;> simp [hk, hka])
      (by simp [l_eqIntS_L4_step, T.run, hab])
    simp only [l_eqIntS, l_eqIntS_t, T.run, l_eqIntS_L4]
    simp only [Int.natCast_zero] at h
    rw [h, hab]
    have e : (a.zip b).any (fun p => p.1 != p.2) = !decide (a = b) := zip_any_ne a b hab
    rw [e]
    cases decide (a = b) <;> simp
  · simp only [l_eqIntS, l_eqIntS_t, T.run]
    have : a ≠ b := fun e => hab (by rw [e])
    simp [this]
    omega


def l_markIntS_sh : FSh := ⟨[(.one (.rw 0 0)), (.one (.si .i64))], [(.row 0 (.int .i64))]⟩

def l_markIntS_L2_sh : LSh := ⟨(fun ex => match ex with | .norm => [(0, none), (1, none), (5, none)] | .exit i => if i = 0 then [(1, none)] else [] | .ret => [(4, none)]), [(0, (.one (.rw 0 0))), (1, (.one (.si .i64))), (5, (.one (.si .i64)))], [(.row 0 (.int .i64))], [⟨(.exit 0), [(1, (.one (.si .i64)))], [(.row 0 (.int .i64))]⟩]⟩
noncomputable def l_markIntS_L2_step : ((Unit × Int × Int) × List (Int)) → T (((Unit × Int × Int) × List (Int)) ⊕ (Int × List (Int))) := fun (((), k, i), a) =>
  (.test (decide (i < ((List.length a) : Int)))
  (.test (decide ((0 ≤ i) ∧ (i < ((List.length a) : Int))))
   (.sub (a[(0 + (Int.toNat i))]?) fun z0 =>
    (.test (decide ((0 = 0) ∧ ((List.length a) = (List.length (List.set a (0 + (Int.toNat i)) k)))))
    (.ret (Sum.inl (((), ((w64 (k + 1)), (w64 (i + 1)))), (List.set a (0 + (Int.toNat i)) k))))
    .fail))
   .fail)
  (.ret (Sum.inr (k, a))))
noncomputable def l_markIntS_L2 (v : ((Unit × Int × Int) × List (Int))) : Option (Int × List (Int)) := loopO (fun v => (l_markIntS_L2_step v).run) v

def l_markIntS_fo : List FO := [⟨[(.one (.si .i64))], [(.row 0 (.int .i64))]⟩]
noncomputable def l_markIntS_t : ((Unit × Int) × List (Int)) → T (Int × List (Int)) := fun (((), k), a) =>
  (.test (decide ((0 = 0) ∧ ((List.length a) = (List.length a))))
  (.sub (l_markIntS_L2 (((), (k, (0 : Int))), a)) fun z0 =>
   (.ret (z0.1, z0.2)))
  .fail)
noncomputable def l_markIntS (v : ((Unit × Int) × List (Int))) : Option (Int × List (Int)) := (l_markIntS_t v).run
noncomputable def l_markIntS_E : TEnv := E0
theorem l_markIntS_Eok : (l_markIntS_E).OK := E0ok
noncomputable def l_markIntS_told : Nat → Option SealT := fun id => if id = 2 then some (LSh.told l_markIntS_L2_sh 1 (l_markIntS_L2_step)) else none
theorem l_markIntS_L2_ok : ToldOK Try.prog 1 (loopAt (bodyOf fn_l_markIntS) [0]) (LSh.told l_markIntS_L2_sh 1 (l_markIntS_L2_step)) :=
  loop_ok (E := l_markIntS_E) (l_markIntS_Eok) (told := l_markIntS_told) (l := l_markIntS_L2_sh) (step := l_markIntS_L2_step) (loopsOK_of (ls := []) (by kernel_rfl) trivial) (by kernel_rfl) (fun v => by kernel_rfl)
theorem l_markIntS_ok : FOK Try.prog n_l_markIntS l_markIntS_sh l_markIntS_fo l_markIntS :=
  fn_ok (E := l_markIntS_E) (l_markIntS_Eok) (told := l_markIntS_told) (fl := []) (c := bodyOf fn_l_markIntS) (s := l_markIntS_sh) (l := l_markIntS_fo) (tree := l_markIntS_t) fnat_l_markIntS (by kernel_rfl) (by kernel_rfl) (by kernel_rfl) (loopsOK_of (ls := [loopAt (bodyOf fn_l_markIntS) [0]]) (by kernel_rfl) ⟨.inr ⟨_, by kernel_rfl, l_markIntS_L2_ok⟩, trivial⟩) (fun v => by kernel_rfl)

theorem l_markIntS_L2_eq (k : Int) (l : List Int) (hk : 0 ≤ k ∧ k < 1000000000000) (hl : l.length < 1000000000000000) : ∀ n i, i + n = l.length →
    l_markIntS_L2 (((), (k + i, (i : Int))), iot k i ++ l.drop i) = some (k + l.length, iot k l.length) := by
  intro n
  induction n with
  | zero =>
    intro i hi
    obtain rfl : i = l.length := by omega
    rw [List.drop_length, List.append_nil]
    simp only [l_markIntS_L2]
    exact loopO_done (by simp [l_markIntS_L2_step, T.run, iot_len])
  | succ n ih =>
    intro i hi
    have hlt : i < l.length := by omega
    have hd : l.drop i = l[i] :: l.drop (i + 1) := List.drop_eq_getElem_cons hlt
    have hlen : (iot k i ++ l.drop i).length = l.length := by rw [List.length_append, iot_len, List.length_drop]; omega
    have hget : (iot k i ++ l.drop i)[i]? = some l[i] := by
      rw [List.getElem?_append_right (by rw [iot_len]; omega), iot_len, Nat.sub_self, hd]; rfl
    have hset : List.set (iot k i ++ l.drop i) i (k + i) = iot k (i + 1) ++ l.drop (i + 1) := by
      rw [List.set_append_right _ _ (by rw [iot_len]; omega), iot_len, Nat.sub_self, hd, iot_succ, List.append_assoc]; rfl
    simp only [l_markIntS_L2] at ih ⊢
    have hst : (l_markIntS_L2_step (((), (k + i, (i : Int))), iot k i ++ l.drop i)).run = some (.inl (((), (k + (i + 1 : Nat), ((i + 1 : Nat) : Int))), iot k (i + 1) ++ l.drop (i + 1))) := by
      simp only [l_markIntS_L2_step, T.run, hlen, Int.toNat_natCast, Nat.zero_add, hget, Option.bind_some, hset]
      rw [w64_id (z := k + i + 1) (by omega) (by omega), w64_id (z := (i : Int) + 1) (by omega) (by omega)]
      have h1 : (i : Int) < (l.length : Int) := by omega
      have h2 : (0 : Int) ≤ i ∧ (i : Int) < (l.length : Int) := by omega
      simp only [h1, h2, decide_true, if_true]
      have h3 : (iot k (i + 1) ++ l.drop (i + 1)).length = l.length := by rw [List.length_append, iot_len, List.length_drop]; omega
      simp [h3, Int.add_assoc]
    rw [loopO_next hst]
    exact ih (i + 1) (by omega)
theorem l_markIntS_eq (k : Int) (l : List Int) (hk : 0 ≤ k ∧ k < 1000000000000) (hl : l.length < 1000000000000000) : l_markIntS (((), k), l) = some (k + l.length, iot k l.length) := by
  have h := l_markIntS_L2_eq k l hk hl l.length 0 (by omega)
  simp only [l_markIntS, l_markIntS_t, T.run]
  have e : iot k 0 ++ l.drop 0 = l := by simp [iot]
  rw [e, show ((0 : Nat) : Int) = 0 from rfl, Int.add_zero] at h
  simp [h]


def l_heldIntS_sh : FSh := ⟨[(.one (.sl (.int .i64) false false)), (.one (.si .i64))], []⟩

def l_heldIntS_L2_sh : LSh := ⟨(fun ex => match ex with | .norm => [(0, none), (1, none), (5, none)] | .exit i => if i = 0 then [(1, none)] else [] | .ret => [(4, none)]), [(0, (.one (.sl (.int .i64) false false))), (1, (.one (.si .i64))), (5, (.one (.si .i64)))], [], [⟨.ret, [(4, (.one (.si .i64)))], []⟩, ⟨(.exit 0), [(1, (.one (.si .i64)))], []⟩]⟩
noncomputable def l_heldIntS_L2_step : (List (Int) × Int × Int) → T ((List (Int) × Int × Int) ⊕ (Int ⊕ Int)) := fun (a, k, i) =>
  (.test (decide (i < ((List.length a) : Int)))
  (.test (decide ((0 ≤ i) ∧ (i < ((List.length a) : Int))))
   (.sub (a[(Int.toNat i)]?) fun z0 =>
    (.test (z0 != k)
    (.ret (Sum.inr (Sum.inl (-1))))
    (.ret (Sum.inl (a, ((w64 (k + 1)), (w64 (i + 1))))))))
   .fail)
  (.ret (Sum.inr (Sum.inr k))))
noncomputable def l_heldIntS_L2 (v : (List (Int) × Int × Int)) : Option (Int ⊕ Int) := loopO (fun v => (l_heldIntS_L2_step v).run) v

def l_heldIntS_fo : List FO := [⟨[(.one (.si .i64))], []⟩]
noncomputable def l_heldIntS_t : (List (Int) × Int) → T Int := fun (a, k) =>
  (.sub (l_heldIntS_L2 (a, (k, (0 : Int)))) fun z0 =>
  (.test (Sum.isLeft z0)
  (.sub (Sum.getLeft? z0) fun z1 =>
   (.ret z1))
  (.sub (Sum.getRight? z0) fun z2 =>
   (.ret z2))))
noncomputable def l_heldIntS (v : (List (Int) × Int)) : Option Int := (l_heldIntS_t v).run
noncomputable def l_heldIntS_E : TEnv := E0
theorem l_heldIntS_Eok : (l_heldIntS_E).OK := E0ok
noncomputable def l_heldIntS_told : Nat → Option SealT := fun id => if id = 2 then some (LSh.told l_heldIntS_L2_sh 0 (l_heldIntS_L2_step)) else none
theorem l_heldIntS_L2_ok : ToldOK Try.prog 0 (loopAt (bodyOf fn_l_heldIntS) [0]) (LSh.told l_heldIntS_L2_sh 0 (l_heldIntS_L2_step)) :=
  loop_ok (E := l_heldIntS_E) (l_heldIntS_Eok) (told := l_heldIntS_told) (l := l_heldIntS_L2_sh) (step := l_heldIntS_L2_step) (loopsOK_of (ls := []) (by kernel_rfl) trivial) (by kernel_rfl) (fun v => by kernel_rfl)
theorem l_heldIntS_ok : FOK Try.prog n_l_heldIntS l_heldIntS_sh l_heldIntS_fo l_heldIntS :=
  fn_ok (E := l_heldIntS_E) (l_heldIntS_Eok) (told := l_heldIntS_told) (fl := []) (c := bodyOf fn_l_heldIntS) (s := l_heldIntS_sh) (l := l_heldIntS_fo) (tree := l_heldIntS_t) fnat_l_heldIntS (by kernel_rfl) (by kernel_rfl) (by kernel_rfl) (loopsOK_of (ls := [loopAt (bodyOf fn_l_heldIntS) [0]]) (by kernel_rfl) ⟨.inr ⟨_, by kernel_rfl, l_heldIntS_L2_ok⟩, trivial⟩) (fun v => by kernel_rfl)

theorem l_heldIntS_eq (k : Int) (n : Nat) (hk : 0 ≤ k ∧ k < 1000000000000) (hl : n < 1000000000000000) : l_heldIntS (iot k n, k) = some (k + n) := by
  have h := loop_count (step := fun v => (l_heldIntS_L2_step v).run) (n := n) (fun i (_ : Unit) => (iot k n, (k + (i : Int), (i : Int)))) (fun _ _ => Sum.inl ()) (fun _ => Sum.inr (k + (n : Int)))
    (by
      intro i s hi
      simp only [l_heldIntS_L2_step, T.run, iot_len, Int.toNat_natCast, iot_get k hi, Option.bind_some]
      rw [w64_id (z := k + i + 1) (by omega) (by omega), w64_id (z := (i : Int) + 1) (by omega) (by omega)]
      have h1 : (i : Int) < (n : Int) := by omega
      have h2 : (0 : Int) ≤ i ∧ (i : Int) < (n : Int) := by omega
      simp [h1, h2, Int.add_assoc])
    (by intro s; simp [l_heldIntS_L2_step, T.run, iot_len]) 0 () (Nat.zero_le _)
  rw [show ((0 : Nat) : Int) = 0 from rfl, Int.add_zero] at h
  have hf : ∀ l : List Nat, forE (fun (_ : Unit) (_ : Nat) => (Sum.inl () : Unit ⊕ (Int ⊕ Int))) (fun _ => Sum.inr (k + (n : Int))) l () = Sum.inr (k + (n : Int)) := by
    intro l
    induction l with
    | nil => rfl
    | cons x t ih => rw [forE_cons]; exact ih
  rw [hf] at h
  simp only [l_heldIntS, l_heldIntS_t, T.run, l_heldIntS_L2]
  rw [h]
  simp [Sum.isLeft]


def l_FnExactPutOne_sh : FSh := ⟨[(.one (.sl (.int .i64) false false)), (.one (.si .i64))], []⟩

def l_FnExactPutOne_fo : List FO := [⟨[(.one .sb)], []⟩]
noncomputable def l_FnExactPutOne_t : (List (Int) × Int) → T Bool := fun (aList, aAt) =>
  (.test (decide (((List.length aList) : Int) > 1048576))
  (.ret true)
  (.sub (l_toIntS aList) fun z0 =>
   (.test (decide ((0 + (List.length z0.2)) ≤ (List.length z0.2)))
   (.sub (s_PutOne ((win z0.2 0 (List.length z0.2)), aAt)) fun z1 =>
    (.sub (l_toIntS aList) fun z2 =>
    (.test (decide ((0 + (List.length z2.2)) ≤ (List.length z2.2)))
    (.sub (i_PutOne ((win z2.2 0 (List.length z2.2)), aAt)) fun z3 =>
     (.test (decide ((0 + (List.length z3.2)) ≤ (List.length z3.2)))
     (.test (decide ((0 + (List.length z1.2)) ≤ (List.length z1.2)))
      (.sub (l_eqIntS ((win z3.2 0 (List.length z3.2)), (win z1.2 0 (List.length z1.2)))) fun z4 =>
       (.test (! z4)
       (.ret false)
       (.test (! (z3.1.2 == z1.1.2))
        (.ret false)
        (.sub (l_toIntS aList) fun z5 =>
         (.test (decide ((0 + (List.length z2.2)) ≤ (List.length z2.2)))
         (.test (decide ((0 + (List.length z5.2)) ≤ (List.length z5.2)))
          (.sub (l_eqIntS ((win z2.2 0 (List.length z2.2)), (win z5.2 0 (List.length z5.2)))) fun z6 =>
           (.test (! z6)
           (.ret false)
           (.test (decide ((0 = 0) ∧ ((List.length z2.2) = (List.length z2.2))))
            (.sub (l_markIntS (((), (1 : Int)), z2.2)) fun z7 =>
             (.test (decide (z7.1 < 0))
             (.ret false)
             (.test (decide ((0 + (List.length z3.2)) ≤ (List.length z3.2)))
              (.test (decide ((0 + (List.length z1.2)) ≤ (List.length z1.2)))
               (.sub (l_eqIntS ((win z3.2 0 (List.length z3.2)), (win z1.2 0 (List.length z1.2)))) fun z8 =>
                (.test (! z8)
                (.ret false)
                (.test (! (z3.1.2 == z1.1.2))
                 (.ret false)
                 (.test (decide ((0 = 0) ∧ ((List.length z3.2) = (List.length z3.2))))
                  (.sub (l_markIntS (((), (1 : Int)), z3.2)) fun z9 =>
                   (.test (decide ((0 + (List.length z3.2)) ≤ (List.length z9.2)))
                   (.sub (l_heldIntS ((win z9.2 0 (List.length z3.2)), (1 : Int))) fun z10 =>
                    (.test (decide (z10 < 0))
                    (.ret false)
                    (.test (z10 != z9.1)
                     (.ret false)
                     (.sub (l_toIntS aList) fun z11 =>
                      (.test (decide ((0 + (List.length z11.2)) ≤ (List.length z11.2)))
                      (.sub (i_PutOne ((win z11.2 0 (List.length z11.2)), aAt)) fun z12 =>
                       (.test (decide ((0 + (List.length z12.2)) ≤ (List.length z12.2)))
                       (.test (decide ((0 + (List.length z1.2)) ≤ (List.length z1.2)))
                        (.sub (l_eqIntS ((win z12.2 0 (List.length z12.2)), (win z1.2 0 (List.length z1.2)))) fun z13 =>
                         (.test (! z13)
                         (.ret false)
                         (.test (! (z12.1.2 == z1.1.2))
                          (.ret false)
                          (.test (decide ((0 + (List.length z3.2)) ≤ (List.length z9.2)))
                           (.sub (l_heldIntS ((win z9.2 0 (List.length z3.2)), (1 : Int))) fun z14 =>
                            (.test (decide (z14 < 0))
                            (.ret false)
                            (.test (z14 != z9.1)
                             (.ret false)
                             (.ret true))))
                           .fail))))
                        .fail)
                       .fail))
                      .fail)))))
                   .fail))
                  .fail))))
               .fail)
              .fail)))
            .fail)))
          .fail)
         .fail)))))
      .fail)
     .fail))
    .fail)))
   .fail)))
noncomputable def l_FnExactPutOne (v : (List (Int) × Int)) : Option Bool := (l_FnExactPutOne_t v).run
noncomputable def l_FnExactPutOne_E : TEnv := ((((((E0.add1 n_l_toIntS l_toIntS_sh l_toIntS_fo l_toIntS).add1 n_s_PutOne s_PutOne_sh s_PutOne_fo s_PutOne).add1 n_i_PutOne i_PutOne_sh i_PutOne_fo i_PutOne).add1 n_l_eqIntS l_eqIntS_sh l_eqIntS_fo l_eqIntS).add1 n_l_markIntS l_markIntS_sh l_markIntS_fo l_markIntS).add1 n_l_heldIntS l_heldIntS_sh l_heldIntS_fo l_heldIntS)
theorem l_FnExactPutOne_Eok : (l_FnExactPutOne_E).OK := ((((((E0ok.add1 l_toIntS_ok).add1 s_PutOne_ok).add1 i_PutOne_ok).add1 l_eqIntS_ok).add1 l_markIntS_ok).add1 l_heldIntS_ok)
noncomputable def l_FnExactPutOne_told : Nat → Option SealT := fun id => none
theorem l_FnExactPutOne_ok : FOK Try.prog n_l_FnExactPutOne l_FnExactPutOne_sh l_FnExactPutOne_fo l_FnExactPutOne :=
  fn_ok (E := l_FnExactPutOne_E) (l_FnExactPutOne_Eok) (told := l_FnExactPutOne_told) (fl := []) (c := bodyOf fn_l_FnExactPutOne) (s := l_FnExactPutOne_sh) (l := l_FnExactPutOne_fo) (tree := l_FnExactPutOne_t) fnat_l_FnExactPutOne (by kernel_rfl) (by kernel_rfl) (by kernel_rfl) (loopsOK_of (ls := []) (by kernel_rfl) trivial) (fun v => by kernel_rfl)

theorem l_FnExactPutOne_true (v : List Int × Int) (hs : smallL ASh.small [.one (.sl (.int .i64) false false), .one (.si .i64)] v) : l_FnExactPutOne v = some true := by
  obtain ⟨l, at'⟩ := v
  have hl : l.length < 4611686018427387904 := Nat.lt_trans (m := 140737488355328) hs.1.1 (by decide)
  obtain ⟨⟨ok, r⟩, hr, h1, h2⟩ := put_both l at' hl
  simp only at hr h1 h2
  rw [l_FnExactPutOne, l_FnExactPutOne_t, T.run_test]
  simp only [decide_eq_true_eq]
  split
  · rfl
  · have h : l.length < 10000000000000 := by omega
    have hl1 : r.length < 4611686018427387904 := by omega
    have hm := l_markIntS_eq 1 r (by omega) (by omega)
    have hml := l_markIntS_eq 1 l (by omega) (by omega)
    have hh := l_heldIntS_eq 1 r.length (by omega) (by omega)
    have hw : win (iot 1 r.length) 0 r.length = iot 1 r.length := by have := win_all (iot 1 r.length); rwa [iot_len] at this
    have hx : ¬ ((1 : Int) + r.length < 0) := by omega
    have hx2 : ¬ ((1 : Int) + l.length < 0) := by omega
    simp (config := { maxSteps := 10000000 }) [T.run, l_toIntS_eq l h, win_all, h1, h2, l_eqIntS_eq r r hl1, l_eqIntS_eq l l hl, hm, hml, iot_len, hw, hh, hx, hx2]


end Go.Proofs.W
