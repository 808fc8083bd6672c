/- Functions of the program, walked, and what they compute. -/
import Derived.Test.YtcpjedchcfpbdaaTcWk1
set_option linter.unusedVariables false
set_option linter.unusedSimpArgs false
set_option maxRecDepth 100000
set_option maxHeartbeats 4000000
namespace Go.Proofs.W
open Go Go.Gm Go.Proofs
open Go.RowKit Go.Shelf
def i_ReduceOnes_sh : FSh := ⟨[(.one (.sl (.int .i64) false false))], []⟩

def i_ReduceOnes_L4_sh : LSh := ⟨(fun ex => match ex with | .norm => [(4, none)] | .exit i => if i = 0 then [(4, none)] else [] | .ret => [(2, none), (3, none)]), [(4, (.one (.rw 0 0)))], [(.row 0 (.int .i64))], [⟨(.exit 0), [(4, (.one (.rw 0 0)))], [(.row 0 (.int .i64))]⟩, ⟨.ret, [(2, (.one (.rw 0 0))), (3, (.one .sb))], [(.row 0 (.int .i64))]⟩], [], []⟩
noncomputable def i_ReduceOnes_L4_step : (Unit × List (Int)) → T ((Unit × List (Int)) ⊕ ((Unit × List (Int)) ⊕ ((Unit × Bool) × List (Int)))) := fun ((), out) =>
  (.test (decide (((List.length out) : Int) > 2))
  (.test true
   (.test (decide (0 ≤ (w64 (((List.length out) : Int) - 1))))
    (.test (decide ((1 ≤ (Int.toNat (w64 (((List.length out) : Int) - 1)))) ∧ ((Int.toNat (w64 (((List.length out) : Int) - 1))) ≤ (List.length out))))
     (.test (decide ((1 + ((Int.toNat (w64 (((List.length out) : Int) - 1))) - 1)) ≤ (List.length out)))
      (.sub (slices_Index_int ((win out 1 ((Int.toNat (w64 (((List.length out) : Int) - 1))) - 1)), (1 : Int))) fun z0 =>
       (.test (decide (z0 < 0))
       (.test (decide ((0 = 0) ∧ ((List.length out) = (List.length out))))
        (.ret (Sum.inr (Sum.inl ((), out))))
        .fail)
       (.test (decide ((0 + (List.length out)) ≤ (List.length out)))
        (.sub (i_takeOne ((win out 0 (List.length out)), (w64 (z0 + 1)))) fun z1 =>
         (.test (! z1.1.2)
         (.test true
          (.ret (Sum.inr (Sum.inr (((), false), ([] : List (Int))))))
          .fail)
         (.test (decide ((0 = 0) ∧ ((List.length z1.2) = (List.length z1.2))))
          (.ret (Sum.inl ((), z1.2)))
          .fail)))
        .fail)))
      .fail)
     .fail)
    .fail)
   .fail)
  (.test (decide ((0 = 0) ∧ ((List.length out) = (List.length out))))
   (.ret (Sum.inr (Sum.inl ((), out))))
   .fail))
noncomputable def i_ReduceOnes_L4 (v : (Unit × List (Int))) : Option ((Unit × List (Int)) ⊕ ((Unit × Bool) × List (Int))) := loopO (fun v => (i_ReduceOnes_L4_step v).run) v

def i_ReduceOnes_fo : List FO := [⟨[(.one (.rw 0 0)), (.one .sb)], [(.row 0 (.int .i64))]⟩]
noncomputable def i_ReduceOnes_t : List (Int) → T ((Unit × Bool) × List (Int)) := fun list =>
  (.sub (i_IsTermList list) fun z0 =>
  (.test (! z0)
  (.test true
   (.ret (((), false), ([] : List (Int))))
   .fail)
  (.sub (slices_Clone_int list) fun z1 =>
   (.test (decide ((0 = 0) ∧ ((List.length z1.2) = (List.length z1.2))))
   (.sub (i_ReduceOnes_L4 ((), z1.2)) fun z2 =>
    (.test (Sum.isLeft z2)
    (.sub (Sum.getLeft? z2) fun z3 =>
     (.test (decide ((0 = 0) ∧ ((List.length z3.2) = (List.length z3.2))))
     (.ret (((), true), z3.2))
     .fail))
    (.sub (Sum.getRight? z2) fun z4 =>
     (.test (decide ((0 = 0) ∧ ((List.length z4.2) = (List.length z4.2))))
     (.ret (((), z4.1.2), z4.2))
     .fail))))
   .fail))))
noncomputable def i_ReduceOnes (v : List (Int)) : Option ((Unit × Bool) × List (Int)) := (i_ReduceOnes_t v).run
noncomputable def i_ReduceOnes_E : TEnv := ((((E0.add1 n_i_IsTermList i_IsTermList_sh i_IsTermList_fo i_IsTermList).add1 n_slices_Clone_int slices_Clone_int_sh slices_Clone_int_fo slices_Clone_int).add1 n_slices_Index_int slices_Index_int_sh slices_Index_int_fo slices_Index_int).add1 n_i_takeOne i_takeOne_sh i_takeOne_fo i_takeOne)
theorem i_ReduceOnes_Eok : (i_ReduceOnes_E).OK := ((((E0ok.add1 i_IsTermList_ok).add1 slices_Clone_int_ok).add1 slices_Index_int_ok).add1 i_takeOne_ok)
noncomputable def i_ReduceOnes_told : Nat → Option SealT := fun id => if id = 4 then some (LSh.told i_ReduceOnes_L4_sh 0 (i_ReduceOnes_L4_step)) else none
theorem i_ReduceOnes_L4_ok : ToldOK Try.prog 0 (loopAt (bodyOf fn_i_ReduceOnes) [0]) (LSh.told i_ReduceOnes_L4_sh 0 (i_ReduceOnes_L4_step)) :=
  loop_ok (E := i_ReduceOnes_E) (i_ReduceOnes_Eok) (told := i_ReduceOnes_told) (l := i_ReduceOnes_L4_sh) (step := i_ReduceOnes_L4_step) (loopsOK_of (ls := []) (by kernel_rfl) trivial) (by kernel_rfl) (fun v => by kernel_rfl)
theorem i_ReduceOnes_ok : FOK Try.prog n_i_ReduceOnes i_ReduceOnes_sh i_ReduceOnes_fo i_ReduceOnes :=
  fn_ok (E := i_ReduceOnes_E) (i_ReduceOnes_Eok) (told := i_ReduceOnes_told) (fl := []) (c := bodyOf fn_i_ReduceOnes) (s := i_ReduceOnes_sh) (l := i_ReduceOnes_fo) (tree := i_ReduceOnes_t) fnat_i_ReduceOnes (by kernel_rfl) (by kernel_rfl) (by kernel_rfl) (loopsOK_of (ls := [loopAt (bodyOf fn_i_ReduceOnes) [0]]) (by kernel_rfl) ⟨.inr ⟨_, by kernel_rfl, i_ReduceOnes_L4_ok⟩, trivial⟩) (fun v => by kernel_rfl)

theorem reduce_both : ∀ (n : Nat) (out : List Int), out.length = n → isTerms out = true →
    ∃ r : Bool × List Int, r.2.length ≤ 10 ∧ i_ReduceOnes_L4 ((), out) = some (if r.1 then .inl ((), r.2) else .inr (((), false), [])) ∧
      s_ReduceOnes_L5 (((), (1 : Int)), out) = some (if r.1 then .inr ((), r.2) else .inl (((), false), [])) ∧ (r.1 = false → r.2 = []) := by
  intro n
  induction n using Nat.strongRecOn with
  | ind n ih =>
    intro out hn ht
    have ht' := isTerms_iff.1 ht
    by_cases h2 : out.length ≤ 2
    · refine ⟨(true, out), ht'.1, ?_, ?_, by simp⟩
      · simp only [i_ReduceOnes_L4]
        have : ¬ ((out.length : Int) > 2) := by omega
        exact loopO_done (by simp only [i_ReduceOnes_L4_step, T.run, this]; simp)
      · simp only [s_ReduceOnes_L5]
        have : ¬ (w64 ((1 : Int) + 1) < (out.length : Int)) := by rw [w64_id (by omega) (by omega)]; omega
        exact loopO_done (by simp only [s_ReduceOnes_L5_step, T.run, this]; simp)
    · have g2 : (out.length : Int) > 2 := by omega
      have w1 : w64 ((out.length : Int) - 1) = ((out.length - 1 : Nat) : Int) := by rw [w64_id (by omega) (by omega)]; omega
      have c1 : (0 : Int) ≤ ((out.length - 1 : Nat) : Int) := by omega
      have c2 : 1 ≤ out.length - 1 ∧ out.length - 1 ≤ out.length := by omega
      have c3 : 1 + (out.length - 1 - 1) ≤ out.length := by omega
      have hml : (win out 1 (out.length - 1 - 1)).length = out.length - 2 := by unfold win; simp; omega
      have hidx := slices_Index_int_eq (win out 1 (out.length - 1 - 1)) 1 (by omega)
      have hget : ∀ t, t < out.length - 2 → (win out 1 (out.length - 1 - 1))[t]? = out[t + 1]? := by
        intro t h
        unfold win
        rw [List.getElem?_take, if_pos (by omega), List.getElem?_drop, Nat.add_comm]
      cases hf : (win out 1 (out.length - 1 - 1)).findIdx? (fun x => (1 : Int) == x) with
      | none =>
        have hi : idxI (fun x => (1 : Int) == x) (win out 1 (out.length - 1 - 1)) = -1 := by unfold idxI; rw [hf]
        refine ⟨(true, out), ht'.1, ?_, ?_, by simp⟩
        · simp only [i_ReduceOnes_L4]
          exact loopO_done (by simp only [i_ReduceOnes_L4_step, T.run, g2, w1, c1, c2, c3, Int.toNat_natCast, hidx, hi, decide_true, if_true, Option.bind_some, and_self]; simp)
        · have hno : ∀ t (h : t < out.length), 1 ≤ t → t < out.length - 1 → out[t] ≠ 1 := by
            intro t h a b e
            rw [List.findIdx?_eq_none_iff] at hf
            have hm := hget (t - 1) (by omega)
            rw [show t - 1 + 1 = t by omega, List.getElem?_eq_getElem h] at hm
            have := hf _ (List.mem_of_getElem? hm)
            rw [e] at this
            simp at this
          rw [reduce_scan out ht'.1 (out.length - 1) (by omega) hno (by omega)]
          simp only [s_ReduceOnes_L5]
          have : ¬ (w64 (((out.length - 1 : Nat) : Int) + 1) < (out.length : Int)) := by rw [w64_id (by omega) (by omega)]; omega
          exact loopO_done (by simp only [s_ReduceOnes_L5_step, T.run, this]; simp)
      | some p =>
        obtain ⟨hp, hp1, hp2⟩ := List.findIdx?_eq_some_iff_getElem.1 hf
        have hi : idxI (fun x => (1 : Int) == x) (win out 1 (out.length - 1 - 1)) = (p : Int) := by unfold idxI; rw [hf]
        have hpl : p < out.length - 2 := by omega
        have hno : ∀ t (h : t < out.length), 1 ≤ t → t < p + 1 → out[t] ≠ 1 := by
          intro t h a b e
          have hj := hp2 (t - 1) (by omega)
          have hm := hget (t - 1) (by omega)
          rw [show t - 1 + 1 = t by omega, List.getElem?_eq_getElem h, List.getElem?_eq_getElem (by omega)] at hm
          simp only [Option.some.injEq] at hm
          rw [hm, e] at hj
          simp at hj
        have hmid : out[p + 1]? = some 1 := by
          have hm := hget p hpl
          rw [List.getElem?_eq_getElem hp] at hm
          have := (beq_iff_eq).1 hp1
          rw [← this] at hm
          exact hm.symm
        obtain ⟨L, x, m, y, R, e, hL⟩ := at_split out p (by omega)
        subst hL
        have hm1 : m = 1 := by
          rw [e, at_get1] at hmid
          exact Option.some.inj hmid
        subst hm1
        have hx := ht'.2 x (by rw [e]; simp)
        have hy := ht'.2 y (by rw [e]; simp)
        have hlen : out.length = L.length + R.length + 3 := by rw [e]; simp; omega
        have it := i_takeOne_eq L x 1 y R ((L.length : Int) + 1) rfl (by rw [← e]; omega) (by omega) (by omega)
        have st := s_ctTake_eq L x 1 y R ((L.length : Int) + 1) rfl (by rw [← e]; omega) (by omega) (by omega)
        rw [← e] at it st
        have wi : w64 ((L.length : Int) + 1) = (L.length : Int) + 1 := w64_id (by omega) (by omega)
        have ci : ¬ ((L.length : Int) < 0) := by omega
        have sc := reduce_scan out ht'.1 (L.length + 1) (by omega) hno (by omega)
        have ws : w64 (((L.length + 1 : Nat) : Int) + 1) = ((L.length + 2 : Nat) : Int) := by rw [w64_id (by omega) (by omega)]; omega
        have cs1 : ((L.length + 2 : Nat) : Int) < (out.length : Int) := by omega
        have cs2 : (0 : Int) ≤ ((L.length + 1 : Nat) : Int) ∧ ((L.length + 1 : Nat) : Int) < (out.length : Int) := by omega
        have cs3 : ((L.length + 1 : Nat) : Int) = (L.length : Int) + 1 := by omega
        have stI : (i_ReduceOnes_L4_step ((), out)).run = some (if isTerms (L ++ (x - 1) :: (y - 1) :: R) then .inl ((), L ++ (x - 1) :: (y - 1) :: R) else .inr (.inr (((), false), []))) := by
          simp only [i_ReduceOnes_L4_step, T.run, g2, w1, c1, c2, c3, Int.toNat_natCast, hidx, hi, decide_true, if_true, Option.bind_some, and_self, ci, decide_false, Bool.false_eq_true, if_false, wi, win_all, it, Nat.zero_add, Nat.le_refl]
          cases isTerms (L ++ (x - 1) :: (y - 1) :: R) <;> simp
        have stS : (s_ReduceOnes_L5_step (((), ((L.length + 1 : Nat) : Int)), out)).run = some (if isTerms (L ++ (x - 1) :: (y - 1) :: R) then .inl (((), (1 : Int)), L ++ (x - 1) :: (y - 1) :: R) else .inr (.inl (((), false), []))) := by
          simp only [s_ReduceOnes_L5_step, T.run, ws, cs1, cs2, decide_true, if_true, and_self, Int.toNat_natCast, Nat.zero_add, hmid, Option.bind_some, win_all, Nat.le_refl]
          rw [cs3, st]
          simp only [Option.bind_some]
          cases isTerms (L ++ (x - 1) :: (y - 1) :: R) <;> simp
        rw [sc]
        simp only [i_ReduceOnes_L4, s_ReduceOnes_L5] at ih ⊢
        cases hr : isTerms (L ++ (x - 1) :: (y - 1) :: R) with
        | true =>
          rw [hr] at stI stS
          obtain ⟨r, r1, r2, r3, r4⟩ := ih (L ++ (x - 1) :: (y - 1) :: R).length (by simp; omega) _ rfl hr
          exact ⟨r, r1, by rw [loopO_next stI]; exact r2, by rw [loopO_next stS]; exact r3, r4⟩
        | false =>
          rw [hr] at stI stS
          exact ⟨(false, []), by simp, loopO_done stI, loopO_done stS, fun _ => rfl⟩
theorem reduce_ones (l : List Int) (hl : l.length < 4611686018427387904) : ∃ r : Bool × List Int, r.2.length ≤ 10 ∧ i_ReduceOnes l = some (((), r.1), r.2) ∧ s_ReduceOnes l = some (((), r.1), r.2) := by
  simp only [i_ReduceOnes, i_ReduceOnes_t, s_ReduceOnes, s_ReduceOnes_t, T.run, i_IsTermList_eq l hl, s_ctGood_eq l hl, Option.bind_some]
  cases ht : isTerms l with
  | false => exact ⟨(false, []), by simp, by simp, by simp⟩
  | true =>
    have ht' := isTerms_iff.1 ht
    have hc : slices_Clone_int l = some ((), l) := by
      unfold slices_Clone_int
      rw [if_pos]
      exact ⟨by unfold maxLen; omega, by omega⟩
    have ho := s_l1Own_eq l (by omega)
    obtain ⟨⟨ok, r⟩, r1, r2, r3, r4⟩ := reduce_both l.length l rfl ht
    refine ⟨(ok, r), r1, ?_, ?_⟩
    · simp only [Bool.not_true, Bool.false_eq_true, if_false, hc, Option.bind_some, r2]
      cases ok with
      | true => simp [Sum.isLeft]
      | false => have e : r = [] := r4 rfl
                 subst e; simp [Sum.isLeft]
    · simp only [Bool.not_true, Bool.false_eq_true, if_false, ho, Option.bind_some, r3]
      cases ok with
      | true => simp [Sum.isLeft]
      | false => have e : r = [] := r4 rfl
                 subst e; simp [Sum.isLeft]


def s_ctPositive_sh : FSh := ⟨[(.one (.sl (.int .i64) false false))], []⟩

def s_ctPositive_fo : List FO := [⟨[(.one .sb)], []⟩]
noncomputable def s_ctPositive_t : List (Int) → T Bool := fun list =>
  (.sub (s_ctGood list) fun z0 =>
  (.test z0
  (.test (decide (((List.length list) : Int) > 0))
   (.sub (s_l1All (list, ((1 : Int), (30 : Int)))) fun z1 =>
    (.ret z1))
   (.ret false))
  (.ret false)))
noncomputable def s_ctPositive (v : List (Int)) : Option Bool := (s_ctPositive_t v).run
noncomputable def s_ctPositive_E : TEnv := ((E0.add1 n_s_ctGood s_ctGood_sh s_ctGood_fo s_ctGood).add1 n_s_l1All s_l1All_sh s_l1All_fo s_l1All)
theorem s_ctPositive_Eok : (s_ctPositive_E).OK := ((E0ok.add1 s_ctGood_ok).add1 s_l1All_ok)
noncomputable def s_ctPositive_told : Nat → Option SealT := fun id => none
theorem s_ctPositive_ok : FOK Try.prog n_s_ctPositive s_ctPositive_sh s_ctPositive_fo s_ctPositive :=
  fn_ok (E := s_ctPositive_E) (s_ctPositive_Eok) (told := s_ctPositive_told) (fl := []) (c := bodyOf fn_s_ctPositive) (s := s_ctPositive_sh) (l := s_ctPositive_fo) (tree := s_ctPositive_t) fnat_s_ctPositive (by kernel_rfl) (by kernel_rfl) (by kernel_rfl) (loopsOK_of (ls := []) (by kernel_rfl) trivial) (fun v => by kernel_rfl)

theorem s_ctPositive_eq (l : List Int) (hl : l.length < 4611686018427387904) : s_ctPositive l = some (posT l) := by
  simp only [s_ctPositive, s_ctPositive_t, T.run, s_ctGood_eq l hl, s_l1All_eq l _ _ hl, Option.bind_some, posT]
  have : decide ((l.length : Int) > 0) = decide (l ≠ []) := by cases l <;> simp
  rw [this]
  cases isTerms l <;> by_cases h : l = [] <;> simp [h]


def s_ctFraction_sh : FSh := ⟨[(.one (.sl (.int .i64) false false)), (.one (.si .i64))], []⟩

def s_ctFraction_L3_sh : LSh := ⟨(fun ex => match ex with | .norm => [(0, none), (1, none), (7, none), (8, none), (9, none)] | .exit i => if i = 0 then [(7, none), (8, none)] else [] | .ret => [(4, none), (5, none), (6, none)]), [(0, (.one (.sl (.int .i64) false false))), (1, (.one (.si .i64))), (7, (.one (.si .i64))), (8, (.one (.si .i64))), (9, (.one (.si .i64)))], [], [⟨.ret, [(4, (.one (.si .i64))), (5, (.one (.si .i64))), (6, (.one .sb))], []⟩, ⟨(.exit 0), [(7, (.one (.si .i64))), (8, (.one (.si .i64)))], []⟩], [], []⟩
noncomputable def s_ctFraction_L3_step : (List (Int) × Int × Int × Int × Int) → T ((List (Int) × Int × Int × Int × Int) ⊕ ((Int × Int × Bool) ⊕ (Int × Int))) := fun (list, sign, num, den, i) =>
  (.test (decide (i ≥ 0))
  (.test (num == 0)
   (.ret (Sum.inr (Sum.inl ((0 : Int), ((0 : Int), false)))))
   (.test (decide ((0 ≤ i) ∧ (i < ((List.length list) : Int))))
    (.sub (list[(Int.toNat i)]?) fun z0 =>
     (.test (decide (num < 0))
     (.ret (Sum.inl (list, (sign, ((w64 (0 - (w64 ((w64 (z0 * num)) + (w64 (sign * den)))))), ((w64 (0 - num)), (w64 (i - 1))))))))
     (.ret (Sum.inl (list, (sign, ((w64 ((w64 (z0 * num)) + (w64 (sign * den)))), (num, (w64 (i - 1))))))))))
    .fail))
  (.ret (Sum.inr (Sum.inr (num, den)))))
noncomputable def s_ctFraction_L3 (v : (List (Int) × Int × Int × Int × Int)) : Option ((Int × Int × Bool) ⊕ (Int × Int)) := loopO (fun v => (s_ctFraction_L3_step v).run) v

def s_ctFraction_fo : List FO := [⟨[(.one (.si .i64)), (.one (.si .i64)), (.one .sb)], []⟩]
noncomputable def s_ctFraction_t : (List (Int) × Int) → T (Int × Int × Bool) := fun (list, sign) =>
  (.test (decide ((0 ≤ (w64 (((List.length list) : Int) - 1))) ∧ ((w64 (((List.length list) : Int) - 1)) < ((List.length list) : Int))))
  (.sub (list[(Int.toNat (w64 (((List.length list) : Int) - 1)))]?) fun z0 =>
   (.sub (s_ctFraction_L3 (list, (sign, (z0, ((1 : Int), (w64 (((List.length list) : Int) - 2))))))) fun z1 =>
   (.test (Sum.isLeft z1)
   (.sub (Sum.getLeft? z1) fun z2 =>
    (.ret (z2.1, (z2.2.1, z2.2.2))))
   (.sub (Sum.getRight? z1) fun z3 =>
    (.ret (z3.1, (z3.2, true)))))))
  .fail)
noncomputable def s_ctFraction (v : (List (Int) × Int)) : Option (Int × Int × Bool) := (s_ctFraction_t v).run
noncomputable def s_ctFraction_E : TEnv := E0
theorem s_ctFraction_Eok : (s_ctFraction_E).OK := E0ok
noncomputable def s_ctFraction_told : Nat → Option SealT := fun id => if id = 3 then some (LSh.told s_ctFraction_L3_sh 0 (s_ctFraction_L3_step)) else none
theorem s_ctFraction_L3_ok : ToldOK Try.prog 0 (loopAt (bodyOf fn_s_ctFraction) [0]) (LSh.told s_ctFraction_L3_sh 0 (s_ctFraction_L3_step)) :=
  loop_ok (E := s_ctFraction_E) (s_ctFraction_Eok) (told := s_ctFraction_told) (l := s_ctFraction_L3_sh) (step := s_ctFraction_L3_step) (loopsOK_of (ls := []) (by kernel_rfl) trivial) (by kernel_rfl) (fun v => by kernel_rfl)
theorem s_ctFraction_ok : FOK Try.prog n_s_ctFraction s_ctFraction_sh s_ctFraction_fo s_ctFraction :=
  fn_ok (E := s_ctFraction_E) (s_ctFraction_Eok) (told := s_ctFraction_told) (fl := []) (c := bodyOf fn_s_ctFraction) (s := s_ctFraction_sh) (l := s_ctFraction_fo) (tree := s_ctFraction_t) fnat_s_ctFraction (by kernel_rfl) (by kernel_rfl) (by kernel_rfl) (loopsOK_of (ls := [loopAt (bodyOf fn_s_ctFraction) [0]]) (by kernel_rfl) ⟨.inr ⟨_, by kernel_rfl, s_ctFraction_L3_ok⟩, trivial⟩) (fun v => by kernel_rfl)

def s_FractionOfPlus_sh : FSh := ⟨[(.one (.sl (.int .i64) false false))], []⟩

def s_FractionOfPlus_fo : List FO := [⟨[(.one (.si .i64)), (.one (.si .i64)), (.one .sb)], []⟩]
noncomputable def s_FractionOfPlus_t : List (Int) → T (Int × Int × Bool) := fun list =>
  (.sub (s_ctPositive list) fun z0 =>
  (.test (! z0)
  (.ret ((0 : Int), ((0 : Int), false)))
  (.sub (s_ctFraction (list, (1 : Int))) fun z1 =>
   (.ret (z1.1, (z1.2.1, z1.2.2))))))
noncomputable def s_FractionOfPlus (v : List (Int)) : Option (Int × Int × Bool) := (s_FractionOfPlus_t v).run
noncomputable def s_FractionOfPlus_E : TEnv := ((E0.add1 n_s_ctPositive s_ctPositive_sh s_ctPositive_fo s_ctPositive).add1 n_s_ctFraction s_ctFraction_sh s_ctFraction_fo s_ctFraction)
theorem s_FractionOfPlus_Eok : (s_FractionOfPlus_E).OK := ((E0ok.add1 s_ctPositive_ok).add1 s_ctFraction_ok)
noncomputable def s_FractionOfPlus_told : Nat → Option SealT := fun id => none
theorem s_FractionOfPlus_ok : FOK Try.prog n_s_FractionOfPlus s_FractionOfPlus_sh s_FractionOfPlus_fo s_FractionOfPlus :=
  fn_ok (E := s_FractionOfPlus_E) (s_FractionOfPlus_Eok) (told := s_FractionOfPlus_told) (fl := []) (c := bodyOf fn_s_FractionOfPlus) (s := s_FractionOfPlus_sh) (l := s_FractionOfPlus_fo) (tree := s_FractionOfPlus_t) fnat_s_FractionOfPlus (by kernel_rfl) (by kernel_rfl) (by kernel_rfl) (loopsOK_of (ls := []) (by kernel_rfl) trivial) (fun v => by kernel_rfl)

def s_ctPair_sh : FSh := ⟨[(.one (.si .i64)), (.one (.si .i64))], []⟩

def s_ctPair_L3_sh : LSh := ⟨(fun ex => match ex with | .norm => [(0, none), (1, none)] | .exit i => if i = 0 then [(0, none)] else [] | .ret => [(4, none)]), [(0, (.one (.si .i64))), (1, (.one (.si .i64)))], [], [⟨(.exit 0), [(0, (.one (.si .i64)))], []⟩], [], []⟩
noncomputable def s_ctPair_L3_step : (Int × Int) → T ((Int × Int) ⊕ Int) := fun (num, den) =>
  (.test (decide (den > 0))
  (.test (decide (den ≠ 0))
   (.ret (Sum.inl (den, (Int.tmod num den))))
   .fail)
  (.ret (Sum.inr num)))
noncomputable def s_ctPair_L3 (v : (Int × Int)) : Option Int := loopO (fun v => (s_ctPair_L3_step v).run) v

def s_ctPair_fo : List FO := [⟨[(.one .sb)], []⟩]
noncomputable def s_ctPair_t : (Int × Int) → T Bool := fun (num, den) =>
  (.sub (s_l1In (num, ((1 : Int), (1000000 : Int)))) fun z0 =>
  (.test (! z0)
  (.ret false)
  (.sub (s_l1In (den, ((1 : Int), (1000000 : Int)))) fun z1 =>
   (.test (! z1)
   (.ret false)
   (.sub (s_ctPair_L3 (num, den)) fun z2 =>
    (.ret (z2 == 1)))))))
noncomputable def s_ctPair (v : (Int × Int)) : Option Bool := (s_ctPair_t v).run
noncomputable def s_ctPair_E : TEnv := (E0.add1 n_s_l1In s_l1In_sh s_l1In_fo s_l1In)
theorem s_ctPair_Eok : (s_ctPair_E).OK := (E0ok.add1 s_l1In_ok)
noncomputable def s_ctPair_told : Nat → Option SealT := fun id => if id = 3 then some (LSh.told s_ctPair_L3_sh 0 (s_ctPair_L3_step)) else none
theorem s_ctPair_L3_ok : ToldOK Try.prog 0 (loopAt (bodyOf fn_s_ctPair) [0]) (LSh.told s_ctPair_L3_sh 0 (s_ctPair_L3_step)) :=
  loop_ok (E := s_ctPair_E) (s_ctPair_Eok) (told := s_ctPair_told) (l := s_ctPair_L3_sh) (step := s_ctPair_L3_step) (loopsOK_of (ls := []) (by kernel_rfl) trivial) (by kernel_rfl) (fun v => by kernel_rfl)
theorem s_ctPair_ok : FOK Try.prog n_s_ctPair s_ctPair_sh s_ctPair_fo s_ctPair :=
  fn_ok (E := s_ctPair_E) (s_ctPair_Eok) (told := s_ctPair_told) (fl := []) (c := bodyOf fn_s_ctPair) (s := s_ctPair_sh) (l := s_ctPair_fo) (tree := s_ctPair_t) fnat_s_ctPair (by kernel_rfl) (by kernel_rfl) (by kernel_rfl) (loopsOK_of (ls := [loopAt (bodyOf fn_s_ctPair) [0]]) (by kernel_rfl) ⟨.inr ⟨_, by kernel_rfl, s_ctPair_L3_ok⟩, trivial⟩) (fun v => by kernel_rfl)

theorem s_ctPair_eq (num den : Int) : s_ctPair (num, den) = some (lowP num den) := by
  have h := loop_eq (step := fun v => (s_ctPair_L3_step v).run) (fun v => v.2.toNat) (fun v => 0 ≤ v.1 ∧ 0 ≤ v.2) (fun v => ((Nat.gcd v.1.toNat v.2.toNat : Nat) : Int))
    (by
      rintro ⟨a, b⟩ ⟨ha, hb⟩
      simp only at ha hb
      by_cases h0 : b = 0
      · right
        subst h0
        have : ((a.toNat : Nat) : Int) = a := Int.toNat_of_nonneg ha
        simp [s_ctPair_L3_step, T.run, this]
      · left
        have hp : b > 0 := by omega
        obtain ⟨g1, g2, g3⟩ := gcd_toNat_step ha (show 0 < b by omega)
        refine ⟨(b, Int.tmod a b), ?_, ⟨hb, g2⟩, ?_, ?_⟩
        · simp [s_ctPair_L3_step, T.run, h0, hp]
        · simp only; omega
        · simp only [g1])
  simp only [s_ctPair, s_ctPair_t, T.run, s_l1In_eq, Option.bind_some, lowP]
  cases h1 : inB 1 1000000 num with
  | false => simp
  | true =>
    cases h2 : inB 1 1000000 den with
    | false => simp
    | true =>
      rw [inB_iff] at h1 h2
      simp only [s_ctPair_L3] at h ⊢
      rw [h (num, den) ⟨by simp only; omega, by simp only; omega⟩]
      simp only [if_true, Option.bind_some, Bool.true_and, beq_int, Bool.not_true, Bool.false_eq_true, if_false]
      congr 1
      rw [decide_eq_decide]
      omega


def s_DrawMinusTerms_sh : FSh := ⟨[(.one (.sl (.int .u8) false true))], []⟩

def s_DrawMinusTerms_fo : List FO := [⟨[(.one (.si .i64)), (.one (.si .i64))], []⟩]
noncomputable def s_DrawMinusTerms_t : List (Int) → T (Int × Int) := fun code =>
  (.sub (s_l1Cur_one (((), (8 : Int)), (code, ((0 : Int), (0 : Int))))) fun z0 =>
  (.test z0.1
  (.test true
   (.sub (s_l1Cur_among (((), (win (List.set (List.set (List.set (List.set (List.set (List.set (List.replicate 6 (0 : Int)) 0 (0 : Int)) 1 (1 : Int)) 2 (1000000 : Int)) 3 (1000001 : Int)) 4 (-1)) 5 (6 : Int)) 0 6)), (z0.2.1, (z0.2.2.1, z0.2.2.2)))) fun z1 =>
    (.test true
    (.sub (s_l1Cur_among (((), (win (List.set (List.set (List.set (List.set (List.set (List.set (List.replicate 6 (0 : Int)) 0 (0 : Int)) 1 (1 : Int)) 2 (999999 : Int)) 3 (1000000 : Int)) 4 (4 : Int)) 5 (4611686018427387904 : Int)) 0 6)), (z1.2.1, (z1.2.2.1, z1.2.2.2)))) fun z2 =>
     (.ret (z1.1, z2.1)))
    .fail))
   .fail)
  (.sub (s_l1Cur_terms (((), ((1 : Int), (5 : Int))), (z0.2.1, (z0.2.2.1, z0.2.2.2)))) fun z3 =>
   (.test (decide ((0 + (List.length z3.2.2)) ≤ (List.length z3.2.2)))
   (.sub (s_FractionOfPlus (win z3.2.2 0 (List.length z3.2.2))) fun z4 =>
    (.test (! z4.2.2)
    (.ret ((7 : Int), (3 : Int)))
    (.sub (s_ctPair (z4.1, z4.2.1)) fun z5 =>
     (.test (! z5)
     (.ret ((7 : Int), (3 : Int)))
     (.sub (s_l1Cur_one (((), (3 : Int)), (z3.2.1.1, (z3.2.1.2.1, z3.2.1.2.2)))) fun z6 =>
      (.test z6.1
      (.ret (z4.2.1, z4.1))
      (.ret (z4.1, z4.2.1))))))))
   .fail))))
noncomputable def s_DrawMinusTerms (v : List (Int)) : Option (Int × Int) := (s_DrawMinusTerms_t v).run
noncomputable def s_DrawMinusTerms_E : TEnv := (((((E0.add1 n_s_l1Cur_one s_l1Cur_one_sh s_l1Cur_one_fo s_l1Cur_one).add1 n_s_l1Cur_among s_l1Cur_among_sh s_l1Cur_among_fo s_l1Cur_among).add1 n_s_l1Cur_terms s_l1Cur_terms_sh s_l1Cur_terms_fo s_l1Cur_terms).add1 n_s_FractionOfPlus s_FractionOfPlus_sh s_FractionOfPlus_fo s_FractionOfPlus).add1 n_s_ctPair s_ctPair_sh s_ctPair_fo s_ctPair)
theorem s_DrawMinusTerms_Eok : (s_DrawMinusTerms_E).OK := (((((E0ok.add1 s_l1Cur_one_ok).add1 s_l1Cur_among_ok).add1 s_l1Cur_terms_ok).add1 s_FractionOfPlus_ok).add1 s_ctPair_ok)
noncomputable def s_DrawMinusTerms_told : Nat → Option SealT := fun id => none
theorem s_DrawMinusTerms_ok : FOK Try.prog n_s_DrawMinusTerms s_DrawMinusTerms_sh s_DrawMinusTerms_fo s_DrawMinusTerms :=
  fn_ok (E := s_DrawMinusTerms_E) (s_DrawMinusTerms_Eok) (told := s_DrawMinusTerms_told) (fl := []) (c := bodyOf fn_s_DrawMinusTerms) (s := s_DrawMinusTerms_sh) (l := s_DrawMinusTerms_fo) (tree := s_DrawMinusTerms_t) fnat_s_DrawMinusTerms (by kernel_rfl) (by kernel_rfl) (by kernel_rfl) (loopsOK_of (ls := []) (by kernel_rfl) trivial) (fun v => by kernel_rfl)

def i_divisor_sh : FSh := ⟨[(.one (.si .i64)), (.one (.si .i64))], []⟩

def i_divisor_L1_sh : LSh := ⟨(fun ex => match ex with | .norm => [(0, none), (1, none)] | .exit i => if i = 0 then [(0, none)] else [] | .ret => [(4, none)]), [(0, (.one (.si .i64))), (1, (.one (.si .i64)))], [], [⟨(.exit 0), [(0, (.one (.si .i64)))], []⟩], [], []⟩
noncomputable def i_divisor_L1_step : (Int × Int) → T ((Int × Int) ⊕ Int) := fun (a, b) =>
  (.test (b != 0)
  (.test (decide (b ≠ 0))
   (.ret (Sum.inl (b, (Int.tmod a b))))
   .fail)
  (.ret (Sum.inr a)))
noncomputable def i_divisor_L1 (v : (Int × Int)) : Option Int := loopO (fun v => (i_divisor_L1_step v).run) v

def i_divisor_fo : List FO := [⟨[(.one (.si .i64))], []⟩]
noncomputable def i_divisor_t : (Int × Int) → T Int := fun (a, b) =>
  (.sub (i_divisor_L1 (a, b)) fun z0 =>
  (.ret z0))
noncomputable def i_divisor (v : (Int × Int)) : Option Int := (i_divisor_t v).run
noncomputable def i_divisor_E : TEnv := E0
theorem i_divisor_Eok : (i_divisor_E).OK := E0ok
noncomputable def i_divisor_told : Nat → Option SealT := fun id => if id = 1 then some (LSh.told i_divisor_L1_sh 0 (i_divisor_L1_step)) else none
theorem i_divisor_L1_ok : ToldOK Try.prog 0 (loopAt (bodyOf fn_i_divisor) [0]) (LSh.told i_divisor_L1_sh 0 (i_divisor_L1_step)) :=
  loop_ok (E := i_divisor_E) (i_divisor_Eok) (told := i_divisor_told) (l := i_divisor_L1_sh) (step := i_divisor_L1_step) (loopsOK_of (ls := []) (by kernel_rfl) trivial) (by kernel_rfl) (fun v => by kernel_rfl)
theorem i_divisor_ok : FOK Try.prog n_i_divisor i_divisor_sh i_divisor_fo i_divisor :=
  fn_ok (E := i_divisor_E) (i_divisor_Eok) (told := i_divisor_told) (fl := []) (c := bodyOf fn_i_divisor) (s := i_divisor_sh) (l := i_divisor_fo) (tree := i_divisor_t) fnat_i_divisor (by kernel_rfl) (by kernel_rfl) (by kernel_rfl) (loopsOK_of (ls := [loopAt (bodyOf fn_i_divisor) [0]]) (by kernel_rfl) ⟨.inr ⟨_, by kernel_rfl, i_divisor_L1_ok⟩, trivial⟩) (fun v => by kernel_rfl)

theorem i_divisor_eq (a b : Int) (ha : 0 ≤ a) (hb : 0 ≤ b) : i_divisor (a, b) = some ((Nat.gcd a.toNat b.toNat : Nat) : Int) := by
  have h := loop_eq (step := fun v => (i_divisor_L1_step v).run) (fun v => v.2.toNat) (fun v => 0 ≤ v.1 ∧ 0 ≤ v.2) (fun v => ((Nat.gcd v.1.toNat v.2.toNat : Nat) : Int))
    (by
      rintro ⟨a, b⟩ ⟨ha, hb⟩
      simp only at ha hb
      by_cases h0 : b = 0
      · right
        subst h0
        have : ((a.toNat : Nat) : Int) = a := Int.toNat_of_nonneg ha
        simp [i_divisor_L1_step, T.run, this]
      · left
        obtain ⟨g1, g2, g3⟩ := gcd_toNat_step ha (show 0 < b by omega)
        refine ⟨(b, Int.tmod a b), ?_, ⟨hb, g2⟩, ?_, ?_⟩
        · simp [i_divisor_L1_step, T.run, h0]
        · simp only; omega
        · simp only [g1]) (a, b) ⟨ha, hb⟩
  simp only [i_divisor, i_divisor_t, T.run, i_divisor_L1]
  rw [h]; rfl


def i_isLowest_sh : FSh := ⟨[(.one (.si .i64)), (.one (.si .i64))], []⟩

def i_isLowest_fo : List FO := [⟨[(.one .sb)], []⟩]
noncomputable def i_isLowest_t : (Int × Int) → T Bool := fun (num, den) =>
  (.sub (i_within (num, ((1 : Int), (1000000 : Int)))) fun z0 =>
  (.test z0
  (.sub (i_within (den, ((1 : Int), (1000000 : Int)))) fun z1 =>
   (.test z1
   (.sub (i_divisor (num, den)) fun z2 =>
    (.ret (z2 == 1)))
   (.ret false)))
  (.ret false)))
noncomputable def i_isLowest (v : (Int × Int)) : Option Bool := (i_isLowest_t v).run
noncomputable def i_isLowest_E : TEnv := ((E0.add1 n_i_within i_within_sh i_within_fo i_within).add1 n_i_divisor i_divisor_sh i_divisor_fo i_divisor)
theorem i_isLowest_Eok : (i_isLowest_E).OK := ((E0ok.add1 i_within_ok).add1 i_divisor_ok)
noncomputable def i_isLowest_told : Nat → Option SealT := fun id => none
theorem i_isLowest_ok : FOK Try.prog n_i_isLowest i_isLowest_sh i_isLowest_fo i_isLowest :=
  fn_ok (E := i_isLowest_E) (i_isLowest_Eok) (told := i_isLowest_told) (fl := []) (c := bodyOf fn_i_isLowest) (s := i_isLowest_sh) (l := i_isLowest_fo) (tree := i_isLowest_t) fnat_i_isLowest (by kernel_rfl) (by kernel_rfl) (by kernel_rfl) (loopsOK_of (ls := []) (by kernel_rfl) trivial) (fun v => by kernel_rfl)

theorem i_isLowest_eq (num den : Int) : i_isLowest (num, den) = some (lowP num den) := by
  simp only [i_isLowest, i_isLowest_t, T.run, i_within_eq, Option.bind_some, lowP]
  cases h1 : inB 1 1000000 num with
  | false => simp
  | true =>
    cases h2 : inB 1 1000000 den with
    | false => simp
    | true =>
      rw [inB_iff] at h1 h2
      rw [i_divisor_eq _ _ (by omega) (by omega)]
      simp only [if_true, Option.bind_some, Bool.true_and, beq_int]
      congr 1
      rw [decide_eq_decide]
      omega


def s_ctMinus_sh : FSh := ⟨[(.one (.si .i64)), (.one (.si .i64))], []⟩

def s_ctMinus_L2_sh : LSh := ⟨(fun ex => match ex with | .norm => [(0, none), (1, none), (6, none)] | .exit i => if i = 0 then [(4, none), (5, none)] else [] | .ret => [(4, none), (5, none)]), [(0, (.one (.si .i64))), (1, (.one (.si .i64))), (6, (.one (.rw 0 0)))], [(.row 0 (.int .i64))], [⟨.ret, [(4, (.one (.rw 0 0))), (5, (.one .sb))], [(.row 0 (.int .i64))]⟩], [], []⟩
noncomputable def s_ctMinus_L2_step : ((Int × Int × Unit) × List (Int)) → T (((Int × Int × Unit) × List (Int)) ⊕ ((Unit × Bool) × List (Int))) := fun ((num, den, ()), out) =>
  (.test (decide (den ≠ 0))
  (.test (decide (1 ≤ (List.length (List.set (List.replicate 1 (0 : Int)) 0 (w64 (Int.tdiv (w64 ((w64 (num + den)) - 1)) den))))))
   (.test (decide ((0 + (List.length out)) ≤ (List.length out)))
    (.test (decide ((2 * (((List.length out) + (List.length (win (List.set (List.replicate 1 (0 : Int)) 0 (w64 (Int.tdiv (w64 ((w64 (num + den)) - 1)) den))) 0 1))) * 9)) ≤ 140737488355328))
     (.test (decide ((0 + ((List.length out) + (List.length (win (List.set (List.replicate 1 (0 : Int)) 0 (w64 (Int.tdiv (w64 ((w64 (num + den)) - 1)) den))) 0 1)))) ≤ (List.length ((win out 0 (List.length out)) ++ (win (List.set (List.replicate 1 (0 : Int)) 0 (w64 (Int.tdiv (w64 ((w64 (num + den)) - 1)) den))) 0 1)))))
      (.sub (s_ctGood (win ((win out 0 (List.length out)) ++ (win (List.set (List.replicate 1 (0 : Int)) 0 (w64 (Int.tdiv (w64 ((w64 (num + den)) - 1)) den))) 0 1)) 0 ((List.length out) + (List.length (win (List.set (List.replicate 1 (0 : Int)) 0 (w64 (Int.tdiv (w64 ((w64 (num + den)) - 1)) den))) 0 1))))) fun z0 =>
       (.test (! z0)
       (.test true
        (.ret (Sum.inr (((), false), ([] : List (Int)))))
        .fail)
       (.test ((w64 ((w64 ((w64 (Int.tdiv (w64 ((w64 (num + den)) - 1)) den)) * den)) - num)) == 0)
        (.test (decide ((0 = 0) ∧ (((List.length out) + (List.length (win (List.set (List.replicate 1 (0 : Int)) 0 (w64 (Int.tdiv (w64 ((w64 (num + den)) - 1)) den))) 0 1))) = (List.length ((win out 0 (List.length out)) ++ (win (List.set (List.replicate 1 (0 : Int)) 0 (w64 (Int.tdiv (w64 ((w64 (num + den)) - 1)) den))) 0 1))))))
         (.ret (Sum.inr (((), true), ((win out 0 (List.length out)) ++ (win (List.set (List.replicate 1 (0 : Int)) 0 (w64 (Int.tdiv (w64 ((w64 (num + den)) - 1)) den))) 0 1)))))
         .fail)
        (.test (decide ((0 = 0) ∧ (((List.length out) + (List.length (win (List.set (List.replicate 1 (0 : Int)) 0 (w64 (Int.tdiv (w64 ((w64 (num + den)) - 1)) den))) 0 1))) = (List.length ((win out 0 (List.length out)) ++ (win (List.set (List.replicate 1 (0 : Int)) 0 (w64 (Int.tdiv (w64 ((w64 (num + den)) - 1)) den))) 0 1))))))
         (.ret (Sum.inl ((den, ((w64 ((w64 ((w64 (Int.tdiv (w64 ((w64 (num + den)) - 1)) den)) * den)) - num)), ())), ((win out 0 (List.length out)) ++ (win (List.set (List.replicate 1 (0 : Int)) 0 (w64 (Int.tdiv (w64 ((w64 (num + den)) - 1)) den))) 0 1)))))
         .fail))))
      .fail)
     .fail)
    .fail)
   .fail)
  .fail)
noncomputable def s_ctMinus_L2 (v : ((Int × Int × Unit) × List (Int))) : Option ((Unit × Bool) × List (Int)) := loopO (fun v => (s_ctMinus_L2_step v).run) v

def s_ctMinus_fo : List FO := [⟨[(.one (.rw 0 0)), (.one .sb)], [(.row 0 (.int .i64))]⟩]
noncomputable def s_ctMinus_t : (Int × Int) → T ((Unit × Bool) × List (Int)) := fun (num, den) =>
  (.test true
  (.sub (s_ctMinus_L2 ((num, (den, ())), ([] : List (Int)))) fun z0 =>
   (.test (decide ((0 = 0) ∧ ((List.length z0.2) = (List.length z0.2))))
   (.ret (((), z0.1.2), z0.2))
   .fail))
  .fail)
noncomputable def s_ctMinus (v : (Int × Int)) : Option ((Unit × Bool) × List (Int)) := (s_ctMinus_t v).run
noncomputable def s_ctMinus_E : TEnv := (E0.add1 n_s_ctGood s_ctGood_sh s_ctGood_fo s_ctGood)
theorem s_ctMinus_Eok : (s_ctMinus_E).OK := (E0ok.add1 s_ctGood_ok)
noncomputable def s_ctMinus_told : Nat → Option SealT := fun id => if id = 2 then some (LSh.told s_ctMinus_L2_sh 0 (s_ctMinus_L2_step)) else none
theorem s_ctMinus_L2_ok : ToldOK Try.prog 0 (loopAt (bodyOf fn_s_ctMinus) [0]) (LSh.told s_ctMinus_L2_sh 0 (s_ctMinus_L2_step)) :=
  loop_ok (E := s_ctMinus_E) (s_ctMinus_Eok) (told := s_ctMinus_told) (l := s_ctMinus_L2_sh) (step := s_ctMinus_L2_step) (loopsOK_of (ls := []) (by kernel_rfl) trivial) (by kernel_rfl) (fun v => by kernel_rfl)
theorem s_ctMinus_ok : FOK Try.prog n_s_ctMinus s_ctMinus_sh s_ctMinus_fo s_ctMinus :=
  fn_ok (E := s_ctMinus_E) (s_ctMinus_Eok) (told := s_ctMinus_told) (fl := []) (c := bodyOf fn_s_ctMinus) (s := s_ctMinus_sh) (l := s_ctMinus_fo) (tree := s_ctMinus_t) fnat_s_ctMinus (by kernel_rfl) (by kernel_rfl) (by kernel_rfl) (loopsOK_of (ls := [loopAt (bodyOf fn_s_ctMinus) [0]]) (by kernel_rfl) ⟨.inr ⟨_, by kernel_rfl, s_ctMinus_L2_ok⟩, trivial⟩) (fun v => by kernel_rfl)

def i_minusTerms_sh : FSh := ⟨[(.one (.si .i64)), (.one (.si .i64))], []⟩

def i_minusTerms_L2_sh : LSh := ⟨(fun ex => match ex with | .norm => [(0, none), (1, none), (6, none)] | .exit i => if i = 0 then [(6, none)] else [] | .ret => [(4, none), (5, none)]), [(0, (.one (.si .i64))), (1, (.one (.si .i64))), (6, (.one (.rw 0 0)))], [(.row 0 (.int .i64))], [⟨(.exit 0), [(6, (.one (.rw 0 0)))], [(.row 0 (.int .i64))]⟩], [], []⟩
noncomputable def i_minusTerms_L2_step : ((Int × Int × Unit) × List (Int)) → T (((Int × Int × Unit) × List (Int)) ⊕ (Unit × List (Int))) := fun ((num, den, ()), out) =>
  (.test (decide (((List.length out) : Int) ≤ 10))
  (.test (decide (den ≠ 0))
   (.test (decide (1 ≤ (List.length (List.set (List.replicate 1 (0 : Int)) 0 (w64 (Int.tdiv (w64 ((w64 (num + den)) - 1)) den))))))
    (.test (decide ((0 + (List.length out)) ≤ (List.length out)))
     (.test (decide ((2 * (((List.length out) + (List.length (win (List.set (List.replicate 1 (0 : Int)) 0 (w64 (Int.tdiv (w64 ((w64 (num + den)) - 1)) den))) 0 1))) * 9)) ≤ 140737488355328))
      (.test ((w64 ((w64 (Int.tdiv (w64 ((w64 (num + den)) - 1)) den)) * den)) == num)
       (.test (decide ((0 = 0) ∧ (((List.length out) + (List.length (win (List.set (List.replicate 1 (0 : Int)) 0 (w64 (Int.tdiv (w64 ((w64 (num + den)) - 1)) den))) 0 1))) = (List.length ((win out 0 (List.length out)) ++ (win (List.set (List.replicate 1 (0 : Int)) 0 (w64 (Int.tdiv (w64 ((w64 (num + den)) - 1)) den))) 0 1))))))
        (.ret (Sum.inr ((), ((win out 0 (List.length out)) ++ (win (List.set (List.replicate 1 (0 : Int)) 0 (w64 (Int.tdiv (w64 ((w64 (num + den)) - 1)) den))) 0 1)))))
        .fail)
       (.test (decide ((0 = 0) ∧ (((List.length out) + (List.length (win (List.set (List.replicate 1 (0 : Int)) 0 (w64 (Int.tdiv (w64 ((w64 (num + den)) - 1)) den))) 0 1))) = (List.length ((win out 0 (List.length out)) ++ (win (List.set (List.replicate 1 (0 : Int)) 0 (w64 (Int.tdiv (w64 ((w64 (num + den)) - 1)) den))) 0 1))))))
        (.ret (Sum.inl ((den, ((w64 ((w64 ((w64 (Int.tdiv (w64 ((w64 (num + den)) - 1)) den)) * den)) - num)), ())), ((win out 0 (List.length out)) ++ (win (List.set (List.replicate 1 (0 : Int)) 0 (w64 (Int.tdiv (w64 ((w64 (num + den)) - 1)) den))) 0 1)))))
        .fail))
      .fail)
     .fail)
    .fail)
   .fail)
  (.test (decide ((0 = 0) ∧ ((List.length out) = (List.length out))))
   (.ret (Sum.inr ((), out)))
   .fail))
noncomputable def i_minusTerms_L2 (v : ((Int × Int × Unit) × List (Int))) : Option (Unit × List (Int)) := loopO (fun v => (i_minusTerms_L2_step v).run) v

def i_minusTerms_fo : List FO := [⟨[(.one (.rw 0 0)), (.one .sb)], [(.row 0 (.int .i64))]⟩]
noncomputable def i_minusTerms_t : (Int × Int) → T ((Unit × Bool) × List (Int)) := fun (num, den) =>
  (.test true
  (.sub (i_minusTerms_L2 ((num, (den, ())), (List.replicate 0 (0 : Int)))) fun z0 =>
   (.test (decide ((0 + (List.length z0.2)) ≤ (List.length z0.2)))
   (.sub (i_IsTermList (win z0.2 0 (List.length z0.2))) fun z1 =>
    (.test (decide ((0 = 0) ∧ ((List.length z0.2) = (List.length z0.2))))
    (.ret (((), z1), z0.2))
    .fail))
   .fail))
  .fail)
noncomputable def i_minusTerms (v : (Int × Int)) : Option ((Unit × Bool) × List (Int)) := (i_minusTerms_t v).run
noncomputable def i_minusTerms_E : TEnv := (E0.add1 n_i_IsTermList i_IsTermList_sh i_IsTermList_fo i_IsTermList)
theorem i_minusTerms_Eok : (i_minusTerms_E).OK := (E0ok.add1 i_IsTermList_ok)
noncomputable def i_minusTerms_told : Nat → Option SealT := fun id => if id = 2 then some (LSh.told i_minusTerms_L2_sh 0 (i_minusTerms_L2_step)) else none
theorem i_minusTerms_L2_ok : ToldOK Try.prog 0 (loopAt (bodyOf fn_i_minusTerms) [0]) (LSh.told i_minusTerms_L2_sh 0 (i_minusTerms_L2_step)) :=
  loop_ok (E := i_minusTerms_E) (i_minusTerms_Eok) (told := i_minusTerms_told) (l := i_minusTerms_L2_sh) (step := i_minusTerms_L2_step) (loopsOK_of (ls := []) (by kernel_rfl) trivial) (by kernel_rfl) (fun v => by kernel_rfl)
theorem i_minusTerms_ok : FOK Try.prog n_i_minusTerms i_minusTerms_sh i_minusTerms_fo i_minusTerms :=
  fn_ok (E := i_minusTerms_E) (i_minusTerms_Eok) (told := i_minusTerms_told) (fl := []) (c := bodyOf fn_i_minusTerms) (s := i_minusTerms_sh) (l := i_minusTerms_fo) (tree := i_minusTerms_t) fnat_i_minusTerms (by kernel_rfl) (by kernel_rfl) (by kernel_rfl) (loopsOK_of (ls := [loopAt (bodyOf fn_i_minusTerms) [0]]) (by kernel_rfl) ⟨.inr ⟨_, by kernel_rfl, i_minusTerms_L2_ok⟩, trivial⟩) (fun v => by kernel_rfl)

theorem minus_loops : ∀ (n : Nat) (num den : Int) (out : List Int), out.length + n = 11 → 1 ≤ num → num ≤ 1000000000000000 → 1 ≤ den → den ≤ 1000000000000000 →
    ∃ ext : List Int, (out ++ ext).length ≤ 11 ∧ i_minusTerms_L2 ((num, (den, ())), out) = some ((), out ++ ext) ∧
      (out = [] ∨ isTerms out = true → s_ctMinus_L2 ((num, (den, ())), out) = some (if isTerms (out ++ ext) = true then (((), true), out ++ ext) else (((), false), []))) := by
  intro n
  induction n with
  | zero =>
    intro num den out hn h1 h2 h3 h4
    refine ⟨[], by simp; omega, ?_, ?_⟩
    · simp only [i_minusTerms_L2]
      have : ¬ ((out.length : Int) ≤ 10) := by omega
      exact loopO_done (by simp [i_minusTerms_L2_step, T.run, this])
    · rintro (rfl | ho)
      · simp at hn
      · rw [isTerms_iff] at ho; omega
  | succ n ih =>
    intro num den out hn h1 h2 h3 h4
    obtain ⟨q1, q2, q3, q4⟩ := upQ_B h1 h3
    have hd0 : den ≠ 0 := by omega
    have w1 : w64 (num + den) = num + den := w64_id (by omega) (by omega)
    have w2 : w64 (num + den - 1) = num + den - 1 := w64_id (by omega) (by omega)
    have w3 : Int.tdiv (num + den - 1) den = upQ num den := Int.tdiv_eq_ediv_of_nonneg (by omega)
    have w4 : w64 (upQ num den) = upQ num den := w64_id (by omega) (by omega)
    have w5 : w64 (upQ num den * den) = upQ num den * den := w64_id (by omega) (by omega)
    have w6 : w64 (upQ num den * den - num) = upQ num den * den - num := w64_id (by omega) (by omega)
    have hlen : 2 * ((out.length + 1) * 9) ≤ 140737488355328 := by omega
    have hle : (out.length : Int) ≤ 10 := by omega
    have hl : (out ++ [upQ num den]).length < 4611686018427387904 := by simp; omega
    have hw : win (out ++ [upQ num den]) 0 (out.length + 1) = out ++ [upQ num den] := by
      have := win_all (out ++ [upQ num den]); rwa [List.length_append] at this
    have hst : (s_ctMinus_L2_step ((num, (den, ())), out)).run = some (if isTerms (out ++ [upQ num den]) then (if upQ num den * den = num then .inr (((), true), out ++ [upQ num den]) else .inl ((den, (upQ num den * den - num, ())), out ++ [upQ num den])) else .inr (((), false), [])) := by
      simp only [s_ctMinus_L2_step, T.run, w1, w2, w3, w4, w5, w6, win_all, win_one, List.length_append, List.length_singleton, hw, s_ctGood_eq _ hl]
      have he : (upQ num den * den - num == 0) = decide (upQ num den * den = num) := by rw [beq_int, decide_eq_decide]; omega
      rw [he]
      cases isTerms (out ++ [upQ num den]) with
      | false => simp [hlen, hd0]
      | true => by_cases hz : upQ num den * den = num <;> simp [hlen, hd0, hz]
    by_cases hz : upQ num den * den = num
    · refine ⟨[upQ num den], by simp; omega, ?_, ?_⟩
      · simp only [i_minusTerms_L2]
        have w7 : w64 num = num := w64_id (by omega) (by omega)
        exact loopO_done (by simp [i_minusTerms_L2_step, T.run, w1, w2, w3, w4, w5, w6, w7, win_all, win_one, win_sing, hlen, hle, hd0, hz])
      · intro ho
        simp only [s_ctMinus_L2]
        rw [if_pos hz] at hst
        refine loopO_done (hst.trans ?_)
        cases isTerms (out ++ [upQ num den]) <;> rfl
    · obtain ⟨ext, e1, e2, e3⟩ := ih den (upQ num den * den - num) (out ++ [upQ num den]) (by simp; omega) h3 h4 (by omega) (by omega)
      have es : out ++ [upQ num den] ++ ext = out ++ (upQ num den :: ext) := by simp
      rw [es] at e1 e2 e3
      refine ⟨upQ num den :: ext, e1, ?_, ?_⟩
      · simp only [i_minusTerms_L2] at e2 ⊢
        rw [← e2]
        exact loopO_next (by simp [i_minusTerms_L2_step, T.run, w1, w2, w3, w4, w5, w6, win_all, win_one, win_sing, hlen, hle, hd0, hz])
      · intro ho
        rw [if_neg hz] at hst
        simp only [s_ctMinus_L2] at e3 ⊢
        cases ht : isTerms (out ++ [upQ num den]) with
        | true =>
          rw [ht] at hst
          rw [loopO_next hst]
          exact e3 (Or.inr ht)
        | false =>
          rw [ht] at hst
          have : ¬ (isTerms (out ++ (upQ num den :: ext)) = true) := by
            intro h; rw [← es] at h; have := isTerms_snoc h; rw [ht] at this; cases this
          rw [if_neg this]
          exact loopO_done hst
theorem minus_both (num den : Int) (h1 : 1 ≤ num) (h2 : num ≤ 1000000000000000) (h3 : 1 ≤ den) (h4 : den ≤ 1000000000000000) : ∃ ext : List Int, ext.length ≤ 11 ∧
    i_minusTerms (num, den) = some (((), isTerms ext), ext) ∧ s_ctMinus (num, den) = some (if isTerms ext = true then (((), true), ext) else (((), false), [])) := by
  obtain ⟨ext, e1, e2, e3⟩ := minus_loops 11 num den [] rfl h1 h2 h3 h4
  rw [List.nil_append] at e1 e2 e3
  have e3 := e3 (Or.inl rfl)
  refine ⟨ext, e1, ?_, ?_⟩
  · simp [i_minusTerms, i_minusTerms_t, T.run, e2, win_all, i_IsTermList_eq ext (by omega)]
  · simp only [s_ctMinus, s_ctMinus_t, T.run, e3]
    cases isTerms ext <;> simp


def s_MinusTerms_sh : FSh := ⟨[(.one (.si .i64)), (.one (.si .i64))], []⟩

def s_MinusTerms_fo : List FO := [⟨[(.one (.rw 0 0)), (.one .sb)], [(.row 0 (.int .i64))]⟩]
noncomputable def s_MinusTerms_t : (Int × Int) → T ((Unit × Bool) × List (Int)) := fun (num, den) =>
  (.sub (s_ctPair (num, den)) fun z0 =>
  (.test (! z0)
  (.test true
   (.ret (((), false), ([] : List (Int))))
   .fail)
  (.sub (s_ctMinus (num, den)) fun z1 =>
   (.test (decide ((0 = 0) ∧ ((List.length z1.2) = (List.length z1.2))))
   (.ret (((), z1.1.2), z1.2))
   .fail))))
noncomputable def s_MinusTerms (v : (Int × Int)) : Option ((Unit × Bool) × List (Int)) := (s_MinusTerms_t v).run
noncomputable def s_MinusTerms_E : TEnv := ((E0.add1 n_s_ctPair s_ctPair_sh s_ctPair_fo s_ctPair).add1 n_s_ctMinus s_ctMinus_sh s_ctMinus_fo s_ctMinus)
theorem s_MinusTerms_Eok : (s_MinusTerms_E).OK := ((E0ok.add1 s_ctPair_ok).add1 s_ctMinus_ok)
noncomputable def s_MinusTerms_told : Nat → Option SealT := fun id => none
theorem s_MinusTerms_ok : FOK Try.prog n_s_MinusTerms s_MinusTerms_sh s_MinusTerms_fo s_MinusTerms :=
  fn_ok (E := s_MinusTerms_E) (s_MinusTerms_Eok) (told := s_MinusTerms_told) (fl := []) (c := bodyOf fn_s_MinusTerms) (s := s_MinusTerms_sh) (l := s_MinusTerms_fo) (tree := s_MinusTerms_t) fnat_s_MinusTerms (by kernel_rfl) (by kernel_rfl) (by kernel_rfl) (loopsOK_of (ls := []) (by kernel_rfl) trivial) (fun v => by kernel_rfl)

def i_MinusTerms_sh : FSh := ⟨[(.one (.si .i64)), (.one (.si .i64))], []⟩

def i_MinusTerms_fo : List FO := [⟨[(.one (.rw 0 0)), (.one .sb)], [(.row 0 (.int .i64))]⟩]
noncomputable def i_MinusTerms_t : (Int × Int) → T ((Unit × Bool) × List (Int)) := fun (num, den) =>
  (.sub (i_isLowest (num, den)) fun z0 =>
  (.test (! z0)
  (.test true
   (.ret (((), false), ([] : List (Int))))
   .fail)
  (.sub (i_minusTerms (num, den)) fun z1 =>
   (.test (decide ((0 = 0) ∧ ((List.length z1.2) = (List.length z1.2))))
   (.sub (i_listed (((), z1.1.2), z1.2)) fun z2 =>
    (.test (Sum.isLeft z2)
    (.sub (Sum.getLeft? z2) fun z3 =>
     (.test (decide ((0 = 0) ∧ ((List.length z3.2.2) = (List.length z3.2.2))))
     (.ret (((), z3.1.2), z3.2.2))
     .fail))
    (.sub (Sum.getRight? z2) fun z4 =>
     (.test (decide ((0 = 0) ∧ ((List.length z4.2) = (List.length z4.2))))
     (.ret (((), z4.1.2), z4.2))
     .fail))))
   .fail))))
noncomputable def i_MinusTerms (v : (Int × Int)) : Option ((Unit × Bool) × List (Int)) := (i_MinusTerms_t v).run
noncomputable def i_MinusTerms_E : TEnv := (((E0.add1 n_i_isLowest i_isLowest_sh i_isLowest_fo i_isLowest).add1 n_i_minusTerms i_minusTerms_sh i_minusTerms_fo i_minusTerms).add1 n_i_listed i_listed_sh i_listed_fo i_listed)
theorem i_MinusTerms_Eok : (i_MinusTerms_E).OK := (((E0ok.add1 i_isLowest_ok).add1 i_minusTerms_ok).add1 i_listed_ok)
noncomputable def i_MinusTerms_told : Nat → Option SealT := fun id => none
theorem i_MinusTerms_ok : FOK Try.prog n_i_MinusTerms i_MinusTerms_sh i_MinusTerms_fo i_MinusTerms :=
  fn_ok (E := i_MinusTerms_E) (i_MinusTerms_Eok) (told := i_MinusTerms_told) (fl := []) (c := bodyOf fn_i_MinusTerms) (s := i_MinusTerms_sh) (l := i_MinusTerms_fo) (tree := i_MinusTerms_t) fnat_i_MinusTerms (by kernel_rfl) (by kernel_rfl) (by kernel_rfl) (loopsOK_of (ls := []) (by kernel_rfl) trivial) (fun v => by kernel_rfl)

theorem minus_terms (num den : Int) : ∃ r : Bool × List Int, r.2.length ≤ 10 ∧ i_MinusTerms (num, den) = some (((), r.1), r.2) ∧ s_MinusTerms (num, den) = some (((), r.1), r.2) := by
  simp only [i_MinusTerms, i_MinusTerms_t, s_MinusTerms, s_MinusTerms_t, T.run, i_isLowest_eq, s_ctPair_eq, Option.bind_some]
  cases hl : lowP num den with
  | false => exact ⟨(false, []), by simp, by simp, by simp⟩
  | true =>
    simp only [lowP, Bool.and_eq_true, inB_iff] at hl
    obtain ⟨ext, e1, e2, e3⟩ := minus_both num den (by omega) (by omega) (by omega) (by omega)
    simp only [e2, e3, i_listed_eq, Option.bind_some]
    cases ht : isTerms ext with
    | true => exact ⟨(true, ext), by rw [isTerms_iff] at ht; exact ht.1, by simp [Sum.isLeft], by simp [Sum.isLeft]⟩
    | false => exact ⟨(false, []), by simp, by simp [Sum.isLeft], by simp [Sum.isLeft]⟩


def s_PlusTerms_sh : FSh := ⟨[(.one (.si .i64)), (.one (.si .i64))], []⟩

def s_PlusTerms_L4_sh : LSh := ⟨(fun ex => match ex with | .norm => [(0, none), (1, none), (6, none)] | .exit i => if i = 0 then [(6, none)] else [] | .ret => [(4, none), (5, none)]), [(0, (.one (.si .i64))), (1, (.one (.si .i64))), (6, (.one (.rw 0 0)))], [(.row 0 (.int .i64))], [⟨.ret, [(4, (.one (.rw 0 0))), (5, (.one .sb))], [(.row 0 (.int .i64))]⟩, ⟨(.exit 0), [(6, (.one (.rw 0 0)))], [(.row 0 (.int .i64))]⟩], [], []⟩
noncomputable def s_PlusTerms_L4_step : ((Int × Int × Unit) × List (Int)) → T (((Int × Int × Unit) × List (Int)) ⊕ (((Unit × Bool) × List (Int)) ⊕ (Unit × List (Int)))) := fun ((num, den, ()), out) =>
  (.test (decide (den > 0))
  (.test (decide (den ≠ 0))
   (.test (decide (1 ≤ (List.length (List.set (List.replicate 1 (0 : Int)) 0 (w64 (Int.tdiv num den))))))
    (.test (decide ((0 + (List.length out)) ≤ (List.length out)))
     (.test (decide ((2 * (((List.length out) + (List.length (win (List.set (List.replicate 1 (0 : Int)) 0 (w64 (Int.tdiv num den))) 0 1))) * 9)) ≤ 140737488355328))
      (.test (decide ((0 + ((List.length out) + (List.length (win (List.set (List.replicate 1 (0 : Int)) 0 (w64 (Int.tdiv num den))) 0 1)))) ≤ (List.length ((win out 0 (List.length out)) ++ (win (List.set (List.replicate 1 (0 : Int)) 0 (w64 (Int.tdiv num den))) 0 1)))))
       (.sub (s_ctGood (win ((win out 0 (List.length out)) ++ (win (List.set (List.replicate 1 (0 : Int)) 0 (w64 (Int.tdiv num den))) 0 1)) 0 ((List.length out) + (List.length (win (List.set (List.replicate 1 (0 : Int)) 0 (w64 (Int.tdiv num den))) 0 1))))) fun z0 =>
        (.test (! z0)
        (.test true
         (.ret (Sum.inr (Sum.inl (((), false), ([] : List (Int))))))
         .fail)
        (.test (decide (den ≠ 0))
         (.test (decide ((0 = 0) ∧ (((List.length out) + (List.length (win (List.set (List.replicate 1 (0 : Int)) 0 (w64 (Int.tdiv num den))) 0 1))) = (List.length ((win out 0 (List.length out)) ++ (win (List.set (List.replicate 1 (0 : Int)) 0 (w64 (Int.tdiv num den))) 0 1))))))
          (.ret (Sum.inl ((den, ((Int.tmod num den), ())), ((win out 0 (List.length out)) ++ (win (List.set (List.replicate 1 (0 : Int)) 0 (w64 (Int.tdiv num den))) 0 1)))))
          .fail)
         .fail)))
       .fail)
      .fail)
     .fail)
    .fail)
   .fail)
  (.test (decide ((0 = 0) ∧ ((List.length out) = (List.length out))))
   (.ret (Sum.inr (Sum.inr ((), out))))
   .fail))
noncomputable def s_PlusTerms_L4 (v : ((Int × Int × Unit) × List (Int))) : Option (((Unit × Bool) × List (Int)) ⊕ (Unit × List (Int))) := loopO (fun v => (s_PlusTerms_L4_step v).run) v

def s_PlusTerms_fo : List FO := [⟨[(.one (.rw 0 0)), (.one .sb)], [(.row 0 (.int .i64))]⟩]
noncomputable def s_PlusTerms_t : (Int × Int) → T ((Unit × Bool) × List (Int)) := fun (num, den) =>
  (.sub (s_ctPair (num, den)) fun z0 =>
  (.test (! z0)
  (.test true
   (.ret (((), false), ([] : List (Int))))
   .fail)
  (.test (decide (num < den))
   (.test true
    (.ret (((), false), ([] : List (Int))))
    .fail)
   (.test true
    (.sub (s_PlusTerms_L4 ((num, (den, ())), ([] : List (Int)))) fun z1 =>
     (.test (Sum.isLeft z1)
     (.sub (Sum.getLeft? z1) fun z2 =>
      (.test (decide ((0 = 0) ∧ ((List.length z2.2) = (List.length z2.2))))
      (.ret (((), z2.1.2), z2.2))
      .fail))
     (.sub (Sum.getRight? z1) fun z3 =>
      (.test (decide ((0 = 0) ∧ ((List.length z3.2) = (List.length z3.2))))
      (.ret (((), true), z3.2))
      .fail))))
    .fail))))
noncomputable def s_PlusTerms (v : (Int × Int)) : Option ((Unit × Bool) × List (Int)) := (s_PlusTerms_t v).run
noncomputable def s_PlusTerms_E : TEnv := ((E0.add1 n_s_ctPair s_ctPair_sh s_ctPair_fo s_ctPair).add1 n_s_ctGood s_ctGood_sh s_ctGood_fo s_ctGood)
theorem s_PlusTerms_Eok : (s_PlusTerms_E).OK := ((E0ok.add1 s_ctPair_ok).add1 s_ctGood_ok)
noncomputable def s_PlusTerms_told : Nat → Option SealT := fun id => if id = 4 then some (LSh.told s_PlusTerms_L4_sh 0 (s_PlusTerms_L4_step)) else none
theorem s_PlusTerms_L4_ok : ToldOK Try.prog 0 (loopAt (bodyOf fn_s_PlusTerms) [0]) (LSh.told s_PlusTerms_L4_sh 0 (s_PlusTerms_L4_step)) :=
  loop_ok (E := s_PlusTerms_E) (s_PlusTerms_Eok) (told := s_PlusTerms_told) (l := s_PlusTerms_L4_sh) (step := s_PlusTerms_L4_step) (loopsOK_of (ls := []) (by kernel_rfl) trivial) (by kernel_rfl) (fun v => by kernel_rfl)
theorem s_PlusTerms_ok : FOK Try.prog n_s_PlusTerms s_PlusTerms_sh s_PlusTerms_fo s_PlusTerms :=
  fn_ok (E := s_PlusTerms_E) (s_PlusTerms_Eok) (told := s_PlusTerms_told) (fl := []) (c := bodyOf fn_s_PlusTerms) (s := s_PlusTerms_sh) (l := s_PlusTerms_fo) (tree := s_PlusTerms_t) fnat_s_PlusTerms (by kernel_rfl) (by kernel_rfl) (by kernel_rfl) (loopsOK_of (ls := [loopAt (bodyOf fn_s_PlusTerms) [0]]) (by kernel_rfl) ⟨.inr ⟨_, by kernel_rfl, s_PlusTerms_L4_ok⟩, trivial⟩) (fun v => by kernel_rfl)

def i_PlusTerms_sh : FSh := ⟨[(.one (.si .i64)), (.one (.si .i64))], []⟩

def i_PlusTerms_L4_sh : LSh := ⟨(fun ex => match ex with | .norm => [(0, none), (1, none), (6, none)] | .exit i => if i = 0 then [(6, none)] else [] | .ret => [(4, none), (5, none)]), [(0, (.one (.si .i64))), (1, (.one (.si .i64))), (6, (.one (.rw 0 0)))], [(.row 0 (.int .i64))], [⟨(.exit 0), [(6, (.one (.rw 0 0)))], [(.row 0 (.int .i64))]⟩], [], []⟩
noncomputable def i_PlusTerms_L4_step : ((Int × Int × Unit) × List (Int)) → T (((Int × Int × Unit) × List (Int)) ⊕ (Unit × List (Int))) := fun ((num, den, ()), out) =>
  (.test (decide (den > 0))
  (.test (decide (den ≠ 0))
   (.test (decide (1 ≤ (List.length (List.set (List.replicate 1 (0 : Int)) 0 (w64 (Int.tdiv num den))))))
    (.test (decide ((0 + (List.length out)) ≤ (List.length out)))
     (.test (decide ((2 * (((List.length out) + (List.length (win (List.set (List.replicate 1 (0 : Int)) 0 (w64 (Int.tdiv num den))) 0 1))) * 9)) ≤ 140737488355328))
      (.test (decide (den ≠ 0))
       (.test (decide ((0 = 0) ∧ (((List.length out) + (List.length (win (List.set (List.replicate 1 (0 : Int)) 0 (w64 (Int.tdiv num den))) 0 1))) = (List.length ((win out 0 (List.length out)) ++ (win (List.set (List.replicate 1 (0 : Int)) 0 (w64 (Int.tdiv num den))) 0 1))))))
        (.ret (Sum.inl ((den, ((Int.tmod num den), ())), ((win out 0 (List.length out)) ++ (win (List.set (List.replicate 1 (0 : Int)) 0 (w64 (Int.tdiv num den))) 0 1)))))
        .fail)
       .fail)
      .fail)
     .fail)
    .fail)
   .fail)
  (.test (decide ((0 = 0) ∧ ((List.length out) = (List.length out))))
   (.ret (Sum.inr ((), out)))
   .fail))
noncomputable def i_PlusTerms_L4 (v : ((Int × Int × Unit) × List (Int))) : Option (Unit × List (Int)) := loopO (fun v => (i_PlusTerms_L4_step v).run) v

def i_PlusTerms_fo : List FO := [⟨[(.one (.rw 0 0)), (.one .sb)], [(.row 0 (.int .i64))]⟩]
noncomputable def i_PlusTerms_t : (Int × Int) → T ((Unit × Bool) × List (Int)) := fun (num, den) =>
  (.sub (i_isLowest (num, den)) fun z0 =>
  (.test (! z0)
  (.test true
   (.ret (((), false), ([] : List (Int))))
   .fail)
  (.test (decide (num < den))
   (.test true
    (.ret (((), false), ([] : List (Int))))
    .fail)
   (.test true
    (.sub (i_PlusTerms_L4 ((num, (den, ())), (List.replicate 0 (0 : Int)))) fun z1 =>
     (.test (decide ((0 + (List.length z1.2)) ≤ (List.length z1.2)))
     (.sub (i_IsTermList (win z1.2 0 (List.length z1.2))) fun z2 =>
      (.test (decide ((0 = 0) ∧ ((List.length z1.2) = (List.length z1.2))))
      (.sub (i_listed (((), z2), z1.2)) fun z3 =>
       (.test (Sum.isLeft z3)
       (.sub (Sum.getLeft? z3) fun z4 =>
        (.test (decide ((0 = 0) ∧ ((List.length z4.2.2) = (List.length z4.2.2))))
        (.ret (((), z4.1.2), z4.2.2))
        .fail))
       (.sub (Sum.getRight? z3) fun z5 =>
        (.test (decide ((0 = 0) ∧ ((List.length z5.2) = (List.length z5.2))))
        (.ret (((), z5.1.2), z5.2))
        .fail))))
      .fail))
     .fail))
    .fail))))
noncomputable def i_PlusTerms (v : (Int × Int)) : Option ((Unit × Bool) × List (Int)) := (i_PlusTerms_t v).run
noncomputable def i_PlusTerms_E : TEnv := (((E0.add1 n_i_isLowest i_isLowest_sh i_isLowest_fo i_isLowest).add1 n_i_IsTermList i_IsTermList_sh i_IsTermList_fo i_IsTermList).add1 n_i_listed i_listed_sh i_listed_fo i_listed)
theorem i_PlusTerms_Eok : (i_PlusTerms_E).OK := (((E0ok.add1 i_isLowest_ok).add1 i_IsTermList_ok).add1 i_listed_ok)
noncomputable def i_PlusTerms_told : Nat → Option SealT := fun id => if id = 4 then some (LSh.told i_PlusTerms_L4_sh 0 (i_PlusTerms_L4_step)) else none
theorem i_PlusTerms_L4_ok : ToldOK Try.prog 0 (loopAt (bodyOf fn_i_PlusTerms) [0]) (LSh.told i_PlusTerms_L4_sh 0 (i_PlusTerms_L4_step)) :=
  loop_ok (E := i_PlusTerms_E) (i_PlusTerms_Eok) (told := i_PlusTerms_told) (l := i_PlusTerms_L4_sh) (step := i_PlusTerms_L4_step) (loopsOK_of (ls := []) (by kernel_rfl) trivial) (by kernel_rfl) (fun v => by kernel_rfl)
theorem i_PlusTerms_ok : FOK Try.prog n_i_PlusTerms i_PlusTerms_sh i_PlusTerms_fo i_PlusTerms :=
  fn_ok (E := i_PlusTerms_E) (i_PlusTerms_Eok) (told := i_PlusTerms_told) (fl := []) (c := bodyOf fn_i_PlusTerms) (s := i_PlusTerms_sh) (l := i_PlusTerms_fo) (tree := i_PlusTerms_t) fnat_i_PlusTerms (by kernel_rfl) (by kernel_rfl) (by kernel_rfl) (loopsOK_of (ls := [loopAt (bodyOf fn_i_PlusTerms) [0]]) (by kernel_rfl) ⟨.inr ⟨_, by kernel_rfl, i_PlusTerms_L4_ok⟩, trivial⟩) (fun v => by kernel_rfl)

theorem plus_loops : ∀ (n : Nat) (num den : Int) (out : List Int), den.toNat ≤ n → 0 ≤ num → num ≤ 1000000 → 0 ≤ den → den ≤ 1000000 → out.length + den.toNat ≤ 2000000 →
    ∃ ext : List Int, (out ++ ext).length ≤ 2000000 ∧ i_PlusTerms_L4 ((num, (den, ())), out) = some ((), out ++ ext) ∧
      (out = [] ∨ isTerms out = true → s_PlusTerms_L4 ((num, (den, ())), out) = some (if out ++ ext = [] ∨ isTerms (out ++ ext) = true then .inr ((), out ++ ext) else .inl (((), false), []))) := by
  intro n
  induction n with
  | zero =>
    intro num den out hn h1 h2 h3 h4 h5
    obtain rfl : den = 0 := by omega
    refine ⟨[], by simp; omega, ?_, ?_⟩
    · simp only [i_PlusTerms_L4]; exact loopO_done (by simp [i_PlusTerms_L4_step, T.run])
    · intro ho; rw [List.append_nil, if_pos ho]; simp only [s_PlusTerms_L4]; exact loopO_done (by simp [s_PlusTerms_L4_step, T.run])
  | succ n ih =>
    intro num den out hn h1 h2 h3 h4 h5
    by_cases h0 : den = 0
    · subst h0
      refine ⟨[], by simp; omega, ?_, ?_⟩
      · simp only [i_PlusTerms_L4]; exact loopO_done (by simp [i_PlusTerms_L4_step, T.run])
      · intro ho; rw [List.append_nil, if_pos ho]; simp only [s_PlusTerms_L4]; exact loopO_done (by simp [s_PlusTerms_L4_step, T.run])
    · have hp : den > 0 := by omega
      obtain ⟨_, g2, g3⟩ := gcd_toNat_step h1 (show 0 < den by omega)
      have hq : w64 (Int.tdiv num den) = Int.tdiv num den := by
        have e : Int.tdiv num den = num / den := Int.tdiv_eq_ediv_of_nonneg h1
        have := Int.ediv_le_self den h1
        have := Int.ediv_nonneg h1 h3
        rw [w64_id (by omega) (by omega)]
      have hlen : 2 * ((out.length + 1) * 9) ≤ 140737488355328 := by omega
      obtain ⟨ext, e1, e2, e3⟩ := ih den (Int.tmod num den) (out ++ [Int.tdiv num den]) (by omega) h3 h4 g2 (by omega) (by simp; omega)
      have es : out ++ [Int.tdiv num den] ++ ext = out ++ (Int.tdiv num den :: ext) := by simp
      rw [es] at e1 e2 e3
      refine ⟨Int.tdiv num den :: ext, e1, ?_, ?_⟩
      · simp only [i_PlusTerms_L4] at e2 ⊢
        rw [← e2]
        exact loopO_next (by simp [i_PlusTerms_L4_step, T.run, h0, hp, hq, win_all, win_one, win_sing, hlen])
      · intro ho
        have hl : (out ++ [Int.tdiv num den]).length < 4611686018427387904 := by simp; omega
        have hst : (s_PlusTerms_L4_step ((num, (den, ())), out)).run = some (if isTerms (out ++ [Int.tdiv num den]) then .inl ((den, (Int.tmod num den, ())), out ++ [Int.tdiv num den]) else .inr (.inl (((), false), []))) := by
          have hw : win (out ++ [Int.tdiv num den]) 0 (out.length + 1) = out ++ [Int.tdiv num den] := by
            have := win_all (out ++ [Int.tdiv num den]); rwa [List.length_append] at this
          simp only [s_PlusTerms_L4_step, T.run, h0, hp, hq, win_all, win_one, List.length_append, List.length_singleton, hw, s_ctGood_eq _ hl]
          cases isTerms (out ++ [Int.tdiv num den]) <;> simp [hlen, h0]
        simp only [s_PlusTerms_L4] at e3 ⊢
        cases ht : isTerms (out ++ [Int.tdiv num den]) with
        | true =>
          rw [ht] at hst
          rw [loopO_next hst]
          exact e3 (Or.inr ht)
        | false =>
          rw [ht] at hst
          have : ¬ (out ++ (Int.tdiv num den :: ext) = [] ∨ isTerms (out ++ (Int.tdiv num den :: ext)) = true) := by
            rintro (h | h)
            · simp at h
            · rw [← es] at h; have := isTerms_snoc h; rw [ht] at this; cases this
          rw [if_neg this]
          exact loopO_done hst
theorem plus_terms (num den : Int) : ∃ r : Bool × List Int, r.2.length ≤ 10 ∧ i_PlusTerms (num, den) = some (((), r.1), r.2) ∧ s_PlusTerms (num, den) = some (((), r.1), r.2) := by
  simp only [i_PlusTerms, i_PlusTerms_t, s_PlusTerms, s_PlusTerms_t, T.run, i_isLowest_eq, s_ctPair_eq, Option.bind_some]
  cases hl : lowP num den with
  | false => exact ⟨(false, []), by simp, by simp, by simp⟩
  | true =>
    by_cases hlt : num < den
    · exact ⟨(false, []), by simp, by simp [hlt], by simp [hlt]⟩
    · simp only [lowP, Bool.and_eq_true, inB_iff] at hl
      obtain ⟨ext, e1, e2, e3⟩ := plus_loops den.toNat num den [] (Nat.le_refl _) (by omega) (by omega) (by omega) (by omega) (by simp; omega)
      rw [List.nil_append] at e1 e2 e3
      have e3 := e3 (Or.inl rfl)
      have hll : ext.length < 4611686018427387904 := by omega
      have hn : isTerms ([] : List Int) = true := by decide
      have hc : (ext = [] ∨ isTerms ext = true) ↔ isTerms ext = true := by
        constructor
        · rintro (rfl | h)
          · exact hn
          · exact h
        · exact Or.inr
      simp only [hc] at e3
      simp only [hlt, decide_false, Bool.false_eq_true, if_false, Bool.not_true, if_true, List.replicate_zero, e2, e3, Option.bind_some, win_all, i_IsTermList_eq _ hll, i_listed_eq]
      cases ht : isTerms ext with
      | true => exact ⟨(true, ext), by rw [isTerms_iff] at ht; exact ht.1, by simp [Sum.isLeft], by simp [Sum.isLeft]⟩
      | false => exact ⟨(false, []), by simp, by simp [Sum.isLeft], by simp [Sum.isLeft]⟩


def s_DrawFractionOfPlus_sh : FSh := ⟨[(.one (.sl (.int .u8) false true))], []⟩

def s_DrawFractionOfPlus_fo : List FO := [⟨[(.one (.rw 0 0))], [(.row 0 (.int .i64))]⟩]
noncomputable def s_DrawFractionOfPlus_t : List (Int) → T (Unit × List (Int)) := fun code =>
  (.sub (s_l1Cur_terms (((), ((1 : Int), (6 : Int))), (code, ((0 : Int), (0 : Int))))) fun z0 =>
  (.test (decide ((0 = 0) ∧ ((List.length z0.2.2) = (List.length z0.2.2))))
  (.ret ((), z0.2.2))
  .fail))
noncomputable def s_DrawFractionOfPlus (v : List (Int)) : Option (Unit × List (Int)) := (s_DrawFractionOfPlus_t v).run
noncomputable def s_DrawFractionOfPlus_E : TEnv := (E0.add1 n_s_l1Cur_terms s_l1Cur_terms_sh s_l1Cur_terms_fo s_l1Cur_terms)
theorem s_DrawFractionOfPlus_Eok : (s_DrawFractionOfPlus_E).OK := (E0ok.add1 s_l1Cur_terms_ok)
noncomputable def s_DrawFractionOfPlus_told : Nat → Option SealT := fun id => none
theorem s_DrawFractionOfPlus_ok : FOK Try.prog n_s_DrawFractionOfPlus s_DrawFractionOfPlus_sh s_DrawFractionOfPlus_fo s_DrawFractionOfPlus :=
  fn_ok (E := s_DrawFractionOfPlus_E) (s_DrawFractionOfPlus_Eok) (told := s_DrawFractionOfPlus_told) (fl := []) (c := bodyOf fn_s_DrawFractionOfPlus) (s := s_DrawFractionOfPlus_sh) (l := s_DrawFractionOfPlus_fo) (tree := s_DrawFractionOfPlus_t) fnat_s_DrawFractionOfPlus (by kernel_rfl) (by kernel_rfl) (by kernel_rfl) (loopsOK_of (ls := []) (by kernel_rfl) trivial) (fun v => by kernel_rfl)

def slices_Min_int_sh : FSh := ⟨[(.one (.sl (.int .i64) false false))], []⟩

def slices_Min_int_L5_sh : LSh := ⟨(fun ex => match ex with | .norm => [(0, none), (3, none), (4, none)] | .exit i => if i = 0 then [(3, none)] else [] | .ret => [(2, none)]), [(0, (.one (.sl (.int .i64) false false))), (3, (.one (.si .i64))), (4, (.one (.si .i64)))], [], [⟨(.exit 0), [(3, (.one (.si .i64)))], []⟩], [], []⟩
noncomputable def slices_Min_int_L5_step : (List (Int) × Int × Int) → T ((List (Int) × Int × Int) ⊕ Int) := fun (x, m, i) =>
  (.test (decide (i < ((List.length x) : Int)))
  (.test (decide ((0 ≤ i) ∧ (i < ((List.length x) : Int))))
   (.sub (x[(Int.toNat i)]?) fun z0 =>
    (.ret (Sum.inl (x, ((if (z0 < m) then z0 else m), (w64 (i + 1)))))))
   .fail)
  (.ret (Sum.inr m)))
noncomputable def slices_Min_int_L5 (v : (List (Int) × Int × Int)) : Option Int := loopO (fun v => (slices_Min_int_L5_step v).run) v

def slices_Min_int_fo : List FO := [⟨[(.one (.si .i64))], []⟩]
noncomputable def slices_Min_int_t : List (Int) → T Int := fun x =>
  (.test (decide (((List.length x) : Int) < 1))
  .fail
  (.test (decide (((0 : Int) ≤ (0 : Int)) ∧ (0 < ((List.length x) : Int))))
   (.sub (x[0]?) fun z0 =>
    (.sub (slices_Min_int_L5 (x, (z0, (1 : Int)))) fun z1 =>
    (.ret z1)))
   .fail))
noncomputable def slices_Min_int (v : List (Int)) : Option Int := (slices_Min_int_t v).run
noncomputable def slices_Min_int_E : TEnv := E0
theorem slices_Min_int_Eok : (slices_Min_int_E).OK := E0ok
noncomputable def slices_Min_int_told : Nat → Option SealT := fun id => if id = 5 then some (LSh.told slices_Min_int_L5_sh 0 (slices_Min_int_L5_step)) else none
theorem slices_Min_int_L5_ok : ToldOK Try.prog 0 (loopAt (bodyOf fn_slices_Min_int) [0]) (LSh.told slices_Min_int_L5_sh 0 (slices_Min_int_L5_step)) :=
  loop_ok (E := slices_Min_int_E) (slices_Min_int_Eok) (told := slices_Min_int_told) (l := slices_Min_int_L5_sh) (step := slices_Min_int_L5_step) (loopsOK_of (ls := []) (by kernel_rfl) trivial) (by kernel_rfl) (fun v => by kernel_rfl)
theorem slices_Min_int_ok : FOK Try.prog n_slices_Min_int slices_Min_int_sh slices_Min_int_fo slices_Min_int :=
  fn_ok (E := slices_Min_int_E) (slices_Min_int_Eok) (told := slices_Min_int_told) (fl := []) (c := bodyOf fn_slices_Min_int) (s := slices_Min_int_sh) (l := slices_Min_int_fo) (tree := slices_Min_int_t) fnat_slices_Min_int (by kernel_rfl) (by kernel_rfl) (by kernel_rfl) (loopsOK_of (ls := [loopAt (bodyOf fn_slices_Min_int) [0]]) (by kernel_rfl) ⟨.inr ⟨_, by kernel_rfl, slices_Min_int_L5_ok⟩, trivial⟩) (fun v => by kernel_rfl)

theorem slices_Min_int_eq (l : List Int) (h0 : l ≠ []) (hl : l.length < 4611686018427387904) : ∃ m, slices_Min_int l = some m ∧ ∀ c, c ≤ m ↔ ∀ y ∈ l, c ≤ y := by
  have key : ∀ n k m, k + n = l.length → (∀ c : Int, c ≤ m ↔ ∀ y ∈ l.take k, c ≤ y) → ∃ m', slices_Min_int_L5 (l, (m, (k : Int))) = some m' ∧ ∀ c, c ≤ m' ↔ ∀ y ∈ l, c ≤ y := by
    intro n
    induction n with
    | zero =>
      intro k m hk h
      obtain rfl : k = l.length := by omega
      rw [List.take_length] at h
      refine ⟨m, ?_, h⟩
      simp only [slices_Min_int_L5]
      exact loopO_done (by simp [slices_Min_int_L5_step, T.run])
    | succ n ih =>
      intro k m hk h
      have hlt : k < l.length := by omega
      have hst : (slices_Min_int_L5_step (l, (m, (k : Int)))).run = some (.inl (l, ((if l[k] < m then l[k] else m), ((k + 1 : Nat) : Int)))) := by
        simp only [slices_Min_int_L5_step, T.run, Int.toNat_natCast, List.getElem?_eq_getElem hlt, Option.bind_some]
        rw [w64_id (z := (k : Int) + 1) (by omega) (by omega)]
        have h1 : (k : Int) < (l.length : Int) := by omega
        have h2 : (0 : Int) ≤ k ∧ (k : Int) < (l.length : Int) := by omega
        simp [h1, h2]
      simp only [slices_Min_int_L5] at ih ⊢
      rw [loopO_next hst]
      refine ih (k + 1) _ (by omega) ?_
      intro c
      rw [List.take_add_one, List.getElem?_eq_getElem hlt]
      simp only [Option.toList_some, List.mem_append, List.mem_singleton]
      have hc := h c
      constructor
      · intro h1 y hy
        rcases hy with hy | rfl
        · exact hc.1 (by split at h1 <;> omega) y hy
        · split at h1 <;> omega
      · intro h1
        have h2 := hc.2 (fun y hy => h1 y (Or.inl hy))
        have h3 := h1 l[k] (Or.inr rfl)
        split <;> omega
  obtain ⟨x, t, rfl⟩ := List.exists_cons_of_ne_nil h0
  obtain ⟨m', e, hm⟩ := key t.length 1 x (by simp; omega) (by intro c; simp)
  refine ⟨m', ?_, hm⟩
  have hn : ¬ (((x :: t).length : Int) < 1) := by simp; omega
  simp only [slices_Min_int, slices_Min_int_t, T.run, hn, decide_false, Bool.false_eq_true, if_false]
  rw [show ((1 : Nat) : Int) = 1 from rfl] at e
  simp [e]


def i_areFrom_sh : FSh := ⟨[(.one (.sl (.int .i64) false false)), (.one (.si .i64))], []⟩

def i_areFrom_fo : List FO := [⟨[(.one .sb)], []⟩]
noncomputable def i_areFrom_t : (List (Int) × Int) → T Bool := fun (list, least) =>
  (.sub (i_IsTermList list) fun z0 =>
  (.test z0
  (.test (decide (((List.length list) : Int) > 0))
   (.sub (slices_Min_int list) fun z1 =>
    (.ret (decide (z1 ≥ least))))
   (.ret false))
  (.ret false)))
noncomputable def i_areFrom (v : (List (Int) × Int)) : Option Bool := (i_areFrom_t v).run
noncomputable def i_areFrom_E : TEnv := ((E0.add1 n_i_IsTermList i_IsTermList_sh i_IsTermList_fo i_IsTermList).add1 n_slices_Min_int slices_Min_int_sh slices_Min_int_fo slices_Min_int)
theorem i_areFrom_Eok : (i_areFrom_E).OK := ((E0ok.add1 i_IsTermList_ok).add1 slices_Min_int_ok)
noncomputable def i_areFrom_told : Nat → Option SealT := fun id => none
theorem i_areFrom_ok : FOK Try.prog n_i_areFrom i_areFrom_sh i_areFrom_fo i_areFrom :=
  fn_ok (E := i_areFrom_E) (i_areFrom_Eok) (told := i_areFrom_told) (fl := []) (c := bodyOf fn_i_areFrom) (s := i_areFrom_sh) (l := i_areFrom_fo) (tree := i_areFrom_t) fnat_i_areFrom (by kernel_rfl) (by kernel_rfl) (by kernel_rfl) (loopsOK_of (ls := []) (by kernel_rfl) trivial) (fun v => by kernel_rfl)

theorem i_areFrom_eq (l : List Int) (hl : l.length < 4611686018427387904) : i_areFrom (l, 1) = some (posT l) := by
  simp only [i_areFrom, i_areFrom_t, T.run, i_IsTermList_eq l hl, Option.bind_some, posT]
  have : decide ((l.length : Int) > 0) = decide (l ≠ []) := by cases l <;> simp
  rw [this]
  cases ht : isTerms l with
  | false => simp
  | true =>
    by_cases h : l = []
    · simp [h]
    · obtain ⟨m, e, hm⟩ := slices_Min_int_eq l h hl
      have : decide (m ≥ 1) = l.all (inB 1 30) := by
        rw [Bool.eq_iff_iff, List.all_eq_true]
        simp only [ge_iff_le, decide_eq_true_eq, hm, inB_iff]
        rw [isTerms_iff] at ht
        constructor
        · intro h1 x hx; exact ⟨h1 x hx, (ht.2 x hx).2⟩
        · intro h1 x hx; exact (h1 x hx).1
      simp [h, e, this]


def i_fraction_sh : FSh := ⟨[(.one (.sl (.int .i64) false false)), (.one (.si .i64))], []⟩

def i_fraction_L3_sh : LSh := ⟨(fun ex => match ex with | .norm => [(0, none), (1, none), (7, none), (8, none), (9, none)] | .exit i => if i = 0 then [(7, none), (8, none)] else [] | .ret => [(4, none), (5, none), (6, none)]), [(0, (.one (.sl (.int .i64) false false))), (1, (.one (.si .i64))), (7, (.one (.si .i64))), (8, (.one (.si .i64))), (9, (.one (.si .i64)))], [], [⟨.ret, [(4, (.one (.si .i64))), (5, (.one (.si .i64))), (6, (.one .sb))], []⟩, ⟨(.exit 0), [(7, (.one (.si .i64))), (8, (.one (.si .i64)))], []⟩], [], []⟩
noncomputable def i_fraction_L3_step : (List (Int) × Int × Int × Int × Int) → T ((List (Int) × Int × Int × Int × Int) ⊕ ((Int × Int × Bool) ⊕ (Int × Int))) := fun (list, sign, num, den, i) =>
  (.test (decide (i ≥ 0))
  (.test (num == 0)
   (.ret (Sum.inr (Sum.inl ((0 : Int), ((0 : Int), false)))))
   (.test (decide ((0 ≤ i) ∧ (i < ((List.length list) : Int))))
    (.sub (list[(Int.toNat i)]?) fun z0 =>
     (.ret (Sum.inl (list, (sign, ((w64 ((w64 (z0 * num)) + (w64 (sign * den)))), (num, (w64 (i - 1)))))))))
    .fail))
  (.ret (Sum.inr (Sum.inr (num, den)))))
noncomputable def i_fraction_L3 (v : (List (Int) × Int × Int × Int × Int)) : Option ((Int × Int × Bool) ⊕ (Int × Int)) := loopO (fun v => (i_fraction_L3_step v).run) v

def i_fraction_fo : List FO := [⟨[(.one (.si .i64)), (.one (.si .i64)), (.one .sb)], []⟩]
noncomputable def i_fraction_t : (List (Int) × Int) → T (Int × Int × Bool) := fun (list, sign) =>
  (.test (decide ((0 ≤ (w64 (((List.length list) : Int) - 1))) ∧ ((w64 (((List.length list) : Int) - 1)) < ((List.length list) : Int))))
  (.sub (list[(Int.toNat (w64 (((List.length list) : Int) - 1)))]?) fun z0 =>
   (.sub (i_fraction_L3 (list, (sign, (z0, ((1 : Int), (w64 (((List.length list) : Int) - 2))))))) fun z1 =>
   (.test (Sum.isLeft z1)
   (.sub (Sum.getLeft? z1) fun z2 =>
    (.ret (z2.1, (z2.2.1, z2.2.2))))
   (.sub (Sum.getRight? z1) fun z3 =>
    (.test (decide (z3.2 < 0))
    (.ret ((w64 (0 - z3.1)), ((w64 (0 - z3.2)), true)))
    (.ret (z3.1, (z3.2, true))))))))
  .fail)
noncomputable def i_fraction (v : (List (Int) × Int)) : Option (Int × Int × Bool) := (i_fraction_t v).run
noncomputable def i_fraction_E : TEnv := E0
theorem i_fraction_Eok : (i_fraction_E).OK := E0ok
noncomputable def i_fraction_told : Nat → Option SealT := fun id => if id = 3 then some (LSh.told i_fraction_L3_sh 0 (i_fraction_L3_step)) else none
theorem i_fraction_L3_ok : ToldOK Try.prog 0 (loopAt (bodyOf fn_i_fraction) [0]) (LSh.told i_fraction_L3_sh 0 (i_fraction_L3_step)) :=
  loop_ok (E := i_fraction_E) (i_fraction_Eok) (told := i_fraction_told) (l := i_fraction_L3_sh) (step := i_fraction_L3_step) (loopsOK_of (ls := []) (by kernel_rfl) trivial) (by kernel_rfl) (fun v => by kernel_rfl)
theorem i_fraction_ok : FOK Try.prog n_i_fraction i_fraction_sh i_fraction_fo i_fraction :=
  fn_ok (E := i_fraction_E) (i_fraction_Eok) (told := i_fraction_told) (fl := []) (c := bodyOf fn_i_fraction) (s := i_fraction_sh) (l := i_fraction_fo) (tree := i_fraction_t) fnat_i_fraction (by kernel_rfl) (by kernel_rfl) (by kernel_rfl) (loopsOK_of (ls := [loopAt (bodyOf fn_i_fraction) [0]]) (by kernel_rfl) ⟨.inr ⟨_, by kernel_rfl, i_fraction_L3_ok⟩, trivial⟩) (fun v => by kernel_rfl)

theorem i_fraction_loop (l : List Int) (h30 : ∀ x ∈ l, 1 ≤ x ∧ x ≤ 30) (h10 : l.length ≤ 10) : ∀ (n : Nat) (i : Int) (a b : Int) (k : Nat), n + k = l.length → i = (n : Int) - 1 → 1 ≤ a → a ≤ pw k → 1 ≤ b → b ≤ pw k →
    ∃ q : Int × Int, i_fraction_L3 (l, (1, (a, (b, i)))) = some (.inr q) ∧ s_ctFraction_L3 (l, (1, (a, (b, i)))) = some (.inr q) ∧ 1 ≤ q.1 ∧ q.1 ≤ pw l.length ∧ 1 ≤ q.2 ∧ q.2 ≤ pw l.length := by
  intro n
  induction n with
  | zero =>
    intro i a b k hk hi h1 h2 h3 h4
    obtain rfl : k = l.length := by omega
    obtain rfl : i = -1 := by omega
    refine ⟨(a, b), ?_, ?_, h1, h2, h3, h4⟩
    · simp only [i_fraction_L3]; exact loopO_done (by simp [i_fraction_L3_step, T.run])
    · simp only [s_ctFraction_L3]; exact loopO_done (by simp [s_ctFraction_L3_step, T.run])
  | succ n ih =>
    intro i a b k hk hi h1 h2 h3 h4
    obtain rfl : i = (n : Int) := by omega
    have hlt : n < l.length := by omega
    have hx := h30 l[n] (List.getElem_mem hlt)
    have hp := pw_le (k := k) (by omega)
    have hps := pw_succ k
    have hm := mul_le (a := l[n]) (b := a) (A := 30) (B := pw k) (by omega) (by omega) (by omega) h2
    have hm1 : 1 * 1 ≤ l[n] * a := Int.mul_le_mul hx.1 h1 (by omega) (by omega)
    obtain ⟨q, q1, q2, q3⟩ := ih ((n : Int) - 1) (l[n] * a + b) a (k + 1) (by omega) rfl (by omega) (by omega) h1 (by omega)
    have w1 : w64 (l[n] * a) = l[n] * a := w64_id (by omega) (by omega)
    have w2 : w64 (1 * b) = b := by rw [Int.one_mul]; exact w64_id (by omega) (by omega)
    have w3 : w64 (l[n] * a + b) = l[n] * a + b := w64_id (by omega) (by omega)
    have w4 : w64 ((n : Int) - 1) = (n : Int) - 1 := w64_id (by omega) (by omega)
    have c1 : (n : Int) ≥ 0 := by omega
    have c2 : (0 : Int) ≤ n ∧ (n : Int) < (l.length : Int) := by omega
    have c3 : (a == 0) = false := by rw [beq_int]; simp; omega
    have c4 : ¬ (a < 0) := by omega
    refine ⟨q, ?_, ?_, q3⟩
    · simp only [i_fraction_L3] at q1 ⊢
      rw [← q1]
      refine loopO_next ?_
      simp only [i_fraction_L3_step, T.run, Int.toNat_natCast, List.getElem?_eq_getElem hlt, Option.bind_some, w1, w2, w3, w4, c1, c2, c3, decide_true, if_true, Bool.false_eq_true, if_false, and_self]
    · simp only [s_ctFraction_L3] at q2 ⊢
      rw [← q2]
      refine loopO_next ?_
      simp only [s_ctFraction_L3_step, T.run, Int.toNat_natCast, List.getElem?_eq_getElem hlt, Option.bind_some, w1, w2, w3, w4, c1, c2, c3, c4, decide_true, decide_false, if_true, Bool.false_eq_true, if_false, and_self]
theorem fraction_both (l : List Int) (h : posT l = true) : ∃ q : Int × Int, i_fraction (l, 1) = some (q.1, (q.2, true)) ∧ s_ctFraction (l, 1) = some (q.1, (q.2, true)) ∧ 1 ≤ q.1 ∧ q.1 ≤ pw l.length ∧ 1 ≤ q.2 ∧ q.2 ≤ pw l.length ∧ l.length ≤ 10 := by
  simp only [posT, Bool.and_eq_true, isTerms_iff, decide_eq_true_eq, List.all_eq_true, inB_iff] at h
  obtain ⟨⟨h10, _⟩, hne, h30⟩ := h
  have hpos : 0 < l.length := List.length_pos_iff.2 hne
  have hlt : l.length - 1 < l.length := by omega
  have hx := h30 l[l.length - 1] (List.getElem_mem hlt)
  have hp1 : pw 1 = 31 := by decide
  obtain ⟨q, q1, q2, q3⟩ := i_fraction_loop l h30 h10 (l.length - 1) ((l.length : Int) - 2) l[l.length - 1] 1 1 (by omega) (by omega) (by omega) (by omega) (by omega) (by omega)
  have w1 : w64 ((l.length : Int) - 1) = (l.length : Int) - 1 := w64_id (by omega) (by omega)
  have w2 : w64 ((l.length : Int) - 2) = (l.length : Int) - 2 := w64_id (by omega) (by omega)
  have e1 : ((l.length : Int) - 1).toNat = l.length - 1 := by omega
  have c1 : (0 : Int) ≤ (l.length : Int) - 1 ∧ (l.length : Int) - 1 < (l.length : Int) := by omega
  have c2 : ¬ (q.2 < 0) := by omega
  refine ⟨q, ?_, ?_, q3.1, q3.2.1, q3.2.2.1, q3.2.2.2, h10⟩
  · simp only [i_fraction, i_fraction_t, T.run, w1, w2, e1, List.getElem?_eq_getElem hlt, Option.bind_some, c1, and_self, decide_true, if_true, q1, Sum.isLeft, Bool.false_eq_true, if_false, Sum.getRight?, c2, decide_false]
  · simp only [s_ctFraction, s_ctFraction_t, T.run, w1, w2, e1, List.getElem?_eq_getElem hlt, Option.bind_some, c1, and_self, decide_true, if_true, q2, Sum.isLeft, Bool.false_eq_true, if_false, Sum.getRight?]


def i_FractionOfPlus_sh : FSh := ⟨[(.one (.sl (.int .i64) false false))], []⟩

def i_FractionOfPlus_fo : List FO := [⟨[(.one (.si .i64)), (.one (.si .i64)), (.one .sb)], []⟩]
noncomputable def i_FractionOfPlus_t : List (Int) → T (Int × Int × Bool) := fun list =>
  (.sub (i_areFrom (list, (1 : Int))) fun z0 =>
  (.test (! z0)
  (.ret ((0 : Int), ((0 : Int), false)))
  (.sub (i_fraction (list, (1 : Int))) fun z1 =>
   (.ret (z1.1, (z1.2.1, z1.2.2))))))
noncomputable def i_FractionOfPlus (v : List (Int)) : Option (Int × Int × Bool) := (i_FractionOfPlus_t v).run
noncomputable def i_FractionOfPlus_E : TEnv := ((E0.add1 n_i_areFrom i_areFrom_sh i_areFrom_fo i_areFrom).add1 n_i_fraction i_fraction_sh i_fraction_fo i_fraction)
theorem i_FractionOfPlus_Eok : (i_FractionOfPlus_E).OK := ((E0ok.add1 i_areFrom_ok).add1 i_fraction_ok)
noncomputable def i_FractionOfPlus_told : Nat → Option SealT := fun id => none
theorem i_FractionOfPlus_ok : FOK Try.prog n_i_FractionOfPlus i_FractionOfPlus_sh i_FractionOfPlus_fo i_FractionOfPlus :=
  fn_ok (E := i_FractionOfPlus_E) (i_FractionOfPlus_Eok) (told := i_FractionOfPlus_told) (fl := []) (c := bodyOf fn_i_FractionOfPlus) (s := i_FractionOfPlus_sh) (l := i_FractionOfPlus_fo) (tree := i_FractionOfPlus_t) fnat_i_FractionOfPlus (by kernel_rfl) (by kernel_rfl) (by kernel_rfl) (loopsOK_of (ls := []) (by kernel_rfl) trivial) (fun v => by kernel_rfl)

def s_MinusOfPlus_sh : FSh := ⟨[(.one (.sl (.int .i64) false false))], []⟩

def s_MinusOfPlus_fo : List FO := [⟨[(.one (.rw 0 0)), (.one .sb)], [(.row 0 (.int .i64))]⟩]
noncomputable def s_MinusOfPlus_t : List (Int) → T ((Unit × Bool) × List (Int)) := fun list =>
  (.sub (s_ctPositive list) fun z0 =>
  (.test (! z0)
  (.test true
   (.ret (((), false), ([] : List (Int))))
   .fail)
  (.sub (s_ctFraction (list, (1 : Int))) fun z1 =>
   (.sub (s_ctMinus (z1.1, z1.2.1)) fun z2 =>
   (.test (decide ((0 = 0) ∧ ((List.length z2.2) = (List.length z2.2))))
   (.ret (((), z2.1.2), z2.2))
   .fail)))))
noncomputable def s_MinusOfPlus (v : List (Int)) : Option ((Unit × Bool) × List (Int)) := (s_MinusOfPlus_t v).run
noncomputable def s_MinusOfPlus_E : TEnv := (((E0.add1 n_s_ctPositive s_ctPositive_sh s_ctPositive_fo s_ctPositive).add1 n_s_ctFraction s_ctFraction_sh s_ctFraction_fo s_ctFraction).add1 n_s_ctMinus s_ctMinus_sh s_ctMinus_fo s_ctMinus)
theorem s_MinusOfPlus_Eok : (s_MinusOfPlus_E).OK := (((E0ok.add1 s_ctPositive_ok).add1 s_ctFraction_ok).add1 s_ctMinus_ok)
noncomputable def s_MinusOfPlus_told : Nat → Option SealT := fun id => none
theorem s_MinusOfPlus_ok : FOK Try.prog n_s_MinusOfPlus s_MinusOfPlus_sh s_MinusOfPlus_fo s_MinusOfPlus :=
  fn_ok (E := s_MinusOfPlus_E) (s_MinusOfPlus_Eok) (told := s_MinusOfPlus_told) (fl := []) (c := bodyOf fn_s_MinusOfPlus) (s := s_MinusOfPlus_sh) (l := s_MinusOfPlus_fo) (tree := s_MinusOfPlus_t) fnat_s_MinusOfPlus (by kernel_rfl) (by kernel_rfl) (by kernel_rfl) (loopsOK_of (ls := []) (by kernel_rfl) trivial) (fun v => by kernel_rfl)

def i_MinusOfPlus_sh : FSh := ⟨[(.one (.sl (.int .i64) false false))], []⟩

def i_MinusOfPlus_fo : List FO := [⟨[(.one (.rw 0 0)), (.one .sb)], [(.row 0 (.int .i64))]⟩]
noncomputable def i_MinusOfPlus_t : List (Int) → T ((Unit × Bool) × List (Int)) := fun list =>
  (.sub (i_FractionOfPlus list) fun z0 =>
  (.test (! z0.2.2)
  (.test true
   (.ret (((), false), ([] : List (Int))))
   .fail)
  (.sub (i_minusTerms (z0.1, z0.2.1)) fun z1 =>
   (.test (decide ((0 = 0) ∧ ((List.length z1.2) = (List.length z1.2))))
   (.sub (i_listed (((), z1.1.2), z1.2)) fun z2 =>
    (.test (Sum.isLeft z2)
    (.sub (Sum.getLeft? z2) fun z3 =>
     (.test (decide ((0 = 0) ∧ ((List.length z3.2.2) = (List.length z3.2.2))))
     (.ret (((), z3.1.2), z3.2.2))
     .fail))
    (.sub (Sum.getRight? z2) fun z4 =>
     (.test (decide ((0 = 0) ∧ ((List.length z4.2) = (List.length z4.2))))
     (.ret (((), z4.1.2), z4.2))
     .fail))))
   .fail))))
noncomputable def i_MinusOfPlus (v : List (Int)) : Option ((Unit × Bool) × List (Int)) := (i_MinusOfPlus_t v).run
noncomputable def i_MinusOfPlus_E : TEnv := (((E0.add1 n_i_FractionOfPlus i_FractionOfPlus_sh i_FractionOfPlus_fo i_FractionOfPlus).add1 n_i_minusTerms i_minusTerms_sh i_minusTerms_fo i_minusTerms).add1 n_i_listed i_listed_sh i_listed_fo i_listed)
theorem i_MinusOfPlus_Eok : (i_MinusOfPlus_E).OK := (((E0ok.add1 i_FractionOfPlus_ok).add1 i_minusTerms_ok).add1 i_listed_ok)
noncomputable def i_MinusOfPlus_told : Nat → Option SealT := fun id => none
theorem i_MinusOfPlus_ok : FOK Try.prog n_i_MinusOfPlus i_MinusOfPlus_sh i_MinusOfPlus_fo i_MinusOfPlus :=
  fn_ok (E := i_MinusOfPlus_E) (i_MinusOfPlus_Eok) (told := i_MinusOfPlus_told) (fl := []) (c := bodyOf fn_i_MinusOfPlus) (s := i_MinusOfPlus_sh) (l := i_MinusOfPlus_fo) (tree := i_MinusOfPlus_t) fnat_i_MinusOfPlus (by kernel_rfl) (by kernel_rfl) (by kernel_rfl) (loopsOK_of (ls := []) (by kernel_rfl) trivial) (fun v => by kernel_rfl)

theorem minus_plus (l : List Int) (hl : l.length < 4611686018427387904) : ∃ r : Bool × List Int, r.2.length ≤ 10 ∧ i_MinusOfPlus l = some (((), r.1), r.2) ∧ s_MinusOfPlus l = some (((), r.1), r.2) := by
  simp only [i_MinusOfPlus, i_MinusOfPlus_t, s_MinusOfPlus, s_MinusOfPlus_t, i_FractionOfPlus, i_FractionOfPlus_t, T.run, i_areFrom_eq l hl, s_ctPositive_eq l hl, Option.bind_some]
  cases hp : posT l with
  | false => exact ⟨(false, []), by simp, by simp, by simp⟩
  | true =>
    obtain ⟨q, f1, f2, g1, g2, g3, g4, g5⟩ := fraction_both l hp
    have hpw := pw_le g5
    obtain ⟨ext, e1, e2, e3⟩ := minus_both q.1 q.2 (by omega) (by omega) (by omega) (by omega)
    simp only [f1, f2, Bool.not_true, Bool.false_eq_true, if_false, Option.bind_some, e2, e3, i_listed_eq]
    cases ht : isTerms ext with
    | true => exact ⟨(true, ext), by rw [isTerms_iff] at ht; exact ht.1, by simp [Sum.isLeft], by simp [Sum.isLeft]⟩
    | false => exact ⟨(false, []), by simp, by simp [Sum.isLeft], by simp [Sum.isLeft]⟩


def i_FractionOfMinus_sh : FSh := ⟨[(.one (.sl (.int .i64) false false))], []⟩

def i_FractionOfMinus_fo : List FO := [⟨[(.one (.si .i64)), (.one (.si .i64)), (.one .sb)], []⟩]
noncomputable def i_FractionOfMinus_t : List (Int) → T (Int × Int × Bool) := fun list =>
  (.sub (i_areFrom (list, (-30))) fun z0 =>
  (.test (! z0)
  (.ret ((0 : Int), ((0 : Int), false)))
  (.sub (i_fraction (list, (-1))) fun z1 =>
   (.ret (z1.1, (z1.2.1, z1.2.2))))))
noncomputable def i_FractionOfMinus (v : List (Int)) : Option (Int × Int × Bool) := (i_FractionOfMinus_t v).run
noncomputable def i_FractionOfMinus_E : TEnv := ((E0.add1 n_i_areFrom i_areFrom_sh i_areFrom_fo i_areFrom).add1 n_i_fraction i_fraction_sh i_fraction_fo i_fraction)
theorem i_FractionOfMinus_Eok : (i_FractionOfMinus_E).OK := ((E0ok.add1 i_areFrom_ok).add1 i_fraction_ok)
noncomputable def i_FractionOfMinus_told : Nat → Option SealT := fun id => none
theorem i_FractionOfMinus_ok : FOK Try.prog n_i_FractionOfMinus i_FractionOfMinus_sh i_FractionOfMinus_fo i_FractionOfMinus :=
  fn_ok (E := i_FractionOfMinus_E) (i_FractionOfMinus_Eok) (told := i_FractionOfMinus_told) (fl := []) (c := bodyOf fn_i_FractionOfMinus) (s := i_FractionOfMinus_sh) (l := i_FractionOfMinus_fo) (tree := i_FractionOfMinus_t) fnat_i_FractionOfMinus (by kernel_rfl) (by kernel_rfl) (by kernel_rfl) (loopsOK_of (ls := []) (by kernel_rfl) trivial) (fun v => by kernel_rfl)

def i_PlusContinuantOf_sh : FSh := ⟨[(.one (.sl (.int .i64) false false))], []⟩

def i_PlusContinuantOf_fo : List FO := [⟨[(.one (.si .i64)), (.one .sb)], []⟩]
noncomputable def i_PlusContinuantOf_t : List (Int) → T (Int × Bool) := fun list =>
  (.sub (i_IsTermList list) fun z0 =>
  (.test (! z0)
  (.ret ((0 : Int), false))
  (.sub (i_continuant (list, (1 : Int))) fun z1 =>
   (.ret (z1, true)))))
noncomputable def i_PlusContinuantOf (v : List (Int)) : Option (Int × Bool) := (i_PlusContinuantOf_t v).run
noncomputable def i_PlusContinuantOf_E : TEnv := ((E0.add1 n_i_IsTermList i_IsTermList_sh i_IsTermList_fo i_IsTermList).add1 n_i_continuant i_continuant_sh i_continuant_fo i_continuant)
theorem i_PlusContinuantOf_Eok : (i_PlusContinuantOf_E).OK := ((E0ok.add1 i_IsTermList_ok).add1 i_continuant_ok)
noncomputable def i_PlusContinuantOf_told : Nat → Option SealT := fun id => none
theorem i_PlusContinuantOf_ok : FOK Try.prog n_i_PlusContinuantOf i_PlusContinuantOf_sh i_PlusContinuantOf_fo i_PlusContinuantOf :=
  fn_ok (E := i_PlusContinuantOf_E) (i_PlusContinuantOf_Eok) (told := i_PlusContinuantOf_told) (fl := []) (c := bodyOf fn_i_PlusContinuantOf) (s := i_PlusContinuantOf_sh) (l := i_PlusContinuantOf_fo) (tree := i_PlusContinuantOf_t) fnat_i_PlusContinuantOf (by kernel_rfl) (by kernel_rfl) (by kernel_rfl) (loopsOK_of (ls := []) (by kernel_rfl) trivial) (fun v => by kernel_rfl)


/-- The continuant from the front, and that of all but the first. -/
def kr (s : Int) : List Int → Int
  | [] => 1
  | [a] => a
  | a :: b :: l => a * kr s (b :: l) + s * kr s l
def kt (s : Int) : List Int → Int
  | [] => 0
  | _ :: l => kr s l
theorem kr_cons (s a : Int) (l : List Int) : kr s (a :: l) = a * kr s l + s * kt s l := by
  cases l with
  | nil => simp [kr, kt]
  | cons b l => rfl
theorem kt_cons (s a : Int) (l : List Int) : kt s (a :: l) = kr s l := rfl
theorem kr_fold (s : Int) : ∀ (l : List Int) (b o : Int), (l.foldl (cf s) (b, o)).2 = o * kr s l + s * b * kt s l
  | [], b, o => by simp [kr, kt]
  | a :: l, b, o => by
    rw [List.foldl_cons]
    show (l.foldl (cf s) (o, a * o + s * b)).2 = _
    rw [kr_fold s l, kr_cons, kt_cons]
    grind
theorem cont_kr (s : Int) (l : List Int) : cont s l = kr s l := by
  unfold cont cont2
  rw [kr_fold]
  simp
theorem cf_take (p : Int × Int) (x y : Int) : [x, 1, y].foldl (cf (-1)) p = [x - 1, y - 1].foldl (cf (-1)) p := by
  simp only [List.foldl_cons, List.foldl_nil, cf]
  congr 1 <;> grind
theorem cont_take (L R : List Int) (x y : Int) : cont (-1) (L ++ x :: 1 :: y :: R) = cont (-1) (L ++ (x - 1) :: (y - 1) :: R) := by
  unfold cont cont2
  rw [show L ++ x :: 1 :: y :: R = L ++ ([x, 1, y] ++ R) by simp, show L ++ (x - 1) :: (y - 1) :: R = L ++ ([x - 1, y - 1] ++ R) by simp]
  simp only [List.foldl_append]
  rw [cf_take]
theorem cont_put (L R : List Int) (x y : Int) : cont (-1) (L ++ (x + 1) :: 1 :: (y + 1) :: R) = cont (-1) (L ++ x :: y :: R) := by
  rw [cont_take, Int.add_sub_cancel, Int.add_sub_cancel]
/-- How great they get. -/
theorem kr_B {s : Int} (hs : s = 1 ∨ s = -1) : ∀ l : List Int, (∀ x ∈ l, -30 ≤ x ∧ x ≤ 30) → (-pw l.length ≤ kr s l ∧ kr s l ≤ pw l.length) ∧ -pw l.length ≤ kt s l ∧ kt s l ≤ pw l.length
  | [], _ => by simp [kr, kt, pw]
  | a :: l, h => by
    obtain ⟨⟨h1, h2⟩, h3, h4⟩ := kr_B hs l fun x hx => h x (List.mem_cons_of_mem _ hx)
    have ha := h a (by simp)
    have hp := pw_pos l.length
    have hm := mul_le ha.1 ha.2 h1 h2
    rw [kr_cons, kt_cons, List.length_cons, pw_succ]
    rcases hs with rfl | rfl <;> omega
theorem kr_two : ∀ l : List Int, (∀ x ∈ l, 2 ≤ x) → kt (-1) l < kr (-1) l ∧ 0 ≤ kt (-1) l
  | [], _ => by simp [kr, kt]
  | a :: l, h => by
    obtain ⟨h1, h2⟩ := kr_two l fun x hx => h x (List.mem_cons_of_mem _ hx)
    have ha := h a (by simp)
    have hm : 2 * kr (-1) l ≤ a * kr (-1) l := Int.mul_le_mul_of_nonneg_right ha (by omega)
    rw [kr_cons, kt_cons]
    omega
theorem kr_one : ∀ l : List Int, (∀ x ∈ l, 1 ≤ x) → 1 ≤ kr 1 l ∧ 0 ≤ kt 1 l
  | [], _ => by simp [kr, kt]
  | a :: l, h => by
    obtain ⟨h1, h2⟩ := kr_one l fun x hx => h x (List.mem_cons_of_mem _ hx)
    have ha := h a (by simp)
    have hm : 1 * kr 1 l ≤ a * kr 1 l := Int.mul_le_mul_of_nonneg_right ha (by omega)
    rw [kr_cons, kt_cons]
    omega
/-- No common divisor. -/
def cop (a b : Int) : Prop := ∀ d : Int, 0 < d → d ∣ a → d ∣ b → d = 1
theorem cop_of_gcd {a b : Int} (ha : 0 ≤ a) (hb : 0 ≤ b) (h : Nat.gcd a.toNat b.toNat = 1) : cop a b := by
  intro d hd h1 h2
  obtain ⟨m, rfl⟩ := Int.eq_ofNat_of_zero_le ha
  obtain ⟨n, rfl⟩ := Int.eq_ofNat_of_zero_le hb
  obtain ⟨k, rfl⟩ := Int.eq_ofNat_of_zero_le (Int.le_of_lt hd)
  rw [Int.toNat_natCast, Int.toNat_natCast] at h
  have := Nat.dvd_gcd (Int.natCast_dvd_natCast.1 h1) (Int.natCast_dvd_natCast.1 h2)
  rw [h, Nat.dvd_one] at this
  omega
theorem cop_step {a b q : Int} (h : cop a b) : cop b (q * b - a) := by
  intro d hd h1 h2
  refine h d hd ?_ h1
  have : a = q * b - (q * b - a) := by omega
  rw [this]
  exact Int.dvd_sub (Int.dvd_mul_of_dvd_right h1) h2
theorem cop_mod {a b q : Int} (h : cop a b) : cop b (a - q * b) := by
  intro d hd h1 h2
  refine h d hd ?_ h1
  have : a = q * b + (a - q * b) := by omega
  rw [this]
  exact Int.dvd_add (Int.dvd_mul_of_dvd_right h1) h2
theorem cop_comm {a b : Int} (h : cop a b) : cop b a := fun d hd h1 h2 => h d hd h2 h1
theorem kr_cop (s : Int) (hs : s = 1 ∨ s = -1) : ∀ l : List Int, l ≠ [] → cop (kr s l) (kt s l)
  | [], h => absurd rfl h
  | [a], _ => fun d hd h1 h2 => by
    simp only [kt, kr] at h2
    exact Int.eq_one_of_dvd_one (Int.le_of_lt hd) h2
  | a :: b :: l, _ => by
    have ih := kr_cop s hs (b :: l) (by simp)
    intro d hd h1 h2
    rw [kt_cons] at h2
    refine ih d hd h2 ?_
    rw [kr_cons] at h1
    have h3 : d ∣ a * kr s (b :: l) := Int.dvd_mul_of_dvd_right h2
    have h4 : d ∣ s * kt s (b :: l) := by
      have e : s * kt s (b :: l) = (a * kr s (b :: l) + s * kt s (b :: l)) - a * kr s (b :: l) := by omega
      rw [e]
      exact Int.dvd_sub h1 h3
    rcases hs with rfl | rfl
    · rwa [Int.one_mul] at h4
    · rw [Int.neg_mul, Int.one_mul] at h4
      exact Int.dvd_neg.1 h4
theorem den_one {num den q : Int} (hd : 0 < den) (h : cop num den) (e : q * den = num) : den = 1 := h den hd ⟨q, by rw [← e, Int.mul_comm]⟩ (Int.dvd_refl _)
/-- What the terms of a minus fraction are. -/
structure MinusOf (num den : Int) (l : List Int) : Prop where
  ne : l ≠ []
  k : kr (-1) l = num
  t : kt (-1) l = den
  two : ∀ x ∈ l.tail, 2 ≤ x
  one : ∀ x ∈ l.head?, 1 ≤ x
  far : den < num → ∀ x ∈ l.head?, 2 ≤ x
theorem upQ_two {num den : Int} (h1 : 1 ≤ den) (h : den < num) : 2 ≤ upQ num den := by
  unfold upQ
  exact Int.le_ediv_of_mul_le (by omega) (by omega)
theorem upQ_one {num den : Int} (h1 : 1 ≤ den) (h : 1 ≤ num) : 1 ≤ upQ num den := by
  unfold upQ
  exact Int.le_ediv_of_mul_le (by omega) (by omega)
theorem MinusOf.last {num den : Int} (h1 : 1 ≤ num) (h2 : 1 ≤ den) (hc : cop num den) (e : upQ num den * den = num) : MinusOf num den [upQ num den] := by
  have hd := den_one (by omega) hc e
  subst hd
  rw [Int.mul_one] at e
  exact ⟨by simp, by simp [kr, e], by simp [kt, kr], by simp, fun x hx => by simp at hx; subst hx; omega, fun hl x hx => by simp at hx; subst hx; omega⟩
theorem MinusOf.cons {num den : Int} {l : List Int} (h1 : 1 ≤ num) (h2 : 1 ≤ den) (hr : upQ num den * den - num < den) (h : MinusOf den (upQ num den * den - num) l) : MinusOf num den (upQ num den :: l) := by
  refine ⟨by simp, by rw [kr_cons, h.k, h.t]; omega, by rw [kt_cons, h.k], fun x hx => ?_, fun x hx => ?_, fun hl x hx => ?_⟩
  · cases l with
    | nil => exact absurd rfl h.ne
    | cons b l =>
      simp only [List.tail_cons, List.mem_cons] at hx
      rcases hx with rfl | hx
      · exact h.far hr x rfl
      · exact h.two x hx
  · simp at hx; subst hx; exact upQ_one h2 h1
  · simp at hx; subst hx; exact upQ_two h2 hl
/-- What the terms of a plus fraction are. -/
structure PlusOf (num den : Int) (l : List Int) : Prop where
  ne : l ≠ []
  k : kr 1 l = num
  t : kt 1 l = den
  pos : den ≤ num → ∀ x ∈ l, 1 ≤ x
  far : den < num → ∀ x ∈ l.getLast?, 2 ≤ x
theorem PlusOf.last {num den q : Int} (h2 : 1 ≤ den) (hc : cop num den) (e : q * den = num) : PlusOf num den [q] := by
  have hd := den_one (by omega) hc e
  subst hd
  rw [Int.mul_one] at e
  subst e
  exact ⟨by simp, by simp [kr], by simp [kt, kr], fun h x hx => by simp at hx; omega, fun hl x hx => by simp at hx; omega⟩
theorem PlusOf.cons {num den q r : Int} {l : List Int} (h2 : 1 ≤ den) (hr0 : 0 < r) (hr : r < den) (e : q * den + r = num) (h : PlusOf den r l) : PlusOf num den (q :: l) := by
  refine ⟨by simp, by rw [kr_cons, h.k, h.t]; omega, by rw [kt_cons, h.k], fun hl x hx => ?_, fun hl x hx => ?_⟩
  · simp only [List.mem_cons] at hx
    rcases hx with rfl | hx
    · refine Int.not_lt.1 fun hq => ?_
      have : x * den ≤ 0 * den := Int.mul_le_mul_of_nonneg_right (by omega) (by omega)
      omega
    · exact h.pos (by omega) x hx
  · cases l with
    | nil => exact absurd rfl h.ne
    | cons b l =>
      rw [List.getLast?_cons_cons] at hx
      exact h.far hr x hx


end Go.Proofs.W
