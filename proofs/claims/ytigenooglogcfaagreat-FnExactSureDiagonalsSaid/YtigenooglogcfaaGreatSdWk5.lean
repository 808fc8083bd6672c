/- Functions of the program, walked, and what they compute. -/
import Derived.Test.YtigenooglogcfaaGreatSdWk4
set_option linter.unusedVariables false
set_option linter.unusedSimpArgs false
set_option maxRecDepth 100000
set_option maxHeartbeats 4000000
namespace Go.Proofs.W
open Go Go.Gm Go.Proofs
open Go.RowKit Go.Shelf
def i_compareDiagonals_sh : FSh := ⟨[(.ag [(.si .i64), (.si .i64)]), (.ag [(.si .i64), (.si .i64)])], []⟩

def i_compareDiagonals_fo : List FO := [⟨[(.one (.si .i64))], []⟩]
noncomputable def i_compareDiagonals_t : ((Int × Int) × (Int × Int)) → T Int := fun ((a_0, a_1), (b_0, b_1)) =>
  (.sub (cmp_Compare_int (a_0, b_0)) fun z0 =>
  (.sub (cmp_Compare_int (a_1, b_1)) fun z1 =>
  (.test (decide (2 ≤ (List.length (List.set (List.set (List.replicate 2 (0 : Int)) 0 z0) 1 z1))))
  (.sub (cmp_Or_int (win (List.set (List.set (List.replicate 2 (0 : Int)) 0 z0) 1 z1) 0 2)) fun z2 =>
   (.ret z2))
  .fail)))
noncomputable def i_compareDiagonals (v : ((Int × Int) × (Int × Int))) : Option Int := (i_compareDiagonals_t v).run
noncomputable def i_compareDiagonals_E : TEnv := ((E0.add1 n_cmp_Compare_int cmp_Compare_int_sh cmp_Compare_int_fo cmp_Compare_int).add1 n_cmp_Or_int cmp_Or_int_sh cmp_Or_int_fo cmp_Or_int)
theorem i_compareDiagonals_Eok : (i_compareDiagonals_E).OK := ((E0ok.add1 cmp_Compare_int_ok).add1 cmp_Or_int_ok)
noncomputable def i_compareDiagonals_told : Nat → Option SealT := fun id => none
theorem i_compareDiagonals_ok : FOK Tryz.prog n_i_compareDiagonals i_compareDiagonals_sh i_compareDiagonals_fo i_compareDiagonals :=
  fn_ok (E := i_compareDiagonals_E) (i_compareDiagonals_Eok) (told := i_compareDiagonals_told) (fl := []) (c := bodyOf fn_i_compareDiagonals) (s := i_compareDiagonals_sh) (l := i_compareDiagonals_fo) (tree := i_compareDiagonals_t) fnat_i_compareDiagonals (by kernel_rfl) (by kernel_rfl) (by kernel_rfl) (loopsOK_of (ls := []) (by kernel_rfl) trivial) (fun v => by kernel_rfl)

theorem i_compareDiagonals_eq (d e : Dg) : i_compareDiagonals (d, e) = some (cmpD d e) := by
  obtain ⟨a, b⟩ := d
  obtain ⟨c, f⟩ := e
  have h2 : win (List.set (List.set (List.replicate 2 (0 : Int)) 0 (if a < c then -1 else if c < a then 1 else 0)) 1 (if b < f then -1 else if f < b then 1 else 0)) 0 2 = [if a < c then -1 else if c < a then 1 else 0, if b < f then -1 else if f < b then 1 else 0] := rfl
  simp only [i_compareDiagonals, i_compareDiagonals_t, T.run, cmp_Compare_int_eq, Option.bind_some, h2, cmp_Or_int_two]
  simp only [List.length_set, List.length_replicate, Nat.le_refl, decide_true, if_true]
  congr 1
  unfold cmpD ltD
  simp only [decide_eq_true_eq]
  split <;> split <;> (try split) <;> (try split) <;> omega
theorem cmpD_lt (d e : Dg) : decide (cmpD d e < 0) = ltD d e := by
  unfold cmpD
  cases ltD d e <;> simp
  split <;> omega
theorem cmpD_ge (d e : Dg) : decide (cmpD d e ≥ 0) = !ltD d e := by
  unfold cmpD
  cases ltD d e <;> simp
  split <;> omega


def slices_insertionSortCmpFunc_Diagonal__i_compareDiagonals_sh : FSh := ⟨[(.one (.rw 0 0)), (.one (.si .i64)), (.one (.si .i64)), (.one (.fn n_i_compareDiagonals))], [(.row 0 (.pair (.int .i64) (.int .i64)))]⟩

def slices_insertionSortCmpFunc_Diagonal__i_compareDiagonals_L4_sh : LSh := ⟨(fun ex => match ex with | .norm => [(0, none), (1, none), (2, none), (3, none), (8, none), (9, none)] | .exit i => if i = 2 then [(0, none), (1, none), (2, none), (3, none), (8, none)] else if i = 1 then [(0, none), (1, none), (2, none), (3, none), (8, none)] else if i = 0 then [] else [] | .ret => []), [(0, (.one (.rw 0 0))), (1, (.one (.si .i64))), (2, (.one (.si .i64))), (3, (.one (.fn n_i_compareDiagonals))), (8, (.one (.si .i64))), (9, (.one (.si .i64)))], [(.row 0 (.pair (.int .i64) (.int .i64)))], [⟨(.exit 2), [(0, (.one (.rw 0 0))), (1, (.one (.si .i64))), (2, (.one (.si .i64))), (3, (.one (.fn n_i_compareDiagonals))), (8, (.one (.si .i64)))], [(.row 0 (.pair (.int .i64) (.int .i64)))]⟩], [], []⟩
noncomputable def slices_insertionSortCmpFunc_Diagonal__i_compareDiagonals_L4_step : ((Unit × Int × Int × Unit × Int × Int) × List ((Int × Int))) → T (((Unit × Int × Int × Unit × Int × Int) × List ((Int × Int))) ⊕ ((Unit × Int × Int × Unit × Int) × List ((Int × Int)))) := fun (((), a, b, (), i, j), data) =>
  (.test (decide (j > a))
  (.test (decide ((0 ≤ j) ∧ (j < ((List.length data) : Int))))
   (.sub (data[(0 + (Int.toNat j))]?) fun z0 =>
    (.test (decide ((0 ≤ (w64 (j - 1))) ∧ ((w64 (j - 1)) < ((List.length data) : Int))))
    (.sub (data[(0 + (Int.toNat (w64 (j - 1))))]?) fun z1 =>
     (.sub (i_compareDiagonals ((z0.1, z0.2), (z1.1, z1.2))) fun z2 =>
     (.test (decide (z2 < 0))
     (.test (decide ((0 ≤ (w64 (j - 1))) ∧ ((w64 (j - 1)) < ((List.length data) : Int))))
      (.sub (data[(0 + (Int.toNat (w64 (j - 1))))]?) fun z3 =>
       (.test (decide ((0 ≤ j) ∧ (j < ((List.length data) : Int))))
       (.sub (data[(0 + (Int.toNat j))]?) fun z4 =>
        (.test (decide ((0 ≤ j) ∧ (j < ((List.length data) : Int))))
        (.sub (data[(0 + (Int.toNat j))]?) fun z5 =>
         (.test (decide ((0 ≤ (w64 (j - 1))) ∧ ((w64 (j - 1)) < ((List.length data) : Int))))
         (.sub ((List.set data (0 + (Int.toNat j)) (z3.1, z3.2))[(0 + (Int.toNat (w64 (j - 1))))]?) fun z6 =>
          (.test (decide ((0 = 0) ∧ ((List.length data) = (List.length (List.set (List.set data (0 + (Int.toNat j)) (z3.1, z3.2)) (0 + (Int.toNat (w64 (j - 1)))) (z4.1, z4.2))))))
          (.ret (Sum.inl (((), (a, (b, ((), (i, (w64 (j - 1))))))), (List.set (List.set data (0 + (Int.toNat j)) (z3.1, z3.2)) (0 + (Int.toNat (w64 (j - 1)))) (z4.1, z4.2)))))
          .fail))
         .fail))
        .fail))
       .fail))
      .fail)
     (.test (decide ((0 = 0) ∧ ((List.length data) = (List.length data))))
      (.ret (Sum.inr (((), (a, (b, ((), i)))), data)))
      .fail))))
    .fail))
   .fail)
  (.test (decide ((0 = 0) ∧ ((List.length data) = (List.length data))))
   (.ret (Sum.inr (((), (a, (b, ((), i)))), data)))
   .fail))
noncomputable def slices_insertionSortCmpFunc_Diagonal__i_compareDiagonals_L4 (v : ((Unit × Int × Int × Unit × Int × Int) × List ((Int × Int)))) : Option ((Unit × Int × Int × Unit × Int) × List ((Int × Int))) := loopO (fun v => (slices_insertionSortCmpFunc_Diagonal__i_compareDiagonals_L4_step v).run) v

def slices_insertionSortCmpFunc_Diagonal__i_compareDiagonals_L1_sh : LSh := ⟨(fun ex => match ex with | .norm => [(0, none), (1, none), (2, none), (3, none), (8, none)] | .exit i => if i = 0 then [] else [] | .ret => []), [(0, (.one (.rw 0 0))), (1, (.one (.si .i64))), (2, (.one (.si .i64))), (3, (.one (.fn n_i_compareDiagonals))), (8, (.one (.si .i64)))], [(.row 0 (.pair (.int .i64) (.int .i64)))], [⟨(.exit 0), [], [(.row 0 (.pair (.int .i64) (.int .i64)))]⟩], [], []⟩
noncomputable def slices_insertionSortCmpFunc_Diagonal__i_compareDiagonals_L1_step : ((Unit × Int × Int × Unit × Int) × List ((Int × Int))) → T (((Unit × Int × Int × Unit × Int) × List ((Int × Int))) ⊕ (Unit × List ((Int × Int)))) := fun (((), a, b, (), i), data) =>
  (.test (decide (i < b))
  (.test (decide ((0 = 0) ∧ ((List.length data) = (List.length data))))
   (.sub (slices_insertionSortCmpFunc_Diagonal__i_compareDiagonals_L4 (((), (a, (b, ((), (i, i))))), data)) fun z0 =>
    (.test (decide ((0 = 0) ∧ ((List.length z0.2) = (List.length z0.2))))
    (.ret (Sum.inl (((), (z0.1.2.1, (z0.1.2.2.1, ((), (w64 (z0.1.2.2.2.2 + 1)))))), z0.2)))
    .fail))
   .fail)
  (.ret (Sum.inr ((), data))))
noncomputable def slices_insertionSortCmpFunc_Diagonal__i_compareDiagonals_L1 (v : ((Unit × Int × Int × Unit × Int) × List ((Int × Int)))) : Option (Unit × List ((Int × Int))) := loopO (fun v => (slices_insertionSortCmpFunc_Diagonal__i_compareDiagonals_L1_step v).run) v

def slices_insertionSortCmpFunc_Diagonal__i_compareDiagonals_fo : List FO := [⟨[], [(.row 0 (.pair (.int .i64) (.int .i64)))]⟩]
noncomputable def slices_insertionSortCmpFunc_Diagonal__i_compareDiagonals_t : ((Unit × Int × Int × Unit) × List ((Int × Int))) → T (Unit × List ((Int × Int))) := fun (((), a, b, ()), data) =>
  (.test (decide ((0 = 0) ∧ ((List.length data) = (List.length data))))
  (.sub (slices_insertionSortCmpFunc_Diagonal__i_compareDiagonals_L1 (((), (a, (b, ((), (w64 (a + 1)))))), data)) fun z0 =>
   (.ret ((), z0.2)))
  .fail)
noncomputable def slices_insertionSortCmpFunc_Diagonal__i_compareDiagonals (v : ((Unit × Int × Int × Unit) × List ((Int × Int)))) : Option (Unit × List ((Int × Int))) := (slices_insertionSortCmpFunc_Diagonal__i_compareDiagonals_t v).run
noncomputable def slices_insertionSortCmpFunc_Diagonal__i_compareDiagonals_E : TEnv := (E0.add1 n_i_compareDiagonals i_compareDiagonals_sh i_compareDiagonals_fo i_compareDiagonals)
theorem slices_insertionSortCmpFunc_Diagonal__i_compareDiagonals_Eok : (slices_insertionSortCmpFunc_Diagonal__i_compareDiagonals_E).OK := (E0ok.add1 i_compareDiagonals_ok)
noncomputable def slices_insertionSortCmpFunc_Diagonal__i_compareDiagonals_told : Nat → Option SealT := fun id => if id = 4 then some (LSh.told slices_insertionSortCmpFunc_Diagonal__i_compareDiagonals_L4_sh 1 (slices_insertionSortCmpFunc_Diagonal__i_compareDiagonals_L4_step)) else if id = 1 then some (LSh.told slices_insertionSortCmpFunc_Diagonal__i_compareDiagonals_L1_sh 1 (slices_insertionSortCmpFunc_Diagonal__i_compareDiagonals_L1_step)) else none
theorem slices_insertionSortCmpFunc_Diagonal__i_compareDiagonals_L4_ok : ToldOK Tryz.prog 1 (loopAt (bodyOf fn_slices_insertionSortCmpFunc_Diagonal) [0, 0]) (LSh.told slices_insertionSortCmpFunc_Diagonal__i_compareDiagonals_L4_sh 1 (slices_insertionSortCmpFunc_Diagonal__i_compareDiagonals_L4_step)) :=
  loop_ok (E := slices_insertionSortCmpFunc_Diagonal__i_compareDiagonals_E) (slices_insertionSortCmpFunc_Diagonal__i_compareDiagonals_Eok) (told := slices_insertionSortCmpFunc_Diagonal__i_compareDiagonals_told) (l := slices_insertionSortCmpFunc_Diagonal__i_compareDiagonals_L4_sh) (step := slices_insertionSortCmpFunc_Diagonal__i_compareDiagonals_L4_step) (loopsOK_of (ls := []) (by kernel_rfl) trivial) (by kernel_rfl) (fun v => by kernel_rfl)
theorem slices_insertionSortCmpFunc_Diagonal__i_compareDiagonals_L1_ok : ToldOK Tryz.prog 1 (loopAt (bodyOf fn_slices_insertionSortCmpFunc_Diagonal) [0]) (LSh.told slices_insertionSortCmpFunc_Diagonal__i_compareDiagonals_L1_sh 1 (slices_insertionSortCmpFunc_Diagonal__i_compareDiagonals_L1_step)) :=
  loop_ok (E := slices_insertionSortCmpFunc_Diagonal__i_compareDiagonals_E) (slices_insertionSortCmpFunc_Diagonal__i_compareDiagonals_Eok) (told := slices_insertionSortCmpFunc_Diagonal__i_compareDiagonals_told) (l := slices_insertionSortCmpFunc_Diagonal__i_compareDiagonals_L1_sh) (step := slices_insertionSortCmpFunc_Diagonal__i_compareDiagonals_L1_step) (loopsOK_of (ls := [loopAt (bodyOf fn_slices_insertionSortCmpFunc_Diagonal) [0, 0]]) (by kernel_rfl) ⟨.inr ⟨_, by kernel_rfl, slices_insertionSortCmpFunc_Diagonal__i_compareDiagonals_L4_ok⟩, trivial⟩) (by kernel_rfl) (fun v => by kernel_rfl)
theorem slices_insertionSortCmpFunc_Diagonal__i_compareDiagonals_ok : FOK Tryz.prog n_slices_insertionSortCmpFunc_Diagonal slices_insertionSortCmpFunc_Diagonal__i_compareDiagonals_sh slices_insertionSortCmpFunc_Diagonal__i_compareDiagonals_fo slices_insertionSortCmpFunc_Diagonal__i_compareDiagonals :=
  fn_ok (E := slices_insertionSortCmpFunc_Diagonal__i_compareDiagonals_E) (slices_insertionSortCmpFunc_Diagonal__i_compareDiagonals_Eok) (told := slices_insertionSortCmpFunc_Diagonal__i_compareDiagonals_told) (fl := []) (c := bodyOf fn_slices_insertionSortCmpFunc_Diagonal) (s := slices_insertionSortCmpFunc_Diagonal__i_compareDiagonals_sh) (l := slices_insertionSortCmpFunc_Diagonal__i_compareDiagonals_fo) (tree := slices_insertionSortCmpFunc_Diagonal__i_compareDiagonals_t) fnat_slices_insertionSortCmpFunc_Diagonal (by kernel_rfl) (by kernel_rfl) (by kernel_rfl) (loopsOK_of (ls := [loopAt (bodyOf fn_slices_insertionSortCmpFunc_Diagonal) [0]]) (by kernel_rfl) ⟨.inr ⟨_, by kernel_rfl, slices_insertionSortCmpFunc_Diagonal__i_compareDiagonals_L1_ok⟩, trivial⟩) (fun v => by kernel_rfl)

theorem slices_insertionSortCmpFunc_Diagonal__i_compareDiagonals_sink (b i : Int) : ∀ (j : Nat) (l : List Dg), j < l.length → l.length < 1000000 →
    slices_insertionSortCmpFunc_Diagonal__i_compareDiagonals_L4 (((), ((0 : Int), (b, ((), (i, (j : Int)))))), l) = some (((), ((0 : Int), (b, ((), i)))), sinkD j l)
  | 0, l, hj, hl => by
    simp only [slices_insertionSortCmpFunc_Diagonal__i_compareDiagonals_L4]
    exact loopO_done (by simp [slices_insertionSortCmpFunc_Diagonal__i_compareDiagonals_L4_step, T.run, sinkD])
  | j + 1, l, hj, hl => by
    have ih := slices_insertionSortCmpFunc_Diagonal__i_compareDiagonals_sink b i j (swapD l j) (by rw [swapD_length]; omega) (by rw [swapD_length]; omega)
    simp only [slices_insertionSortCmpFunc_Diagonal__i_compareDiagonals_L4] at ih ⊢
    have w1 : w64 (((j + 1 : Nat) : Int) - 1) = (j : Int) := by rw [w64_id (by omega) (by omega)]; omega
    have c0 : ((j + 1 : Nat) : Int) > 0 := by omega
    have c1 : (0 : Int) ≤ ((j + 1 : Nat) : Int) ∧ ((j + 1 : Nat) : Int) < (l.length : Int) := by omega
    have c2 : (0 : Int) ≤ (j : Int) ∧ (j : Int) < (l.length : Int) := by omega
    have g1 := gD_some hj
    have g2 := gD_some (show j < l.length by omega)
    cases hlt : ltD (gD l (j + 1)) (gD l j) with
    | false =>
      have e : sinkD (j + 1) l = l := by unfold sinkD; rw [hlt]; rfl
      rw [e]
      refine loopO_done ?_
      simp only [slices_insertionSortCmpFunc_Diagonal__i_compareDiagonals_L4_step, T.run, w1, c0, c1, c2, Int.toNat_natCast, Nat.zero_add, g1, g2, Option.bind_some, decide_true, if_true, i_compareDiagonals_eq, cmpD_lt, hlt, and_self]
      simp
    | true =>
      have e : sinkD (j + 1) l = sinkD j (swapD l j) := by conv => lhs; unfold sinkD
                                                           rw [hlt]; rfl
      rw [e, ← ih]
      refine loopO_next ?_
      have g3 : (l.set (j + 1) (gD l j))[j]? = some (gD l j) := by rw [List.getElem?_set_ne (by omega)]; exact g2
      simp only [slices_insertionSortCmpFunc_Diagonal__i_compareDiagonals_L4_step, T.run, w1, c0, c1, c2, Int.toNat_natCast, Nat.zero_add, g1, g2, g3, Option.bind_some, decide_true, if_true, i_compareDiagonals_eq, cmpD_lt, hlt, and_self]
      simp [swapD]
theorem slices_insertionSortCmpFunc_Diagonal__i_compareDiagonals_isort : ∀ (n i : Nat) (l : List Dg), i + n = l.length → l.length < 1000000 →
    slices_insertionSortCmpFunc_Diagonal__i_compareDiagonals_L1 (((), ((0 : Int), ((l.length : Int), ((), (i : Int))))), l) = some ((), isortD n i l)
  | 0, i, l, hi, hl => by
    simp only [slices_insertionSortCmpFunc_Diagonal__i_compareDiagonals_L1]
    refine loopO_done ?_
    have : ¬ ((i : Int) < (l.length : Int)) := by omega
    simp [slices_insertionSortCmpFunc_Diagonal__i_compareDiagonals_L1_step, T.run, this, isortD]
  | n + 1, i, l, hi, hl => by
    have ih := slices_insertionSortCmpFunc_Diagonal__i_compareDiagonals_isort n (i + 1) (sinkD i l) (by rw [sinkD_length]; omega) (by rw [sinkD_length]; omega)
    rw [sinkD_length] at ih
    simp only [slices_insertionSortCmpFunc_Diagonal__i_compareDiagonals_L1] at ih ⊢
    show _ = some ((), isortD n (i + 1) (sinkD i l))
    rw [← ih]
    refine loopO_next ?_
    have c0 : (i : Int) < (l.length : Int) := by omega
    have w1 : w64 ((i : Int) + 1) = ((i + 1 : Nat) : Int) := by rw [w64_id (by omega) (by omega)]; omega
    simp only [slices_insertionSortCmpFunc_Diagonal__i_compareDiagonals_L1_step, T.run, c0, decide_true, if_true, slices_insertionSortCmpFunc_Diagonal__i_compareDiagonals_sink _ _ i l (by omega) hl, Option.bind_some, w1, and_self]


def slices_pdqsortCmpFunc_Diagonal__i_compareDiagonals_sh : FSh := ⟨[(.one (.rw 0 0)), (.one (.si .i64)), (.one (.si .i64)), (.one (.si .i64)), (.one (.fn n_i_compareDiagonals))], [(.row 0 (.pair (.int .i64) (.int .i64)))]⟩

def slices_pdqsortCmpFunc_Diagonal__i_compareDiagonals_L2_sh : LSh := ⟨(fun ex => match ex with | .norm => [(0, none), (1, none), (2, none), (3, none), (4, none), (10, none), (11, none)] | .exit i => if i = 0 then [] else [] | .ret => []), [(0, (.one (.rw 0 0))), (1, (.one (.si .i64))), (2, (.one (.si .i64))), (3, (.one (.si .i64))), (4, (.one (.fn n_i_compareDiagonals))), (10, (.one .sb)), (11, (.one .sb))], [(.row 0 (.pair (.int .i64) (.int .i64)))], [⟨.ret, [], [(.row 0 (.pair (.int .i64) (.int .i64)))]⟩], [], []⟩
noncomputable def slices_pdqsortCmpFunc_Diagonal__i_compareDiagonals_L2_step : ((Unit × Int × Int × Int × Unit × Bool × Bool) × List ((Int × Int))) → T (((Unit × Int × Int × Int × Unit × Bool × Bool) × List ((Int × Int))) ⊕ (Unit × List ((Int × Int)))) := fun (((), a, b, limit, (), wasBalanced, wasPartitioned), data) =>
  (.test (decide ((w64 (b - a)) ≤ 12))
  (.test (decide ((0 = 0) ∧ ((List.length data) = (List.length data))))
   (.sub (slices_insertionSortCmpFunc_Diagonal__i_compareDiagonals (((), (a, (b, ()))), data)) fun z0 =>
    (.ret (Sum.inr ((), z0.2))))
   .fail)
  (.test (limit == 0)
   .fail
   (.test (! wasBalanced)
    .fail
    .fail)))
noncomputable def slices_pdqsortCmpFunc_Diagonal__i_compareDiagonals_L2 (v : ((Unit × Int × Int × Int × Unit × Bool × Bool) × List ((Int × Int)))) : Option (Unit × List ((Int × Int))) := loopO (fun v => (slices_pdqsortCmpFunc_Diagonal__i_compareDiagonals_L2_step v).run) v

def slices_pdqsortCmpFunc_Diagonal__i_compareDiagonals_fo : List FO := [⟨[], [(.row 0 (.pair (.int .i64) (.int .i64)))]⟩]
noncomputable def slices_pdqsortCmpFunc_Diagonal__i_compareDiagonals_t : ((Unit × Int × Int × Int × Unit) × List ((Int × Int))) → T (Unit × List ((Int × Int))) := fun (((), a, b, limit, ()), data) =>
  (.test (decide ((0 = 0) ∧ ((List.length data) = (List.length data))))
  (.sub (slices_pdqsortCmpFunc_Diagonal__i_compareDiagonals_L2 (((), (a, (b, (limit, ((), (true, true)))))), data)) fun z0 =>
   (.ret ((), z0.2)))
  .fail)
noncomputable def slices_pdqsortCmpFunc_Diagonal__i_compareDiagonals (v : ((Unit × Int × Int × Int × Unit) × List ((Int × Int)))) : Option (Unit × List ((Int × Int))) := (slices_pdqsortCmpFunc_Diagonal__i_compareDiagonals_t v).run
noncomputable def slices_pdqsortCmpFunc_Diagonal__i_compareDiagonals_E : TEnv := (E0.add1 n_slices_insertionSortCmpFunc_Diagonal slices_insertionSortCmpFunc_Diagonal__i_compareDiagonals_sh slices_insertionSortCmpFunc_Diagonal__i_compareDiagonals_fo slices_insertionSortCmpFunc_Diagonal__i_compareDiagonals)
theorem slices_pdqsortCmpFunc_Diagonal__i_compareDiagonals_Eok : (slices_pdqsortCmpFunc_Diagonal__i_compareDiagonals_E).OK := (E0ok.add1 slices_insertionSortCmpFunc_Diagonal__i_compareDiagonals_ok)
noncomputable def slices_pdqsortCmpFunc_Diagonal__i_compareDiagonals_told : Nat → Option SealT := fun id => if id = 2 then some (LSh.told slices_pdqsortCmpFunc_Diagonal__i_compareDiagonals_L2_sh 1 (slices_pdqsortCmpFunc_Diagonal__i_compareDiagonals_L2_step)) else none
theorem slices_pdqsortCmpFunc_Diagonal__i_compareDiagonals_L2_ok : ToldOK Tryz.prog 1 (loopAt (bodyOf fn_slices_pdqsortCmpFunc_Diagonal) [0]) (LSh.told slices_pdqsortCmpFunc_Diagonal__i_compareDiagonals_L2_sh 1 (slices_pdqsortCmpFunc_Diagonal__i_compareDiagonals_L2_step)) :=
  loop_ok (E := slices_pdqsortCmpFunc_Diagonal__i_compareDiagonals_E) (slices_pdqsortCmpFunc_Diagonal__i_compareDiagonals_Eok) (told := slices_pdqsortCmpFunc_Diagonal__i_compareDiagonals_told) (l := slices_pdqsortCmpFunc_Diagonal__i_compareDiagonals_L2_sh) (step := slices_pdqsortCmpFunc_Diagonal__i_compareDiagonals_L2_step) (loopsOK_of (ls := []) (by kernel_rfl) trivial) (by kernel_rfl) (fun v => by kernel_rfl)
theorem slices_pdqsortCmpFunc_Diagonal__i_compareDiagonals_ok : FOK Tryz.prog n_slices_pdqsortCmpFunc_Diagonal slices_pdqsortCmpFunc_Diagonal__i_compareDiagonals_sh slices_pdqsortCmpFunc_Diagonal__i_compareDiagonals_fo slices_pdqsortCmpFunc_Diagonal__i_compareDiagonals :=
  fn_ok (E := slices_pdqsortCmpFunc_Diagonal__i_compareDiagonals_E) (slices_pdqsortCmpFunc_Diagonal__i_compareDiagonals_Eok) (told := slices_pdqsortCmpFunc_Diagonal__i_compareDiagonals_told) (fl := []) (c := bodyOf fn_slices_pdqsortCmpFunc_Diagonal) (s := slices_pdqsortCmpFunc_Diagonal__i_compareDiagonals_sh) (l := slices_pdqsortCmpFunc_Diagonal__i_compareDiagonals_fo) (tree := slices_pdqsortCmpFunc_Diagonal__i_compareDiagonals_t) fnat_slices_pdqsortCmpFunc_Diagonal (by kernel_rfl) (by kernel_rfl) (by kernel_rfl) (loopsOK_of (ls := [loopAt (bodyOf fn_slices_pdqsortCmpFunc_Diagonal) [0]]) (by kernel_rfl) ⟨.inr ⟨_, by kernel_rfl, slices_pdqsortCmpFunc_Diagonal__i_compareDiagonals_L2_ok⟩, trivial⟩) (fun v => by kernel_rfl)

def slices_SortFunc_Diagonal__i_compareDiagonals_sh : FSh := ⟨[(.one (.rw 0 0)), (.one (.fn n_i_compareDiagonals))], [(.row 0 (.pair (.int .i64) (.int .i64)))]⟩

def slices_SortFunc_Diagonal__i_compareDiagonals_fo : List FO := [⟨[], [(.row 0 (.pair (.int .i64) (.int .i64)))]⟩]
noncomputable def slices_SortFunc_Diagonal__i_compareDiagonals_t : ((Unit × Unit) × List ((Int × Int))) → T (Unit × List ((Int × Int))) := fun (((), ()), x) =>
  (.sub (math_bits_Len (wu64 ((List.length x) : Int))) fun z0 =>
  (.test (decide ((0 = 0) ∧ ((List.length x) = (List.length x))))
  (.sub (slices_pdqsortCmpFunc_Diagonal__i_compareDiagonals (((), ((0 : Int), (((List.length x) : Int), (z0, ())))), x)) fun z1 =>
   (.ret ((), z1.2)))
  .fail))
noncomputable def slices_SortFunc_Diagonal__i_compareDiagonals (v : ((Unit × Unit) × List ((Int × Int)))) : Option (Unit × List ((Int × Int))) := (slices_SortFunc_Diagonal__i_compareDiagonals_t v).run
noncomputable def slices_SortFunc_Diagonal__i_compareDiagonals_E : TEnv := ((E0.add1 n_math_bits_Len math_bits_Len_sh math_bits_Len_fo math_bits_Len).add1 n_slices_pdqsortCmpFunc_Diagonal slices_pdqsortCmpFunc_Diagonal__i_compareDiagonals_sh slices_pdqsortCmpFunc_Diagonal__i_compareDiagonals_fo slices_pdqsortCmpFunc_Diagonal__i_compareDiagonals)
theorem slices_SortFunc_Diagonal__i_compareDiagonals_Eok : (slices_SortFunc_Diagonal__i_compareDiagonals_E).OK := ((E0ok.add1 math_bits_Len_ok).add1 slices_pdqsortCmpFunc_Diagonal__i_compareDiagonals_ok)
noncomputable def slices_SortFunc_Diagonal__i_compareDiagonals_told : Nat → Option SealT := fun id => none
theorem slices_SortFunc_Diagonal__i_compareDiagonals_ok : FOK Tryz.prog n_slices_SortFunc_Diagonal slices_SortFunc_Diagonal__i_compareDiagonals_sh slices_SortFunc_Diagonal__i_compareDiagonals_fo slices_SortFunc_Diagonal__i_compareDiagonals :=
  fn_ok (E := slices_SortFunc_Diagonal__i_compareDiagonals_E) (slices_SortFunc_Diagonal__i_compareDiagonals_Eok) (told := slices_SortFunc_Diagonal__i_compareDiagonals_told) (fl := []) (c := bodyOf fn_slices_SortFunc_Diagonal) (s := slices_SortFunc_Diagonal__i_compareDiagonals_sh) (l := slices_SortFunc_Diagonal__i_compareDiagonals_fo) (tree := slices_SortFunc_Diagonal__i_compareDiagonals_t) fnat_slices_SortFunc_Diagonal (by kernel_rfl) (by kernel_rfl) (by kernel_rfl) (loopsOK_of (ls := []) (by kernel_rfl) trivial) (fun v => by kernel_rfl)

theorem slices_SortFunc_Diagonal__i_compareDiagonals_eq (l : List Dg) (hl : l.length ≤ 12) : slices_SortFunc_Diagonal__i_compareDiagonals (((), ()), l) = some ((), sortD l) := by
  have hw : wu64 (l.length : Int) = (l.length : Int) := IntWalk.u64_in _ ⟨by omega, by omega⟩
  have hz : math_bits_Len (wu64 (l.length : Int)) = some (Lib.bitLen l.length : Int) := by
    rw [hw]; unfold math_bits_Len; rw [if_pos ⟨by omega, by omega⟩, Int.toNat_natCast]
  have w0 : w64 ((l.length : Int) - 0) = (l.length : Int) := by rw [w64_id (by omega) (by omega)]; omega
  have w1 : w64 ((0 : Int) + 1) = ((1 : Nat) : Int) := by rw [w64_id (by omega) (by omega)]; rfl
  have c0 : (l.length : Int) ≤ 12 := by omega
  have hins : slices_insertionSortCmpFunc_Diagonal__i_compareDiagonals (((), ((0 : Int), ((l.length : Int), ()))), l) = some ((), sortD l) := by
    simp only [slices_insertionSortCmpFunc_Diagonal__i_compareDiagonals, slices_insertionSortCmpFunc_Diagonal__i_compareDiagonals_t, T.run, w1]
    by_cases h0 : l.length = 0
    · have : l = [] := List.eq_nil_of_length_eq_zero h0
      subst this
      simp only [slices_insertionSortCmpFunc_Diagonal__i_compareDiagonals_L1]
      rw [loopO_done (o := ((), []))]
      · simp [sortD]
      · simp [slices_insertionSortCmpFunc_Diagonal__i_compareDiagonals_L1_step, T.run]
    · rw [slices_insertionSortCmpFunc_Diagonal__i_compareDiagonals_isort (l.length - 1) 1 l (by omega) (by omega), isortD_eq]
      simp
  simp only [slices_SortFunc_Diagonal__i_compareDiagonals, slices_SortFunc_Diagonal__i_compareDiagonals_t, T.run, hz, Option.bind_some, slices_pdqsortCmpFunc_Diagonal__i_compareDiagonals, slices_pdqsortCmpFunc_Diagonal__i_compareDiagonals_t, slices_pdqsortCmpFunc_Diagonal__i_compareDiagonals_L2]
  rw [loopO_done (o := ((), sortD l))]
  · simp
  · simp only [slices_pdqsortCmpFunc_Diagonal__i_compareDiagonals_L2_step, T.run, w0, c0, decide_true, if_true, hins, Option.bind_some]
    simp


def slices_Equal_int_sh : FSh := ⟨[(.one (.sl (.int .i64) false false)), (.one (.sl (.int .i64) false false))], []⟩

def slices_Equal_int_L4_sh : LSh := ⟨(fun ex => match ex with | .norm => [(0, none), (1, none), (12, none), (13, none)] | .exit i => if i = 0 then [] else [] | .ret => [(4, none)]), [(0, (.one (.sl (.int .i64) false false))), (1, (.one (.sl (.int .i64) false false))), (12, (.one (.si .i64))), (13, (.one (.si .i64)))], [], [⟨.ret, [(4, (.one .sb))], []⟩, ⟨(.exit 0), [], []⟩], [], []⟩
noncomputable def slices_Equal_int_L4_step : (List (Int) × List (Int) × Int × Int) → T ((List (Int) × List (Int) × Int × Int) ⊕ (Bool ⊕ Unit)) := fun (s1, s2, t12, t13) =>
  (.test (decide (t13 < t12))
  (.test (decide ((0 ≤ t13) ∧ (t13 < ((List.length s1) : Int))))
   (.sub (s1[(Int.toNat t13)]?) fun z0 =>
    (.test (decide ((0 ≤ t13) ∧ (t13 < ((List.length s2) : Int))))
    (.sub (s2[(Int.toNat t13)]?) fun z1 =>
     (.test (z0 != z1)
     (.ret (Sum.inr (Sum.inl false)))
     (.ret (Sum.inl (s1, (s2, (t12, (w64 (t13 + 1)))))))))
    .fail))
   .fail)
  (.ret (Sum.inr (Sum.inr ()))))
noncomputable def slices_Equal_int_L4 (v : (List (Int) × List (Int) × Int × Int)) : Option (Bool ⊕ Unit) := loopO (fun v => (slices_Equal_int_L4_step v).run) v

def slices_Equal_int_fo : List FO := [⟨[(.one .sb)], []⟩]
noncomputable def slices_Equal_int_t : (List (Int) × List (Int)) → T Bool := fun (s1, s2) =>
  (.test (((List.length s1) : Int) != ((List.length s2) : Int))
  (.ret false)
  (.sub (slices_Equal_int_L4 (s1, (s2, (((List.length s1) : Int), (0 : Int))))) fun z0 =>
   (.test (Sum.isLeft z0)
   (.sub (Sum.getLeft? z0) fun z1 =>
    (.ret z1))
   (.sub (Sum.getRight? z0) fun z2 =>
    (.ret true)))))
noncomputable def slices_Equal_int (v : (List (Int) × List (Int))) : Option Bool := (slices_Equal_int_t v).run
noncomputable def slices_Equal_int_E : TEnv := E0
theorem slices_Equal_int_Eok : (slices_Equal_int_E).OK := E0ok
noncomputable def slices_Equal_int_told : Nat → Option SealT := fun id => if id = 4 then some (LSh.told slices_Equal_int_L4_sh 0 (slices_Equal_int_L4_step)) else none
theorem slices_Equal_int_L4_ok : ToldOK Tryz.prog 0 (loopAt (bodyOf fn_slices_Equal_int) [0]) (LSh.told slices_Equal_int_L4_sh 0 (slices_Equal_int_L4_step)) :=
  loop_ok (E := slices_Equal_int_E) (slices_Equal_int_Eok) (told := slices_Equal_int_told) (l := slices_Equal_int_L4_sh) (step := slices_Equal_int_L4_step) (loopsOK_of (ls := []) (by kernel_rfl) trivial) (by kernel_rfl) (fun v => by kernel_rfl)
theorem slices_Equal_int_ok : FOK Tryz.prog n_slices_Equal_int slices_Equal_int_sh slices_Equal_int_fo slices_Equal_int :=
  fn_ok (E := slices_Equal_int_E) (slices_Equal_int_Eok) (told := slices_Equal_int_told) (fl := []) (c := bodyOf fn_slices_Equal_int) (s := slices_Equal_int_sh) (l := slices_Equal_int_fo) (tree := slices_Equal_int_t) fnat_slices_Equal_int (by kernel_rfl) (by kernel_rfl) (by kernel_rfl) (loopsOK_of (ls := [loopAt (bodyOf fn_slices_Equal_int) [0]]) (by kernel_rfl) ⟨.inr ⟨_, by kernel_rfl, slices_Equal_int_L4_ok⟩, trivial⟩) (fun v => by kernel_rfl)

theorem slices_Equal_int_eq (a b : List Int) (hl : a.length < 4611686018427387904) : slices_Equal_int (a, b) = some (decide (a = b)) := by
  simp only [slices_Equal_int, slices_Equal_int_t, T.run]
  by_cases he : a.length = b.length
  · have h := loop_any (step := fun v => (slices_Equal_int_L4_step v).run) (xs := a.zip b) (fun p => p.1 != p.2) (fun k => (a, (b, ((a.length : Int), (k : Int))))) (.inl false) (.inr ())
      (fun k x hx => by
        obtain ⟨x1, x2⟩ := x
        rw [List.getElem?_zip_eq_some] at hx
        obtain ⟨h1, h2⟩ := hx
        simp only at h1 h2
        have hk := getElem?_lt h1
        have hk2 := getElem?_lt h2
        have c0 : (k : Int) < (a.length : Int) := by omega
        have c1 : (0 : Int) ≤ (k : Int) ∧ (k : Int) < (a.length : Int) := by omega
        have c2 : (0 : Int) ≤ (k : Int) ∧ (k : Int) < (b.length : Int) := by omega
        have w1 : w64 ((k : Int) + 1) = ((k + 1 : Nat) : Int) := by rw [w64_id (by omega) (by omega)]; omega
        simp only [slices_Equal_int_L4_step, T.run, c0, c1, c2, decide_true, if_true, and_self, Int.toNat_natCast, h1, h2, Option.bind_some, w1]
        cases x1 != x2 <;> simp)
      (by simp [slices_Equal_int_L4_step, T.run, he])
    simp only [Int.natCast_zero] at h
    rw [zip_any_ne a b he] at h
    have hne : ((a.length : Int) != (b.length : Int)) = false := by simp [he]
    simp only [slices_Equal_int_L4, h, hne]
    by_cases hab : a = b <;> simp [hab]
  · have : a ≠ b := fun e => he (by rw [e])
    have hne : ((a.length : Int) != (b.length : Int)) = true := by simp; omega
    simp [hne, this]


def i_IsTriangulation_1_sh : FSh := ⟨[(.ag [(.si .i64), (.si .i64)]), (.one (.pf 0 0 0))], [(.rcd 0 [(.si .i64), (.si .i64)])]⟩

def i_IsTriangulation_1_fo : List FO := [⟨[(.one .sb)], [(.rcd 0 [(.si .i64), (.si .i64)])]⟩]
noncomputable def i_IsTriangulation_1_t : (((Int × Int) × Unit) × (Int × Int)) → T (Bool × (Int × Int)) := fun (((e_0, e_1), ()), (t1_0, t1_1)) =>
  (.sub (i_doCross ((t1_0, t1_1), (e_0, e_1))) fun z0 =>
  (.ret (z0, (t1_0, t1_1))))
noncomputable def i_IsTriangulation_1 (v : (((Int × Int) × Unit) × (Int × Int))) : Option (Bool × (Int × Int)) := (i_IsTriangulation_1_t v).run
noncomputable def i_IsTriangulation_1_E : TEnv := (E0.add1 n_i_doCross i_doCross_sh i_doCross_fo i_doCross)
theorem i_IsTriangulation_1_Eok : (i_IsTriangulation_1_E).OK := (E0ok.add1 i_doCross_ok)
noncomputable def i_IsTriangulation_1_told : Nat → Option SealT := fun id => none
theorem i_IsTriangulation_1_ok : FOK Tryz.prog n_i_IsTriangulation_1 i_IsTriangulation_1_sh i_IsTriangulation_1_fo i_IsTriangulation_1 :=
  fn_ok (E := i_IsTriangulation_1_E) (i_IsTriangulation_1_Eok) (told := i_IsTriangulation_1_told) (fl := []) (c := bodyOf fn_i_IsTriangulation_1) (s := i_IsTriangulation_1_sh) (l := i_IsTriangulation_1_fo) (tree := i_IsTriangulation_1_t) fnat_i_IsTriangulation_1 (by kernel_rfl) (by kernel_rfl) (by kernel_rfl) (loopsOK_of (ls := []) (by kernel_rfl) trivial) (fun v => by kernel_rfl)

def slices_IndexFunc_Diagonal__i_IsTriangulation_1_sh : FSh := ⟨[(.one (.sl (.pair (.int .i64) (.int .i64)) false false)), (.clo n_i_IsTriangulation_1 [(.one (.pf 0 0 0))])], [(.rcd 0 [(.si .i64), (.si .i64)])]⟩

def slices_IndexFunc_Diagonal__i_IsTriangulation_1_L2_sh : LSh := ⟨(fun ex => match ex with | .norm => [(0, none), (1, none), (7, none), (8, none)] | .exit i => if i = 0 then [] else [] | .ret => [(4, none)]), [(0, (.one (.sl (.pair (.int .i64) (.int .i64)) false false))), (1, (.clo n_i_IsTriangulation_1 [(.one (.pf 0 0 0))])), (7, (.one (.si .i64))), (8, (.one (.si .i64)))], [(.rcd 0 [(.si .i64), (.si .i64)])], [⟨.ret, [(4, (.one (.si .i64)))], [(.rcd 0 [(.si .i64), (.si .i64)])]⟩, ⟨(.exit 0), [], [(.rcd 0 [(.si .i64), (.si .i64)])]⟩], [], []⟩
noncomputable def slices_IndexFunc_Diagonal__i_IsTriangulation_1_L2_step : ((List ((Int × Int)) × Unit × Int × Int) × (Int × Int)) → T (((List ((Int × Int)) × Unit × Int × Int) × (Int × Int)) ⊕ ((Int × (Int × Int)) ⊕ (Unit × (Int × Int)))) := fun ((s, (), t7, t8), (r0_0, r0_1)) =>
  (.test (decide (t8 < t7))
  (.test (decide ((0 ≤ t8) ∧ (t8 < ((List.length s) : Int))))
   (.sub (s[(Int.toNat t8)]?) fun z0 =>
    (.sub (i_IsTriangulation_1 (((z0.1, z0.2), ()), (r0_0, r0_1))) fun z1 =>
    (.test z1.1
    (.ret (Sum.inr (Sum.inl (t8, (z1.2.1, z1.2.2)))))
    (.ret (Sum.inl ((s, ((), (t7, (w64 (t8 + 1))))), (z1.2.1, z1.2.2)))))))
   .fail)
  (.ret (Sum.inr (Sum.inr ((), (r0_0, r0_1))))))
noncomputable def slices_IndexFunc_Diagonal__i_IsTriangulation_1_L2 (v : ((List ((Int × Int)) × Unit × Int × Int) × (Int × Int))) : Option ((Int × (Int × Int)) ⊕ (Unit × (Int × Int))) := loopO (fun v => (slices_IndexFunc_Diagonal__i_IsTriangulation_1_L2_step v).run) v

def slices_IndexFunc_Diagonal__i_IsTriangulation_1_fo : List FO := [⟨[(.one (.si .i64))], [(.rcd 0 [(.si .i64), (.si .i64)])]⟩]
noncomputable def slices_IndexFunc_Diagonal__i_IsTriangulation_1_t : ((List ((Int × Int)) × Unit) × (Int × Int)) → T (Int × (Int × Int)) := fun ((s, ()), (r0_0, r0_1)) =>
  (.sub (slices_IndexFunc_Diagonal__i_IsTriangulation_1_L2 ((s, ((), (((List.length s) : Int), (0 : Int)))), (r0_0, r0_1))) fun z0 =>
  (.test (Sum.isLeft z0)
  (.sub (Sum.getLeft? z0) fun z1 =>
   (.ret (z1.1, (z1.2.1, z1.2.2))))
  (.sub (Sum.getRight? z0) fun z2 =>
   (.ret ((-1), (z2.2.1, z2.2.2))))))
noncomputable def slices_IndexFunc_Diagonal__i_IsTriangulation_1 (v : ((List ((Int × Int)) × Unit) × (Int × Int))) : Option (Int × (Int × Int)) := (slices_IndexFunc_Diagonal__i_IsTriangulation_1_t v).run
noncomputable def slices_IndexFunc_Diagonal__i_IsTriangulation_1_E : TEnv := (E0.add1 n_i_IsTriangulation_1 i_IsTriangulation_1_sh i_IsTriangulation_1_fo i_IsTriangulation_1)
theorem slices_IndexFunc_Diagonal__i_IsTriangulation_1_Eok : (slices_IndexFunc_Diagonal__i_IsTriangulation_1_E).OK := (E0ok.add1 i_IsTriangulation_1_ok)
noncomputable def slices_IndexFunc_Diagonal__i_IsTriangulation_1_told : Nat → Option SealT := fun id => if id = 2 then some (LSh.told slices_IndexFunc_Diagonal__i_IsTriangulation_1_L2_sh 1 (slices_IndexFunc_Diagonal__i_IsTriangulation_1_L2_step)) else none
theorem slices_IndexFunc_Diagonal__i_IsTriangulation_1_L2_ok : ToldOK Tryz.prog 1 (loopAt (bodyOf fn_slices_IndexFunc_Diagonal) [0]) (LSh.told slices_IndexFunc_Diagonal__i_IsTriangulation_1_L2_sh 1 (slices_IndexFunc_Diagonal__i_IsTriangulation_1_L2_step)) :=
  loop_ok (E := slices_IndexFunc_Diagonal__i_IsTriangulation_1_E) (slices_IndexFunc_Diagonal__i_IsTriangulation_1_Eok) (told := slices_IndexFunc_Diagonal__i_IsTriangulation_1_told) (l := slices_IndexFunc_Diagonal__i_IsTriangulation_1_L2_sh) (step := slices_IndexFunc_Diagonal__i_IsTriangulation_1_L2_step) (loopsOK_of (ls := []) (by kernel_rfl) trivial) (by kernel_rfl) (fun v => by kernel_rfl)
theorem slices_IndexFunc_Diagonal__i_IsTriangulation_1_ok : FOK Tryz.prog n_slices_IndexFunc_Diagonal slices_IndexFunc_Diagonal__i_IsTriangulation_1_sh slices_IndexFunc_Diagonal__i_IsTriangulation_1_fo slices_IndexFunc_Diagonal__i_IsTriangulation_1 :=
  fn_ok (E := slices_IndexFunc_Diagonal__i_IsTriangulation_1_E) (slices_IndexFunc_Diagonal__i_IsTriangulation_1_Eok) (told := slices_IndexFunc_Diagonal__i_IsTriangulation_1_told) (fl := []) (c := bodyOf fn_slices_IndexFunc_Diagonal) (s := slices_IndexFunc_Diagonal__i_IsTriangulation_1_sh) (l := slices_IndexFunc_Diagonal__i_IsTriangulation_1_fo) (tree := slices_IndexFunc_Diagonal__i_IsTriangulation_1_t) fnat_slices_IndexFunc_Diagonal (by kernel_rfl) (by kernel_rfl) (by kernel_rfl) (loopsOK_of (ls := [loopAt (bodyOf fn_slices_IndexFunc_Diagonal) [0]]) (by kernel_rfl) ⟨.inr ⟨_, by kernel_rfl, slices_IndexFunc_Diagonal__i_IsTriangulation_1_L2_ok⟩, trivial⟩) (fun v => by kernel_rfl)

def slices_ContainsFunc_Diagonal__i_IsTriangulation_1_sh : FSh := ⟨[(.one (.sl (.pair (.int .i64) (.int .i64)) false false)), (.clo n_i_IsTriangulation_1 [(.one (.pf 0 0 0))])], [(.rcd 0 [(.si .i64), (.si .i64)])]⟩

def slices_ContainsFunc_Diagonal__i_IsTriangulation_1_fo : List FO := [⟨[(.one .sb)], [(.rcd 0 [(.si .i64), (.si .i64)])]⟩]
noncomputable def slices_ContainsFunc_Diagonal__i_IsTriangulation_1_t : ((List ((Int × Int)) × Unit) × (Int × Int)) → T (Bool × (Int × Int)) := fun ((s, ()), (r0_0, r0_1)) =>
  (.sub (slices_IndexFunc_Diagonal__i_IsTriangulation_1 ((s, ()), (r0_0, r0_1))) fun z0 =>
  (.ret ((decide (z0.1 ≥ 0)), (z0.2.1, z0.2.2))))
noncomputable def slices_ContainsFunc_Diagonal__i_IsTriangulation_1 (v : ((List ((Int × Int)) × Unit) × (Int × Int))) : Option (Bool × (Int × Int)) := (slices_ContainsFunc_Diagonal__i_IsTriangulation_1_t v).run
noncomputable def slices_ContainsFunc_Diagonal__i_IsTriangulation_1_E : TEnv := (E0.add1 n_slices_IndexFunc_Diagonal slices_IndexFunc_Diagonal__i_IsTriangulation_1_sh slices_IndexFunc_Diagonal__i_IsTriangulation_1_fo slices_IndexFunc_Diagonal__i_IsTriangulation_1)
theorem slices_ContainsFunc_Diagonal__i_IsTriangulation_1_Eok : (slices_ContainsFunc_Diagonal__i_IsTriangulation_1_E).OK := (E0ok.add1 slices_IndexFunc_Diagonal__i_IsTriangulation_1_ok)
noncomputable def slices_ContainsFunc_Diagonal__i_IsTriangulation_1_told : Nat → Option SealT := fun id => none
theorem slices_ContainsFunc_Diagonal__i_IsTriangulation_1_ok : FOK Tryz.prog n_slices_ContainsFunc_Diagonal slices_ContainsFunc_Diagonal__i_IsTriangulation_1_sh slices_ContainsFunc_Diagonal__i_IsTriangulation_1_fo slices_ContainsFunc_Diagonal__i_IsTriangulation_1 :=
  fn_ok (E := slices_ContainsFunc_Diagonal__i_IsTriangulation_1_E) (slices_ContainsFunc_Diagonal__i_IsTriangulation_1_Eok) (told := slices_ContainsFunc_Diagonal__i_IsTriangulation_1_told) (fl := []) (c := bodyOf fn_slices_ContainsFunc_Diagonal) (s := slices_ContainsFunc_Diagonal__i_IsTriangulation_1_sh) (l := slices_ContainsFunc_Diagonal__i_IsTriangulation_1_fo) (tree := slices_ContainsFunc_Diagonal__i_IsTriangulation_1_t) fnat_slices_ContainsFunc_Diagonal (by kernel_rfl) (by kernel_rfl) (by kernel_rfl) (loopsOK_of (ls := []) (by kernel_rfl) trivial) (fun v => by kernel_rfl)

theorem slices_ContainsFunc_Diagonal__i_IsTriangulation_1_eq (s : List Dg) (d : Dg) (hl : s.length < 4611686018427387904) : slices_ContainsFunc_Diagonal__i_IsTriangulation_1 ((s, ()), d) = some (s.any (crossD d), d) := by
  obtain ⟨a, b⟩ := d
  have hc : ∀ e : Dg, i_IsTriangulation_1 ((e, ()), (a, b)) = some (crossD (a, b) e, (a, b)) := by
    intro e
    obtain ⟨e0, e1⟩ := e
    simp [i_IsTriangulation_1, i_IsTriangulation_1_t, T.run, i_doCross_eq]
  have h := loop_find (step := fun v => (slices_IndexFunc_Diagonal__i_IsTriangulation_1_L2_step v).run) (xs := s) (crossD (a, b)) (fun k => ((s, ((), ((s.length : Int), (k : Int)))), (a, b))) (fun k => .inl ((k : Int), (a, b))) (.inr ((), (a, b)))
    (fun k x hx => by
      have hlt := getElem?_lt hx
      have h1 : (k : Int) < (s.length : Int) := by omega
      have h2 : (0 : Int) ≤ k ∧ (k : Int) < (s.length : Int) := by omega
      simp only [slices_IndexFunc_Diagonal__i_IsTriangulation_1_L2_step, T.run, Int.toNat_natCast, hx, Option.bind_some, h1, h2, decide_true, if_true, and_self, hc]
      rw [w64_id (z := (k : Int) + 1) (by omega) (by omega)]
      cases hv : crossD (a, b) x <;> simp)
    (by simp [slices_IndexFunc_Diagonal__i_IsTriangulation_1_L2_step, T.run])
  rw [show ((0 : Nat) : Int) = 0 from rfl] at h
  have hi : slices_IndexFunc_Diagonal__i_IsTriangulation_1 ((s, ()), (a, b)) = some (idxI (crossD (a, b)) s, (a, b)) := by
    simp only [slices_IndexFunc_Diagonal__i_IsTriangulation_1, slices_IndexFunc_Diagonal__i_IsTriangulation_1_t, T.run, slices_IndexFunc_Diagonal__i_IsTriangulation_1_L2]
    rw [h]
    simp only [idxI]
    cases hf : s.findIdx? (crossD (a, b)) <;> simp [Sum.isLeft]
  simp only [slices_ContainsFunc_Diagonal__i_IsTriangulation_1, slices_ContainsFunc_Diagonal__i_IsTriangulation_1_t, T.run, hi, Option.bind_some, idxI_ge]


def i_IsTriangulation_sh : FSh := ⟨[(.one (.si .i64)), (.one (.sl (.pair (.int .i64) (.int .i64)) false false))], []⟩

def i_IsTriangulation_L4_sh : LSh := ⟨(fun ex => match ex with | .norm => [(0, none), (1, none), (17, none), (18, none), (19, none)] | .exit i => if i = 0 then [] else [] | .ret => [(4, none)]), [(0, (.one (.si .i64))), (1, (.one (.sl (.pair (.int .i64) (.int .i64)) false false))), (17, (.one (.sl (.pair (.int .i64) (.int .i64)) false false))), (18, (.one (.si .i64))), (19, (.one (.si .i64)))], [], [⟨.ret, [(4, (.one .sb))], []⟩, ⟨(.exit 0), [], []⟩], [], []⟩
noncomputable def i_IsTriangulation_L4_step : (Int × List ((Int × Int)) × List ((Int × Int)) × Int × Int) → T ((Int × List ((Int × Int)) × List ((Int × Int)) × Int × Int) ⊕ (Bool ⊕ Unit)) := fun (n, ds, t17, t18, t19) =>
  (.test (decide (t19 < t18))
  (.test (decide ((0 ≤ t19) ∧ (t19 < ((List.length t17) : Int))))
   (.sub (t17[(Int.toNat t19)]?) fun z0 =>
    (.sub (i_isDiagonal (n, (z0.1, z0.2))) fun z1 =>
    (.test (! z1)
    (.ret (Sum.inr (Sum.inl false)))
    (.test (decide (t19 > 0))
     (.test (decide ((0 ≤ (w64 (t19 - 1))) ∧ ((w64 (t19 - 1)) < ((List.length ds) : Int))))
      (.sub (ds[(Int.toNat (w64 (t19 - 1)))]?) fun z2 =>
       (.sub (i_compareDiagonals ((z2.1, z2.2), (z0.1, z0.2))) fun z3 =>
       (.test (decide (z3 ≥ 0))
       (.ret (Sum.inr (Sum.inl false)))
       (.test (decide (0 ≤ t19))
        (.test (decide ((0 ≤ (Int.toNat t19)) ∧ ((Int.toNat t19) ≤ (List.length ds))))
         (.sub (slices_ContainsFunc_Diagonal__i_IsTriangulation_1 (((win ds 0 ((Int.toNat t19) - 0)), ()), (z0.1, z0.2))) fun z4 =>
          (.test z4.1
          (.ret (Sum.inr (Sum.inl false)))
          (.ret (Sum.inl (n, (ds, (t17, (t18, (w64 (t19 + 1))))))))))
         .fail)
        .fail))))
      .fail)
     (.test (decide (0 ≤ t19))
      (.test (decide ((0 ≤ (Int.toNat t19)) ∧ ((Int.toNat t19) ≤ (List.length ds))))
       (.sub (slices_ContainsFunc_Diagonal__i_IsTriangulation_1 (((win ds 0 ((Int.toNat t19) - 0)), ()), (z0.1, z0.2))) fun z5 =>
        (.test z5.1
        (.ret (Sum.inr (Sum.inl false)))
        (.ret (Sum.inl (n, (ds, (t17, (t18, (w64 (t19 + 1))))))))))
       .fail)
      .fail)))))
   .fail)
  (.ret (Sum.inr (Sum.inr ()))))
noncomputable def i_IsTriangulation_L4 (v : (Int × List ((Int × Int)) × List ((Int × Int)) × Int × Int)) : Option (Bool ⊕ Unit) := loopO (fun v => (i_IsTriangulation_L4_step v).run) v

def i_IsTriangulation_fo : List FO := [⟨[(.one .sb)], []⟩]
noncomputable def i_IsTriangulation_t : (Int × List ((Int × Int))) → T Bool := fun (n, ds) =>
  (.sub (i_isPolygon n) fun z0 =>
  (.test (! z0)
  (.ret false)
  (.test (((List.length ds) : Int) != (w64 (n - 3)))
   (.ret false)
   (.sub (i_IsTriangulation_L4 (n, (ds, (ds, (((List.length ds) : Int), (0 : Int)))))) fun z1 =>
    (.test (Sum.isLeft z1)
    (.sub (Sum.getLeft? z1) fun z2 =>
     (.ret z2))
    (.sub (Sum.getRight? z1) fun z3 =>
     (.ret true)))))))
noncomputable def i_IsTriangulation (v : (Int × List ((Int × Int)))) : Option Bool := (i_IsTriangulation_t v).run
noncomputable def i_IsTriangulation_E : TEnv := ((((E0.add1 n_i_isPolygon i_isPolygon_sh i_isPolygon_fo i_isPolygon).add1 n_i_isDiagonal i_isDiagonal_sh i_isDiagonal_fo i_isDiagonal).add1 n_i_compareDiagonals i_compareDiagonals_sh i_compareDiagonals_fo i_compareDiagonals).add1 n_slices_ContainsFunc_Diagonal slices_ContainsFunc_Diagonal__i_IsTriangulation_1_sh slices_ContainsFunc_Diagonal__i_IsTriangulation_1_fo slices_ContainsFunc_Diagonal__i_IsTriangulation_1)
theorem i_IsTriangulation_Eok : (i_IsTriangulation_E).OK := ((((E0ok.add1 i_isPolygon_ok).add1 i_isDiagonal_ok).add1 i_compareDiagonals_ok).add1 slices_ContainsFunc_Diagonal__i_IsTriangulation_1_ok)
noncomputable def i_IsTriangulation_told : Nat → Option SealT := fun id => if id = 4 then some (LSh.told i_IsTriangulation_L4_sh 0 (i_IsTriangulation_L4_step)) else none
theorem i_IsTriangulation_L4_ok : ToldOK Tryz.prog 0 (loopAt (bodyOf fn_i_IsTriangulation) [0]) (LSh.told i_IsTriangulation_L4_sh 0 (i_IsTriangulation_L4_step)) :=
  loop_ok (E := i_IsTriangulation_E) (i_IsTriangulation_Eok) (told := i_IsTriangulation_told) (l := i_IsTriangulation_L4_sh) (step := i_IsTriangulation_L4_step) (loopsOK_of (ls := []) (by kernel_rfl) trivial) (by kernel_rfl) (fun v => by kernel_rfl)
theorem i_IsTriangulation_ok : FOK Tryz.prog n_i_IsTriangulation i_IsTriangulation_sh i_IsTriangulation_fo i_IsTriangulation :=
  fn_ok (E := i_IsTriangulation_E) (i_IsTriangulation_Eok) (told := i_IsTriangulation_told) (fl := []) (c := bodyOf fn_i_IsTriangulation) (s := i_IsTriangulation_sh) (l := i_IsTriangulation_fo) (tree := i_IsTriangulation_t) fnat_i_IsTriangulation (by kernel_rfl) (by kernel_rfl) (by kernel_rfl) (loopsOK_of (ls := [loopAt (bodyOf fn_i_IsTriangulation) [0]]) (by kernel_rfl) ⟨.inr ⟨_, by kernel_rfl, i_IsTriangulation_L4_ok⟩, trivial⟩) (fun v => by kernel_rfl)

theorem i_IsTriangulation_eq (n : Int) (ds : List Dg) (hl : ds.length < 4611686018427387904) : i_IsTriangulation (n, ds) = some (isTri n ds) := by
  simp only [i_IsTriangulation, i_IsTriangulation_t, T.run, i_isPolygon, i_isPolygon_t, i_within_eq, Option.bind_some, isTri]
  cases hn : inB 3 12 n with
  | false => simp
  | true =>
    rw [inB_iff] at hn
    rw [w64_id (z := n - 3) (by omega) (by omega)]
    by_cases he : (ds.length : Int) = n - 3
    · have h := loop_any (step := fun v => (i_IsTriangulation_L4_step v).run) (xs := List.range ds.length) (badT n ds) (fun k => (n, (ds, (ds, ((ds.length : Int), (k : Int)))))) (.inl false) (.inr ())
        (fun k x hx => by
          obtain ⟨hk, e⟩ := List.getElem?_eq_some_iff.1 hx
          simp only [List.getElem_range] at e
          subst e
          rw [List.length_range] at hk
          have g0 := gD_some hk
          have c0 : (k : Int) < (ds.length : Int) := by omega
          have c1 : (0 : Int) ≤ (k : Int) ∧ (k : Int) < (ds.length : Int) := by omega
          have w1 : w64 ((k : Int) + 1) = ((k + 1 : Nat) : Int) := by rw [w64_id (by omega) (by omega)]; omega
          have c2 : 0 ≤ k ∧ k ≤ ds.length := by omega
          have c3 : (0 : Int) ≤ (k : Int) := by omega
          have tw : win ds 0 (k - 0) = ds.take k := win_take _ _
          have hlt : (ds.take k).length < 4611686018427387904 := by simp; omega
          simp only [i_IsTriangulation_L4_step, T.run, c0, c1, c2, c3, decide_true, if_true, and_self, Int.toNat_natCast, g0, Option.bind_some, i_isDiagonal_eq n (gD ds k) (by omega) (by omega), tw, slices_ContainsFunc_Diagonal__i_IsTriangulation_1_eq _ (gD ds k) hlt, w1, badT]
          rcases Bool.eq_false_or_eq_true (inDg n (gD ds k)) with hd | hd
          rotate_left
          · simp [hd]
          · simp only [hd]
            by_cases hk0 : 0 < k
            · have w2 : w64 ((k : Int) - 1) = ((k - 1 : Nat) : Int) := by rw [w64_id (by omega) (by omega)]; omega
              have c4 : (0 : Int) ≤ ((k - 1 : Nat) : Int) ∧ ((k - 1 : Nat) : Int) < (ds.length : Int) := by omega
              have g1 := gD_some (show k - 1 < ds.length by omega)
              have c5 : (k : Int) > 0 := by omega
              simp only [w2, c4, c5, decide_true, if_true, and_self, Int.toNat_natCast, g1, Option.bind_some, i_compareDiagonals_eq, cmpD_ge, hk0]
              cases ltD (gD ds (k - 1)) (gD ds k) <;> simp
              cases (ds.take k).any (crossD (gD ds k)) <;> simp
            · have c5 : ¬ (k : Int) > 0 := by omega
              simp only [c5, decide_false, hk0, if_false]
              cases (ds.take k).any (crossD (gD ds k)) <;> simp)
        (by simp [i_IsTriangulation_L4_step, T.run])
      rw [show ((0 : Nat) : Int) = 0 from rfl] at h
      have he' : ((ds.length : Int) != n - 3) = false := by simp [he]
      simp only [i_IsTriangulation_L4, h, he', decide_eq_true he]
      cases (List.range ds.length).any (badT n ds) <;> simp
    · simp [he]


def i_triangulation_sh : FSh := ⟨[(.one (.sl (.int .i64) false false))], []⟩

def i_triangulation_L5_sh : LSh := ⟨(fun ex => match ex with | .norm => [(0, none), (4, none), (5, none), (6, none), (24, none), (25, none)] | .exit i => if i = 0 then [(0, none), (4, none), (5, none), (6, none)] else [] | .ret => [(2, none), (3, none)]), [(0, (.one (.sl (.int .i64) false false))), (4, (.one (.rw 0 0))), (5, (.one (.rw 1 0))), (6, (.one (.rw 2 0))), (24, (.one (.si .i64))), (25, (.one (.si .i64)))], [(.row 0 (.int .i64)), (.row 0 (.int .i64)), (.row 0 (.pair (.int .i64) (.int .i64)))], [⟨(.exit 0), [(0, (.one (.sl (.int .i64) false false))), (4, (.one (.rw 0 0))), (5, (.one (.rw 1 0))), (6, (.one (.rw 2 0)))], [(.row 0 (.int .i64)), (.row 0 (.int .i64)), (.row 0 (.pair (.int .i64) (.int .i64)))]⟩], [], []⟩
noncomputable def i_triangulation_L5_step : ((List (Int) × Unit × Unit × Unit × Int × Int) × (List (Int) × List (Int) × List ((Int × Int)))) → T (((List (Int) × Unit × Unit × Unit × Int × Int) × (List (Int) × List (Int) × List ((Int × Int)))) ⊕ ((List (Int) × Unit × Unit × Unit) × (List (Int) × List (Int) × List ((Int × Int))))) := fun ((list, (), (), (), t24, t25), (left, names, out)) =>
  (.test (decide (t25 < t24))
  (.test (decide (1 ≤ (List.length (List.set (List.replicate 1 (0 : Int)) 0 t25))))
   (.test (decide ((0 + (List.length names)) ≤ (List.length names)))
    (.test (decide ((2 * (((List.length names) + (List.length (win (List.set (List.replicate 1 (0 : Int)) 0 t25) 0 1))) * 9)) ≤ 140737488355328))
     (.test (decide ((0 = 0) ∧ ((List.length left) = (List.length left))))
      (.test (decide ((0 = 0) ∧ (((List.length names) + (List.length (win (List.set (List.replicate 1 (0 : Int)) 0 t25) 0 1))) = (List.length ((win names 0 (List.length names)) ++ (win (List.set (List.replicate 1 (0 : Int)) 0 t25) 0 1))))))
       (.test (decide ((0 = 0) ∧ ((List.length out) = (List.length out))))
        (.ret (Sum.inl ((list, ((), ((), ((), (t24, (w64 (t25 + 1))))))), (left, (((win names 0 (List.length names)) ++ (win (List.set (List.replicate 1 (0 : Int)) 0 t25) 0 1)), out)))))
        .fail)
       .fail)
      .fail)
     .fail)
    .fail)
   .fail)
  (.test (decide ((0 = 0) ∧ ((List.length left) = (List.length left))))
   (.test (decide ((0 = 0) ∧ ((List.length names) = (List.length names))))
    (.test (decide ((0 = 0) ∧ ((List.length out) = (List.length out))))
     (.ret (Sum.inr ((list, ((), ((), ()))), (left, (names, out)))))
     .fail)
    .fail)
   .fail))
noncomputable def i_triangulation_L5 (v : ((List (Int) × Unit × Unit × Unit × Int × Int) × (List (Int) × List (Int) × List ((Int × Int))))) : Option ((List (Int) × Unit × Unit × Unit) × (List (Int) × List (Int) × List ((Int × Int)))) := loopO (fun v => (i_triangulation_L5_step v).run) v

def i_triangulation_L10_sh : LSh := ⟨(fun ex => match ex with | .norm => [(0, none), (4, none), (5, none), (6, none), (8, none)] | .exit i => if i = 2 then [(0, none), (4, none), (6, none)] else [] | .ret => [(2, none), (3, none)]), [(0, (.one (.sl (.int .i64) false false))), (4, (.one (.rw 0 0))), (5, (.one (.rw 1 0))), (6, (.one (.rw 2 0))), (8, (.one (.si .i64)))], [(.row 0 (.int .i64)), (.row 0 (.int .i64)), (.row 0 (.pair (.int .i64) (.int .i64)))], [⟨.ret, [(2, (.one (.rw 0 0))), (3, (.one .sb))], [(.row 0 (.pair (.int .i64) (.int .i64)))]⟩, ⟨(.exit 2), [(0, (.one (.sl (.int .i64) false false))), (4, (.one (.rw 0 0))), (6, (.one (.rw 1 0)))], [(.row 0 (.int .i64)), (.row 0 (.pair (.int .i64) (.int .i64)))]⟩], [], []⟩
noncomputable def i_triangulation_L10_step : ((List (Int) × Unit × Unit × Unit × Int) × (List (Int) × List (Int) × List ((Int × Int)))) → T (((List (Int) × Unit × Unit × Unit × Int) × (List (Int) × List (Int) × List ((Int × Int)))) ⊕ (((Unit × Bool) × List ((Int × Int))) ⊕ ((List (Int) × Unit × Unit) × (List (Int) × List ((Int × Int)))))) := fun ((list, (), (), (), n), (left, names, out)) =>
  (.test (decide (n > 3))
  (.test (decide ((0 + (List.length left)) ≤ (List.length left)))
   (.sub (slices_Index_int ((win left 0 (List.length left)), (1 : Int))) fun z0 =>
    (.test (decide (z0 < 0))
    (.test true
     (.ret (Sum.inr (Sum.inl (((), false), ([] : List (Int × Int))))))
     .fail)
    (.test (decide (n ≠ 0))
     (.test (decide (n ≠ 0))
      (.test (decide ((0 ≤ (Int.tmod (w64 ((w64 (z0 + n)) - 1)) n)) ∧ ((Int.tmod (w64 ((w64 (z0 + n)) - 1)) n) < ((List.length left) : Int))))
       (.sub (left[(0 + (Int.toNat (Int.tmod (w64 ((w64 (z0 + n)) - 1)) n)))]?) fun z1 =>
        (.test (decide ((0 ≤ (Int.tmod (w64 ((w64 (z0 + n)) - 1)) n)) ∧ ((Int.tmod (w64 ((w64 (z0 + n)) - 1)) n) < ((List.length left) : Int))))
        (.sub (left[(0 + (Int.toNat (Int.tmod (w64 ((w64 (z0 + n)) - 1)) n)))]?) fun z2 =>
         (.test (decide ((0 ≤ (Int.tmod (w64 (z0 + 1)) n)) ∧ ((Int.tmod (w64 (z0 + 1)) n) < ((List.length left) : Int))))
         (.sub ((List.set left (0 + (Int.toNat (Int.tmod (w64 ((w64 (z0 + n)) - 1)) n))) (w64 (z1 - 1)))[(0 + (Int.toNat (Int.tmod (w64 (z0 + 1)) n)))]?) fun z3 =>
          (.test (decide ((0 ≤ (Int.tmod (w64 (z0 + 1)) n)) ∧ ((Int.tmod (w64 (z0 + 1)) n) < ((List.length left) : Int))))
          (.sub ((List.set left (0 + (Int.toNat (Int.tmod (w64 ((w64 (z0 + n)) - 1)) n))) (w64 (z1 - 1)))[(0 + (Int.toNat (Int.tmod (w64 (z0 + 1)) n)))]?) fun z4 =>
           (.test (decide ((0 ≤ (Int.tmod (w64 ((w64 (z0 + n)) - 1)) n)) ∧ ((Int.tmod (w64 ((w64 (z0 + n)) - 1)) n) < ((List.length names) : Int))))
           (.sub (names[(0 + (Int.toNat (Int.tmod (w64 ((w64 (z0 + n)) - 1)) n)))]?) fun z5 =>
            (.test (decide ((0 ≤ (Int.tmod (w64 (z0 + 1)) n)) ∧ ((Int.tmod (w64 (z0 + 1)) n) < ((List.length names) : Int))))
            (.sub (names[(0 + (Int.toNat (Int.tmod (w64 (z0 + 1)) n)))]?) fun z6 =>
             (.test (decide (1 ≤ (List.length (List.set (List.replicate 1 ((0 : Int), (0 : Int))) 0 ((if (z6 < z5) then z6 else z5), (if (z6 > z5) then z6 else z5))))))
             (.test (decide ((0 + (List.length out)) ≤ (List.length out)))
              (.test (decide ((2 * (((List.length out) + (List.length (win (List.set (List.replicate 1 ((0 : Int), (0 : Int))) 0 ((if (z6 < z5) then z6 else z5), (if (z6 > z5) then z6 else z5))) 0 1))) * 17)) ≤ 140737488355328))
               (.test (decide ((0 = 0) ∧ ((List.length left) = (List.length (List.set (List.set left (0 + (Int.toNat (Int.tmod (w64 ((w64 (z0 + n)) - 1)) n))) (w64 (z1 - 1))) (0 + (Int.toNat (Int.tmod (w64 (z0 + 1)) n))) (w64 (z3 - 1)))))))
                (.sub (slices_Delete_int (((), (z0, (w64 (z0 + 1)))), (List.set (List.set left (0 + (Int.toNat (Int.tmod (w64 ((w64 (z0 + n)) - 1)) n))) (w64 (z1 - 1))) (0 + (Int.toNat (Int.tmod (w64 (z0 + 1)) n))) (w64 (z3 - 1))))) fun z7 =>
                 (.test (decide ((0 = 0) ∧ ((List.length names) = (List.length names))))
                 (.sub (slices_Delete_int (((), (z0, (w64 (z0 + 1)))), names)) fun z8 =>
                  (.test (decide ((0 = 0) ∧ ((List.length z7.2) = (List.length z7.2))))
                  (.test (decide ((0 = 0) ∧ ((List.length z8.2) = (List.length z8.2))))
                   (.test (decide ((0 = 0) ∧ (((List.length out) + (List.length (win (List.set (List.replicate 1 ((0 : Int), (0 : Int))) 0 ((if (z6 < z5) then z6 else z5), (if (z6 > z5) then z6 else z5))) 0 1))) = (List.length ((win out 0 (List.length out)) ++ (win (List.set (List.replicate 1 ((0 : Int), (0 : Int))) 0 ((if (z6 < z5) then z6 else z5), (if (z6 > z5) then z6 else z5))) 0 1))))))
                    (.ret (Sum.inl ((list, ((), ((), ((), (w64 (n - 1)))))), (z7.2, (z8.2, ((win out 0 (List.length out)) ++ (win (List.set (List.replicate 1 ((0 : Int), (0 : Int))) 0 ((if (z6 < z5) then z6 else z5), (if (z6 > z5) then z6 else z5))) 0 1)))))))
                    .fail)
                   .fail)
                  .fail))
                 .fail))
                .fail)
               .fail)
              .fail)
             .fail))
            .fail))
           .fail))
          .fail))
         .fail))
        .fail))
       .fail)
      .fail)
     .fail)))
   .fail)
  (.test (decide ((0 = 0) ∧ ((List.length left) = (List.length left))))
   (.test (decide ((0 = 0) ∧ ((List.length out) = (List.length out))))
    (.ret (Sum.inr (Sum.inr ((list, ((), ())), (left, out)))))
    .fail)
   .fail))
noncomputable def i_triangulation_L10 (v : ((List (Int) × Unit × Unit × Unit × Int) × (List (Int) × List (Int) × List ((Int × Int))))) : Option (((Unit × Bool) × List ((Int × Int))) ⊕ ((List (Int) × Unit × Unit) × (List (Int) × List ((Int × Int))))) := loopO (fun v => (i_triangulation_L10_step v).run) v

def i_triangulation_fo : List FO := [⟨[(.one (.rw 0 0)), (.one .sb)], [(.row 0 (.pair (.int .i64) (.int .i64)))]⟩]
noncomputable def i_triangulation_t : List (Int) → T ((Unit × Bool) × List ((Int × Int))) := fun list =>
  (.sub (i_isPolygon ((List.length list) : Int)) fun z0 =>
  (.test (! z0)
  (.test true
   (.ret (((), false), ([] : List (Int × Int))))
   .fail)
  (.sub (slices_Clone_int list) fun z1 =>
   (.test (decide ((0 = 0) ∧ ((List.length z1.2) = (List.length z1.2))))
   (.test (decide ((0 = 0) ∧ (0 = (List.length (List.replicate 0 (0 : Int))))))
    (.test (decide ((0 = 0) ∧ (0 = (List.length (List.replicate 0 ((0 : Int), (0 : Int)))))))
     (.sub (i_triangulation_L5 ((list, ((), ((), ((), (((List.length list) : Int), (0 : Int)))))), (z1.2, ((List.replicate 0 (0 : Int)), (List.replicate 0 ((0 : Int), (0 : Int))))))) fun z2 =>
      (.test (decide ((0 = 0) ∧ ((List.length z2.2.1) = (List.length z2.2.1))))
      (.test (decide ((0 = 0) ∧ ((List.length z2.2.2.1) = (List.length z2.2.2.1))))
       (.test (decide ((0 = 0) ∧ ((List.length z2.2.2.2) = (List.length z2.2.2.2))))
        (.sub (i_triangulation_L10 ((z2.1.1, ((), ((), ((), ((List.length z2.2.1) : Int))))), (z2.2.1, (z2.2.2.1, z2.2.2.2)))) fun z3 =>
         (.test (Sum.isLeft z3)
         (.sub (Sum.getLeft? z3) fun z4 =>
          (.test (decide ((0 = 0) ∧ ((List.length z4.2) = (List.length z4.2))))
          (.ret (((), z4.1.2), z4.2))
          .fail))
         (.sub (Sum.getRight? z3) fun z5 =>
          (.test (decide ((0 = 0) ∧ ((List.length z5.2.2) = (List.length z5.2.2))))
          (.sub (slices_SortFunc_Diagonal__i_compareDiagonals (((), ()), z5.2.2)) fun z6 =>
           (.test (decide ((0 + (List.length z5.2.1)) ≤ (List.length z5.2.1)))
           (.test true
            (.sub (slices_Equal_int ((win z5.2.1 0 (List.length z5.2.1)), (win (List.set (List.set (List.set (List.replicate 3 (0 : Int)) 0 (1 : Int)) 1 (1 : Int)) 2 (1 : Int)) 0 3))) fun z7 =>
             (.test (! z7)
             (.test true
              (.ret (((), false), ([] : List (Int × Int))))
              .fail)
             (.test (decide ((0 + (List.length z5.2.2)) ≤ (List.length z6.2)))
              (.sub (i_IsTriangulation (((List.length z5.1.1) : Int), (win z6.2 0 (List.length z5.2.2)))) fun z8 =>
               (.test (! z8)
               (.test true
                (.ret (((), false), ([] : List (Int × Int))))
                .fail)
               (.test (decide ((0 + (List.length z5.2.2)) ≤ (List.length z6.2)))
                (.sub (i_quiddity (((List.length z5.1.1) : Int), (win z6.2 0 (List.length z5.2.2)))) fun z9 =>
                 (.test (decide ((0 + (List.length z9.2)) ≤ (List.length z9.2)))
                 (.sub (slices_Equal_int ((win z9.2 0 (List.length z9.2)), z5.1.1)) fun z10 =>
                  (.test (! z10)
                  (.test true
                   (.ret (((), false), ([] : List (Int × Int))))
                   .fail)
                  (.test (decide ((0 = 0) ∧ ((List.length z5.2.2) = (List.length z6.2))))
                   (.ret (((), true), z6.2))
                   .fail)))
                 .fail))
                .fail)))
              .fail)))
            .fail)
           .fail))
          .fail))))
        .fail)
       .fail)
      .fail))
     .fail)
    .fail)
   .fail))))
noncomputable def i_triangulation (v : List (Int)) : Option ((Unit × Bool) × List ((Int × Int))) := (i_triangulation_t v).run
noncomputable def i_triangulation_E : TEnv := ((((((((E0.add1 n_i_isPolygon i_isPolygon_sh i_isPolygon_fo i_isPolygon).add1 n_slices_Clone_int slices_Clone_int_sh slices_Clone_int_fo slices_Clone_int).add1 n_slices_Index_int slices_Index_int_sh slices_Index_int_fo slices_Index_int).add1 n_slices_Delete_int slices_Delete_int_sh slices_Delete_int_fo slices_Delete_int).add1 n_slices_SortFunc_Diagonal slices_SortFunc_Diagonal__i_compareDiagonals_sh slices_SortFunc_Diagonal__i_compareDiagonals_fo slices_SortFunc_Diagonal__i_compareDiagonals).add1 n_slices_Equal_int slices_Equal_int_sh slices_Equal_int_fo slices_Equal_int).add1 n_i_IsTriangulation i_IsTriangulation_sh i_IsTriangulation_fo i_IsTriangulation).add1 n_i_quiddity i_quiddity_sh i_quiddity_fo i_quiddity)
theorem i_triangulation_Eok : (i_triangulation_E).OK := ((((((((E0ok.add1 i_isPolygon_ok).add1 slices_Clone_int_ok).add1 slices_Index_int_ok).add1 slices_Delete_int_ok).add1 slices_SortFunc_Diagonal__i_compareDiagonals_ok).add1 slices_Equal_int_ok).add1 i_IsTriangulation_ok).add1 i_quiddity_ok)
noncomputable def i_triangulation_told : Nat → Option SealT := fun id => if id = 5 then some (LSh.told i_triangulation_L5_sh 0 (i_triangulation_L5_step)) else if id = 10 then some (LSh.told i_triangulation_L10_sh 0 (i_triangulation_L10_step)) else none
theorem i_triangulation_L5_ok : ToldOK Tryz.prog 0 (loopAt (bodyOf fn_i_triangulation) [0]) (LSh.told i_triangulation_L5_sh 0 (i_triangulation_L5_step)) :=
  loop_ok (E := i_triangulation_E) (i_triangulation_Eok) (told := i_triangulation_told) (l := i_triangulation_L5_sh) (step := i_triangulation_L5_step) (loopsOK_of (ls := []) (by kernel_rfl) trivial) (by kernel_rfl) (fun v => by kernel_rfl)
theorem i_triangulation_L10_ok : ToldOK Tryz.prog 0 (loopAt (bodyOf fn_i_triangulation) [1]) (LSh.told i_triangulation_L10_sh 0 (i_triangulation_L10_step)) :=
  loop_ok (E := i_triangulation_E) (i_triangulation_Eok) (told := i_triangulation_told) (l := i_triangulation_L10_sh) (step := i_triangulation_L10_step) (loopsOK_of (ls := []) (by kernel_rfl) trivial) (by kernel_rfl) (fun v => by kernel_rfl)
theorem i_triangulation_ok : FOK Tryz.prog n_i_triangulation i_triangulation_sh i_triangulation_fo i_triangulation :=
  fn_ok (E := i_triangulation_E) (i_triangulation_Eok) (told := i_triangulation_told) (fl := []) (c := bodyOf fn_i_triangulation) (s := i_triangulation_sh) (l := i_triangulation_fo) (tree := i_triangulation_t) fnat_i_triangulation (by kernel_rfl) (by kernel_rfl) (by kernel_rfl) (loopsOK_of (ls := [loopAt (bodyOf fn_i_triangulation) [0], loopAt (bodyOf fn_i_triangulation) [1]]) (by kernel_rfl) ⟨.inr ⟨_, by kernel_rfl, i_triangulation_L5_ok⟩, ⟨.inr ⟨_, by kernel_rfl, i_triangulation_L10_ok⟩, trivial⟩⟩) (fun v => by kernel_rfl)

theorem i_triangulation_names (l left : List Int) (out : List Dg) (hl : l.length < 1000000) : i_triangulation_L5 ((l, ((), ((), ((), ((l.length : Int), (0 : Int)))))), (left, ([], out))) = some ((l, ((), ((), ()))), (left, (nameL l.length, out))) := by
  have key : ∀ m k, k + m = l.length → i_triangulation_L5 ((l, ((), ((), ((), ((l.length : Int), (k : Int)))))), (left, (nameL k, out))) = some ((l, ((), ((), ()))), (left, (nameL l.length, out))) := by
    intro m
    induction m with
    | zero =>
      intro k hk
      have : k = l.length := by omega
      subst this
      simp only [i_triangulation_L5]
      exact loopO_done (by simp [i_triangulation_L5_step, T.run])
    | succ m ih =>
      intro k hk
      have ih := ih (k + 1) (by omega)
      simp only [i_triangulation_L5] at ih ⊢
      rw [← ih]
      refine loopO_next ?_
      have c0 : (k : Int) < (l.length : Int) := by omega
      have w1 : w64 ((k : Int) + 1) = ((k + 1 : Nat) : Int) := by rw [w64_id (by omega) (by omega)]; omega
      have hw : win (nameL k) 0 k = nameL k := by have := win_all (nameL k); rwa [nameL_length] at this
      have c1 : 2 * ((k + 1) * 9) ≤ 140737488355328 := by omega
      have hs : nameL k ++ [(k : Int)] = nameL (k + 1) := (nameL_succ k).symm
      simp only [i_triangulation_L5_step, T.run, c0, decide_true, if_true, win_one, nameL_length, hw, w1, List.length_cons, List.length_nil, c1, hs, Nat.zero_add]
      simp [c1]
  simpa [nameL] using key l.length 0 (by omega)
theorem i_triangulation_cut (list left names : List Int) (out : List Dg) (k i : Nat) (hk : k < 100000) (hl : left.length = k + 4) (hn : names.length = k + 4) (ho : out.length < 100000) (he : ear left = some i) :
    (i_triangulation_L10_step ((list, ((), ((), ((), (left.length : Int))))), (left, (names, out)))).run = some (.inl ((list, ((), ((), ((), ((k + 3 : Nat) : Int))))), (cutL left i, (names.eraseIdx i, out ++ [cutD names i])))) := by
  obtain ⟨hi, _⟩ := ear_lt he
  obtain ⟨n1, n2, n3, n4, n5, n6⟩ := nb_facts (by omega : 3 ≤ left.length) hi
  obtain ⟨t1, t2⟩ := nb_tmod (by omega : 3 ≤ left.length) (by omega) hi
  have hidx := slices_Index_int_eq left 1 (by omega)
  have hii : idxI (fun x => (1 : Int) == x) left = (i : Int) := by unfold idxI; unfold ear at he; rw [he]
  have c0 : (left.length : Int) > 3 := by omega
  have c1 : ¬ ((i : Int) < 0) := by omega
  have c2 : (left.length : Int) ≠ 0 := by omega
  have c3 : (0 : Int) ≤ (nbB left.length i : Int) ∧ (nbB left.length i : Int) < (left.length : Int) := by omega
  have c4 : (0 : Int) ≤ (nbC left.length i : Int) ∧ (nbC left.length i : Int) < (left.length : Int) := by omega
  have c5 : (0 : Int) ≤ (nbB left.length i : Int) ∧ (nbB left.length i : Int) < (names.length : Int) := by omega
  have c6 : (0 : Int) ≤ (nbC left.length i : Int) ∧ (nbC left.length i : Int) < (names.length : Int) := by omega
  have g1 := set_getD n1
  have g2 : (left.set (nbB left.length i) (w64 (left.getD (nbB left.length i) 0 - 1)))[nbC left.length i]? = some ((decAt left (nbB left.length i)).getD (nbC left.length i) 0) := set_getD (by simpa using n2)
  have g3 := set_getD (l := names) (p := nbB left.length i) (by omega)
  have g4 := set_getD (l := names) (p := nbC left.length i) (by omega)
  have w1 : w64 ((i : Int) + 1) = ((i + 1 : Nat) : Int) := by rw [w64_id (by omega) (by omega)]; omega
  rw [w1] at t2
  have w2 : w64 ((left.length : Int) - 1) = ((k + 3 : Nat) : Int) := by rw [w64_id (by omega) (by omega)]; omega
  have hD : ∀ a b : Int, ((if b < a then b else a), (if b > a then b else a)) = (min a b, max a b) := by
    intro a b
    rw [Prod.mk.injEq]
    constructor <;> split <;> omega
  have hD' : (min (names.getD (nbB left.length i) 0) (names.getD (nbC left.length i) 0), max (names.getD (nbB left.length i) 0) (names.getD (nbC left.length i) 0)) = cutD names i := by unfold cutD; rw [hl, hn]
  have hd1 : slices_Delete_int (((), ((i : Int), ((i + 1 : Nat) : Int))), decAt (decAt left (nbB left.length i)) (nbC left.length i)) = some ((), cutL left i) := by
    unfold slices_Delete_int
    rw [if_pos ⟨by simp only []; omega, by simp only []; omega, by simp only [decAt_length]; omega, by simp only [decAt_length]; omega⟩]
    simp only [Int.toNat_natCast, take_drop_erase]
    rfl
  have hd2 : slices_Delete_int (((), ((i : Int), ((i + 1 : Nat) : Int))), names) = some ((), names.eraseIdx i) := by
    unfold slices_Delete_int
    rw [if_pos ⟨by simp only []; omega, by simp only []; omega, by simp only []; omega, by simp only []; omega⟩]
    simp only [Int.toNat_natCast, take_drop_erase]
  have c7 : 2 * ((out.length + 1) * 17) ≤ 140737488355328 := by omega
  have l1 : left.length = (decAt (decAt left (nbB left.length i)) (nbC left.length i)).length := by rw [decAt_length, decAt_length]
  have e1 : left.set (nbB left.length i) (w64 (left.getD (nbB left.length i) 0 - 1)) = decAt left (nbB left.length i) := rfl
  have e2 : (decAt left (nbB left.length i)).set (nbC left.length i) (w64 ((decAt left (nbB left.length i)).getD (nbC left.length i) 0 - 1)) = decAt (decAt left (nbB left.length i)) (nbC left.length i) := rfl
  rw [e1] at g2
  simp only [i_triangulation_L10_step, T.run, c0, decide_true, if_true, Nat.zero_add, Nat.le_refl, win_all, hidx, hii, Option.bind_some, c1, decide_false, Bool.false_eq_true, if_false, c2, ne_eq, not_false_eq_true, t1, t2, c3, c4, c5, c6, and_self, Int.toNat_natCast, g1, e1, g2, g3, g4, e2, hD, hD', win_one, w1, w2, hd1, hd2, ← l1]
  simp [c7]
theorem i_triangulation_cuts (list : List Int) : ∀ (k : Nat) (left names : List Int) (out : List Dg), k < 1000 → left.length = k + 3 → names.length = k + 3 → out.length + k < 10000 →
    i_triangulation_L10 ((list, ((), ((), ((), (left.length : Int))))), (left, (names, out))) = some (match triW k left names with
      | none => .inl (((), false), [])
      | some r => .inr ((list, ((), ())), (r.1, out ++ r.2)))
  | 0, left, names, out, hk, hl, hn, ho => by
    simp only [i_triangulation_L10, triW]
    refine loopO_done ?_
    have c0 : ¬ ((left.length : Int) > 3) := by omega
    simp [i_triangulation_L10_step, T.run, c0]
  | k + 1, left, names, out, hk, hl, hn, ho => by
    cases he : ear left with
    | none =>
      have hidx := slices_Index_int_eq left 1 (by omega)
      have hii : idxI (fun x => (1 : Int) == x) left = -1 := by unfold idxI; unfold ear at he; rw [he]
      have c0 : (left.length : Int) > 3 := by omega
      simp only [i_triangulation_L10, triW, he]
      refine loopO_done ?_
      simp only [i_triangulation_L10_step, T.run, c0, decide_true, if_true, Nat.zero_add, Nat.le_refl, win_all, hidx, hii, Option.bind_some]
      simp
    | some i =>
      have st := i_triangulation_cut list left names out k i (by omega) (by omega) (by omega) (by omega) he
      have hlc := cutL_length (ear_lt he).1
      have ih := i_triangulation_cuts list k (cutL left i) (names.eraseIdx i) (out ++ [cutD names i]) (by omega) (by omega) (by rw [List.length_eraseIdx, if_pos (by have := (ear_lt he).1; omega)]; omega) (by simp; omega)
      rw [show (cutL left i).length = k + 3 by omega] at ih
      simp only [i_triangulation_L10, triW, he] at ih ⊢
      rw [loopO_next st, ih]
      cases triW k (cutL left i) (names.eraseIdx i) with
      | none => rfl
      | some r => simp
theorem i_triangulation_eq (l : List Int) (hl : l.length < 4611686018427387904) : i_triangulation l = some (match trOf l with | some ds => (((), true), ds) | none => (((), false), [])) := by
  simp only [i_triangulation, i_triangulation_t, T.run, i_isPolygon, i_isPolygon_t, i_within_eq, Option.bind_some]
  cases hn : inB 3 12 (l.length : Int) with
  | false => simp [trOf, hn]
  | true =>
    have hn' := inB_iff.1 hn
    have hc : slices_Clone_int l = some ((), l) := by
      unfold slices_Clone_int
      rw [if_pos]
      exact ⟨by unfold maxLen; omega, by omega⟩
    have h5 := i_triangulation_names l l [] (by omega)
    have h10 := i_triangulation_cuts l (l.length - 3) l (nameL l.length) [] (by omega) (by omega) (by rw [nameL_length]; omega) (by simp; omega)
    have htri := tri_W (l.length - 3) l (nameL l.length)
    simp only [Bool.not_true, Bool.false_eq_true, if_false, hc, Option.bind_some, List.replicate_zero, List.length_nil, true_and, decide_true, if_true, h5, h10]
    unfold trOf
    rw [hn, htri]
    cases hW : triW (l.length - 3) l (nameL l.length) with
    | none => simp
    | some r =>
      obtain ⟨l3, ds⟩ := r
      obtain ⟨g1, g2⟩ := triW_len _ _ _ _ (by omega) hW
      simp only at g1 g2
      have hs := slices_SortFunc_Diagonal__i_compareDiagonals_eq ds (by omega)
      have hls := sortD_length ds
      have hw3 : win (List.set (List.set (List.set (List.replicate 3 (0 : Int)) 0 (1 : Int)) 1 (1 : Int)) 2 (1 : Int)) 0 3 = [1, 1, 1] := rfl
      have heq := slices_Equal_int_eq l3 [1, 1, 1] (by omega)
      have hws : win (sortD ds) 0 ds.length = sortD ds := by rw [← hls]; exact win_all _
      simp only [if_true, Sum.isLeft, Sum.getRight?, Option.bind_some, Bool.false_eq_true, if_false, List.nil_append, hs, Nat.zero_add, Nat.le_refl, decide_true, win_all, hw3, heq, hls, hws, true_and]
      by_cases h3 : l3 = [1, 1, 1]
      · have hT : tri (l.length - 3) l (nameL l.length) = some ds := by rw [htri, hW]; simp [h3]
        obtain ⟨q1, q2⟩ := tri_good _ _ _ _ (nameL_sorted _) (by omega) (by rw [nameL_length]; omega) hT
        have hti := good_isTri (n := l.length) ⟨by omega, by omega⟩ (fun m hm => nameL_mem hm) q2 (by omega)
        have hit := i_IsTriangulation_eq (l.length : Int) (sortD ds) (by omega)
        rw [hti] at hit
        have hqd := i_quiddity_eq l.length (sortD ds) ⟨by omega, by omega⟩ (by omega) (fun d hd => by
          obtain ⟨a1, a2, a3, _⟩ := q2.1 d ((sortD_perm ds).mem_iff.1 hd)
          have := nameL_mem a1
          have := nameL_mem a2
          omega)
        have hqs : quid l.length (sortD ds) = quid l.length ds := by
          unfold quid
          exact List.map_congr_left fun p _ => by rw [cnt_perm (sortD_perm ds)]
        have hqe := slices_Equal_int_eq (quid l.length ds) l (by simp [quid]; omega)
        simp only [h3, decide_true, Bool.not_true, Bool.false_eq_true, if_false, hit, Option.bind_some, hqd, hqs, win_all, hqe, Nat.le_refl, if_true]
        by_cases hq : quid l.length ds = l <;> simp [hq]
      · simp [h3]


def slices_Index_Diagonal_sh : FSh := ⟨[(.one (.sl (.pair (.int .i64) (.int .i64)) false false)), (.ag [(.si .i64), (.si .i64)])], []⟩

def slices_Index_Diagonal_L2_sh : LSh := ⟨(fun ex => match ex with | .norm => [(0, none), (3, none), (7, none), (8, none)] | .exit i => if i = 0 then [] else [] | .ret => [(4, none)]), [(0, (.one (.sl (.pair (.int .i64) (.int .i64)) false false))), (3, (.one (.pf 0 0 0))), (7, (.one (.si .i64))), (8, (.one (.si .i64)))], [(.rcd 0 [(.si .i64), (.si .i64)])], [⟨.ret, [(4, (.one (.si .i64)))], []⟩, ⟨(.exit 0), [], []⟩], [], []⟩
noncomputable def slices_Index_Diagonal_L2_step : ((List ((Int × Int)) × Unit × Int × Int) × (Int × Int)) → T (((List ((Int × Int)) × Unit × Int × Int) × (Int × Int)) ⊕ (Int ⊕ Unit)) := fun ((s, (), t7, t8), (v_0, v_1)) =>
  (.test (decide (t8 < t7))
  (.test (decide ((0 ≤ t8) ∧ (t8 < ((List.length s) : Int))))
   (.sub (s[(Int.toNat t8)]?) fun z0 =>
    (.test ((v_0 == z0.1) && ((v_1 == z0.2) && true))
    (.ret (Sum.inr (Sum.inl t8)))
    (.ret (Sum.inl ((s, ((), (t7, (w64 (t8 + 1))))), (v_0, v_1))))))
   .fail)
  (.ret (Sum.inr (Sum.inr ()))))
noncomputable def slices_Index_Diagonal_L2 (v : ((List ((Int × Int)) × Unit × Int × Int) × (Int × Int))) : Option (Int ⊕ Unit) := loopO (fun v => (slices_Index_Diagonal_L2_step v).run) v

def slices_Index_Diagonal_fo : List FO := [⟨[(.one (.si .i64))], []⟩]
noncomputable def slices_Index_Diagonal_t : (List ((Int × Int)) × (Int × Int)) → T Int := fun (s, (v_0, v_1)) =>
  (.sub (slices_Index_Diagonal_L2 ((s, ((), (((List.length s) : Int), (0 : Int)))), (v_0, v_1))) fun z0 =>
  (.test (Sum.isLeft z0)
  (.sub (Sum.getLeft? z0) fun z1 =>
   (.ret z1))
  (.sub (Sum.getRight? z0) fun z2 =>
   (.ret (-1)))))
noncomputable def slices_Index_Diagonal (v : (List ((Int × Int)) × (Int × Int))) : Option Int := (slices_Index_Diagonal_t v).run
noncomputable def slices_Index_Diagonal_E : TEnv := E0
theorem slices_Index_Diagonal_Eok : (slices_Index_Diagonal_E).OK := E0ok
noncomputable def slices_Index_Diagonal_told : Nat → Option SealT := fun id => if id = 2 then some (LSh.told slices_Index_Diagonal_L2_sh 0 (slices_Index_Diagonal_L2_step)) else none
theorem slices_Index_Diagonal_L2_ok : ToldOK Tryz.prog 0 (loopAt (bodyOf fn_slices_Index_Diagonal) [0]) (LSh.told slices_Index_Diagonal_L2_sh 0 (slices_Index_Diagonal_L2_step)) :=
  loop_ok (E := slices_Index_Diagonal_E) (slices_Index_Diagonal_Eok) (told := slices_Index_Diagonal_told) (l := slices_Index_Diagonal_L2_sh) (step := slices_Index_Diagonal_L2_step) (loopsOK_of (ls := []) (by kernel_rfl) trivial) (by kernel_rfl) (fun v => by kernel_rfl)
theorem slices_Index_Diagonal_ok : FOK Tryz.prog n_slices_Index_Diagonal slices_Index_Diagonal_sh slices_Index_Diagonal_fo slices_Index_Diagonal :=
  fn_ok (E := slices_Index_Diagonal_E) (slices_Index_Diagonal_Eok) (told := slices_Index_Diagonal_told) (fl := []) (c := bodyOf fn_slices_Index_Diagonal) (s := slices_Index_Diagonal_sh) (l := slices_Index_Diagonal_fo) (tree := slices_Index_Diagonal_t) fnat_slices_Index_Diagonal (by kernel_rfl) (by kernel_rfl) (by kernel_rfl) (loopsOK_of (ls := [loopAt (bodyOf fn_slices_Index_Diagonal) [0]]) (by kernel_rfl) ⟨.inr ⟨_, by kernel_rfl, slices_Index_Diagonal_L2_ok⟩, trivial⟩) (fun v => by kernel_rfl)

theorem slices_Index_Diagonal_eq (s : List Dg) (v : Dg) (hl : s.length < 4611686018427387904) : slices_Index_Diagonal (s, v) = some (idxI (eqD v) s) := by
  obtain ⟨v0, v1⟩ := v
  have h := loop_find (step := fun v => (slices_Index_Diagonal_L2_step v).run) (xs := s) (eqD (v0, v1)) (fun k => ((s, ((), ((s.length : Int), (k : Int)))), (v0, v1))) (fun k => .inl (k : Int)) (.inr ())
    (fun k x hx => by
      have hlt := getElem?_lt hx
      have h1 : (k : Int) < (s.length : Int) := by omega
      have h2 : (0 : Int) ≤ k ∧ (k : Int) < (s.length : Int) := by omega
      simp only [slices_Index_Diagonal_L2_step, T.run, Int.toNat_natCast, hx, Option.bind_some, h1, h2, decide_true, if_true, and_self]
      rw [w64_id (z := (k : Int) + 1) (by omega) (by omega)]
      change (if eqD (v0, v1) x = true then _ else _) = _
      cases hv : eqD (v0, v1) x <;> simp)
    (by simp [slices_Index_Diagonal_L2_step, T.run])
  rw [show ((0 : Nat) : Int) = 0 from rfl] at h
  simp only [slices_Index_Diagonal, slices_Index_Diagonal_t, T.run, slices_Index_Diagonal_L2]
  rw [h]
  simp only [idxI]
  cases hf : s.findIdx? (eqD (v0, v1)) <;> simp [Sum.isLeft]


def slices_Contains_Diagonal_sh : FSh := ⟨[(.one (.sl (.pair (.int .i64) (.int .i64)) false false)), (.ag [(.si .i64), (.si .i64)])], []⟩

def slices_Contains_Diagonal_fo : List FO := [⟨[(.one .sb)], []⟩]
noncomputable def slices_Contains_Diagonal_t : (List ((Int × Int)) × (Int × Int)) → T Bool := fun (s, (v_0, v_1)) =>
  (.sub (slices_Index_Diagonal (s, (v_0, v_1))) fun z0 =>
  (.ret (decide (z0 ≥ 0))))
noncomputable def slices_Contains_Diagonal (v : (List ((Int × Int)) × (Int × Int))) : Option Bool := (slices_Contains_Diagonal_t v).run
noncomputable def slices_Contains_Diagonal_E : TEnv := (E0.add1 n_slices_Index_Diagonal slices_Index_Diagonal_sh slices_Index_Diagonal_fo slices_Index_Diagonal)
theorem slices_Contains_Diagonal_Eok : (slices_Contains_Diagonal_E).OK := (E0ok.add1 slices_Index_Diagonal_ok)
noncomputable def slices_Contains_Diagonal_told : Nat → Option SealT := fun id => none
theorem slices_Contains_Diagonal_ok : FOK Tryz.prog n_slices_Contains_Diagonal slices_Contains_Diagonal_sh slices_Contains_Diagonal_fo slices_Contains_Diagonal :=
  fn_ok (E := slices_Contains_Diagonal_E) (slices_Contains_Diagonal_Eok) (told := slices_Contains_Diagonal_told) (fl := []) (c := bodyOf fn_slices_Contains_Diagonal) (s := slices_Contains_Diagonal_sh) (l := slices_Contains_Diagonal_fo) (tree := slices_Contains_Diagonal_t) fnat_slices_Contains_Diagonal (by kernel_rfl) (by kernel_rfl) (by kernel_rfl) (loopsOK_of (ls := []) (by kernel_rfl) trivial) (fun v => by kernel_rfl)

theorem slices_Contains_Diagonal_eq (s : List Dg) (v : Dg) (hl : s.length < 4611686018427387904) : slices_Contains_Diagonal (s, v) = some (hasD s v) := by
  have h := slices_Index_Diagonal_eq s v hl
  obtain ⟨v0, v1⟩ := v
  simp only [slices_Contains_Diagonal, slices_Contains_Diagonal_t, T.run, h, Option.bind_some, idxI_ge]
  rfl


def i_SureDiagonals_1_sh : FSh := ⟨[(.ag [(.si .i64), (.si .i64)]), (.one (.pf 0 0 0))], [(.rcd 0 [(.rw 1 0)]), (.row 0 (.pair (.int .i64) (.int .i64)))]⟩

def i_SureDiagonals_1_fo : List FO := [⟨[(.one .sb)], [(.rcd 0 [(.rw 1 0)]), (.row 0 (.pair (.int .i64) (.int .i64)))]⟩]
noncomputable def i_SureDiagonals_1_t : (((Int × Int) × Unit) × (Unit × List ((Int × Int)))) → T (Bool × (Unit × List ((Int × Int)))) := fun (((d_0, d_1), ()), ((), t1_r)) =>
  (.test (decide ((0 + (List.length t1_r)) ≤ (List.length t1_r)))
  (.sub (slices_Contains_Diagonal ((win t1_r 0 (List.length t1_r)), (d_0, d_1))) fun z0 =>
   (.test (decide ((0 = 0) ∧ ((List.length t1_r) = (List.length t1_r))))
   (.ret ((! z0), ((), t1_r)))
   .fail))
  .fail)
noncomputable def i_SureDiagonals_1 (v : (((Int × Int) × Unit) × (Unit × List ((Int × Int))))) : Option (Bool × (Unit × List ((Int × Int)))) := (i_SureDiagonals_1_t v).run
noncomputable def i_SureDiagonals_1_E : TEnv := (E0.add1 n_slices_Contains_Diagonal slices_Contains_Diagonal_sh slices_Contains_Diagonal_fo slices_Contains_Diagonal)
theorem i_SureDiagonals_1_Eok : (i_SureDiagonals_1_E).OK := (E0ok.add1 slices_Contains_Diagonal_ok)
noncomputable def i_SureDiagonals_1_told : Nat → Option SealT := fun id => none
theorem i_SureDiagonals_1_ok : FOK Tryz.prog n_i_SureDiagonals_1 i_SureDiagonals_1_sh i_SureDiagonals_1_fo i_SureDiagonals_1 :=
  fn_ok (E := i_SureDiagonals_1_E) (i_SureDiagonals_1_Eok) (told := i_SureDiagonals_1_told) (fl := []) (c := bodyOf fn_i_SureDiagonals_1) (s := i_SureDiagonals_1_sh) (l := i_SureDiagonals_1_fo) (tree := i_SureDiagonals_1_t) fnat_i_SureDiagonals_1 (by kernel_rfl) (by kernel_rfl) (by kernel_rfl) (loopsOK_of (ls := []) (by kernel_rfl) trivial) (fun v => by kernel_rfl)

theorem i_SureDiagonals_1_eq (t : List Dg) (d : Dg) (hl : t.length < 4611686018427387904) : i_SureDiagonals_1 ((d, ()), ((), t)) = some (!hasD t d, ((), t)) := by
  obtain ⟨a, b⟩ := d
  simp [i_SureDiagonals_1, i_SureDiagonals_1_t, T.run, win_all, slices_Contains_Diagonal_eq t (a, b) hl]


def slices_IndexFunc_Diagonal__i_SureDiagonals_1_sh : FSh := ⟨[(.one (.sl (.pair (.int .i64) (.int .i64)) false false)), (.clo n_i_SureDiagonals_1 [(.one (.pf 0 0 0))])], [(.rcd 0 [(.rw 1 0)]), (.row 0 (.pair (.int .i64) (.int .i64)))]⟩

def slices_IndexFunc_Diagonal__i_SureDiagonals_1_L2_sh : LSh := ⟨(fun ex => match ex with | .norm => [(0, none), (1, none), (7, none), (8, none)] | .exit i => if i = 0 then [] else [] | .ret => [(4, none)]), [(0, (.one (.sl (.pair (.int .i64) (.int .i64)) false false))), (1, (.clo n_i_SureDiagonals_1 [(.one (.pf 0 0 0))])), (7, (.one (.si .i64))), (8, (.one (.si .i64)))], [(.rcd 0 [(.rw 1 0)]), (.row 0 (.pair (.int .i64) (.int .i64)))], [⟨.ret, [(4, (.one (.si .i64)))], [(.rcd 0 [(.rw 1 0)]), (.row 0 (.pair (.int .i64) (.int .i64)))]⟩, ⟨(.exit 0), [], [(.rcd 0 [(.rw 1 0)]), (.row 0 (.pair (.int .i64) (.int .i64)))]⟩], [], []⟩
noncomputable def slices_IndexFunc_Diagonal__i_SureDiagonals_1_L2_step : ((List ((Int × Int)) × Unit × Int × Int) × (Unit × List ((Int × Int)))) → T (((List ((Int × Int)) × Unit × Int × Int) × (Unit × List ((Int × Int)))) ⊕ ((Int × (Unit × List ((Int × Int)))) ⊕ (Unit × (Unit × List ((Int × Int)))))) := fun ((s, (), t7, t8), ((), r0_r)) =>
  (.test (decide (t8 < t7))
  (.test (decide ((0 ≤ t8) ∧ (t8 < ((List.length s) : Int))))
   (.sub (s[(Int.toNat t8)]?) fun z0 =>
    (.test (decide ((0 = 0) ∧ ((List.length r0_r) = (List.length r0_r))))
    (.sub (i_SureDiagonals_1 (((z0.1, z0.2), ()), ((), r0_r))) fun z1 =>
     (.test z1.1
     (.test (decide ((0 = 0) ∧ ((List.length z1.2.2) = (List.length z1.2.2))))
      (.ret (Sum.inr (Sum.inl (t8, ((), z1.2.2)))))
      .fail)
     (.test (decide ((0 = 0) ∧ ((List.length z1.2.2) = (List.length z1.2.2))))
      (.ret (Sum.inl ((s, ((), (t7, (w64 (t8 + 1))))), ((), z1.2.2))))
      .fail)))
    .fail))
   .fail)
  (.test (decide ((0 = 0) ∧ ((List.length r0_r) = (List.length r0_r))))
   (.ret (Sum.inr (Sum.inr ((), ((), r0_r)))))
   .fail))
noncomputable def slices_IndexFunc_Diagonal__i_SureDiagonals_1_L2 (v : ((List ((Int × Int)) × Unit × Int × Int) × (Unit × List ((Int × Int))))) : Option ((Int × (Unit × List ((Int × Int)))) ⊕ (Unit × (Unit × List ((Int × Int))))) := loopO (fun v => (slices_IndexFunc_Diagonal__i_SureDiagonals_1_L2_step v).run) v

def slices_IndexFunc_Diagonal__i_SureDiagonals_1_fo : List FO := [⟨[(.one (.si .i64))], [(.rcd 0 [(.rw 1 0)]), (.row 0 (.pair (.int .i64) (.int .i64)))]⟩]
noncomputable def slices_IndexFunc_Diagonal__i_SureDiagonals_1_t : ((List ((Int × Int)) × Unit) × (Unit × List ((Int × Int)))) → T (Int × (Unit × List ((Int × Int)))) := fun ((s, ()), ((), r0_r)) =>
  (.test (decide ((0 = 0) ∧ ((List.length r0_r) = (List.length r0_r))))
  (.sub (slices_IndexFunc_Diagonal__i_SureDiagonals_1_L2 ((s, ((), (((List.length s) : Int), (0 : Int)))), ((), r0_r))) fun z0 =>
   (.test (Sum.isLeft z0)
   (.sub (Sum.getLeft? z0) fun z1 =>
    (.test (decide ((0 = 0) ∧ ((List.length z1.2.2) = (List.length z1.2.2))))
    (.ret (z1.1, ((), z1.2.2)))
    .fail))
   (.sub (Sum.getRight? z0) fun z2 =>
    (.test (decide ((0 = 0) ∧ ((List.length z2.2.2) = (List.length z2.2.2))))
    (.ret ((-1), ((), z2.2.2)))
    .fail))))
  .fail)
noncomputable def slices_IndexFunc_Diagonal__i_SureDiagonals_1 (v : ((List ((Int × Int)) × Unit) × (Unit × List ((Int × Int))))) : Option (Int × (Unit × List ((Int × Int)))) := (slices_IndexFunc_Diagonal__i_SureDiagonals_1_t v).run
noncomputable def slices_IndexFunc_Diagonal__i_SureDiagonals_1_E : TEnv := (E0.add1 n_i_SureDiagonals_1 i_SureDiagonals_1_sh i_SureDiagonals_1_fo i_SureDiagonals_1)
theorem slices_IndexFunc_Diagonal__i_SureDiagonals_1_Eok : (slices_IndexFunc_Diagonal__i_SureDiagonals_1_E).OK := (E0ok.add1 i_SureDiagonals_1_ok)
noncomputable def slices_IndexFunc_Diagonal__i_SureDiagonals_1_told : Nat → Option SealT := fun id => if id = 2 then some (LSh.told slices_IndexFunc_Diagonal__i_SureDiagonals_1_L2_sh 2 (slices_IndexFunc_Diagonal__i_SureDiagonals_1_L2_step)) else none
theorem slices_IndexFunc_Diagonal__i_SureDiagonals_1_L2_ok : ToldOK Tryz.prog 2 (loopAt (bodyOf fn_slices_IndexFunc_Diagonal) [0]) (LSh.told slices_IndexFunc_Diagonal__i_SureDiagonals_1_L2_sh 2 (slices_IndexFunc_Diagonal__i_SureDiagonals_1_L2_step)) :=
  loop_ok (E := slices_IndexFunc_Diagonal__i_SureDiagonals_1_E) (slices_IndexFunc_Diagonal__i_SureDiagonals_1_Eok) (told := slices_IndexFunc_Diagonal__i_SureDiagonals_1_told) (l := slices_IndexFunc_Diagonal__i_SureDiagonals_1_L2_sh) (step := slices_IndexFunc_Diagonal__i_SureDiagonals_1_L2_step) (loopsOK_of (ls := []) (by kernel_rfl) trivial) (by kernel_rfl) (fun v => by kernel_rfl)
theorem slices_IndexFunc_Diagonal__i_SureDiagonals_1_ok : FOK Tryz.prog n_slices_IndexFunc_Diagonal slices_IndexFunc_Diagonal__i_SureDiagonals_1_sh slices_IndexFunc_Diagonal__i_SureDiagonals_1_fo slices_IndexFunc_Diagonal__i_SureDiagonals_1 :=
  fn_ok (E := slices_IndexFunc_Diagonal__i_SureDiagonals_1_E) (slices_IndexFunc_Diagonal__i_SureDiagonals_1_Eok) (told := slices_IndexFunc_Diagonal__i_SureDiagonals_1_told) (fl := []) (c := bodyOf fn_slices_IndexFunc_Diagonal) (s := slices_IndexFunc_Diagonal__i_SureDiagonals_1_sh) (l := slices_IndexFunc_Diagonal__i_SureDiagonals_1_fo) (tree := slices_IndexFunc_Diagonal__i_SureDiagonals_1_t) fnat_slices_IndexFunc_Diagonal (by kernel_rfl) (by kernel_rfl) (by kernel_rfl) (loopsOK_of (ls := [loopAt (bodyOf fn_slices_IndexFunc_Diagonal) [0]]) (by kernel_rfl) ⟨.inr ⟨_, by kernel_rfl, slices_IndexFunc_Diagonal__i_SureDiagonals_1_L2_ok⟩, trivial⟩) (fun v => by kernel_rfl)

theorem slices_IndexFunc_Diagonal__i_SureDiagonals_1_eq (s t : List Dg) (hp : t.length < 4611686018427387904) (hl : s.length < 4611686018427387904) : slices_IndexFunc_Diagonal__i_SureDiagonals_1 ((s, ()), ((), t)) = some (idxI (fun q => !hasD t q) s, ((), t)) := by
  have h := loop_find (step := fun v => (slices_IndexFunc_Diagonal__i_SureDiagonals_1_L2_step v).run) (xs := s) (fun q => !hasD t q) (fun k => ((s, ((), ((s.length : Int), (k : Int)))), ((), t))) (fun k => .inl ((k : Int), ((), t))) (.inr ((), ((), t)))
    (fun k x hx => by
      have hlt := getElem?_lt hx
      have h1 : (k : Int) < (s.length : Int) := by omega
      have h2 : (0 : Int) ≤ k ∧ (k : Int) < (s.length : Int) := by omega
      simp only [slices_IndexFunc_Diagonal__i_SureDiagonals_1_L2_step, T.run, Int.toNat_natCast, hx, Option.bind_some, h1, h2, decide_true, if_true, and_self, Prod.eta, i_SureDiagonals_1_eq t x hp]
      rw [w64_id (z := (k : Int) + 1) (by omega) (by omega)]
      cases hv : hasD t x <;> simp)
    (by simp [slices_IndexFunc_Diagonal__i_SureDiagonals_1_L2_step, T.run])
  rw [show ((0 : Nat) : Int) = 0 from rfl] at h
  simp only [slices_IndexFunc_Diagonal__i_SureDiagonals_1, slices_IndexFunc_Diagonal__i_SureDiagonals_1_t, T.run, slices_IndexFunc_Diagonal__i_SureDiagonals_1_L2, and_self, decide_true, if_true]
  rw [h]
  simp only [idxI]
  cases hf : s.findIdx? (fun q => !hasD t q) <;> simp [Sum.isLeft]


def slices_DeleteFunc_Diagonal__i_SureDiagonals_1_sh : FSh := ⟨[(.one (.rw 0 0)), (.clo n_i_SureDiagonals_1 [(.one (.pf 1 0 0))])], [(.row 0 (.pair (.int .i64) (.int .i64))), (.rcd 0 [(.rw 2 0)]), (.row 0 (.pair (.int .i64) (.int .i64)))]⟩

def slices_DeleteFunc_Diagonal__i_SureDiagonals_1_L5_sh : LSh := ⟨(fun ex => match ex with | .norm => [(0, none), (1, none), (5, none), (6, none)] | .exit i => if i = 0 then [(0, none), (5, none)] else [] | .ret => [(4, none)]), [(0, (.one (.rw 0 0))), (1, (.clo n_i_SureDiagonals_1 [(.one (.pf 1 0 0))])), (5, (.one (.si .i64))), (6, (.one (.si .i64)))], [(.row 0 (.pair (.int .i64) (.int .i64))), (.rcd 0 [(.rw 2 0)]), (.row 0 (.pair (.int .i64) (.int .i64)))], [⟨(.exit 0), [(0, (.one (.rw 0 0))), (5, (.one (.si .i64)))], [(.row 0 (.pair (.int .i64) (.int .i64))), (.rcd 0 [(.rw 2 0)]), (.row 0 (.pair (.int .i64) (.int .i64)))]⟩], [], []⟩
noncomputable def slices_DeleteFunc_Diagonal__i_SureDiagonals_1_L5_step : ((Unit × Unit × Int × Int) × (List ((Int × Int)) × Unit × List ((Int × Int)))) → T (((Unit × Unit × Int × Int) × (List ((Int × Int)) × Unit × List ((Int × Int)))) ⊕ ((Unit × Int) × (List ((Int × Int)) × Unit × List ((Int × Int))))) := fun (((), (), i, j), (s, (), r1_r)) =>
  (.test (decide (j < ((List.length s) : Int)))
  (.test (decide ((0 ≤ j) ∧ (j < ((List.length s) : Int))))
   (.sub (s[(0 + (Int.toNat j))]?) fun z0 =>
    (.test (decide ((0 = 0) ∧ ((List.length r1_r) = (List.length r1_r))))
    (.sub (i_SureDiagonals_1 (((z0.1, z0.2), ()), ((), r1_r))) fun z1 =>
     (.test (! z1.1)
     (.test (decide ((0 ≤ i) ∧ (i < ((List.length s) : Int))))
      (.sub (s[(0 + (Int.toNat i))]?) fun z2 =>
       (.test (decide ((0 = 0) ∧ ((List.length s) = (List.length (List.set s (0 + (Int.toNat i)) (z0.1, z0.2))))))
       (.test (decide ((0 = 0) ∧ ((List.length z1.2.2) = (List.length z1.2.2))))
        (.ret (Sum.inl (((), ((), ((w64 (i + 1)), (w64 (j + 1))))), ((List.set s (0 + (Int.toNat i)) (z0.1, z0.2)), ((), z1.2.2)))))
        .fail)
       .fail))
      .fail)
     (.test (decide ((0 = 0) ∧ ((List.length s) = (List.length s))))
      (.test (decide ((0 = 0) ∧ ((List.length z1.2.2) = (List.length z1.2.2))))
       (.ret (Sum.inl (((), ((), (i, (w64 (j + 1))))), (s, ((), z1.2.2)))))
       .fail)
      .fail)))
    .fail))
   .fail)
  (.test (decide ((0 = 0) ∧ ((List.length s) = (List.length s))))
   (.test (decide ((0 = 0) ∧ ((List.length r1_r) = (List.length r1_r))))
    (.ret (Sum.inr (((), i), (s, ((), r1_r)))))
    .fail)
   .fail))
noncomputable def slices_DeleteFunc_Diagonal__i_SureDiagonals_1_L5 (v : ((Unit × Unit × Int × Int) × (List ((Int × Int)) × Unit × List ((Int × Int))))) : Option ((Unit × Int) × (List ((Int × Int)) × Unit × List ((Int × Int)))) := loopO (fun v => (slices_DeleteFunc_Diagonal__i_SureDiagonals_1_L5_step v).run) v

def slices_DeleteFunc_Diagonal__i_SureDiagonals_1_w_fo : List FO := [⟨[(.one (.rf 0 0))], [(.row 0 (.pair (.int .i64) (.int .i64))), (.rcd 0 [(.rw 2 0)]), (.row 0 (.pair (.int .i64) (.int .i64)))]⟩]
noncomputable def slices_DeleteFunc_Diagonal__i_SureDiagonals_1_t : ((Unit × Unit) × (List ((Int × Int)) × Unit × List ((Int × Int)))) → T ((Nat × Nat) × (List ((Int × Int)) × Unit × List ((Int × Int)))) := fun (((), ()), (s, (), r1_r)) =>
  (.test (decide ((0 + (List.length s)) ≤ (List.length s)))
  (.test (decide ((0 = 0) ∧ ((List.length r1_r) = (List.length r1_r))))
   (.sub (slices_IndexFunc_Diagonal__i_SureDiagonals_1 (((win s 0 (List.length s)), ()), ((), r1_r))) fun z0 =>
    (.test (z0.1 == (-1))
    (.test (decide ((0 = 0) ∧ ((List.length z0.2.2) = (List.length z0.2.2))))
     (.ret ((0, (List.length s)), (s, ((), z0.2.2))))
     .fail)
    (.test (decide ((0 = 0) ∧ ((List.length s) = (List.length s))))
     (.test (decide ((0 = 0) ∧ ((List.length z0.2.2) = (List.length z0.2.2))))
      (.sub (slices_DeleteFunc_Diagonal__i_SureDiagonals_1_L5 (((), ((), (z0.1, (w64 (z0.1 + 1))))), (s, ((), z0.2.2)))) fun z1 =>
       (.test (decide (0 ≤ z1.1.2))
       (.test (decide (((Int.toNat z1.1.2) ≤ (List.length z1.2.1)) ∧ ((List.length z1.2.1) ≤ (List.length z1.2.1))))
        (.test (decide ((0 < ((List.length z1.2.1) - (Int.toNat z1.1.2))) ∧ (((0 + (Int.toNat z1.1.2)) + ((List.length z1.2.1) - (Int.toNat z1.1.2))) ≤ (List.length z1.2.1))))
         (.test (decide (0 ≤ z1.1.2))
          (.test (decide ((0 ≤ (Int.toNat z1.1.2)) ∧ ((Int.toNat z1.1.2) ≤ (List.length z1.2.1))))
           (.test (decide ((0 = 0) ∧ ((List.length z1.2.2.2) = (List.length z1.2.2.2))))
            (.ret ((0, ((Int.toNat z1.1.2) - 0)), ((spliceT z1.2.1 (0 + (Int.toNat z1.1.2)) (List.replicate ((List.length z1.2.1) - (Int.toNat z1.1.2)) ((0 : Int), (0 : Int)))), ((), z1.2.2.2))))
            .fail)
           .fail)
          .fail)
         .fail)
        .fail)
       .fail))
      .fail)
     .fail)))
   .fail)
  .fail)
noncomputable def slices_DeleteFunc_Diagonal__i_SureDiagonals_1_w (v : ((Unit × Unit) × (List ((Int × Int)) × Unit × List ((Int × Int))))) : Option ((Nat × Nat) × (List ((Int × Int)) × Unit × List ((Int × Int)))) := (slices_DeleteFunc_Diagonal__i_SureDiagonals_1_t v).run
noncomputable def slices_DeleteFunc_Diagonal__i_SureDiagonals_1_E : TEnv := ((E0.add1 n_slices_IndexFunc_Diagonal slices_IndexFunc_Diagonal__i_SureDiagonals_1_sh slices_IndexFunc_Diagonal__i_SureDiagonals_1_fo slices_IndexFunc_Diagonal__i_SureDiagonals_1).add1 n_i_SureDiagonals_1 i_SureDiagonals_1_sh i_SureDiagonals_1_fo i_SureDiagonals_1)
theorem slices_DeleteFunc_Diagonal__i_SureDiagonals_1_Eok : (slices_DeleteFunc_Diagonal__i_SureDiagonals_1_E).OK := ((E0ok.add1 slices_IndexFunc_Diagonal__i_SureDiagonals_1_ok).add1 i_SureDiagonals_1_ok)
noncomputable def slices_DeleteFunc_Diagonal__i_SureDiagonals_1_told : Nat → Option SealT := fun id => if id = 5 then some (LSh.told slices_DeleteFunc_Diagonal__i_SureDiagonals_1_L5_sh 3 (slices_DeleteFunc_Diagonal__i_SureDiagonals_1_L5_step)) else none
theorem slices_DeleteFunc_Diagonal__i_SureDiagonals_1_L5_ok : ToldOK Tryz.prog 3 (loopAt (bodyOf fn_slices_DeleteFunc_Diagonal) [0]) (LSh.told slices_DeleteFunc_Diagonal__i_SureDiagonals_1_L5_sh 3 (slices_DeleteFunc_Diagonal__i_SureDiagonals_1_L5_step)) :=
  loop_ok (E := slices_DeleteFunc_Diagonal__i_SureDiagonals_1_E) (slices_DeleteFunc_Diagonal__i_SureDiagonals_1_Eok) (told := slices_DeleteFunc_Diagonal__i_SureDiagonals_1_told) (l := slices_DeleteFunc_Diagonal__i_SureDiagonals_1_L5_sh) (step := slices_DeleteFunc_Diagonal__i_SureDiagonals_1_L5_step) (loopsOK_of (ls := []) (by kernel_rfl) trivial) (by kernel_rfl) (fun v => by kernel_rfl)
theorem slices_DeleteFunc_Diagonal__i_SureDiagonals_1_w_ok : FOK Tryz.prog n_slices_DeleteFunc_Diagonal slices_DeleteFunc_Diagonal__i_SureDiagonals_1_sh slices_DeleteFunc_Diagonal__i_SureDiagonals_1_w_fo slices_DeleteFunc_Diagonal__i_SureDiagonals_1_w :=
  fn_ok (E := slices_DeleteFunc_Diagonal__i_SureDiagonals_1_E) (slices_DeleteFunc_Diagonal__i_SureDiagonals_1_Eok) (told := slices_DeleteFunc_Diagonal__i_SureDiagonals_1_told) (fl := []) (c := bodyOf fn_slices_DeleteFunc_Diagonal) (s := slices_DeleteFunc_Diagonal__i_SureDiagonals_1_sh) (l := slices_DeleteFunc_Diagonal__i_SureDiagonals_1_w_fo) (tree := slices_DeleteFunc_Diagonal__i_SureDiagonals_1_t) fnat_slices_DeleteFunc_Diagonal (by kernel_rfl) (by kernel_rfl) (by kernel_rfl) (loopsOK_of (ls := [loopAt (bodyOf fn_slices_DeleteFunc_Diagonal) [0]]) (by kernel_rfl) ⟨.inr ⟨_, by kernel_rfl, slices_DeleteFunc_Diagonal__i_SureDiagonals_1_L5_ok⟩, trivial⟩) (fun v => by kernel_rfl)
def slices_DeleteFunc_Diagonal__i_SureDiagonals_1_fo : List FO := [⟨[(.one (.rw 0 0))], [(.row 0 (.pair (.int .i64) (.int .i64))), (.rcd 0 [(.rw 2 0)]), (.row 0 (.pair (.int .i64) (.int .i64)))]⟩]
def slices_DeleteFunc_Diagonal__i_SureDiagonals_1_m : ((Nat × Nat) × (List ((Int × Int)) × Unit × List ((Int × Int)))) → T (Unit × (List ((Int × Int)) × Unit × List ((Int × Int)))) := fun ((o, n), (r0, r1, r2)) => .test (decide (o = 0 ∧ n ≤ (List.length r0))) (.ret ((), ((List.take n r0), r1, r2))) .fail
noncomputable def slices_DeleteFunc_Diagonal__i_SureDiagonals_1 (v : ((Unit × Unit) × (List ((Int × Int)) × Unit × List ((Int × Int))))) : Option (Unit × (List ((Int × Int)) × Unit × List ((Int × Int)))) := (slices_DeleteFunc_Diagonal__i_SureDiagonals_1_w v).bind fun o => (slices_DeleteFunc_Diagonal__i_SureDiagonals_1_m o).run
theorem slices_DeleteFunc_Diagonal__i_SureDiagonals_1_ok : FOK Tryz.prog n_slices_DeleteFunc_Diagonal slices_DeleteFunc_Diagonal__i_SureDiagonals_1_sh slices_DeleteFunc_Diagonal__i_SureDiagonals_1_fo slices_DeleteFunc_Diagonal__i_SureDiagonals_1 :=
  FOK.trunc (l' := slices_DeleteFunc_Diagonal__i_SureDiagonals_1_fo) slices_DeleteFunc_Diagonal__i_SureDiagonals_1_w_ok slices_DeleteFunc_Diagonal__i_SureDiagonals_1_m (fun o => by kernel_rfl)

theorem slices_DeleteFunc_Diagonal__i_SureDiagonals_1_loop (t : List Dg) (hp : t.length < 4611686018427387904) (o : List Dg) (hl : o.length < 4611686018427387904) : ∀ (m j : Nat) (s : List Dg) (i : Nat), j + m = o.length → s.length = o.length → i < j → s.take i = (o.take j).filter (hasD t) → s.drop j = o.drop j →
    ∃ (i' : Nat) (s' : List Dg), s'.length = o.length ∧ i' < o.length ∧ s'.take i' = o.filter (hasD t) ∧ slices_DeleteFunc_Diagonal__i_SureDiagonals_1_L5 (((), ((), ((i : Int), (j : Int)))), (s, ((), t))) = some (((), (i' : Int)), (s', ((), t)))
  | 0, j, s, i, hj, hs, hi, h1, h2 => by
    have : j = o.length := by omega
    subst this
    rw [List.take_length] at h1
    refine ⟨i, s, hs, hi, h1, ?_⟩
    simp only [slices_DeleteFunc_Diagonal__i_SureDiagonals_1_L5]
    refine loopO_done ?_
    have : ¬ ((o.length : Int) < (s.length : Int)) := by omega
    simp [slices_DeleteFunc_Diagonal__i_SureDiagonals_1_L5_step, T.run, this]
  | m + 1, j, s, i, hj, hs, hi, h1, h2 => by
    have hlt : j < s.length := by omega
    have hlo : j < o.length := by omega
    have he : s[j] = o[j] := by
      rw [List.drop_eq_getElem_cons hlt, List.drop_eq_getElem_cons hlo] at h2
      exact (List.cons.inj h2).1
    have h2' : s.drop (j + 1) = o.drop (j + 1) := by
      rw [List.drop_eq_getElem_cons hlt, List.drop_eq_getElem_cons hlo] at h2
      exact (List.cons.inj h2).2
    have c0 : (j : Int) < (s.length : Int) := by omega
    have c1 : (0 : Int) ≤ (j : Int) ∧ (j : Int) < (s.length : Int) := by omega
    have c2 : (0 : Int) ≤ (i : Int) ∧ (i : Int) < (s.length : Int) := by omega
    have w1 : w64 ((j : Int) + 1) = ((j + 1 : Nat) : Int) := by rw [w64_id (by omega) (by omega)]; omega
    have w2 : w64 ((i : Int) + 1) = ((i + 1 : Nat) : Int) := by rw [w64_id (by omega) (by omega)]; omega
    have g1 := List.getElem?_eq_getElem hlt
    have g2 := List.getElem?_eq_getElem (show i < s.length by omega)
    have htake : o.take (j + 1) = o.take j ++ [o[j]] := List.take_succ_eq_append_getElem hlo
    cases hf : hasD t o[j] with
    | true =>
      have e1 : (s.set i o[j]).take (i + 1) = (o.take (j + 1)).filter (hasD t) := by
        rw [List.take_succ_eq_append_getElem (by simp; omega), List.getElem_set_self, List.take_set_of_le (Nat.le_refl _), h1, htake, List.filter_append]
        simp [hf]
      obtain ⟨i', s', r1, r2, r3, r4⟩ := slices_DeleteFunc_Diagonal__i_SureDiagonals_1_loop t hp o hl m (j + 1) (s.set i o[j]) (i + 1) (by omega) (by simpa using hs) (by omega) e1 (by rw [List.drop_set_of_lt (by omega)]; exact h2')
      refine ⟨i', s', r1, r2, r3, ?_⟩
      simp only [slices_DeleteFunc_Diagonal__i_SureDiagonals_1_L5] at r4 ⊢
      rw [← r4]
      refine loopO_next ?_
      simp only [slices_DeleteFunc_Diagonal__i_SureDiagonals_1_L5_step, T.run, c0, c1, c2, decide_true, if_true, and_self, Int.toNat_natCast, Nat.zero_add, g1, g2, he, Option.bind_some, Prod.eta, i_SureDiagonals_1_eq t _ hp, hf, Bool.not_true, Bool.not_false, w1, w2, List.length_set]
    | false =>
      have e1 : s.take i = (o.take (j + 1)).filter (hasD t) := by
        rw [h1, htake, List.filter_append]
        simp [hf]
      obtain ⟨i', s', r1, r2, r3, r4⟩ := slices_DeleteFunc_Diagonal__i_SureDiagonals_1_loop t hp o hl m (j + 1) s i (by omega) hs (by omega) e1 h2'
      refine ⟨i', s', r1, r2, r3, ?_⟩
      simp only [slices_DeleteFunc_Diagonal__i_SureDiagonals_1_L5] at r4 ⊢
      rw [← r4]
      refine loopO_next ?_
      simp only [slices_DeleteFunc_Diagonal__i_SureDiagonals_1_L5_step, T.run, c0, c1, decide_true, if_true, and_self, Int.toNat_natCast, Nat.zero_add, g1, he, Option.bind_some, Prod.eta, i_SureDiagonals_1_eq t _ hp, hf, Bool.not_true, Bool.not_false, Bool.false_eq_true, if_false, w1]
theorem slices_DeleteFunc_Diagonal__i_SureDiagonals_1_eq (s t : List Dg) (hp : t.length < 4611686018427387904) (hl : s.length < 4611686018427387904) : slices_DeleteFunc_Diagonal__i_SureDiagonals_1 (((), ()), (s, ((), t))) = some ((), (s.filter (hasD t), ((), t))) := by
  have hi := slices_IndexFunc_Diagonal__i_SureDiagonals_1_eq s t hp hl
  simp only [slices_DeleteFunc_Diagonal__i_SureDiagonals_1, slices_DeleteFunc_Diagonal__i_SureDiagonals_1_w, slices_DeleteFunc_Diagonal__i_SureDiagonals_1_t, T.run, Nat.zero_add, Nat.le_refl, decide_true, if_true, win_all, hi, Option.bind_some, true_and]
  unfold idxI
  cases hf : s.findIdx? (fun q => !hasD t q) with
  | none =>
    have hall : s.filter (hasD t) = s := by
      rw [List.filter_eq_self]
      intro x hx
      have := List.findIdx?_eq_none_iff.1 hf x hx
      simpa using this
    rw [hall]
    simp [slices_DeleteFunc_Diagonal__i_SureDiagonals_1_m, T.run]
  | some i =>
    obtain ⟨h1, h2, h3⟩ := List.findIdx?_eq_some_iff_getElem.1 hf
    have ht : s.take i = (s.take (i + 1)).filter (hasD t) := by
      rw [List.take_succ_eq_append_getElem h1, List.filter_append]
      have : [s[i]].filter (hasD t) = [] := by simp at h2; simp [h2]
      rw [this, List.append_nil]
      symm
      rw [List.filter_eq_self]
      intro x hx
      obtain ⟨j, hj, e⟩ := List.mem_take_iff_getElem.1 hx
      have := h3 j (by omega)
      rw [e] at this
      simpa using this
    obtain ⟨i', s', r1, r2, r3, r4⟩ := slices_DeleteFunc_Diagonal__i_SureDiagonals_1_loop t hp s hl (s.length - (i + 1)) (i + 1) s i (by omega) rfl (by omega) ht rfl
    have w1 : w64 ((i : Int) + 1) = ((i + 1 : Nat) : Int) := by rw [w64_id (by omega) (by omega)]; omega
    have hne : ((i : Int) == -1) = false := by rw [beq_int]; exact decide_eq_false (by omega)
    have c1 : (0 : Int) ≤ (i' : Int) := by omega
    have c2 : i' ≤ s'.length ∧ s'.length ≤ s'.length := by omega
    have c3 : 0 < s'.length - i' ∧ i' + (s'.length - i') ≤ s'.length := by omega
    have c4 : 0 ≤ i' ∧ i' ≤ s'.length := by omega
    have hsp : (spliceT s' i' (List.replicate (s'.length - i') ((0 : Int), (0 : Int)))).take i' = s.filter (hasD t) := by
      unfold spliceT
      rw [List.take_append_of_le_length (by rw [List.length_take]; omega), List.take_take, Nat.min_self, r3]
    have hspl : i' ≤ (spliceT s' i' (List.replicate (s'.length - i') ((0 : Int), (0 : Int)))).length := by
      unfold spliceT
      simp only [List.length_append, List.length_take, List.length_replicate, List.length_drop]
      omega
    simp only [hne, Bool.false_eq_true, if_false, w1, r4, Option.bind_some, c1, c2, c3, c4, decide_true, if_true, and_self, Int.toNat_natCast, slices_DeleteFunc_Diagonal__i_SureDiagonals_1_m, T.run, Nat.sub_zero, true_and, hspl, hsp]


def i_SureDiagonals_sh : FSh := ⟨[(.ag [(.sl (.int .i64) false false)])], []⟩

def i_SureDiagonals_L6_sh : LSh := ⟨(fun ex => match ex with | .norm => [(6, none), (27, none), (28, none), (29, none)] | .exit i => if i = 0 then [(6, none)] else [] | .ret => [(2, none), (3, none)]), [(6, (.one (.rw 0 0))), (27, (.one (.rf 1 0))), (28, (.one (.si .i64))), (29, (.one (.si .i64)))], [(.row 0 (.pair (.int .i64) (.int .i64))), (.row 0 (.list true (.int .i64)))], [⟨(.exit 0), [(6, (.one (.rw 0 0)))], [(.row 0 (.pair (.int .i64) (.int .i64)))]⟩], [], []⟩
noncomputable def i_SureDiagonals_L6_step : ((Unit × (Nat × Nat) × Int × Int) × (List ((Int × Int)) × List (List (Int)))) → T (((Unit × (Nat × Nat) × Int × Int) × (List ((Int × Int)) × List (List (Int)))) ⊕ (Unit × List ((Int × Int)))) := fun (((), (t27_o, t27_n), t28, t29), (out, t27)) =>
  (.test (decide (t29 < t28))
  (.test (decide ((0 ≤ t29) ∧ (t29 < (t27_n : Int))))
   (.sub (t27[(t27_o + (Int.toNat t29))]?) fun z0 =>
    (.sub (i_triangulation z0) fun z1 =>
    (.test (decide ((0 = 0) ∧ ((List.length out) = (List.length out))))
    (.test (decide ((0 = 0) ∧ ((List.length z1.2) = (List.length z1.2))))
     (.sub (slices_DeleteFunc_Diagonal__i_SureDiagonals_1 (((), ()), (out, ((), z1.2)))) fun z2 =>
      (.test (decide ((0 = 0) ∧ ((List.length z2.2.1) = (List.length z2.2.1))))
      (.ret (Sum.inl (((), ((t27_o, t27_n), (t28, (w64 (t29 + 1))))), (z2.2.1, t27))))
      .fail))
     .fail)
    .fail)))
   .fail)
  (.test (decide ((0 = 0) ∧ ((List.length out) = (List.length out))))
   (.ret (Sum.inr ((), out)))
   .fail))
noncomputable def i_SureDiagonals_L6 (v : ((Unit × (Nat × Nat) × Int × Int) × (List ((Int × Int)) × List (List (Int))))) : Option (Unit × List ((Int × Int))) := loopO (fun v => (i_SureDiagonals_L6_step v).run) v

def i_SureDiagonals_fo : List FO := [⟨[(.one (.rw 0 0)), (.one .sb)], [(.row 0 (.pair (.int .i64) (.int .i64)))]⟩]
noncomputable def i_SureDiagonals_t : List (Int) → T ((Unit × Bool) × List ((Int × Int))) := fun p_0 =>
  (.sub (i_someSolutions p_0) fun z0 =>
  (.test (! z0.1.2)
  (.test true
   (.ret (((), false), ([] : List (Int × Int))))
   .fail)
  (.test (decide (((0 : Int) ≤ (0 : Int)) ∧ (0 < ((List.length z0.2) : Int))))
   (.sub (z0.2[0]?) fun z1 =>
    (.sub (i_triangulation z1) fun z2 =>
    (.test true
    (.test (decide ((1 ≤ (List.length z0.2)) ∧ ((List.length z0.2) ≤ (List.length z0.2))))
     (.test (decide ((0 = 0) ∧ ((List.length z2.2) = (List.length z2.2))))
      (.sub (i_SureDiagonals_L6 (((), ((1, ((List.length z0.2) - 1)), (((((List.length z0.2) - 1) : Nat) : Int), (0 : Int)))), (z2.2, z0.2))) fun z3 =>
       (.test (decide ((0 = 0) ∧ ((List.length z3.2) = (List.length z3.2))))
       (.ret (((), true), z3.2))
       .fail))
      .fail)
     .fail)
    .fail)))
   .fail)))
noncomputable def i_SureDiagonals (v : List (Int)) : Option ((Unit × Bool) × List ((Int × Int))) := (i_SureDiagonals_t v).run
noncomputable def i_SureDiagonals_E : TEnv := (((E0.add1 n_i_someSolutions i_someSolutions_sh i_someSolutions_fo i_someSolutions).add1 n_i_triangulation i_triangulation_sh i_triangulation_fo i_triangulation).add1 n_slices_DeleteFunc_Diagonal slices_DeleteFunc_Diagonal__i_SureDiagonals_1_sh slices_DeleteFunc_Diagonal__i_SureDiagonals_1_fo slices_DeleteFunc_Diagonal__i_SureDiagonals_1)
theorem i_SureDiagonals_Eok : (i_SureDiagonals_E).OK := (((E0ok.add1 i_someSolutions_ok).add1 i_triangulation_ok).add1 slices_DeleteFunc_Diagonal__i_SureDiagonals_1_ok)
noncomputable def i_SureDiagonals_told : Nat → Option SealT := fun id => if id = 6 then some (LSh.told i_SureDiagonals_L6_sh 0 (i_SureDiagonals_L6_step)) else none
theorem i_SureDiagonals_L6_ok : ToldOK Tryz.prog 0 (loopAt (bodyOf fn_i_SureDiagonals) [0]) (LSh.told i_SureDiagonals_L6_sh 0 (i_SureDiagonals_L6_step)) :=
  loop_ok (E := i_SureDiagonals_E) (i_SureDiagonals_Eok) (told := i_SureDiagonals_told) (l := i_SureDiagonals_L6_sh) (step := i_SureDiagonals_L6_step) (loopsOK_of (ls := []) (by kernel_rfl) trivial) (by kernel_rfl) (fun v => by kernel_rfl)
theorem i_SureDiagonals_ok : FOK Tryz.prog n_i_SureDiagonals i_SureDiagonals_sh i_SureDiagonals_fo i_SureDiagonals :=
  fn_ok (E := i_SureDiagonals_E) (i_SureDiagonals_Eok) (told := i_SureDiagonals_told) (fl := []) (c := bodyOf fn_i_SureDiagonals) (s := i_SureDiagonals_sh) (l := i_SureDiagonals_fo) (tree := i_SureDiagonals_t) fnat_i_SureDiagonals (by kernel_rfl) (by kernel_rfl) (by kernel_rfl) (loopsOK_of (ls := [loopAt (bodyOf fn_i_SureDiagonals) [0]]) (by kernel_rfl) ⟨.inr ⟨_, by kernel_rfl, i_SureDiagonals_L6_ok⟩, trivial⟩) (fun v => by kernel_rfl)

theorem triI_dOf (q : List Int) (hl : q.length < 4611686018427387904) : ∃ b, i_triangulation q = some (((), b), dOf q) := by
  rw [i_triangulation_eq q hl]
  unfold dOf
  cases trOf q with
  | none => exact ⟨_, rfl⟩
  | some ds => exact ⟨_, rfl⟩
theorem i_SureDiagonals_loop (o : List Dg) (q : List Int) (t : List (List Int)) (ho : o.length ≤ 9) (ht : t.length < 1000000) (hq : ∀ r ∈ t, r.length < 4611686018427387904) :
    i_SureDiagonals_L6 (((), ((1, t.length), ((t.length : Int), (0 : Int)))), (o, q :: t)) = some ((), t.foldl (fun out r => out.filter (hasD (dOf r))) o) := by
  have h := loop_fold (step := fun v => (i_SureDiagonals_L6_step v).run) (xs := t) (fun k (s : List Dg) => s.length ≤ 9) (fun k s => (((), ((1, t.length), ((t.length : Int), (k : Int)))), (s, q :: t))) (fun out r => out.filter (hasD (dOf r))) (fun s => ((), s))
    (fun k s x hP hx => by
      have hlt := getElem?_lt hx
      refine ⟨?_, Nat.le_trans (List.length_filter_le _ _) hP⟩
      have c0 : (k : Int) < (t.length : Int) := by omega
      have c1 : (0 : Int) ≤ (k : Int) ∧ (k : Int) < (t.length : Int) := by omega
      have w1 : w64 ((k : Int) + 1) = ((k + 1 : Nat) : Int) := by rw [w64_id (by omega) (by omega)]; omega
      obtain ⟨b, hb⟩ := triI_dOf x (hq x (List.mem_of_getElem? hx))
      have hd := dOf_len x
      have hg : (q :: t)[1 + k]? = some x := by rw [Nat.add_comm, List.getElem?_cons_succ]; exact hx
      have hdel := slices_DeleteFunc_Diagonal__i_SureDiagonals_1_eq s (dOf x) (by omega) (by omega)
      simp only [i_SureDiagonals_L6_step, T.run_test, T.run_sub, T.run_ret, T.run_fail]
      rw [if_pos (decide_eq_true c0), if_pos (decide_eq_true c1), Int.toNat_natCast, hg, Option.bind_some, hb, Option.bind_some, if_pos (by simp), if_pos (by simp), hdel, Option.bind_some, if_pos (by simp), w1])
    (fun s hs => by simp [i_SureDiagonals_L6_step, T.run])
    o ho
  simp only [Int.natCast_zero] at h
  simp only [i_SureDiagonals_L6]
  exact h.1
theorem i_SureDiagonals_eq (p : List Int) (hl : p.length < 4611686018427387904) : i_SureDiagonals p = some (((), (sdR p).1), (sdR p).2) := by
  have hsome : i_someSolutions p = some (((), ((solR p).1 && decide (((solR p).2.length : Int) > 0))), (solR p).2) := by
    rw [i_someSolutions, i_someSolutions_t, T.run_sub, i_Solutions_eq p hl, Option.bind_some, T.run_test]
    cases (solR p).1 <;> simp [T.run]
  rw [i_SureDiagonals, i_SureDiagonals_t, T.run_sub, hsome, Option.bind_some, T.run_test]
  unfold sdR
  have hm : ∀ q ∈ (solR p).2, q.length = p.length ∧ p.length ≤ 9 := fun q h => solR_mem h
  have h3 := solR_len p
  generalize solR p = r at *
  obtain ⟨ok, l⟩ := r
  simp only at hm h3
  cases ok with
  | false => simp [T.run]
  | true =>
    cases l with
    | nil => simp [T.run]
    | cons q t =>
      have hq := hm q (by simp)
      obtain ⟨b, hb⟩ := triI_dOf q (by omega)
      have hd := dOf_len q
      simp only [List.length_cons] at h3
      have h6 := i_SureDiagonals_loop (dOf q) q t hd (by omega) (fun r hr => by have := hm r (List.mem_cons_of_mem _ hr); omega)
      have hpos : decide ((((q :: t).length : Nat) : Int) > 0) = true := decide_eq_true (by rw [List.length_cons]; omega)
      have c1 : (0 : Int) ≤ (0 : Int) ∧ (0 : Int) < ((q :: t).length : Int) := by rw [List.length_cons]; omega
      have c2 : 1 ≤ (q :: t).length ∧ (q :: t).length ≤ (q :: t).length := by rw [List.length_cons]; omega
      have e1 : (q :: t).length - 1 = t.length := by simp
      simp only [T.run_test, T.run_sub, T.run_ret, T.run_fail]
      rw [if_neg (by rw [hpos]; simp)]
      rw [if_pos (decide_eq_true (by exact c1)), List.getElem?_cons_zero, Option.bind_some, hb, Option.bind_some, if_pos trivial, if_pos (decide_eq_true c2), if_pos (by simp), e1, h6, Option.bind_some, if_pos (by simp)]


def l_eqDiagonal_sh : FSh := ⟨[(.ag [(.si .i64), (.si .i64)]), (.ag [(.si .i64), (.si .i64)])], []⟩

def l_eqDiagonal_fo : List FO := [⟨[(.one .sb)], []⟩]
noncomputable def l_eqDiagonal_t : ((Int × Int) × (Int × Int)) → T Bool := fun ((a_0, a_1), (b_0, b_1)) =>
  (.test (a_0 != b_0)
  (.ret false)
  (.test (a_1 != b_1)
   (.ret false)
   (.ret true)))
noncomputable def l_eqDiagonal (v : ((Int × Int) × (Int × Int))) : Option Bool := (l_eqDiagonal_t v).run
noncomputable def l_eqDiagonal_E : TEnv := E0
theorem l_eqDiagonal_Eok : (l_eqDiagonal_E).OK := E0ok
noncomputable def l_eqDiagonal_told : Nat → Option SealT := fun id => none
theorem l_eqDiagonal_ok : FOK Tryz.prog n_l_eqDiagonal l_eqDiagonal_sh l_eqDiagonal_fo l_eqDiagonal :=
  fn_ok (E := l_eqDiagonal_E) (l_eqDiagonal_Eok) (told := l_eqDiagonal_told) (fl := []) (c := bodyOf fn_l_eqDiagonal) (s := l_eqDiagonal_sh) (l := l_eqDiagonal_fo) (tree := l_eqDiagonal_t) fnat_l_eqDiagonal (by kernel_rfl) (by kernel_rfl) (by kernel_rfl) (loopsOK_of (ls := []) (by kernel_rfl) trivial) (fun v => by kernel_rfl)

theorem l_eqDiagonal_eq (a b : Int × Int) : l_eqDiagonal (a, b) = some (decide (a = b)) := by
  obtain ⟨a0, a1⟩ := a
  obtain ⟨b0, b1⟩ := b
  simp only [l_eqDiagonal, l_eqDiagonal_t, T.run]
  by_cases h0 : a0 = b0
  · by_cases h1 : a1 = b1
    · simp [h0, h1]
    · simp [h0, h1]
  · simp [h0]


def l_eqDiagonalS_sh : FSh := ⟨[(.one (.sl (.pair (.int .i64) (.int .i64)) false false)), (.one (.sl (.pair (.int .i64) (.int .i64)) false false))], []⟩

def l_eqDiagonalS_L4_sh : LSh := ⟨(fun ex => match ex with | .norm => [(0, none), (1, none), (5, none)] | .exit i => if i = 0 then [] else [] | .ret => [(4, none)]), [(0, (.one (.sl (.pair (.int .i64) (.int .i64)) false false))), (1, (.one (.sl (.pair (.int .i64) (.int .i64)) false false))), (5, (.one (.si .i64)))], [], [⟨.ret, [(4, (.one .sb))], []⟩, ⟨(.exit 0), [], []⟩], [], []⟩
noncomputable def l_eqDiagonalS_L4_step : (List ((Int × Int)) × List ((Int × Int)) × Int) → T ((List ((Int × Int)) × List ((Int × Int)) × Int) ⊕ (Bool ⊕ Unit)) := fun (a, b, i) =>
  (.test (decide (i < ((List.length a) : Int)))
  (.test (decide ((0 ≤ i) ∧ (i < ((List.length a) : Int))))
   (.sub (a[(Int.toNat i)]?) fun z0 =>
    (.test (decide ((0 ≤ i) ∧ (i < ((List.length b) : Int))))
    (.sub (b[(Int.toNat i)]?) fun z1 =>
     (.sub (l_eqDiagonal ((z0.1, z0.2), (z1.1, z1.2))) fun z2 =>
     (.test (! z2)
     (.ret (Sum.inr (Sum.inl false)))
     (.ret (Sum.inl (a, (b, (w64 (i + 1)))))))))
    .fail))
   .fail)
  (.ret (Sum.inr (Sum.inr ()))))
noncomputable def l_eqDiagonalS_L4 (v : (List ((Int × Int)) × List ((Int × Int)) × Int)) : Option (Bool ⊕ Unit) := loopO (fun v => (l_eqDiagonalS_L4_step v).run) v

def l_eqDiagonalS_fo : List FO := [⟨[(.one .sb)], []⟩]
noncomputable def l_eqDiagonalS_t : (List ((Int × Int)) × List ((Int × Int))) → T Bool := fun (a, b) =>
  (.test (((List.length a) : Int) != ((List.length b) : Int))
  (.ret false)
  (.sub (l_eqDiagonalS_L4 (a, (b, (0 : Int)))) fun z0 =>
   (.test (Sum.isLeft z0)
   (.sub (Sum.getLeft? z0) fun z1 =>
    (.ret z1))
   (.sub (Sum.getRight? z0) fun z2 =>
    (.ret true)))))
noncomputable def l_eqDiagonalS (v : (List ((Int × Int)) × List ((Int × Int)))) : Option Bool := (l_eqDiagonalS_t v).run
noncomputable def l_eqDiagonalS_E : TEnv := (E0.add1 n_l_eqDiagonal l_eqDiagonal_sh l_eqDiagonal_fo l_eqDiagonal)
theorem l_eqDiagonalS_Eok : (l_eqDiagonalS_E).OK := (E0ok.add1 l_eqDiagonal_ok)
noncomputable def l_eqDiagonalS_told : Nat → Option SealT := fun id => if id = 4 then some (LSh.told l_eqDiagonalS_L4_sh 0 (l_eqDiagonalS_L4_step)) else none
theorem l_eqDiagonalS_L4_ok : ToldOK Tryz.prog 0 (loopAt (bodyOf fn_l_eqDiagonalS) [0]) (LSh.told l_eqDiagonalS_L4_sh 0 (l_eqDiagonalS_L4_step)) :=
  loop_ok (E := l_eqDiagonalS_E) (l_eqDiagonalS_Eok) (told := l_eqDiagonalS_told) (l := l_eqDiagonalS_L4_sh) (step := l_eqDiagonalS_L4_step) (loopsOK_of (ls := []) (by kernel_rfl) trivial) (by kernel_rfl) (fun v => by kernel_rfl)
theorem l_eqDiagonalS_ok : FOK Tryz.prog n_l_eqDiagonalS l_eqDiagonalS_sh l_eqDiagonalS_fo l_eqDiagonalS :=
  fn_ok (E := l_eqDiagonalS_E) (l_eqDiagonalS_Eok) (told := l_eqDiagonalS_told) (fl := []) (c := bodyOf fn_l_eqDiagonalS) (s := l_eqDiagonalS_sh) (l := l_eqDiagonalS_fo) (tree := l_eqDiagonalS_t) fnat_l_eqDiagonalS (by kernel_rfl) (by kernel_rfl) (by kernel_rfl) (loopsOK_of (ls := [loopAt (bodyOf fn_l_eqDiagonalS) [0]]) (by kernel_rfl) ⟨.inr ⟨_, by kernel_rfl, l_eqDiagonalS_L4_ok⟩, trivial⟩) (fun v => by kernel_rfl)

theorem l_eqDiagonalS_eq (a b : List (Int × Int)) (hl : a.length < 4611686018427387904) : l_eqDiagonalS (a, b) = some (decide (a = b)) := by
  by_cases hab : a.length = b.length
  · have h := loop_any (step := fun v => (l_eqDiagonalS_L4_step v).run) (xs := a.zip b) (fun p => !(decide (p.1 = p.2))) (fun k => (a, b, (k : Int))) (.inl false) (.inr ())
      (fun k x hx => by
        have hk := getElem?_lt hx
        rw [List.length_zip, hab, Nat.min_self] at hk
        rw [List.getElem?_zip_eq_some] at hx
        simp only [l_eqDiagonalS_L4_step, T.run, Option.bind_some, Int.toNat_natCast, hx.1, hx.2, Prod.eta, l_eqDiagonal_eq]
        rw [w64_id (by omega) (by omega)]
        have hka : k < a.length := by omega
        cases decide (x.1 = x.2) <;> simp [hk, hka])
      (by simp [l_eqDiagonalS_L4_step, T.run, hab])
    simp only [l_eqDiagonalS, l_eqDiagonalS_t, T.run, l_eqDiagonalS_L4]
    simp only [Int.natCast_zero] at h
    rw [h, hab]
    rw [zip_any_neD a b hab]
    cases decide (a = b) <;> simp
  · simp only [l_eqDiagonalS, l_eqDiagonalS_t, T.run]
    have : a ≠ b := fun e => hab (by rw [e])
    simp [this]
    omega


end Go.Proofs.W
