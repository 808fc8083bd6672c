/- Functions of the program, walked, and what they compute. -/
import Derived.Test.YtfecbmipnehmnaaCfWk2
set_option linter.unusedVariables false
set_option linter.unusedSimpArgs false
set_option maxRecDepth 100000
set_option maxHeartbeats 4000000
namespace Go.Proofs.W
open Go Go.Gm Go.Proofs
open Go.RowKit Go.Shelf
def i_pieces_sh : FSh := ⟨[(.one (.si .i64)), (.one (.sl (.pair (.int .i64) (.int .i64)) false false))], []⟩

def i_pieces_L3_sh : LSh := ⟨(fun ex => match ex with | .norm => [(1, none), (5, none), (15, none), (16, none)] | .exit i => if i = 0 then [(1, none), (5, none)] else [] | .ret => [(4, none)]), [(1, (.one (.sl (.pair (.int .i64) (.int .i64)) false false))), (5, (.one (.rw 0 0))), (15, (.one (.si .i64))), (16, (.one (.si .i64)))], [(.row 0 (.int .i64))], [⟨(.exit 0), [(1, (.one (.sl (.pair (.int .i64) (.int .i64)) false false))), (5, (.one (.rw 0 0)))], [(.row 0 (.int .i64))]⟩], [], []⟩
noncomputable def i_pieces_L3_step : ((List ((Int × Int)) × Unit × Int × Int) × List (Int)) → T (((List ((Int × Int)) × Unit × Int × Int) × List (Int)) ⊕ ((List ((Int × Int)) × Unit) × List (Int))) := fun ((ds, (), t15, t16), whole) =>
  (.test (decide (t16 < t15))
  (.test (decide (1 ≤ (List.length (List.set (List.replicate 1 (0 : Int)) 0 t16))))
   (.test (decide ((0 + (List.length whole)) ≤ (List.length whole)))
    (.test (decide ((2 * (((List.length whole) + (List.length (win (List.set (List.replicate 1 (0 : Int)) 0 t16) 0 1))) * 9)) ≤ 140737488355328))
     (.test (decide ((0 = 0) ∧ (((List.length whole) + (List.length (win (List.set (List.replicate 1 (0 : Int)) 0 t16) 0 1))) = (List.length ((win whole 0 (List.length whole)) ++ (win (List.set (List.replicate 1 (0 : Int)) 0 t16) 0 1))))))
      (.ret (Sum.inl ((ds, ((), (t15, (w64 (t16 + 1))))), ((win whole 0 (List.length whole)) ++ (win (List.set (List.replicate 1 (0 : Int)) 0 t16) 0 1)))))
      .fail)
     .fail)
    .fail)
   .fail)
  (.test (decide ((0 = 0) ∧ ((List.length whole) = (List.length whole))))
   (.ret (Sum.inr ((ds, ()), whole)))
   .fail))
noncomputable def i_pieces_L3 (v : ((List ((Int × Int)) × Unit × Int × Int) × List (Int))) : Option ((List ((Int × Int)) × Unit) × List (Int)) := loopO (fun v => (i_pieces_L3_step v).run) v

def i_pieces_L12_sh : LSh := ⟨(fun ex => match ex with | .norm => [(7, none), (9, none), (26, none), (27, none), (28, none), (32, none), (33, none), (34, none)] | .exit i => if i = 4 then [(7, none), (26, none), (27, none), (28, none)] else if i = 3 then [(7, none), (26, none), (27, none), (28, none)] else if i = 2 then [(7, none)] else [] | .ret => [(4, none)]), [(7, (.one (.rw 0 0))), (9, (.one (.pf 1 0 0))), (26, (.one (.sl (.pair (.int .i64) (.int .i64)) false false))), (27, (.one (.si .i64))), (28, (.one (.si .i64))), (32, (.one (.rw 0 0))), (33, (.one (.si .i64))), (34, (.one (.si .i64)))], [(.row 0 (.list true (.int .i64))), (.rcd 0 [(.si .i64), (.si .i64)])], [⟨(.exit 4), [(7, (.one (.rw 0 0))), (26, (.one (.sl (.pair (.int .i64) (.int .i64)) false false))), (27, (.one (.si .i64))), (28, (.one (.si .i64)))], [(.row 0 (.list true (.int .i64)))]⟩], [], []⟩
noncomputable def i_pieces_L12_step : ((Unit × Unit × List ((Int × Int)) × Int × Int × Unit × Int × Int) × (List (List (Int)) × (Int × Int))) → T (((Unit × Unit × List ((Int × Int)) × Int × Int × Unit × Int × Int) × (List (List (Int)) × (Int × Int))) ⊕ ((Unit × List ((Int × Int)) × Int × Int) × List (List (Int)))) := fun (((), (), t26, t27, t28, (), t33, t34), (out, (d_0, d_1))) =>
  (.test (decide (t34 < t33))
  (.test (decide ((0 ≤ t34) ∧ (t34 < ((List.length out) : Int))))
   (.sub (out[(0 + (Int.toNat t34))]?) fun z0 =>
    (.sub (slices_Index_int (z0, d_0)) fun z1 =>
    (.sub (slices_Index_int (z0, d_1)) fun z2 =>
    (.test (decide (z1 ≥ 0))
    (.test (decide (z2 ≥ 0))
     (.test (decide (0 ≤ (w64 (z1 + 1))))
      (.test (decide ((0 ≤ (Int.toNat (w64 (z1 + 1)))) ∧ ((Int.toNat (w64 (z1 + 1))) ≤ (List.length z0))))
       (.test (decide (0 ≤ z2))
        (.test (decide (((Int.toNat z2) ≤ (List.length z0)) ∧ ((List.length z0) ≤ (List.length z0))))
         (.test (decide (2 ≤ (List.length (List.set (List.set (List.replicate 2 ([] : List (Int))) 0 (win z0 0 ((Int.toNat (w64 (z1 + 1))) - 0))) 1 (win z0 (Int.toNat z2) ((List.length z0) - (Int.toNat z2)))))))
          (.sub (slices_Concat_int (win (List.set (List.set (List.replicate 2 ([] : List (Int))) 0 (win z0 0 ((Int.toNat (w64 (z1 + 1))) - 0))) 1 (win z0 (Int.toNat z2) ((List.length z0) - (Int.toNat z2)))) 0 2)) fun z3 =>
           (.test (decide ((0 ≤ t34) ∧ (t34 < ((List.length out) : Int))))
           (.test (decide ((0 + (List.length z3.2)) ≤ (List.length z3.2)))
            (.sub (out[(0 + (Int.toNat t34))]?) fun z4 =>
             (.test (decide (0 ≤ z1))
             (.test (decide (0 ≤ (w64 (z2 + 1))))
              (.test (decide (((Int.toNat z1) ≤ (Int.toNat (w64 (z2 + 1)))) ∧ ((Int.toNat (w64 (z2 + 1))) ≤ (List.length z0))))
               (.sub (slices_Clone_int (win z0 (Int.toNat z1) ((Int.toNat (w64 (z2 + 1))) - (Int.toNat z1)))) fun z5 =>
                (.test (decide ((0 + (List.length z5.2)) ≤ (List.length z5.2)))
                (.test (decide (1 ≤ (List.length (List.set (List.replicate 1 ([] : List (Int))) 0 (win z5.2 0 (List.length z5.2))))))
                 (.test (decide ((0 + (List.length out)) ≤ (List.length (List.set out (0 + (Int.toNat t34)) (win z3.2 0 (List.length z3.2))))))
                  (.test (decide ((2 * (((List.length out) + (List.length (win (List.set (List.replicate 1 ([] : List (Int))) 0 (win z5.2 0 (List.length z5.2))) 0 1))) * 25)) ≤ 140737488355328))
                   (.test (decide ((0 = 0) ∧ (((List.length out) + (List.length (win (List.set (List.replicate 1 ([] : List (Int))) 0 (win z5.2 0 (List.length z5.2))) 0 1))) = (List.length ((win (List.set out (0 + (Int.toNat t34)) (win z3.2 0 (List.length z3.2))) 0 (List.length out)) ++ (win (List.set (List.replicate 1 ([] : List (Int))) 0 (win z5.2 0 (List.length z5.2))) 0 1))))))
                    (.ret (Sum.inr (((), (t26, (t27, t28))), ((win (List.set out (0 + (Int.toNat t34)) (win z3.2 0 (List.length z3.2))) 0 (List.length out)) ++ (win (List.set (List.replicate 1 ([] : List (Int))) 0 (win z5.2 0 (List.length z5.2))) 0 1)))))
                    .fail)
                   .fail)
                  .fail)
                 .fail)
                .fail))
               .fail)
              .fail)
             .fail))
            .fail)
           .fail))
          .fail)
         .fail)
        .fail)
       .fail)
      .fail)
     (.test (decide ((0 = 0) ∧ ((List.length out) = (List.length out))))
      (.test (decide ((0 = 0) ∧ ((List.length out) = (List.length out))))
       (.ret (Sum.inl (((), ((), (t26, (t27, (t28, ((), (t33, (w64 (t34 + 1))))))))), (out, (d_0, d_1)))))
       .fail)
      .fail))
    (.test (decide ((0 = 0) ∧ ((List.length out) = (List.length out))))
     (.test (decide ((0 = 0) ∧ ((List.length out) = (List.length out))))
      (.ret (Sum.inl (((), ((), (t26, (t27, (t28, ((), (t33, (w64 (t34 + 1))))))))), (out, (d_0, d_1)))))
      .fail)
     .fail)))))
   .fail)
  (.test (decide ((0 = 0) ∧ ((List.length out) = (List.length out))))
   (.ret (Sum.inr (((), (t26, (t27, t28))), out)))
   .fail))
noncomputable def i_pieces_L12 (v : ((Unit × Unit × List ((Int × Int)) × Int × Int × Unit × Int × Int) × (List (List (Int)) × (Int × Int)))) : Option ((Unit × List ((Int × Int)) × Int × Int) × List (List (Int))) := loopO (fun v => (i_pieces_L12_step v).run) v

def i_pieces_L9_sh : LSh := ⟨(fun ex => match ex with | .norm => [(7, none), (26, none), (27, none), (28, none)] | .exit i => if i = 2 then [(7, none)] else [] | .ret => [(4, none)]), [(7, (.one (.rw 0 0))), (26, (.one (.sl (.pair (.int .i64) (.int .i64)) false false))), (27, (.one (.si .i64))), (28, (.one (.si .i64)))], [(.row 0 (.list true (.int .i64)))], [⟨(.exit 2), [(7, (.one (.rw 0 0)))], [(.row 0 (.list true (.int .i64)))]⟩], [], []⟩
noncomputable def i_pieces_L9_step : ((Unit × List ((Int × Int)) × Int × Int) × List (List (Int))) → T (((Unit × List ((Int × Int)) × Int × Int) × List (List (Int))) ⊕ (Unit × List (List (Int)))) := fun (((), t26, t27, t28), out) =>
  (.test (decide (t28 < t27))
  (.test (decide ((0 ≤ t28) ∧ (t28 < ((List.length t26) : Int))))
   (.sub (t26[(Int.toNat t28)]?) fun z0 =>
    (.test (decide ((0 = 0) ∧ ((List.length out) = (List.length out))))
    (.test (decide ((0 = 0) ∧ ((List.length out) = (List.length out))))
     (.sub (i_pieces_L12 (((), ((), (t26, (t27, (t28, ((), (((List.length out) : Int), (0 : Int)))))))), (out, (z0.1, z0.2)))) fun z1 =>
      (.test (decide ((0 = 0) ∧ ((List.length z1.2) = (List.length z1.2))))
      (.ret (Sum.inl (((), (z1.1.2.1, (z1.1.2.2.1, (w64 (z1.1.2.2.2 + 1))))), z1.2)))
      .fail))
     .fail)
    .fail))
   .fail)
  (.test (decide ((0 = 0) ∧ ((List.length out) = (List.length out))))
   (.ret (Sum.inr ((), out)))
   .fail))
noncomputable def i_pieces_L9 (v : ((Unit × List ((Int × Int)) × Int × Int) × List (List (Int)))) : Option (Unit × List (List (Int))) := loopO (fun v => (i_pieces_L9_step v).run) v

def i_pieces_fo : List FO := [⟨[(.one (.rw 0 0))], [(.row 0 (.list true (.int .i64)))]⟩]
noncomputable def i_pieces_t : (Int × List ((Int × Int))) → T (Unit × List (List (Int))) := fun (n, ds) =>
  (.test true
  (.sub (i_pieces_L3 ((ds, ((), (n, (0 : Int)))), (List.replicate 0 (0 : Int)))) fun z0 =>
   (.test (decide ((0 + (List.length z0.2)) ≤ (List.length z0.2)))
   (.test (decide ((0 = 0) ∧ (1 = (List.length (List.set (List.replicate 1 ([] : List (Int))) 0 (win z0.2 0 (List.length z0.2)))))))
    (.sub (i_pieces_L9 (((), (z0.1.1, (((List.length z0.1.1) : Int), (0 : Int)))), (List.set (List.replicate 1 ([] : List (Int))) 0 (win z0.2 0 (List.length z0.2))))) fun z1 =>
     (.test (decide ((0 = 0) ∧ ((List.length z1.2) = (List.length z1.2))))
     (.sub (slices_SortFunc_Lint__slices_Compare_int (((), ()), z1.2)) fun z2 =>
      (.test (decide ((0 = 0) ∧ ((List.length z1.2) = (List.length z2.2))))
      (.ret ((), z2.2))
      .fail))
     .fail))
    .fail)
   .fail))
  .fail)
noncomputable def i_pieces (v : (Int × List ((Int × Int)))) : Option (Unit × List (List (Int))) := (i_pieces_t v).run
noncomputable def i_pieces_E : TEnv := ((((E0.add1 n_slices_Index_int slices_Index_int_sh slices_Index_int_fo slices_Index_int).add1 n_slices_Concat_int slices_Concat_int_sh slices_Concat_int_fo slices_Concat_int).add1 n_slices_Clone_int slices_Clone_int_sh slices_Clone_int_fo slices_Clone_int).add1 n_slices_SortFunc_Lint slices_SortFunc_Lint__slices_Compare_int_sh slices_SortFunc_Lint__slices_Compare_int_fo slices_SortFunc_Lint__slices_Compare_int)
theorem i_pieces_Eok : (i_pieces_E).OK := ((((E0ok.add1 slices_Index_int_ok).add1 slices_Concat_int_ok).add1 slices_Clone_int_ok).add1 slices_SortFunc_Lint__slices_Compare_int_ok)
noncomputable def i_pieces_told : Nat → Option SealT := fun id => if id = 3 then some (LSh.told i_pieces_L3_sh 0 (i_pieces_L3_step)) else if id = 12 then some (LSh.told i_pieces_L12_sh 0 (i_pieces_L12_step)) else if id = 9 then some (LSh.told i_pieces_L9_sh 0 (i_pieces_L9_step)) else none
theorem i_pieces_L3_ok : ToldOK Try.prog 0 (loopAt (bodyOf fn_i_pieces) [0]) (LSh.told i_pieces_L3_sh 0 (i_pieces_L3_step)) :=
  loop_ok (E := i_pieces_E) (i_pieces_Eok) (told := i_pieces_told) (l := i_pieces_L3_sh) (step := i_pieces_L3_step) (loopsOK_of (ls := []) (by kernel_rfl) trivial) (by kernel_rfl) (fun v => by kernel_rfl)
theorem i_pieces_L12_ok : ToldOK Try.prog 0 (loopAt (bodyOf fn_i_pieces) [1, 0]) (LSh.told i_pieces_L12_sh 0 (i_pieces_L12_step)) :=
  loop_ok (E := i_pieces_E) (i_pieces_Eok) (told := i_pieces_told) (l := i_pieces_L12_sh) (step := i_pieces_L12_step) (loopsOK_of (ls := []) (by kernel_rfl) trivial) (by kernel_rfl) (fun v => by kernel_rfl)
theorem i_pieces_L9_ok : ToldOK Try.prog 0 (loopAt (bodyOf fn_i_pieces) [1]) (LSh.told i_pieces_L9_sh 0 (i_pieces_L9_step)) :=
  loop_ok (E := i_pieces_E) (i_pieces_Eok) (told := i_pieces_told) (l := i_pieces_L9_sh) (step := i_pieces_L9_step) (loopsOK_of (ls := [loopAt (bodyOf fn_i_pieces) [1, 0]]) (by kernel_rfl) ⟨.inr ⟨_, by kernel_rfl, i_pieces_L12_ok⟩, trivial⟩) (by kernel_rfl) (fun v => by kernel_rfl)
theorem i_pieces_ok : FOK Try.prog n_i_pieces i_pieces_sh i_pieces_fo i_pieces :=
  fn_ok (E := i_pieces_E) (i_pieces_Eok) (told := i_pieces_told) (fl := []) (c := bodyOf fn_i_pieces) (s := i_pieces_sh) (l := i_pieces_fo) (tree := i_pieces_t) fnat_i_pieces (by kernel_rfl) (by kernel_rfl) (by kernel_rfl) (loopsOK_of (ls := [loopAt (bodyOf fn_i_pieces) [0], loopAt (bodyOf fn_i_pieces) [1]]) (by kernel_rfl) ⟨.inr ⟨_, by kernel_rfl, i_pieces_L3_ok⟩, ⟨.inr ⟨_, by kernel_rfl, i_pieces_L9_ok⟩, trivial⟩⟩) (fun v => by kernel_rfl)

theorem i_pieces_whole (ds : List Dg) (N : Nat) (hN : N ≤ 12) : ∀ (m k : Nat), k + m = N → i_pieces_L3 ((ds, ((), ((N : Int), (k : Int)))), nameL k) = some ((ds, ()), nameL N) := by
  intro m
  induction m with
  | zero =>
    intro k hk
    have e : k = N := by omega
    subst e
    simp only [i_pieces_L3]
    refine loopO_done ?_
    rw [i_pieces_L3_step, T.run_test, if_neg (by simp), T.run_test, if_pos (by simp), T.run_ret]
  | succ m ih =>
    intro k hk
    have w1 : w64 ((k : Int) + 1) = ((k + 1 : Nat) : Int) := by rw [w64_id (by omega) (by omega)]; omega
    have := ih (k + 1) (by omega)
    simp only [i_pieces_L3] at this ⊢
    rw [← this]
    refine loopO_next ?_
    rw [i_pieces_L3_step, T.run_test, if_pos (decide_eq_true (by omega)), T.run_test, if_pos (by simp), T.run_test, if_pos (by simp), win_all, win_one, T.run_test, if_pos (by exact decide_eq_true (by rw [nameL_length, List.length_singleton]; omega)), T.run_test, if_pos (by simp), T.run_ret, w1, nameL_succ]
/-- One piece cut in two by the program. -/
theorem i_pieces_cut {p : List Int} (hs : p.Pairwise (· < ·)) {d : Dg} {i j : Nat} (hi : i < p.length) (hj : j < p.length) (ei : p[i] = d.1) (ej : p[j] = d.2) (hd : d.1 < d.2) :
    p.filter (fun v => decide (v ≤ d.1 ∨ d.2 ≤ v)) = p.take (i + 1) ++ p.drop j ∧ p.filter (fun v => decide (d.1 ≤ v ∧ v ≤ d.2)) = (p.drop i).take (j + 1 - i) ∧ i < j := by
  have hij : i < j := (sorted_lt hs hi hj).1 (by rw [ei, ej]; exact hd)
  have lt : ∀ x (h : x < p.length), (p[x] < d.1 ↔ x < i) ∧ (p[x] < d.2 ↔ x < j) := fun x h => ⟨by rw [← ei]; exact sorted_lt hs h hi, by rw [← ej]; exact sorted_lt hs h hj⟩
  have gt : ∀ x (h : x < p.length), (d.1 < p[x] ↔ i < x) ∧ (d.2 < p[x] ↔ j < x) := fun x h => ⟨by rw [← ei]; exact sorted_lt hs hi h, by rw [← ej]; exact sorted_lt hs hj h⟩
  refine ⟨?_, ?_, hij⟩
  · refine filter_out p _ (i + 1) j (by omega) (by omega) (fun x h hx => ?_) (fun x h h1 h2 => ?_) (fun x h hx => ?_)
    · have := gt x h; rw [decide_eq_true_eq]; omega
    · have := gt x h; have := lt x h; rw [decide_eq_false_iff_not]; omega
    · have := lt x h; rw [decide_eq_true_eq]; omega
  · refine filter_mid p _ i (j + 1) (by omega) (by omega) (fun x h hx => ?_) (fun x h h1 h2 => ?_) (fun x h hx => ?_)
    · have := lt x h; rw [decide_eq_false_iff_not]; omega
    · have := gt x h; have := lt x h; rw [decide_eq_true_eq]; omega
    · have := gt x h; rw [decide_eq_false_iff_not]; omega
theorem i_pieces_L12_eq (t26 : List Dg) (t27 t28 : Int) (d : Dg) (hd : d.1 < d.2) : ∀ (rest pre out : List (List Int)), out = pre ++ rest → out.length ≤ 100 → (∀ p ∈ out, p.Pairwise (· < ·) ∧ p.length ≤ 100) →
    i_pieces_L12 (((), ((), (t26, (t27, (t28, ((), ((out.length : Int), (pre.length : Int)))))))), (out, d)) = some (((), (t26, (t27, t28))), pre ++ splitD d rest) := by
  intro rest
  induction rest with
  | nil =>
    intro pre out ho hl hp
    rw [List.append_nil] at ho
    subst ho
    simp only [i_pieces_L12]
    refine loopO_done ?_
    rw [i_pieces_L12_step, T.run_test, if_neg (by simp), T.run_test, if_pos (by simp), T.run_ret, splitD, List.append_nil]
  | cons p t ih =>
    intro pre out ho hl hp
    have hlen : out.length = pre.length + (t.length + 1) := by rw [ho, List.length_append, List.length_cons]
    have hg : out[pre.length]? = some p := by rw [ho, List.getElem?_append_right (Nat.le_refl _), Nat.sub_self]; rfl
    have hpm : p ∈ out := by rw [ho]; simp
    obtain ⟨hs, hpl⟩ := hp p hpm
    have x1 := slices_Index_int_eq p d.1 (by omega)
    have x2 := slices_Index_int_eq p d.2 (by omega)
    have w1 : w64 ((pre.length : Int) + 1) = (((pre ++ [p]).length : Nat) : Int) := by rw [List.length_append, List.length_singleton, w64_id (by omega) (by omega)]; omega
    have next := ih (pre ++ [p]) out (by rw [ho]; simp) hl hp
    have go : ¬ (d.1 ∈ p ∧ d.2 ∈ p) → (i_pieces_L12_step (((), ((), (t26, (t27, (t28, ((), ((out.length : Int), (pre.length : Int)))))))), (out, d))).run = some (.inl (((), ((), (t26, (t27, (t28, ((), ((out.length : Int), (((pre ++ [p]).length : Nat) : Int)))))))), (out, d))) := by
      intro c
      rw [i_pieces_L12_step, T.run_test, if_pos (decide_eq_true (by omega)), T.run_test, if_pos (decide_eq_true (by omega)), T.run_sub, Nat.zero_add, Int.toNat_natCast, hg, Option.bind_some, T.run_sub, x1, Option.bind_some, T.run_sub, x2, Option.bind_some, T.run_test]
      by_cases c1 : d.1 ∈ p
      · obtain ⟨i, hi, ei, e1⟩ := idxI_yes c1
        have e2 := idxI_no (fun h => c ⟨c1, h⟩)
        rw [e1, e2, if_pos (decide_eq_true (by omega)), T.run_test, if_neg (by simp), T.run_test, if_pos (by simp), T.run_test, if_pos (by simp), T.run_ret, w1]
      · rw [idxI_no c1, if_neg (by simp), T.run_test, if_pos (by simp), T.run_test, if_pos (by simp), T.run_ret, w1]
    by_cases c : d.1 ∈ p ∧ d.2 ∈ p
    · obtain ⟨i, hi, ei, e1⟩ := idxI_yes c.1
      obtain ⟨j, hj, ej, e2⟩ := idxI_yes c.2
      obtain ⟨f1, f2, hij⟩ := i_pieces_cut hs hi hj ei ej hd
      rw [e1] at x1
      rw [e2] at x2
      have v1 : w64 ((i : Int) + 1) = ((i + 1 : Nat) : Int) := by rw [w64_id (by omega) (by omega)]; omega
      have v2 : w64 ((j : Int) + 1) = ((j + 1 : Nat) : Int) := by rw [w64_id (by omega) (by omega)]; omega
      have g1 : win p 0 (i + 1 - 0) = p.take (i + 1) := by rw [win_take, Nat.sub_zero]
      have g2 : win p j (p.length - j) = p.drop j := by unfold win; rw [List.take_of_length_le (by simp)]
      have g3 : win p i (j + 1 - i) = (p.drop i).take (j + 1 - i) := rfl
      have g4 : win (List.set (List.set (List.replicate 2 ([] : List Int)) 0 (p.take (i + 1))) 1 (p.drop j)) 0 2 = [p.take (i + 1), p.drop j] := rfl
      have hcat := slices_Concat_int_two (p.take (i + 1)) (p.drop j) (by rw [List.length_take, List.length_drop]; omega)
      have hml : ((p.drop i).take (j + 1 - i)).length ≤ 100 := by rw [List.length_take, List.length_drop]; omega
      have hcl : slices_Clone_int ((p.drop i).take (j + 1 - i)) = some ((), (p.drop i).take (j + 1 - i)) := by
        unfold slices_Clone_int
        rw [if_pos ⟨by unfold maxLen; omega, by omega⟩]
      have hset : out.set pre.length (p.take (i + 1) ++ p.drop j) = pre ++ (p.take (i + 1) ++ p.drop j) :: t := by
        rw [ho, List.set_append_right _ _ (Nat.le_refl _), Nat.sub_self]; rfl
      have hwo : win (pre ++ (p.take (i + 1) ++ p.drop j) :: t) 0 out.length = pre ++ (p.take (i + 1) ++ p.drop j) :: t := by
        have := win_all (pre ++ (p.take (i + 1) ++ p.drop j) :: t)
        rwa [List.length_append, List.length_cons, ← hlen] at this
      have hsl : (pre ++ (p.take (i + 1) ++ p.drop j) :: t).length = out.length := by rw [List.length_append, List.length_cons, ← hlen]
      rw [splitD, if_pos c, f1, f2]
      simp only [i_pieces_L12]
      refine loopO_done ?_
      rw [i_pieces_L12_step, T.run_test, if_pos (decide_eq_true (by omega)), T.run_test, if_pos (decide_eq_true (by omega)), T.run_sub, Nat.zero_add, Int.toNat_natCast, hg, Option.bind_some, T.run_sub, x1, Option.bind_some, T.run_sub, x2, Option.bind_some, T.run_test, if_pos (decide_eq_true (by omega)), T.run_test, if_pos (decide_eq_true (by omega)), v1, T.run_test, if_pos (decide_eq_true (by omega)), T.run_test, if_pos (decide_eq_true (by omega)), T.run_test, if_pos (decide_eq_true (by omega)), T.run_test, if_pos (decide_eq_true (by omega)), T.run_test, if_pos (by simp), T.run_sub]
      simp only [Int.toNat_natCast, g1, g2, g4, hcat, Option.bind_some]
      rw [T.run_test, if_pos (decide_eq_true (by omega)), T.run_test, if_pos (by simp), T.run_sub, Option.bind_some, T.run_test, if_pos (decide_eq_true (by omega)), v2, T.run_test, if_pos (decide_eq_true (by omega)), T.run_test, if_pos (decide_eq_true (by omega)), T.run_sub]
      simp only [Int.toNat_natCast, g3, hcl, Option.bind_some, win_all, hset, hwo, show ∀ q : List Int, win (List.set (List.replicate 1 ([] : List Int)) 0 q) 0 1 = [q] from fun q => rfl]
      rw [T.run_test, if_pos (by simp), T.run_test, if_pos (by simp), T.run_test, if_pos (by exact decide_eq_true (by rw [hsl]; omega)), T.run_test, if_pos (by exact decide_eq_true (by rw [List.length_singleton]; omega)), T.run_test, if_pos (by exact decide_eq_true (by rw [List.length_append, hsl]; exact ⟨trivial, rfl⟩)), T.run_ret]
      simp
    · rw [splitD, if_neg c]
      simp only [i_pieces_L12] at next ⊢
      rw [loopO_next (go c), next, List.append_assoc]
      rfl
theorem i_pieces_L9_eq {N : Nat} (h3 : 3 ≤ N) (hN : N ≤ 12) (ds : List Dg) (hc : CutD N ds) (hl : ds.length ≤ 12) : ∀ (m k : Nat) (out : List (List Int)), k + m = ds.length → out.Perm ((wholeD N :: ds.take k).map (pcs N (ds.take k))) →
    i_pieces_L9 (((), (ds, ((ds.length : Int), (k : Int)))), out) = some ((), (ds.drop k).foldl (fun out d => splitD d out) out) := by
  intro m
  induction m with
  | zero =>
    intro k out hk ho
    rw [List.drop_eq_nil_of_le (by omega)]
    simp only [i_pieces_L9]
    refine loopO_done ?_
    rw [i_pieces_L9_step, T.run_test, if_neg (by rw [decide_eq_true_eq]; omega), T.run_test, if_pos (by simp), T.run_ret]
    rfl
  | succ m ih =>
    intro k out hk ho
    have hlt : k < ds.length := by omega
    have w1 : w64 ((k : Int) + 1) = ((k + 1 : Nat) : Int) := by rw [w64_id (by omega) (by omega)]; omega
    have hte : ds.take (k + 1) = ds.take k ++ [ds[k]] := by rw [List.take_add_one, List.getElem?_eq_getElem hlt]; rfl
    have hcut : CutD N (ds.take k ++ [ds[k]]) := by
      rw [← hte]
      refine CutD.front (es := ds.drop (k + 1)) ?_
      rw [List.take_append_drop]; exact hc
    have hd := hc.1 ds[k] (List.getElem_mem hlt)
    have hol : out.length ≤ 20 := by
      have := ho.length_eq
      simp only [List.length_map, List.length_cons, List.length_take] at this
      omega
    have hp : ∀ p ∈ out, p.Pairwise (· < ·) ∧ p.length ≤ 100 := fun p hp => by
      obtain ⟨q, hq, rfl⟩ := List.mem_map.1 (ho.mem_iff.1 hp)
      have := (pcs_len hcut.front h3 hq).2
      exact ⟨pcs_sorted .., by omega⟩
    have h12 := i_pieces_L12_eq ds (ds.length : Int) (k : Int) ds[k] (by omega) out [] out rfl (by omega) hp
    have := ih (k + 1) (splitD ds[k] out) (by omega) (by rw [hte]; exact split_perm hcut ho)
    rw [List.nil_append] at h12
    rw [List.drop_eq_getElem_cons hlt, List.foldl_cons]
    simp only [i_pieces_L9] at this ⊢
    rw [← this]
    refine loopO_next ?_
    have h12' : i_pieces_L12 (((), ((), (ds, ((ds.length : Int), ((k : Int), ((), ((out.length : Int), (0 : Int)))))))), (out, (ds[k].1, ds[k].2))) = some (((), (ds, ((ds.length : Int), (k : Int)))), splitD ds[k] out) := h12
    rw [i_pieces_L9_step, T.run_test, if_pos (decide_eq_true (by omega)), T.run_test, if_pos (decide_eq_true (by omega)), T.run_sub, Int.toNat_natCast, List.getElem?_eq_getElem hlt, Option.bind_some, T.run_test, if_pos (by simp), T.run_test, if_pos (by simp), T.run_sub, h12', Option.bind_some, T.run_test, if_pos (by simp), T.run_ret, w1]
theorem i_pieces_eq {N : Nat} {ds : List Dg} (h3 : 3 ≤ N) (hN : N ≤ 12) (hl : ds.length ≤ 12) (hc : CutD N ds) : i_pieces ((N : Int), ds) = some ((), sortL (specP N ds)) := by
  have hw := i_pieces_whole ds N hN N 0 (by omega)
  have h9 := i_pieces_L9_eq h3 hN ds hc hl ds.length 0 [nameL N] (by omega) (by
    have : pcs N [] (wholeD N) = nameL N := by
      unfold pcs covD wholeD
      rw [List.filter_eq_self]
      intro v hv
      have := nameL_mem hv
      simp; omega
    simp [this])
  rw [Int.natCast_zero] at hw h9
  rw [List.drop_zero] at h9
  change _ = some ((), implP N ds) at h9
  have hsl := implP_count h3 hc
  have hsort := slices_SortFunc_Lint__slices_Compare_int_eq (implP N ds) (by omega) fun l hl => by have := implP_len h3 hc hl; omega
  have hsame : sortL (implP N ds) = sortL (specP N ds) := sortL_unique (sortL_up _) ((sortL_perm _).trans (pieces_same h3 hc))
  rw [i_pieces, i_pieces_t, T.run_test, if_pos rfl, T.run_sub, show List.replicate 0 (0 : Int) = nameL 0 from rfl, hw, Option.bind_some, T.run_test, if_pos (by simp), T.run_test, if_pos (by simp), T.run_sub, win_all, show List.set (List.replicate 1 ([] : List Int)) 0 (nameL N) = [nameL N] from rfl, h9, Option.bind_some, T.run_test, if_pos (by simp), T.run_sub, hsort, Option.bind_some, T.run_test, if_pos (by exact decide_eq_true ⟨rfl, (sortL_perm _).length_eq.symm⟩), T.run_ret, hsame]


def math_bits_Len_sh : FSh := ⟨[.one (.si .u64)], []⟩
def math_bits_Len_fo : List FO := [⟨[.one (.si .i64)], []⟩]
def math_bits_Len (x : Int) : Option Int := if 0 ≤ x ∧ x ≤ 18446744073709551615 then some (Lib.bitLen x.toNat : Int) else none
def math_bits_Len_ren : Shelf.Ren := ⟨fun k => if k = 125 then n_math_bits_Len else if k = 128 then 92 else 93, fun t => if t = 3 then 3 else if t = 4 then 4 else if t = 5 then 5 else if t = 9 then 9 else if t = 46 then 85 else if t = 51 then 96 else 98, fun x => x⟩
theorem math_bits_Len_lay : Lays.n125 Try.prog math_bits_Len_ren :=
  { mixed := by kernel_rfl, f125 := by kernel_rfl, f128 := by kernel_rfl, f129 := by kernel_rfl, t3 := by kernel_rfl, a3 := fun w => by kernel_rfl, z3 := fun w => by kernel_rfl, v3 := fun w => by kernel_rfl, t4 := by kernel_rfl, a4 := fun w => by kernel_rfl, z4 := fun w => by kernel_rfl, v4 := fun w => by kernel_rfl, t5 := by kernel_rfl, a5 := fun w => by kernel_rfl, z5 := fun w => by kernel_rfl, v5 := fun w => by kernel_rfl, t9 := by kernel_rfl, a9 := fun w => by kernel_rfl, z9 := fun w => by kernel_rfl, v9 := fun w => by kernel_rfl, t46 := by kernel_rfl, a46 := fun w => by kernel_rfl, z46 := fun w => by kernel_rfl, v46 := fun w => by kernel_rfl, t51 := by kernel_rfl, a51 := fun w => by kernel_rfl, z51 := fun w => by kernel_rfl, v51 := fun w => by kernel_rfl, t53 := by kernel_rfl, a53 := fun w => by kernel_rfl, z53 := fun w => by kernel_rfl, v53 := fun w => by kernel_rfl }
theorem math_bits_Len_ok : FOK Try.prog n_math_bits_Len math_bits_Len_sh math_bits_Len_fo math_bits_Len :=
  bitsLen_ok ⟨_, fnat_math_bits_Len, by kernel_rfl, by kernel_rfl⟩ (ρr := math_bits_Len_ren) rfl math_bits_Len_lay

def cmp_isNaN_int_sh : FSh := ⟨[(.one (.si .i64))], []⟩

def cmp_isNaN_int_fo : List FO := [⟨[(.one .sb)], []⟩]
noncomputable def cmp_isNaN_int_t : Int → T Bool := fun x =>
  (.ret (x != x))
noncomputable def cmp_isNaN_int (v : Int) : Option Bool := (cmp_isNaN_int_t v).run
noncomputable def cmp_isNaN_int_E : TEnv := E0
theorem cmp_isNaN_int_Eok : (cmp_isNaN_int_E).OK := E0ok
noncomputable def cmp_isNaN_int_told : Nat → Option SealT := fun id => none
theorem cmp_isNaN_int_ok : FOK Try.prog n_cmp_isNaN_int cmp_isNaN_int_sh cmp_isNaN_int_fo cmp_isNaN_int :=
  fn_ok (E := cmp_isNaN_int_E) (cmp_isNaN_int_Eok) (told := cmp_isNaN_int_told) (fl := []) (c := bodyOf fn_cmp_isNaN_int) (s := cmp_isNaN_int_sh) (l := cmp_isNaN_int_fo) (tree := cmp_isNaN_int_t) fnat_cmp_isNaN_int (by kernel_rfl) (by kernel_rfl) (by kernel_rfl) (loopsOK_of (ls := []) (by kernel_rfl) trivial) (fun v => by kernel_rfl)

def cmp_Less_int_sh : FSh := ⟨[(.one (.si .i64)), (.one (.si .i64))], []⟩

def cmp_Less_int_fo : List FO := [⟨[(.one .sb)], []⟩]
noncomputable def cmp_Less_int_t : (Int × Int) → T Bool := fun (x, y) =>
  (.sub (cmp_isNaN_int x) fun z0 =>
  (.test z0
  (.sub (cmp_isNaN_int y) fun z1 =>
   (.test (! z1)
   (.ret true)
   (.ret (decide (x < y)))))
  (.ret (decide (x < y)))))
noncomputable def cmp_Less_int (v : (Int × Int)) : Option Bool := (cmp_Less_int_t v).run
noncomputable def cmp_Less_int_E : TEnv := (E0.add1 n_cmp_isNaN_int cmp_isNaN_int_sh cmp_isNaN_int_fo cmp_isNaN_int)
theorem cmp_Less_int_Eok : (cmp_Less_int_E).OK := (E0ok.add1 cmp_isNaN_int_ok)
noncomputable def cmp_Less_int_told : Nat → Option SealT := fun id => none
theorem cmp_Less_int_ok : FOK Try.prog n_cmp_Less_int cmp_Less_int_sh cmp_Less_int_fo cmp_Less_int :=
  fn_ok (E := cmp_Less_int_E) (cmp_Less_int_Eok) (told := cmp_Less_int_told) (fl := []) (c := bodyOf fn_cmp_Less_int) (s := cmp_Less_int_sh) (l := cmp_Less_int_fo) (tree := cmp_Less_int_t) fnat_cmp_Less_int (by kernel_rfl) (by kernel_rfl) (by kernel_rfl) (loopsOK_of (ls := []) (by kernel_rfl) trivial) (fun v => by kernel_rfl)

theorem cmp_Less_int_val (x y : Int) : cmp_Less_int (x, y) = some (decide (x < y)) := by
  simp [cmp_Less_int, cmp_Less_int_t, T.run, cmp_isNaN_int, cmp_isNaN_int_t]



/-- Numbers as pairs, to be sorted with what is known of pairs. -/
def asD (l : List Int) : List Dg := l.map fun x => (x, (0 : Int))
def ofD (l : List Dg) : List Int := l.map Prod.fst
theorem ofD_asD (l : List Int) : ofD (asD l) = l := by
  unfold ofD asD
  rw [List.map_map]
  exact List.map_id' l
def sortI (l : List Int) : List Int := ofD (sortD (asD l))
theorem sortI_perm (l : List Int) : (sortI l).Perm l := by
  have := (sortD_perm (asD l)).map Prod.fst
  change (sortI l).Perm (ofD (asD l)) at this
  rwa [ofD_asD] at this
theorem asD_snd {l : List Int} {d : Dg} (h : d ∈ asD l) : d.2 = 0 := by
  obtain ⟨x, _, rfl⟩ := List.mem_map.1 h
  rfl
theorem sortI_up (l : List Int) : (sortI l).Pairwise (· ≤ ·) := by
  unfold sortI ofD
  rw [List.pairwise_map]
  exact (sortD_sorted (asD l)).imp fun {a b} h => by have := leD_iff.1 h; omega
theorem sortI_unique {l m : List Int} (h : m.Pairwise (· ≤ ·)) (hp : m.Perm l) : m = sortI l :=
  List.Perm.eq_of_pairwise (fun a b _ _ h1 h2 => by omega) h (sortI_up l) (hp.trans (sortI_perm l).symm)
theorem ofD_get {L : List Dg} {p : Nat} (h : p < L.length) : (ofD L)[p]? = some (gD L p).1 := by
  unfold ofD
  rw [List.getElem?_map, gD_some h]
  rfl
theorem w64_form (z : Int) : w64 z = if z % 18446744073709551616 ≥ 9223372036854775808 then z % 18446744073709551616 - 18446744073709551616 else z % 18446744073709551616 := by
  simp [w64, IntKind.wrap, IntKind.bits, IntKind.signed]
theorem w64_mod (z : Int) : w64 z % 18446744073709551616 = z % 18446744073709551616 := by
  rw [w64_form]
  split <;> omega
theorem w64_congr {x y : Int} (h : x % 18446744073709551616 = y % 18446744073709551616) : w64 x = w64 y := by
  rw [w64_form, w64_form, h]
theorem w64_mul_swap (z a b : Int) : w64 (w64 (z * a) * b) = w64 (w64 (z * b) * a) := by
  apply w64_congr
  rw [Int.mul_emod, w64_mod, ← Int.mul_emod, Int.mul_emod (w64 (z * b)), w64_mod, ← Int.mul_emod]
  congr 1
  rw [Int.mul_assoc, Int.mul_comm a b, Int.mul_assoc]
theorem foldl_mul_perm (f : Int → Int) {l m : List Int} (h : l.Perm m) (a : Int) : l.foldl (fun o s => w64 (o * f s)) a = m.foldl (fun o s => w64 (o * f s)) a :=
  h.foldl_eq' (fun x _ y _ z => w64_mul_swap z (f x) (f y)) a


def slices_insertionSortOrdered_int_sh : FSh := ⟨[(.one (.rw 0 0)), (.one (.si .i64)), (.one (.si .i64))], [(.row 0 (.int .i64))]⟩

def slices_insertionSortOrdered_int_L4_sh : LSh := ⟨(fun ex => match ex with | .norm => [(0, none), (1, none), (2, none), (6, none), (7, none)] | .exit i => if i = 2 then [(0, none), (1, none), (2, none), (6, none)] else if i = 1 then [(0, none), (1, none), (2, none), (6, none)] else if i = 0 then [] else [] | .ret => []), [(0, (.one (.rw 0 0))), (1, (.one (.si .i64))), (2, (.one (.si .i64))), (6, (.one (.si .i64))), (7, (.one (.si .i64)))], [(.row 0 (.int .i64))], [⟨(.exit 2), [(0, (.one (.rw 0 0))), (1, (.one (.si .i64))), (2, (.one (.si .i64))), (6, (.one (.si .i64)))], [(.row 0 (.int .i64))]⟩], [], []⟩
noncomputable def slices_insertionSortOrdered_int_L4_step : ((Unit × Int × Int × Int × Int) × List (Int)) → T (((Unit × Int × Int × Int × Int) × List (Int)) ⊕ ((Unit × Int × Int × Int) × List (Int))) := fun (((), a, b, i, j), data) =>
  (.test (decide (j > a))
  (.test (decide ((0 ≤ j) ∧ (j < ((List.length data) : Int))))
   (.sub (data[(0 + (Int.toNat j))]?) fun z0 =>
    (.test (decide ((0 ≤ (w64 (j - 1))) ∧ ((w64 (j - 1)) < ((List.length data) : Int))))
    (.sub (data[(0 + (Int.toNat (w64 (j - 1))))]?) fun z1 =>
     (.sub (cmp_Less_int (z0, z1)) fun z2 =>
     (.test z2
     (.test (decide ((0 ≤ (w64 (j - 1))) ∧ ((w64 (j - 1)) < ((List.length data) : Int))))
      (.sub (data[(0 + (Int.toNat (w64 (j - 1))))]?) fun z3 =>
       (.test (decide ((0 ≤ j) ∧ (j < ((List.length data) : Int))))
       (.sub (data[(0 + (Int.toNat j))]?) fun z4 =>
        (.test (decide ((0 ≤ j) ∧ (j < ((List.length data) : Int))))
        (.sub (data[(0 + (Int.toNat j))]?) fun z5 =>
         (.test (decide ((0 ≤ (w64 (j - 1))) ∧ ((w64 (j - 1)) < ((List.length data) : Int))))
         (.sub ((List.set data (0 + (Int.toNat j)) z3)[(0 + (Int.toNat (w64 (j - 1))))]?) fun z6 =>
          (.test (decide ((0 = 0) ∧ ((List.length data) = (List.length (List.set (List.set data (0 + (Int.toNat j)) z3) (0 + (Int.toNat (w64 (j - 1)))) z4)))))
          (.ret (Sum.inl (((), (a, (b, (i, (w64 (j - 1)))))), (List.set (List.set data (0 + (Int.toNat j)) z3) (0 + (Int.toNat (w64 (j - 1)))) z4))))
          .fail))
         .fail))
        .fail))
       .fail))
      .fail)
     (.test (decide ((0 = 0) ∧ ((List.length data) = (List.length data))))
      (.ret (Sum.inr (((), (a, (b, i))), data)))
      .fail))))
    .fail))
   .fail)
  (.test (decide ((0 = 0) ∧ ((List.length data) = (List.length data))))
   (.ret (Sum.inr (((), (a, (b, i))), data)))
   .fail))
noncomputable def slices_insertionSortOrdered_int_L4 (v : ((Unit × Int × Int × Int × Int) × List (Int))) : Option ((Unit × Int × Int × Int) × List (Int)) := loopO (fun v => (slices_insertionSortOrdered_int_L4_step v).run) v

def slices_insertionSortOrdered_int_L1_sh : LSh := ⟨(fun ex => match ex with | .norm => [(0, none), (1, none), (2, none), (6, none)] | .exit i => if i = 0 then [] else [] | .ret => []), [(0, (.one (.rw 0 0))), (1, (.one (.si .i64))), (2, (.one (.si .i64))), (6, (.one (.si .i64)))], [(.row 0 (.int .i64))], [⟨(.exit 0), [], [(.row 0 (.int .i64))]⟩], [], []⟩
noncomputable def slices_insertionSortOrdered_int_L1_step : ((Unit × Int × Int × Int) × List (Int)) → T (((Unit × Int × Int × Int) × List (Int)) ⊕ (Unit × List (Int))) := fun (((), a, b, i), data) =>
  (.test (decide (i < b))
  (.test (decide ((0 = 0) ∧ ((List.length data) = (List.length data))))
   (.sub (slices_insertionSortOrdered_int_L4 (((), (a, (b, (i, i)))), data)) fun z0 =>
    (.test (decide ((0 = 0) ∧ ((List.length z0.2) = (List.length z0.2))))
    (.ret (Sum.inl (((), (z0.1.2.1, (z0.1.2.2.1, (w64 (z0.1.2.2.2 + 1))))), z0.2)))
    .fail))
   .fail)
  (.ret (Sum.inr ((), data))))
noncomputable def slices_insertionSortOrdered_int_L1 (v : ((Unit × Int × Int × Int) × List (Int))) : Option (Unit × List (Int)) := loopO (fun v => (slices_insertionSortOrdered_int_L1_step v).run) v

def slices_insertionSortOrdered_int_fo : List FO := [⟨[], [(.row 0 (.int .i64))]⟩]
noncomputable def slices_insertionSortOrdered_int_t : ((Unit × Int × Int) × List (Int)) → T (Unit × List (Int)) := fun (((), a, b), data) =>
  (.test (decide ((0 = 0) ∧ ((List.length data) = (List.length data))))
  (.sub (slices_insertionSortOrdered_int_L1 (((), (a, (b, (w64 (a + 1))))), data)) fun z0 =>
   (.ret ((), z0.2)))
  .fail)
noncomputable def slices_insertionSortOrdered_int (v : ((Unit × Int × Int) × List (Int))) : Option (Unit × List (Int)) := (slices_insertionSortOrdered_int_t v).run
noncomputable def slices_insertionSortOrdered_int_E : TEnv := (E0.add1 n_cmp_Less_int cmp_Less_int_sh cmp_Less_int_fo cmp_Less_int)
theorem slices_insertionSortOrdered_int_Eok : (slices_insertionSortOrdered_int_E).OK := (E0ok.add1 cmp_Less_int_ok)
noncomputable def slices_insertionSortOrdered_int_told : Nat → Option SealT := fun id => if id = 4 then some (LSh.told slices_insertionSortOrdered_int_L4_sh 1 (slices_insertionSortOrdered_int_L4_step)) else if id = 1 then some (LSh.told slices_insertionSortOrdered_int_L1_sh 1 (slices_insertionSortOrdered_int_L1_step)) else none
theorem slices_insertionSortOrdered_int_L4_ok : ToldOK Try.prog 1 (loopAt (bodyOf fn_slices_insertionSortOrdered_int) [0, 0]) (LSh.told slices_insertionSortOrdered_int_L4_sh 1 (slices_insertionSortOrdered_int_L4_step)) :=
  loop_ok (E := slices_insertionSortOrdered_int_E) (slices_insertionSortOrdered_int_Eok) (told := slices_insertionSortOrdered_int_told) (l := slices_insertionSortOrdered_int_L4_sh) (step := slices_insertionSortOrdered_int_L4_step) (loopsOK_of (ls := []) (by kernel_rfl) trivial) (by kernel_rfl) (fun v => by kernel_rfl)
theorem slices_insertionSortOrdered_int_L1_ok : ToldOK Try.prog 1 (loopAt (bodyOf fn_slices_insertionSortOrdered_int) [0]) (LSh.told slices_insertionSortOrdered_int_L1_sh 1 (slices_insertionSortOrdered_int_L1_step)) :=
  loop_ok (E := slices_insertionSortOrdered_int_E) (slices_insertionSortOrdered_int_Eok) (told := slices_insertionSortOrdered_int_told) (l := slices_insertionSortOrdered_int_L1_sh) (step := slices_insertionSortOrdered_int_L1_step) (loopsOK_of (ls := [loopAt (bodyOf fn_slices_insertionSortOrdered_int) [0, 0]]) (by kernel_rfl) ⟨.inr ⟨_, by kernel_rfl, slices_insertionSortOrdered_int_L4_ok⟩, trivial⟩) (by kernel_rfl) (fun v => by kernel_rfl)
theorem slices_insertionSortOrdered_int_ok : FOK Try.prog n_slices_insertionSortOrdered_int slices_insertionSortOrdered_int_sh slices_insertionSortOrdered_int_fo slices_insertionSortOrdered_int :=
  fn_ok (E := slices_insertionSortOrdered_int_E) (slices_insertionSortOrdered_int_Eok) (told := slices_insertionSortOrdered_int_told) (fl := []) (c := bodyOf fn_slices_insertionSortOrdered_int) (s := slices_insertionSortOrdered_int_sh) (l := slices_insertionSortOrdered_int_fo) (tree := slices_insertionSortOrdered_int_t) fnat_slices_insertionSortOrdered_int (by kernel_rfl) (by kernel_rfl) (by kernel_rfl) (loopsOK_of (ls := [loopAt (bodyOf fn_slices_insertionSortOrdered_int) [0]]) (by kernel_rfl) ⟨.inr ⟨_, by kernel_rfl, slices_insertionSortOrdered_int_L1_ok⟩, trivial⟩) (fun v => by kernel_rfl)

theorem slices_insertionSortOrdered_int_sink (b i : Int) : ∀ (j : Nat) (L : List Dg), j < L.length → L.length < 1000000 → (∀ d ∈ L, d.2 = 0) →
    slices_insertionSortOrdered_int_L4 (((), ((0 : Int), (b, (i, (j : Int))))), ofD L) = some (((), ((0 : Int), (b, i))), ofD (sinkD j L))
  | 0, L, hj, hl, hz => by
    simp only [slices_insertionSortOrdered_int_L4]
    exact loopO_done (by simp [slices_insertionSortOrdered_int_L4_step, T.run, sinkD])
  | j + 1, L, hj, hl, hz => by
    have ih := slices_insertionSortOrdered_int_sink b i j (swapD L j) (by rw [swapD_length]; omega) (by rw [swapD_length]; omega) (fun d hd => hz d ((swapD_perm hj).mem_iff.1 hd))
    simp only [slices_insertionSortOrdered_int_L4] at ih ⊢
    have w1 : w64 (((j + 1 : Nat) : Int) - 1) = (j : Int) := by rw [w64_id (by omega) (by omega)]; omega
    have hol : (ofD L).length = L.length := by unfold ofD; rw [List.length_map]
    have g1 := ofD_get hj
    have g2 := ofD_get (show j < L.length by omega)
    have z1 : (gD L (j + 1)).2 = 0 := by rw [gD_eq hj]; exact hz _ (List.getElem_mem hj)
    have z2 : (gD L j).2 = 0 := by rw [gD_eq (by omega)]; exact hz _ (List.getElem_mem (by omega))
    have hcmp : ltD (gD L (j + 1)) (gD L j) = decide ((gD L (j + 1)).1 < (gD L j).1) := by
      rw [Bool.eq_iff_iff, ltD_iff, decide_eq_true_eq, z1, z2]; omega
    have c0 : ((j + 1 : Nat) : Int) > 0 := by omega
    have c1 : (0 : Int) ≤ ((j + 1 : Nat) : Int) ∧ ((j + 1 : Nat) : Int) < ((ofD L).length : Int) := by omega
    have c2 : (0 : Int) ≤ (j : Int) ∧ (j : Int) < ((ofD L).length : Int) := by omega
    cases hlt : ltD (gD L (j + 1)) (gD L j) with
    | false =>
      have e : sinkD (j + 1) L = L := by unfold sinkD; rw [hlt]; rfl
      rw [e]
      refine loopO_done ?_
      rw [hcmp] at hlt
      rw [slices_insertionSortOrdered_int_L4_step, T.run_test, if_pos (decide_eq_true c0), T.run_test, if_pos (decide_eq_true c1), T.run_sub, Nat.zero_add, Int.toNat_natCast, g1, Option.bind_some, T.run_test, w1, if_pos (decide_eq_true c2), T.run_sub, Nat.zero_add, Int.toNat_natCast, g2, Option.bind_some, T.run_sub, cmp_Less_int_val, Option.bind_some, T.run_test, hlt, if_neg (by simp), T.run_test, if_pos (by simp), T.run_ret]
    | true =>
      have e : sinkD (j + 1) L = sinkD j (swapD L j) := by conv => lhs; unfold sinkD
                                                           rw [hlt]; rfl
      rw [e, ← ih]
      refine loopO_next ?_
      rw [hcmp] at hlt
      have g3 : ((ofD L).set (j + 1) (gD L j).1)[j]? = some (gD L j).1 := by rw [List.getElem?_set_ne (by omega)]; exact g2
      have hsw : ((ofD L).set (j + 1) (gD L j).1).set j (gD L (j + 1)).1 = ofD (swapD L j) := by unfold ofD swapD; rw [List.map_set, List.map_set]
      rw [slices_insertionSortOrdered_int_L4_step, T.run_test, if_pos (decide_eq_true c0), T.run_test, if_pos (decide_eq_true c1), T.run_sub, Nat.zero_add, Int.toNat_natCast, g1, Option.bind_some, T.run_test, w1, if_pos (decide_eq_true c2), T.run_sub, Nat.zero_add, Int.toNat_natCast, g2, Option.bind_some, T.run_sub, cmp_Less_int_val, Option.bind_some, T.run_test, hlt, if_pos rfl,
        T.run_test, if_pos (decide_eq_true c2), T.run_sub, Option.bind_some, T.run_test, if_pos (decide_eq_true c1), T.run_sub, Option.bind_some, T.run_test, if_pos (decide_eq_true c1), T.run_sub, Option.bind_some, T.run_test, if_pos (decide_eq_true c2), T.run_sub, g3, Option.bind_some, T.run_test, if_pos (by simp), T.run_ret, hsw]
theorem slices_insertionSortOrdered_int_isort : ∀ (n i : Nat) (L : List Dg), i + n = L.length → L.length < 1000000 → (∀ d ∈ L, d.2 = 0) → 0 < i →
    slices_insertionSortOrdered_int_L1 (((), ((0 : Int), ((L.length : Int), (i : Int)))), ofD L) = some ((), ofD (isortD n i L))
  | 0, i, L, hi, hl, hz, h0 => by
    simp only [slices_insertionSortOrdered_int_L1]
    refine loopO_done ?_
    rw [slices_insertionSortOrdered_int_L1_step, T.run_test, if_neg (by rw [decide_eq_true_eq]; omega), T.run_ret]
    rfl
  | n + 1, i, L, hi, hl, hz, h0 => by
    have ih := slices_insertionSortOrdered_int_isort n (i + 1) (sinkD i L) (by rw [sinkD_length]; omega) (by rw [sinkD_length]; omega) (fun d hd => hz d ((sinkD_perm (by omega)).mem_iff.1 hd)) (by omega)
    rw [sinkD_length] at ih
    have hs := slices_insertionSortOrdered_int_sink (L.length : Int) (i : Int) i L (by omega) hl hz
    simp only [slices_insertionSortOrdered_int_L1] at ih ⊢
    show _ = some ((), ofD (isortD n (i + 1) (sinkD i L)))
    rw [← ih]
    refine loopO_next ?_
    have w1 : w64 ((i : Int) + 1) = ((i + 1 : Nat) : Int) := by rw [w64_id (by omega) (by omega)]; omega
    rw [slices_insertionSortOrdered_int_L1_step, T.run_test, if_pos (decide_eq_true (by omega)), T.run_test, if_pos (by simp), T.run_sub, hs, Option.bind_some, T.run_test, if_pos (by simp), T.run_ret, w1]


def slices_pdqsortOrdered_int_sh : FSh := ⟨[(.one (.rw 0 0)), (.one (.si .i64)), (.one (.si .i64)), (.one (.si .i64))], [(.row 0 (.int .i64))]⟩

def slices_pdqsortOrdered_int_L2_sh : LSh := ⟨(fun ex => match ex with | .norm => [(0, none), (1, none), (2, none), (3, none), (8, none), (9, none)] | .exit i => if i = 0 then [] else [] | .ret => []), [(0, (.one (.rw 0 0))), (1, (.one (.si .i64))), (2, (.one (.si .i64))), (3, (.one (.si .i64))), (8, (.one .sb)), (9, (.one .sb))], [(.row 0 (.int .i64))], [⟨.ret, [], [(.row 0 (.int .i64))]⟩], [], []⟩
noncomputable def slices_pdqsortOrdered_int_L2_step : ((Unit × Int × Int × Int × Bool × Bool) × List (Int)) → T (((Unit × Int × Int × Int × Bool × Bool) × List (Int)) ⊕ (Unit × List (Int))) := fun (((), a, b, limit, wasBalanced, wasPartitioned), data) =>
  (.test (decide ((w64 (b - a)) ≤ 12))
  (.test (decide ((0 = 0) ∧ ((List.length data) = (List.length data))))
   (.sub (slices_insertionSortOrdered_int (((), (a, b)), data)) fun z0 =>
    (.ret (Sum.inr ((), z0.2))))
   .fail)
  (.test (limit == 0)
   .fail
   (.test (! wasBalanced)
    .fail
    .fail)))
noncomputable def slices_pdqsortOrdered_int_L2 (v : ((Unit × Int × Int × Int × Bool × Bool) × List (Int))) : Option (Unit × List (Int)) := loopO (fun v => (slices_pdqsortOrdered_int_L2_step v).run) v

def slices_pdqsortOrdered_int_fo : List FO := [⟨[], [(.row 0 (.int .i64))]⟩]
noncomputable def slices_pdqsortOrdered_int_t : ((Unit × Int × Int × Int) × List (Int)) → T (Unit × List (Int)) := fun (((), a, b, limit), data) =>
  (.test (decide ((0 = 0) ∧ ((List.length data) = (List.length data))))
  (.sub (slices_pdqsortOrdered_int_L2 (((), (a, (b, (limit, (true, true))))), data)) fun z0 =>
   (.ret ((), z0.2)))
  .fail)
noncomputable def slices_pdqsortOrdered_int (v : ((Unit × Int × Int × Int) × List (Int))) : Option (Unit × List (Int)) := (slices_pdqsortOrdered_int_t v).run
noncomputable def slices_pdqsortOrdered_int_E : TEnv := (E0.add1 n_slices_insertionSortOrdered_int slices_insertionSortOrdered_int_sh slices_insertionSortOrdered_int_fo slices_insertionSortOrdered_int)
theorem slices_pdqsortOrdered_int_Eok : (slices_pdqsortOrdered_int_E).OK := (E0ok.add1 slices_insertionSortOrdered_int_ok)
noncomputable def slices_pdqsortOrdered_int_told : Nat → Option SealT := fun id => if id = 2 then some (LSh.told slices_pdqsortOrdered_int_L2_sh 1 (slices_pdqsortOrdered_int_L2_step)) else none
theorem slices_pdqsortOrdered_int_L2_ok : ToldOK Try.prog 1 (loopAt (bodyOf fn_slices_pdqsortOrdered_int) [0]) (LSh.told slices_pdqsortOrdered_int_L2_sh 1 (slices_pdqsortOrdered_int_L2_step)) :=
  loop_ok (E := slices_pdqsortOrdered_int_E) (slices_pdqsortOrdered_int_Eok) (told := slices_pdqsortOrdered_int_told) (l := slices_pdqsortOrdered_int_L2_sh) (step := slices_pdqsortOrdered_int_L2_step) (loopsOK_of (ls := []) (by kernel_rfl) trivial) (by kernel_rfl) (fun v => by kernel_rfl)
theorem slices_pdqsortOrdered_int_ok : FOK Try.prog n_slices_pdqsortOrdered_int slices_pdqsortOrdered_int_sh slices_pdqsortOrdered_int_fo slices_pdqsortOrdered_int :=
  fn_ok (E := slices_pdqsortOrdered_int_E) (slices_pdqsortOrdered_int_Eok) (told := slices_pdqsortOrdered_int_told) (fl := []) (c := bodyOf fn_slices_pdqsortOrdered_int) (s := slices_pdqsortOrdered_int_sh) (l := slices_pdqsortOrdered_int_fo) (tree := slices_pdqsortOrdered_int_t) fnat_slices_pdqsortOrdered_int (by kernel_rfl) (by kernel_rfl) (by kernel_rfl) (loopsOK_of (ls := [loopAt (bodyOf fn_slices_pdqsortOrdered_int) [0]]) (by kernel_rfl) ⟨.inr ⟨_, by kernel_rfl, slices_pdqsortOrdered_int_L2_ok⟩, trivial⟩) (fun v => by kernel_rfl)

def slices_Sort_int_sh : FSh := ⟨[(.one (.rw 0 0))], [(.row 0 (.int .i64))]⟩

def slices_Sort_int_fo : List FO := [⟨[], [(.row 0 (.int .i64))]⟩]
noncomputable def slices_Sort_int_t : (Unit × List (Int)) → T (Unit × List (Int)) := fun ((), x) =>
  (.sub (math_bits_Len (wu64 ((List.length x) : Int))) fun z0 =>
  (.test (decide ((0 = 0) ∧ ((List.length x) = (List.length x))))
  (.sub (slices_pdqsortOrdered_int (((), ((0 : Int), (((List.length x) : Int), z0))), x)) fun z1 =>
   (.ret ((), z1.2)))
  .fail))
noncomputable def slices_Sort_int (v : (Unit × List (Int))) : Option (Unit × List (Int)) := (slices_Sort_int_t v).run
noncomputable def slices_Sort_int_E : TEnv := ((E0.add1 n_math_bits_Len math_bits_Len_sh math_bits_Len_fo math_bits_Len).add1 n_slices_pdqsortOrdered_int slices_pdqsortOrdered_int_sh slices_pdqsortOrdered_int_fo slices_pdqsortOrdered_int)
theorem slices_Sort_int_Eok : (slices_Sort_int_E).OK := ((E0ok.add1 math_bits_Len_ok).add1 slices_pdqsortOrdered_int_ok)
noncomputable def slices_Sort_int_told : Nat → Option SealT := fun id => none
theorem slices_Sort_int_ok : FOK Try.prog n_slices_Sort_int slices_Sort_int_sh slices_Sort_int_fo slices_Sort_int :=
  fn_ok (E := slices_Sort_int_E) (slices_Sort_int_Eok) (told := slices_Sort_int_told) (fl := []) (c := bodyOf fn_slices_Sort_int) (s := slices_Sort_int_sh) (l := slices_Sort_int_fo) (tree := slices_Sort_int_t) fnat_slices_Sort_int (by kernel_rfl) (by kernel_rfl) (by kernel_rfl) (loopsOK_of (ls := []) (by kernel_rfl) trivial) (fun v => by kernel_rfl)

theorem slices_Sort_int_eq (l : List Int) (hl : l.length ≤ 12) : slices_Sort_int ((), l) = some ((), sortI l) := by
  have hw : wu64 (l.length : Int) = (l.length : Int) := IntWalk.u64_in _ ⟨by omega, by omega⟩
  have hz : math_bits_Len (wu64 (l.length : Int)) = some (Lib.bitLen l.length : Int) := by
    rw [hw]; unfold math_bits_Len; rw [if_pos ⟨by omega, by omega⟩, Int.toNat_natCast]
  have w0 : w64 ((l.length : Int) - 0) = (l.length : Int) := by rw [w64_id (by omega) (by omega)]; omega
  have w1 : w64 ((0 : Int) + 1) = ((1 : Nat) : Int) := by rw [w64_id (by omega) (by omega)]; rfl
  have hal : (asD l).length = l.length := by unfold asD; rw [List.length_map]
  have hins : slices_insertionSortOrdered_int (((), ((0 : Int), (l.length : Int))), l) = some ((), sortI l) := by
    by_cases h0 : l.length = 0
    · have : l = [] := List.eq_nil_of_length_eq_zero h0
      subst this
      rw [slices_insertionSortOrdered_int, slices_insertionSortOrdered_int_t, T.run_test, if_pos (by simp), T.run_sub, w1, slices_insertionSortOrdered_int_L1, loopO_done (o := ((), []))]
      · rfl
      · rfl
    · have h := slices_insertionSortOrdered_int_isort (l.length - 1) 1 (asD l) (by omega) (by omega) (fun d => asD_snd) (by omega)
      rw [ofD_asD, hal, ← hal, isortD_eq] at h
      rw [slices_insertionSortOrdered_int, slices_insertionSortOrdered_int_t, T.run_test, if_pos (by simp), T.run_sub, w1, ← hal, h, Option.bind_some, T.run_ret]
      rfl
  rw [slices_Sort_int, slices_Sort_int_t, T.run_sub, hz, Option.bind_some, T.run_test, if_pos (by simp), T.run_sub, slices_pdqsortOrdered_int, slices_pdqsortOrdered_int_t, T.run_test, if_pos (by simp), T.run_sub, slices_pdqsortOrdered_int_L2, loopO_done (o := ((), sortI l)), Option.bind_some, T.run_ret, Option.bind_some, T.run_ret]
  rw [slices_pdqsortOrdered_int_L2_step, T.run_test, w0, if_pos (decide_eq_true (by omega)), T.run_test, if_pos (by simp), T.run_sub, hins, Option.bind_some, T.run_ret]


def i_sizes_sh : FSh := ⟨[(.one (.si .i64)), (.one (.sl (.pair (.int .i64) (.int .i64)) false false))], []⟩

def i_sizes_L3_sh : LSh := ⟨(fun ex => match ex with | .norm => [(5, none), (11, none), (12, none), (13, none)] | .exit i => if i = 0 then [(5, none)] else [] | .ret => [(4, none)]), [(5, (.one (.rw 0 0))), (11, (.one (.rw 1 0))), (12, (.one (.si .i64))), (13, (.one (.si .i64)))], [(.row 0 (.int .i64)), (.row 0 (.list true (.int .i64)))], [⟨(.exit 0), [(5, (.one (.rw 0 0)))], [(.row 0 (.int .i64))]⟩], [], []⟩
noncomputable def i_sizes_L3_step : ((Unit × Unit × Int × Int) × (List (Int) × List (List (Int)))) → T (((Unit × Unit × Int × Int) × (List (Int) × List (List (Int)))) ⊕ (Unit × List (Int))) := fun (((), (), t12, t13), (out, t11)) =>
  (.test (decide (t13 < t12))
  (.test (decide ((0 ≤ t13) ∧ (t13 < ((List.length t11) : Int))))
   (.sub (t11[(0 + (Int.toNat t13))]?) fun z0 =>
    (.test (decide (1 ≤ (List.length (List.set (List.replicate 1 (0 : Int)) 0 ((List.length z0) : Int)))))
    (.test (decide ((0 + (List.length out)) ≤ (List.length out)))
     (.test (decide ((2 * (((List.length out) + (List.length (win (List.set (List.replicate 1 (0 : Int)) 0 ((List.length z0) : Int)) 0 1))) * 9)) ≤ 140737488355328))
      (.test (decide ((0 = 0) ∧ (((List.length out) + (List.length (win (List.set (List.replicate 1 (0 : Int)) 0 ((List.length z0) : Int)) 0 1))) = (List.length ((win out 0 (List.length out)) ++ (win (List.set (List.replicate 1 (0 : Int)) 0 ((List.length z0) : Int)) 0 1))))))
       (.test (decide ((0 = 0) ∧ ((List.length t11) = (List.length t11))))
        (.ret (Sum.inl (((), ((), (t12, (w64 (t13 + 1))))), (((win out 0 (List.length out)) ++ (win (List.set (List.replicate 1 (0 : Int)) 0 ((List.length z0) : Int)) 0 1)), t11))))
        .fail)
       .fail)
      .fail)
     .fail)
    .fail))
   .fail)
  (.test (decide ((0 = 0) ∧ ((List.length out) = (List.length out))))
   (.ret (Sum.inr ((), out)))
   .fail))
noncomputable def i_sizes_L3 (v : ((Unit × Unit × Int × Int) × (List (Int) × List (List (Int))))) : Option (Unit × List (Int)) := loopO (fun v => (i_sizes_L3_step v).run) v

def i_sizes_fo : List FO := [⟨[(.one (.rw 0 0))], [(.row 0 (.int .i64))]⟩]
noncomputable def i_sizes_t : (Int × List ((Int × Int))) → T (Unit × List (Int)) := fun (n, ds) =>
  (.sub (i_pieces (n, ds)) fun z0 =>
  (.test (decide ((0 = 0) ∧ (0 = (List.length (List.replicate 0 (0 : Int))))))
  (.test (decide ((0 = 0) ∧ ((List.length z0.2) = (List.length z0.2))))
   (.sub (i_sizes_L3 (((), ((), (((List.length z0.2) : Int), (0 : Int)))), ((List.replicate 0 (0 : Int)), z0.2))) fun z1 =>
    (.test (decide ((0 = 0) ∧ ((List.length z1.2) = (List.length z1.2))))
    (.sub (slices_Sort_int ((), z1.2)) fun z2 =>
     (.test (decide ((0 = 0) ∧ ((List.length z1.2) = (List.length z2.2))))
     (.ret ((), z2.2))
     .fail))
    .fail))
   .fail)
  .fail))
noncomputable def i_sizes (v : (Int × List ((Int × Int)))) : Option (Unit × List (Int)) := (i_sizes_t v).run
noncomputable def i_sizes_E : TEnv := ((E0.add1 n_i_pieces i_pieces_sh i_pieces_fo i_pieces).add1 n_slices_Sort_int slices_Sort_int_sh slices_Sort_int_fo slices_Sort_int)
theorem i_sizes_Eok : (i_sizes_E).OK := ((E0ok.add1 i_pieces_ok).add1 slices_Sort_int_ok)
noncomputable def i_sizes_told : Nat → Option SealT := fun id => if id = 3 then some (LSh.told i_sizes_L3_sh 0 (i_sizes_L3_step)) else none
theorem i_sizes_L3_ok : ToldOK Try.prog 0 (loopAt (bodyOf fn_i_sizes) [0]) (LSh.told i_sizes_L3_sh 0 (i_sizes_L3_step)) :=
  loop_ok (E := i_sizes_E) (i_sizes_Eok) (told := i_sizes_told) (l := i_sizes_L3_sh) (step := i_sizes_L3_step) (loopsOK_of (ls := []) (by kernel_rfl) trivial) (by kernel_rfl) (fun v => by kernel_rfl)
theorem i_sizes_ok : FOK Try.prog n_i_sizes i_sizes_sh i_sizes_fo i_sizes :=
  fn_ok (E := i_sizes_E) (i_sizes_Eok) (told := i_sizes_told) (fl := []) (c := bodyOf fn_i_sizes) (s := i_sizes_sh) (l := i_sizes_fo) (tree := i_sizes_t) fnat_i_sizes (by kernel_rfl) (by kernel_rfl) (by kernel_rfl) (loopsOK_of (ls := [loopAt (bodyOf fn_i_sizes) [0]]) (by kernel_rfl) ⟨.inr ⟨_, by kernel_rfl, i_sizes_L3_ok⟩, trivial⟩) (fun v => by kernel_rfl)

/-- The sizes of the pieces. -/
def szL (N : Nat) (ds : List Dg) : List Int := (sortL (specP N ds)).map fun p => (p.length : Int)
theorem szL_mem {N : Nat} {ds : List Dg} (hc : CutD N ds) (h3 : 3 ≤ N) {s : Int} (h : s ∈ szL N ds) : 3 ≤ s ∧ s ≤ (N : Int) := by
  obtain ⟨p, hp, rfl⟩ := List.mem_map.1 h
  obtain ⟨k, hk, rfl⟩ := List.mem_map.1 (((sortL_perm _).trans (specP_perm hc h3)).mem_iff.1 hp)
  have := pcs_len hc h3 hk
  omega
theorem sortP_len {N : Nat} {ds : List Dg} (hc : CutD N ds) (h3 : 3 ≤ N) : (sortL (specP N ds)).length = ds.length + 1 := by
  rw [(sortL_perm _).length_eq, specP_len hc h3]
theorem szL_len {N : Nat} {ds : List Dg} (hc : CutD N ds) (h3 : 3 ≤ N) : (szL N ds).length = ds.length + 1 := by
  unfold szL; rw [List.length_map, sortP_len hc h3]
theorem i_sizes_L3_eq (t11 : List (List Int)) (hl : t11.length ≤ 20) (hb : ∀ p ∈ t11, p.length ≤ 100) : ∀ (m k : Nat) (out : List Int), k + m = t11.length → out.length = k →
    i_sizes_L3 (((), ((), ((t11.length : Int), (k : Int)))), (out, t11)) = some ((), out ++ (t11.drop k).map fun p => (p.length : Int)) := by
  intro m
  induction m with
  | zero =>
    intro k out hk ho
    rw [List.drop_eq_nil_of_le (by omega)]
    simp only [i_sizes_L3]
    refine loopO_done ?_
    rw [i_sizes_L3_step, T.run_test, if_neg (by rw [decide_eq_true_eq]; omega), T.run_test, if_pos (by simp), T.run_ret]
    simp
  | succ m ih =>
    intro k out hk ho
    have hlt : k < t11.length := by omega
    have w1 : w64 ((k : Int) + 1) = ((k + 1 : Nat) : Int) := by rw [w64_id (by omega) (by omega)]; omega
    have := ih (k + 1) (out ++ [(t11[k].length : Int)]) (by omega) (by rw [List.length_append, List.length_singleton]; omega)
    rw [List.drop_eq_getElem_cons hlt, List.map_cons, List.append_cons]
    simp only [i_sizes_L3] at this ⊢
    rw [← this]
    refine loopO_next ?_
    rw [i_sizes_L3_step, T.run_test, if_pos (decide_eq_true (by omega)), T.run_test, if_pos (decide_eq_true (by omega)), T.run_sub, Nat.zero_add, Int.toNat_natCast, List.getElem?_eq_getElem hlt, Option.bind_some]
    simp only [win_one, win_all]
    rw [T.run_test, if_pos (by simp), T.run_test, if_pos (by simp), T.run_test, if_pos (by exact decide_eq_true (by rw [List.length_singleton]; omega)), T.run_test, if_pos (by simp), T.run_test, if_pos (by simp), T.run_ret, w1]
theorem i_sizes_eq {N : Nat} {ds : List Dg} (h3 : 3 ≤ N) (hN : N ≤ 12) (hl : ds.length + 3 ≤ N) (hc : CutD N ds) : i_sizes ((N : Int), ds) = some ((), sortI (szL N ds)) := by
  have hp := i_pieces_eq h3 hN (by omega) hc
  have hlen := sortP_len hc h3
  have hL := i_sizes_L3_eq (sortL (specP N ds)) (by omega) (fun p hp => by
    have := szL_mem hc h3 (s := (p.length : Int)) (List.mem_map_of_mem hp)
    omega) (sortL (specP N ds)).length 0 [] (by omega) rfl
  rw [Int.natCast_zero, List.drop_zero, List.nil_append] at hL
  change _ = some ((), szL N ds) at hL
  have hs := slices_Sort_int_eq (szL N ds) (by rw [szL_len hc h3]; omega)
  rw [i_sizes, i_sizes_t, T.run_sub, hp, Option.bind_some, T.run_test, if_pos (by simp), T.run_test, if_pos (by simp), T.run_sub, show List.replicate 0 (0 : Int) = [] from rfl, hL, Option.bind_some, T.run_test, if_pos (by simp), T.run_sub, hs, Option.bind_some, T.run_test, if_pos (by exact decide_eq_true ⟨rfl, (sortI_perm _).length_eq.symm⟩), T.run_ret]


def s_cuEqual_sh : FSh := ⟨[(.one (.si .i64)), (.one (.sl (.pair (.int .i64) (.int .i64)) false false)), (.one (.si .i64))], []⟩

def s_cuEqual_L2_sh : LSh := ⟨(fun ex => match ex with | .norm => [(2, none), (11, none), (12, none), (13, none)] | .exit i => if i = 0 then [] else [] | .ret => [(6, none)]), [(2, (.one (.si .i64))), (11, (.one (.rw 0 0))), (12, (.one (.si .i64))), (13, (.one (.si .i64)))], [(.row 0 (.list true (.int .i64)))], [⟨.ret, [(6, (.one .sb))], []⟩, ⟨(.exit 0), [], []⟩], [], []⟩
noncomputable def s_cuEqual_L2_step : ((Int × Unit × Int × Int) × List (List (Int))) → T (((Int × Unit × Int × Int) × List (List (Int))) ⊕ (Bool ⊕ Unit)) := fun ((size, (), t12, t13), t11) =>
  (.test (decide (t13 < t12))
  (.test (decide ((0 ≤ t13) ∧ (t13 < ((List.length t11) : Int))))
   (.sub (t11[(0 + (Int.toNat t13))]?) fun z0 =>
    (.test (((List.length z0) : Int) != size)
    (.ret (Sum.inr (Sum.inl false)))
    (.test (decide ((0 = 0) ∧ ((List.length t11) = (List.length t11))))
     (.ret (Sum.inl ((size, ((), (t12, (w64 (t13 + 1))))), t11)))
     .fail)))
   .fail)
  (.ret (Sum.inr (Sum.inr ()))))
noncomputable def s_cuEqual_L2 (v : ((Int × Unit × Int × Int) × List (List (Int)))) : Option (Bool ⊕ Unit) := loopO (fun v => (s_cuEqual_L2_step v).run) v

def s_cuEqual_fo : List FO := [⟨[(.one .sb)], []⟩]
noncomputable def s_cuEqual_t : (Int × List ((Int × Int)) × Int) → T Bool := fun (n, ds, size) =>
  (.sub (s_cuPieces (n, ds)) fun z0 =>
  (.test (decide ((0 = 0) ∧ ((List.length z0.2) = (List.length z0.2))))
  (.sub (s_cuEqual_L2 ((size, ((), (((List.length z0.2) : Int), (0 : Int)))), z0.2)) fun z1 =>
   (.test (Sum.isLeft z1)
   (.sub (Sum.getLeft? z1) fun z2 =>
    (.ret z2))
   (.sub (Sum.getRight? z1) fun z3 =>
    (.ret true))))
  .fail))
noncomputable def s_cuEqual (v : (Int × List ((Int × Int)) × Int)) : Option Bool := (s_cuEqual_t v).run
noncomputable def s_cuEqual_E : TEnv := (E0.add1 n_s_cuPieces s_cuPieces_sh s_cuPieces_fo s_cuPieces)
theorem s_cuEqual_Eok : (s_cuEqual_E).OK := (E0ok.add1 s_cuPieces_ok)
noncomputable def s_cuEqual_told : Nat → Option SealT := fun id => if id = 2 then some (LSh.told s_cuEqual_L2_sh 0 (s_cuEqual_L2_step)) else none
theorem s_cuEqual_L2_ok : ToldOK Try.prog 0 (loopAt (bodyOf fn_s_cuEqual) [0]) (LSh.told s_cuEqual_L2_sh 0 (s_cuEqual_L2_step)) :=
  loop_ok (E := s_cuEqual_E) (s_cuEqual_Eok) (told := s_cuEqual_told) (l := s_cuEqual_L2_sh) (step := s_cuEqual_L2_step) (loopsOK_of (ls := []) (by kernel_rfl) trivial) (by kernel_rfl) (fun v => by kernel_rfl)
theorem s_cuEqual_ok : FOK Try.prog n_s_cuEqual s_cuEqual_sh s_cuEqual_fo s_cuEqual :=
  fn_ok (E := s_cuEqual_E) (s_cuEqual_Eok) (told := s_cuEqual_told) (fl := []) (c := bodyOf fn_s_cuEqual) (s := s_cuEqual_sh) (l := s_cuEqual_fo) (tree := s_cuEqual_t) fnat_s_cuEqual (by kernel_rfl) (by kernel_rfl) (by kernel_rfl) (loopsOK_of (ls := [loopAt (bodyOf fn_s_cuEqual) [0]]) (by kernel_rfl) ⟨.inr ⟨_, by kernel_rfl, s_cuEqual_L2_ok⟩, trivial⟩) (fun v => by kernel_rfl)

theorem s_cuEqual_L2_eq (t11 : List (List Int)) (size : Int) (hl : t11.length ≤ 100) : s_cuEqual_L2 ((size, ((), ((t11.length : Int), (0 : Int)))), t11) = some (if t11.any fun p => ((p.length : Int) != size) then .inl false else .inr ()) := by
  have h := loop_any (step := fun v => (s_cuEqual_L2_step v).run) (xs := t11) (fun p => ((p.length : Int) != size)) (fun k => ((size, ((), ((t11.length : Int), (k : Int)))), t11)) (.inl false) (.inr ())
    (fun k x hx => by
      have hlt := getElem?_lt hx
      have w1 : w64 ((k : Int) + 1) = ((k + 1 : Nat) : Int) := by rw [w64_id (by omega) (by omega)]; omega
      rw [s_cuEqual_L2_step, T.run_test, if_pos (decide_eq_true (by omega)), T.run_test, if_pos (decide_eq_true (by omega)), T.run_sub, Nat.zero_add, Int.toNat_natCast, hx, Option.bind_some, T.run_test, ← w1]
      cases hc : ((x.length : Int) != size) with
      | true => rfl
      | false => rw [if_neg (by simp), if_neg (by simp), T.run_test, if_pos (by simp), T.run_ret])
    (by rw [s_cuEqual_L2_step, T.run_test, if_neg (by simp), T.run_ret])
  simp only [Int.natCast_zero] at h
  exact h
theorem s_cuEqual_eq {N : Nat} {ds : List Dg} (size : Int) (h3 : 3 ≤ N) (hN : N ≤ 12) (hl : ds.length + 3 ≤ N) (hc : CutD N ds) : s_cuEqual ((N : Int), (ds, size)) = some ((szL N ds).all fun s => s == size) := by
  have e : ((sortL (specP N ds)).any fun p => ((p.length : Int) != size)) = !((szL N ds).all fun s => s == size) := by
    unfold szL
    rw [List.all_map, List.not_all_eq_any_not]
    rfl
  rw [s_cuEqual, s_cuEqual_t, T.run_sub, s_cuPieces_eq h3 hN (by omega) hc, Option.bind_some, T.run_test, if_pos (by simp), T.run_sub, s_cuEqual_L2_eq _ _ (by rw [sortP_len hc h3]; omega), e, Option.bind_some, T.run_test]
  cases (szL N ds).all fun s => s == size <;> rfl


def s_IsEqualCut_sh : FSh := ⟨[(.one (.si .i64)), (.one (.sl (.pair (.int .i64) (.int .i64)) false false)), (.one (.si .i64))], []⟩

def s_IsEqualCut_fo : List FO := [⟨[(.one .sb), (.one .sb)], []⟩]
noncomputable def s_IsEqualCut_t : (Int × List ((Int × Int)) × Int) → T (Bool × Bool) := fun (n, ds, size) =>
  (.sub (s_cuGood (n, ds)) fun z0 =>
  (.test (! z0)
  (.ret (false, false))
  (.test (decide (size < 3))
   (.ret (false, false))
   (.sub (s_cuEqual (n, (ds, size))) fun z1 =>
    (.ret (z1, true))))))
noncomputable def s_IsEqualCut (v : (Int × List ((Int × Int)) × Int)) : Option (Bool × Bool) := (s_IsEqualCut_t v).run
noncomputable def s_IsEqualCut_E : TEnv := ((E0.add1 n_s_cuGood s_cuGood_sh s_cuGood_fo s_cuGood).add1 n_s_cuEqual s_cuEqual_sh s_cuEqual_fo s_cuEqual)
theorem s_IsEqualCut_Eok : (s_IsEqualCut_E).OK := ((E0ok.add1 s_cuGood_ok).add1 s_cuEqual_ok)
noncomputable def s_IsEqualCut_told : Nat → Option SealT := fun id => none
theorem s_IsEqualCut_ok : FOK Try.prog n_s_IsEqualCut s_IsEqualCut_sh s_IsEqualCut_fo s_IsEqualCut :=
  fn_ok (E := s_IsEqualCut_E) (s_IsEqualCut_Eok) (told := s_IsEqualCut_told) (fl := []) (c := bodyOf fn_s_IsEqualCut) (s := s_IsEqualCut_sh) (l := s_IsEqualCut_fo) (tree := s_IsEqualCut_t) fnat_s_IsEqualCut (by kernel_rfl) (by kernel_rfl) (by kernel_rfl) (loopsOK_of (ls := []) (by kernel_rfl) trivial) (fun v => by kernel_rfl)

def i_within_sh : FSh := ⟨[(.one (.si .i64)), (.one (.si .i64)), (.one (.si .i64))], []⟩

def i_within_fo : List FO := [⟨[(.one .sb)], []⟩]
noncomputable def i_within_t : (Int × Int × Int) → T Bool := fun (n, low, high) =>
  (.test (decide (n ≥ low))
  (.ret (decide (n ≤ high)))
  (.ret false))
noncomputable def i_within (v : (Int × Int × Int)) : Option Bool := (i_within_t v).run
noncomputable def i_within_E : TEnv := E0
theorem i_within_Eok : (i_within_E).OK := E0ok
noncomputable def i_within_told : Nat → Option SealT := fun id => none
theorem i_within_ok : FOK Try.prog n_i_within i_within_sh i_within_fo i_within :=
  fn_ok (E := i_within_E) (i_within_Eok) (told := i_within_told) (fl := []) (c := bodyOf fn_i_within) (s := i_within_sh) (l := i_within_fo) (tree := i_within_t) fnat_i_within (by kernel_rfl) (by kernel_rfl) (by kernel_rfl) (loopsOK_of (ls := []) (by kernel_rfl) trivial) (fun v => by kernel_rfl)

theorem i_within_eq (n low high : Int) : i_within (n, low, high) = some (inB low high n) := by
  simp only [i_within, i_within_t, T.run, ge_iff_le, decide_eq_true_eq, inB]
  by_cases h : low ≤ n <;> simp [h]


def i_isPolygon_sh : FSh := ⟨[(.one (.si .i64))], []⟩

def i_isPolygon_fo : List FO := [⟨[(.one .sb)], []⟩]
noncomputable def i_isPolygon_t : Int → T Bool := fun n =>
  (.sub (i_within (n, ((3 : Int), (12 : Int)))) fun z0 =>
  (.ret z0))
noncomputable def i_isPolygon (v : Int) : Option Bool := (i_isPolygon_t v).run
noncomputable def i_isPolygon_E : TEnv := (E0.add1 n_i_within i_within_sh i_within_fo i_within)
theorem i_isPolygon_Eok : (i_isPolygon_E).OK := (E0ok.add1 i_within_ok)
noncomputable def i_isPolygon_told : Nat → Option SealT := fun id => none
theorem i_isPolygon_ok : FOK Try.prog n_i_isPolygon i_isPolygon_sh i_isPolygon_fo i_isPolygon :=
  fn_ok (E := i_isPolygon_E) (i_isPolygon_Eok) (told := i_isPolygon_told) (fl := []) (c := bodyOf fn_i_isPolygon) (s := i_isPolygon_sh) (l := i_isPolygon_fo) (tree := i_isPolygon_t) fnat_i_isPolygon (by kernel_rfl) (by kernel_rfl) (by kernel_rfl) (loopsOK_of (ls := []) (by kernel_rfl) trivial) (fun v => by kernel_rfl)

def i_isDiagonal_sh : FSh := ⟨[(.one (.si .i64)), (.ag [(.si .i64), (.si .i64)])], []⟩

def i_isDiagonal_fo : List FO := [⟨[(.one .sb)], []⟩]
noncomputable def i_isDiagonal_t : (Int × (Int × Int)) → T Bool := fun (n, (d_0, d_1)) =>
  (.sub (i_within (d_0, ((0 : Int), (w64 (n - 1))))) fun z0 =>
  (.test z0
  (.sub (i_within (d_1, ((0 : Int), (w64 (n - 1))))) fun z1 =>
   (.test z1
   (.test (decide ((w64 (d_1 - d_0)) > 1))
    (.test (d_0 == 0)
     (.ret (! (d_1 == (w64 (n - 1)))))
     (.ret true))
    (.ret false))
   (.ret false)))
  (.ret false)))
noncomputable def i_isDiagonal (v : (Int × (Int × Int))) : Option Bool := (i_isDiagonal_t v).run
noncomputable def i_isDiagonal_E : TEnv := (E0.add1 n_i_within i_within_sh i_within_fo i_within)
theorem i_isDiagonal_Eok : (i_isDiagonal_E).OK := (E0ok.add1 i_within_ok)
noncomputable def i_isDiagonal_told : Nat → Option SealT := fun id => none
theorem i_isDiagonal_ok : FOK Try.prog n_i_isDiagonal i_isDiagonal_sh i_isDiagonal_fo i_isDiagonal :=
  fn_ok (E := i_isDiagonal_E) (i_isDiagonal_Eok) (told := i_isDiagonal_told) (fl := []) (c := bodyOf fn_i_isDiagonal) (s := i_isDiagonal_sh) (l := i_isDiagonal_fo) (tree := i_isDiagonal_t) fnat_i_isDiagonal (by kernel_rfl) (by kernel_rfl) (by kernel_rfl) (loopsOK_of (ls := []) (by kernel_rfl) trivial) (fun v => by kernel_rfl)

theorem i_isDiagonal_eq (n : Int) (d : Dg) (h1 : 0 ≤ n) (h2 : n ≤ 1000000) : i_isDiagonal (n, d) = some (inDg n d) := by
  obtain ⟨a, b⟩ := d
  have w1 : w64 (n - 1) = n - 1 := w64_id (by omega) (by omega)
  simp only [i_isDiagonal, i_isDiagonal_t, T.run, i_within_eq, Option.bind_some, w1, inDg]
  cases ha : inB 0 (n - 1) a with
  | false => simp
  | true =>
    cases hb : inB 0 (n - 1) b with
    | false => simp
    | true =>
      rw [inB_iff] at ha hb
      have w2 : w64 (b - a) = b - a := w64_id (by omega) (by omega)
      rw [w2]
      by_cases h4 : a = 0
      · subst h4
        rw [Int.sub_zero]
        by_cases h5 : b > 1 <;> simp [h5, beq_int]
      · by_cases h5 : b - a > 1 <;> simp [h5, h4]


def cmp_Compare_int_sh : FSh := ⟨[(.one (.si .i64)), (.one (.si .i64))], []⟩

def cmp_Compare_int_fo : List FO := [⟨[(.one (.si .i64))], []⟩]
noncomputable def cmp_Compare_int_t : (Int × Int) → T Int := fun (x, y) =>
  (.sub (cmp_isNaN_int x) fun z0 =>
  (.sub (cmp_isNaN_int y) fun z1 =>
  (.test z0
  (.test z1
   (.ret (0 : Int))
   (.ret (-1)))
  (.test z1
   (.ret (1 : Int))
   (.test (decide (x < y))
    (.ret (-1))
    (.test (decide (x > y))
     (.ret (1 : Int))
     (.ret (0 : Int))))))))
noncomputable def cmp_Compare_int (v : (Int × Int)) : Option Int := (cmp_Compare_int_t v).run
noncomputable def cmp_Compare_int_E : TEnv := (E0.add1 n_cmp_isNaN_int cmp_isNaN_int_sh cmp_isNaN_int_fo cmp_isNaN_int)
theorem cmp_Compare_int_Eok : (cmp_Compare_int_E).OK := (E0ok.add1 cmp_isNaN_int_ok)
noncomputable def cmp_Compare_int_told : Nat → Option SealT := fun id => none
theorem cmp_Compare_int_ok : FOK Try.prog n_cmp_Compare_int cmp_Compare_int_sh cmp_Compare_int_fo cmp_Compare_int :=
  fn_ok (E := cmp_Compare_int_E) (cmp_Compare_int_Eok) (told := cmp_Compare_int_told) (fl := []) (c := bodyOf fn_cmp_Compare_int) (s := cmp_Compare_int_sh) (l := cmp_Compare_int_fo) (tree := cmp_Compare_int_t) fnat_cmp_Compare_int (by kernel_rfl) (by kernel_rfl) (by kernel_rfl) (loopsOK_of (ls := []) (by kernel_rfl) trivial) (fun v => by kernel_rfl)

theorem cmp_Compare_int_eq (a b : Int) : cmp_Compare_int (a, b) = some (if a < b then -1 else if b < a then 1 else 0) := by
  have h : ∀ x, cmp_isNaN_int x = some false := fun x => by simp [cmp_isNaN_int, cmp_isNaN_int_t, T.run]
  simp only [cmp_Compare_int, cmp_Compare_int_t, T.run, h, Option.bind_some]
  by_cases h1 : a < b
  · simp [h1]
  · by_cases h2 : b < a <;> simp [h1, h2]


def cmp_Or_int_sh : FSh := ⟨[(.one (.sl (.int .i64) false false))], []⟩

def cmp_Or_int_L3_sh : LSh := ⟨(fun ex => match ex with | .norm => [(3, none), (6, none), (7, none), (8, none)] | .exit i => if i = 0 then [(3, none)] else [] | .ret => [(2, none)]), [(3, (.one (.si .i64))), (6, (.one (.sl (.int .i64) false false))), (7, (.one (.si .i64))), (8, (.one (.si .i64)))], [], [⟨.ret, [(2, (.one (.si .i64)))], []⟩, ⟨(.exit 0), [(3, (.one (.si .i64)))], []⟩], [], []⟩
noncomputable def cmp_Or_int_L3_step : (Int × List (Int) × Int × Int) → T ((Int × List (Int) × Int × Int) ⊕ (Int ⊕ Int)) := fun (zero, t6, t7, t8) =>
  (.test (decide (t8 < t7))
  (.test (decide ((0 ≤ t8) ∧ (t8 < ((List.length t6) : Int))))
   (.sub (t6[(Int.toNat t8)]?) fun z0 =>
    (.test (z0 != zero)
    (.ret (Sum.inr (Sum.inl z0)))
    (.ret (Sum.inl (zero, (t6, (t7, (w64 (t8 + 1)))))))))
   .fail)
  (.ret (Sum.inr (Sum.inr zero))))
noncomputable def cmp_Or_int_L3 (v : (Int × List (Int) × Int × Int)) : Option (Int ⊕ Int) := loopO (fun v => (cmp_Or_int_L3_step v).run) v

def cmp_Or_int_fo : List FO := [⟨[(.one (.si .i64))], []⟩]
noncomputable def cmp_Or_int_t : List (Int) → T Int := fun vals =>
  (.sub (cmp_Or_int_L3 ((0 : Int), (vals, (((List.length vals) : Int), (0 : Int))))) fun z0 =>
  (.test (Sum.isLeft z0)
  (.sub (Sum.getLeft? z0) fun z1 =>
   (.ret z1))
  (.sub (Sum.getRight? z0) fun z2 =>
   (.ret z2))))
noncomputable def cmp_Or_int (v : List (Int)) : Option Int := (cmp_Or_int_t v).run
noncomputable def cmp_Or_int_E : TEnv := E0
theorem cmp_Or_int_Eok : (cmp_Or_int_E).OK := E0ok
noncomputable def cmp_Or_int_told : Nat → Option SealT := fun id => if id = 3 then some (LSh.told cmp_Or_int_L3_sh 0 (cmp_Or_int_L3_step)) else none
theorem cmp_Or_int_L3_ok : ToldOK Try.prog 0 (loopAt (bodyOf fn_cmp_Or_int) [0]) (LSh.told cmp_Or_int_L3_sh 0 (cmp_Or_int_L3_step)) :=
  loop_ok (E := cmp_Or_int_E) (cmp_Or_int_Eok) (told := cmp_Or_int_told) (l := cmp_Or_int_L3_sh) (step := cmp_Or_int_L3_step) (loopsOK_of (ls := []) (by kernel_rfl) trivial) (by kernel_rfl) (fun v => by kernel_rfl)
theorem cmp_Or_int_ok : FOK Try.prog n_cmp_Or_int cmp_Or_int_sh cmp_Or_int_fo cmp_Or_int :=
  fn_ok (E := cmp_Or_int_E) (cmp_Or_int_Eok) (told := cmp_Or_int_told) (fl := []) (c := bodyOf fn_cmp_Or_int) (s := cmp_Or_int_sh) (l := cmp_Or_int_fo) (tree := cmp_Or_int_t) fnat_cmp_Or_int (by kernel_rfl) (by kernel_rfl) (by kernel_rfl) (loopsOK_of (ls := [loopAt (bodyOf fn_cmp_Or_int) [0]]) (by kernel_rfl) ⟨.inr ⟨_, by kernel_rfl, cmp_Or_int_L3_ok⟩, trivial⟩) (fun v => by kernel_rfl)

theorem cmp_Or_int_two (a b : Int) : cmp_Or_int [a, b] = some (if a = 0 then b else a) := by
  simp only [cmp_Or_int, cmp_Or_int_t, T.run, cmp_Or_int_L3]
  rw [loopO_step]
  simp only [cmp_Or_int_L3_step, T.run]
  by_cases ha : a = 0
  · subst ha
    simp [w64_id (z := 1)]
    rw [loopO_step]
    simp only [cmp_Or_int_L3_step, T.run]
    by_cases hb : b = 0
    · subst hb
      simp [w64_id (z := 2)]
      rw [loopO_step]
      simp [cmp_Or_int_L3_step, T.run]
    · simp [hb]
  · simp [ha]


def i_compareDiagonals_sh : FSh := ⟨[(.ag [(.si .i64), (.si .i64)]), (.ag [(.si .i64), (.si .i64)])], []⟩

def i_compareDiagonals_fo : List FO := [⟨[(.one (.si .i64))], []⟩]
noncomputable def i_compareDiagonals_t : ((Int × Int) × (Int × Int)) → T Int := fun ((a_0, a_1), (b_0, b_1)) =>
  (.sub (cmp_Compare_int (a_0, b_0)) fun z0 =>
  (.sub (cmp_Compare_int (a_1, b_1)) fun z1 =>
  (.test (decide (2 ≤ (List.length (List.set (List.set (List.replicate 2 (0 : Int)) 0 z0) 1 z1))))
  (.sub (cmp_Or_int (win (List.set (List.set (List.replicate 2 (0 : Int)) 0 z0) 1 z1) 0 2)) fun z2 =>
   (.ret z2))
  .fail)))
noncomputable def i_compareDiagonals (v : ((Int × Int) × (Int × Int))) : Option Int := (i_compareDiagonals_t v).run
noncomputable def i_compareDiagonals_E : TEnv := ((E0.add1 n_cmp_Compare_int cmp_Compare_int_sh cmp_Compare_int_fo cmp_Compare_int).add1 n_cmp_Or_int cmp_Or_int_sh cmp_Or_int_fo cmp_Or_int)
theorem i_compareDiagonals_Eok : (i_compareDiagonals_E).OK := ((E0ok.add1 cmp_Compare_int_ok).add1 cmp_Or_int_ok)
noncomputable def i_compareDiagonals_told : Nat → Option SealT := fun id => none
theorem i_compareDiagonals_ok : FOK Try.prog n_i_compareDiagonals i_compareDiagonals_sh i_compareDiagonals_fo i_compareDiagonals :=
  fn_ok (E := i_compareDiagonals_E) (i_compareDiagonals_Eok) (told := i_compareDiagonals_told) (fl := []) (c := bodyOf fn_i_compareDiagonals) (s := i_compareDiagonals_sh) (l := i_compareDiagonals_fo) (tree := i_compareDiagonals_t) fnat_i_compareDiagonals (by kernel_rfl) (by kernel_rfl) (by kernel_rfl) (loopsOK_of (ls := []) (by kernel_rfl) trivial) (fun v => by kernel_rfl)

theorem i_compareDiagonals_eq (d e : Dg) : i_compareDiagonals (d, e) = some (cmpD d e) := by
  obtain ⟨a, b⟩ := d
  obtain ⟨c, f⟩ := e
  have h2 : win (List.set (List.set (List.replicate 2 (0 : Int)) 0 (if a < c then -1 else if c < a then 1 else 0)) 1 (if b < f then -1 else if f < b then 1 else 0)) 0 2 = [if a < c then -1 else if c < a then 1 else 0, if b < f then -1 else if f < b then 1 else 0] := rfl
  simp only [i_compareDiagonals, i_compareDiagonals_t, T.run, cmp_Compare_int_eq, Option.bind_some, h2, cmp_Or_int_two]
  simp only [List.length_set, List.length_replicate, Nat.le_refl, decide_true, if_true]
  congr 1
  unfold cmpD ltD
  simp only [decide_eq_true_eq]
  split <;> split <;> (try split) <;> (try split) <;> omega
theorem cmpD_lt (d e : Dg) : decide (cmpD d e < 0) = ltD d e := by
  unfold cmpD
  cases ltD d e <;> simp
  split <;> omega
theorem cmpD_ge (d e : Dg) : decide (cmpD d e ≥ 0) = !ltD d e := by
  unfold cmpD
  cases ltD d e <;> simp
  split <;> omega


def i_doCross_sh : FSh := ⟨[(.ag [(.si .i64), (.si .i64)]), (.ag [(.si .i64), (.si .i64)])], []⟩

def i_doCross_fo : List FO := [⟨[(.one .sb)], []⟩]
noncomputable def i_doCross_t : ((Int × Int) × (Int × Int)) → T Bool := fun ((d_0, d_1), (e_0, e_1)) =>
  (.test (decide (d_0 < e_0))
  (.test (decide (e_0 < d_1))
   (.test (decide (d_1 < e_1))
    (.ret true)
    (.test (decide (e_0 < d_0))
     (.test (decide (d_0 < e_1))
      (.ret (decide (e_1 < d_1)))
      (.ret false))
     (.ret false)))
   (.test (decide (e_0 < d_0))
    (.test (decide (d_0 < e_1))
     (.ret (decide (e_1 < d_1)))
     (.ret false))
    (.ret false)))
  (.test (decide (e_0 < d_0))
   (.test (decide (d_0 < e_1))
    (.ret (decide (e_1 < d_1)))
    (.ret false))
   (.ret false)))
noncomputable def i_doCross (v : ((Int × Int) × (Int × Int))) : Option Bool := (i_doCross_t v).run
noncomputable def i_doCross_E : TEnv := E0
theorem i_doCross_Eok : (i_doCross_E).OK := E0ok
noncomputable def i_doCross_told : Nat → Option SealT := fun id => none
theorem i_doCross_ok : FOK Try.prog n_i_doCross i_doCross_sh i_doCross_fo i_doCross :=
  fn_ok (E := i_doCross_E) (i_doCross_Eok) (told := i_doCross_told) (fl := []) (c := bodyOf fn_i_doCross) (s := i_doCross_sh) (l := i_doCross_fo) (tree := i_doCross_t) fnat_i_doCross (by kernel_rfl) (by kernel_rfl) (by kernel_rfl) (loopsOK_of (ls := []) (by kernel_rfl) trivial) (fun v => by kernel_rfl)

theorem i_doCross_eq (d e : Dg) : i_doCross (d, e) = some (crossD d e) := by
  obtain ⟨a, b⟩ := d
  obtain ⟨c, f⟩ := e
  simp only [i_doCross, i_doCross_t, T.run, crossD]
  by_cases h1 : a < c <;> by_cases h2 : c < b <;> by_cases h3 : b < f <;> by_cases h4 : c < a <;> by_cases h5 : a < f <;> by_cases h6 : f < b <;> simp [h1, h2, h3, h4, h5, h6]


def i_crosses_1_sh : FSh := ⟨[(.ag [(.si .i64), (.si .i64)]), (.one (.pf 0 0 0))], [(.rcd 0 [(.si .i64), (.si .i64)])]⟩

def i_crosses_1_fo : List FO := [⟨[(.one .sb)], [(.rcd 0 [(.si .i64), (.si .i64)])]⟩]
noncomputable def i_crosses_1_t : (((Int × Int) × Unit) × (Int × Int)) → T (Bool × (Int × Int)) := fun (((e_0, e_1), ()), (t1_0, t1_1)) =>
  (.sub (i_doCross ((t1_0, t1_1), (e_0, e_1))) fun z0 =>
  (.ret (z0, (t1_0, t1_1))))
noncomputable def i_crosses_1 (v : (((Int × Int) × Unit) × (Int × Int))) : Option (Bool × (Int × Int)) := (i_crosses_1_t v).run
noncomputable def i_crosses_1_E : TEnv := (E0.add1 n_i_doCross i_doCross_sh i_doCross_fo i_doCross)
theorem i_crosses_1_Eok : (i_crosses_1_E).OK := (E0ok.add1 i_doCross_ok)
noncomputable def i_crosses_1_told : Nat → Option SealT := fun id => none
theorem i_crosses_1_ok : FOK Try.prog n_i_crosses_1 i_crosses_1_sh i_crosses_1_fo i_crosses_1 :=
  fn_ok (E := i_crosses_1_E) (i_crosses_1_Eok) (told := i_crosses_1_told) (fl := []) (c := bodyOf fn_i_crosses_1) (s := i_crosses_1_sh) (l := i_crosses_1_fo) (tree := i_crosses_1_t) fnat_i_crosses_1 (by kernel_rfl) (by kernel_rfl) (by kernel_rfl) (loopsOK_of (ls := []) (by kernel_rfl) trivial) (fun v => by kernel_rfl)

def slices_IndexFunc_Diagonal__i_crosses_1_sh : FSh := ⟨[(.one (.sl (.pair (.int .i64) (.int .i64)) false false)), (.clo n_i_crosses_1 [(.one (.pf 0 0 0))])], [(.rcd 0 [(.si .i64), (.si .i64)])]⟩

def slices_IndexFunc_Diagonal__i_crosses_1_L2_sh : LSh := ⟨(fun ex => match ex with | .norm => [(0, none), (1, none), (7, none), (8, none)] | .exit i => if i = 0 then [] else [] | .ret => [(4, none)]), [(0, (.one (.sl (.pair (.int .i64) (.int .i64)) false false))), (1, (.clo n_i_crosses_1 [(.one (.pf 0 0 0))])), (7, (.one (.si .i64))), (8, (.one (.si .i64)))], [(.rcd 0 [(.si .i64), (.si .i64)])], [⟨.ret, [(4, (.one (.si .i64)))], [(.rcd 0 [(.si .i64), (.si .i64)])]⟩, ⟨(.exit 0), [], [(.rcd 0 [(.si .i64), (.si .i64)])]⟩], [], []⟩
noncomputable def slices_IndexFunc_Diagonal__i_crosses_1_L2_step : ((List ((Int × Int)) × Unit × Int × Int) × (Int × Int)) → T (((List ((Int × Int)) × Unit × Int × Int) × (Int × Int)) ⊕ ((Int × (Int × Int)) ⊕ (Unit × (Int × Int)))) := fun ((s, (), t7, t8), (r0_0, r0_1)) =>
  (.test (decide (t8 < t7))
  (.test (decide ((0 ≤ t8) ∧ (t8 < ((List.length s) : Int))))
   (.sub (s[(Int.toNat t8)]?) fun z0 =>
    (.sub (i_crosses_1 (((z0.1, z0.2), ()), (r0_0, r0_1))) fun z1 =>
    (.test z1.1
    (.ret (Sum.inr (Sum.inl (t8, (z1.2.1, z1.2.2)))))
    (.ret (Sum.inl ((s, ((), (t7, (w64 (t8 + 1))))), (z1.2.1, z1.2.2)))))))
   .fail)
  (.ret (Sum.inr (Sum.inr ((), (r0_0, r0_1))))))
noncomputable def slices_IndexFunc_Diagonal__i_crosses_1_L2 (v : ((List ((Int × Int)) × Unit × Int × Int) × (Int × Int))) : Option ((Int × (Int × Int)) ⊕ (Unit × (Int × Int))) := loopO (fun v => (slices_IndexFunc_Diagonal__i_crosses_1_L2_step v).run) v

def slices_IndexFunc_Diagonal__i_crosses_1_fo : List FO := [⟨[(.one (.si .i64))], [(.rcd 0 [(.si .i64), (.si .i64)])]⟩]
noncomputable def slices_IndexFunc_Diagonal__i_crosses_1_t : ((List ((Int × Int)) × Unit) × (Int × Int)) → T (Int × (Int × Int)) := fun ((s, ()), (r0_0, r0_1)) =>
  (.sub (slices_IndexFunc_Diagonal__i_crosses_1_L2 ((s, ((), (((List.length s) : Int), (0 : Int)))), (r0_0, r0_1))) fun z0 =>
  (.test (Sum.isLeft z0)
  (.sub (Sum.getLeft? z0) fun z1 =>
   (.ret (z1.1, (z1.2.1, z1.2.2))))
  (.sub (Sum.getRight? z0) fun z2 =>
   (.ret ((-1), (z2.2.1, z2.2.2))))))
noncomputable def slices_IndexFunc_Diagonal__i_crosses_1 (v : ((List ((Int × Int)) × Unit) × (Int × Int))) : Option (Int × (Int × Int)) := (slices_IndexFunc_Diagonal__i_crosses_1_t v).run
noncomputable def slices_IndexFunc_Diagonal__i_crosses_1_E : TEnv := (E0.add1 n_i_crosses_1 i_crosses_1_sh i_crosses_1_fo i_crosses_1)
theorem slices_IndexFunc_Diagonal__i_crosses_1_Eok : (slices_IndexFunc_Diagonal__i_crosses_1_E).OK := (E0ok.add1 i_crosses_1_ok)
noncomputable def slices_IndexFunc_Diagonal__i_crosses_1_told : Nat → Option SealT := fun id => if id = 2 then some (LSh.told slices_IndexFunc_Diagonal__i_crosses_1_L2_sh 1 (slices_IndexFunc_Diagonal__i_crosses_1_L2_step)) else none
theorem slices_IndexFunc_Diagonal__i_crosses_1_L2_ok : ToldOK Try.prog 1 (loopAt (bodyOf fn_slices_IndexFunc_Diagonal) [0]) (LSh.told slices_IndexFunc_Diagonal__i_crosses_1_L2_sh 1 (slices_IndexFunc_Diagonal__i_crosses_1_L2_step)) :=
  loop_ok (E := slices_IndexFunc_Diagonal__i_crosses_1_E) (slices_IndexFunc_Diagonal__i_crosses_1_Eok) (told := slices_IndexFunc_Diagonal__i_crosses_1_told) (l := slices_IndexFunc_Diagonal__i_crosses_1_L2_sh) (step := slices_IndexFunc_Diagonal__i_crosses_1_L2_step) (loopsOK_of (ls := []) (by kernel_rfl) trivial) (by kernel_rfl) (fun v => by kernel_rfl)
theorem slices_IndexFunc_Diagonal__i_crosses_1_ok : FOK Try.prog n_slices_IndexFunc_Diagonal slices_IndexFunc_Diagonal__i_crosses_1_sh slices_IndexFunc_Diagonal__i_crosses_1_fo slices_IndexFunc_Diagonal__i_crosses_1 :=
  fn_ok (E := slices_IndexFunc_Diagonal__i_crosses_1_E) (slices_IndexFunc_Diagonal__i_crosses_1_Eok) (told := slices_IndexFunc_Diagonal__i_crosses_1_told) (fl := []) (c := bodyOf fn_slices_IndexFunc_Diagonal) (s := slices_IndexFunc_Diagonal__i_crosses_1_sh) (l := slices_IndexFunc_Diagonal__i_crosses_1_fo) (tree := slices_IndexFunc_Diagonal__i_crosses_1_t) fnat_slices_IndexFunc_Diagonal (by kernel_rfl) (by kernel_rfl) (by kernel_rfl) (loopsOK_of (ls := [loopAt (bodyOf fn_slices_IndexFunc_Diagonal) [0]]) (by kernel_rfl) ⟨.inr ⟨_, by kernel_rfl, slices_IndexFunc_Diagonal__i_crosses_1_L2_ok⟩, trivial⟩) (fun v => by kernel_rfl)

def slices_ContainsFunc_Diagonal__i_crosses_1_sh : FSh := ⟨[(.one (.sl (.pair (.int .i64) (.int .i64)) false false)), (.clo n_i_crosses_1 [(.one (.pf 0 0 0))])], [(.rcd 0 [(.si .i64), (.si .i64)])]⟩

def slices_ContainsFunc_Diagonal__i_crosses_1_fo : List FO := [⟨[(.one .sb)], [(.rcd 0 [(.si .i64), (.si .i64)])]⟩]
noncomputable def slices_ContainsFunc_Diagonal__i_crosses_1_t : ((List ((Int × Int)) × Unit) × (Int × Int)) → T (Bool × (Int × Int)) := fun ((s, ()), (r0_0, r0_1)) =>
  (.sub (slices_IndexFunc_Diagonal__i_crosses_1 ((s, ()), (r0_0, r0_1))) fun z0 =>
  (.ret ((decide (z0.1 ≥ 0)), (z0.2.1, z0.2.2))))
noncomputable def slices_ContainsFunc_Diagonal__i_crosses_1 (v : ((List ((Int × Int)) × Unit) × (Int × Int))) : Option (Bool × (Int × Int)) := (slices_ContainsFunc_Diagonal__i_crosses_1_t v).run
noncomputable def slices_ContainsFunc_Diagonal__i_crosses_1_E : TEnv := (E0.add1 n_slices_IndexFunc_Diagonal slices_IndexFunc_Diagonal__i_crosses_1_sh slices_IndexFunc_Diagonal__i_crosses_1_fo slices_IndexFunc_Diagonal__i_crosses_1)
theorem slices_ContainsFunc_Diagonal__i_crosses_1_Eok : (slices_ContainsFunc_Diagonal__i_crosses_1_E).OK := (E0ok.add1 slices_IndexFunc_Diagonal__i_crosses_1_ok)
noncomputable def slices_ContainsFunc_Diagonal__i_crosses_1_told : Nat → Option SealT := fun id => none
theorem slices_ContainsFunc_Diagonal__i_crosses_1_ok : FOK Try.prog n_slices_ContainsFunc_Diagonal slices_ContainsFunc_Diagonal__i_crosses_1_sh slices_ContainsFunc_Diagonal__i_crosses_1_fo slices_ContainsFunc_Diagonal__i_crosses_1 :=
  fn_ok (E := slices_ContainsFunc_Diagonal__i_crosses_1_E) (slices_ContainsFunc_Diagonal__i_crosses_1_Eok) (told := slices_ContainsFunc_Diagonal__i_crosses_1_told) (fl := []) (c := bodyOf fn_slices_ContainsFunc_Diagonal) (s := slices_ContainsFunc_Diagonal__i_crosses_1_sh) (l := slices_ContainsFunc_Diagonal__i_crosses_1_fo) (tree := slices_ContainsFunc_Diagonal__i_crosses_1_t) fnat_slices_ContainsFunc_Diagonal (by kernel_rfl) (by kernel_rfl) (by kernel_rfl) (loopsOK_of (ls := []) (by kernel_rfl) trivial) (fun v => by kernel_rfl)

theorem slices_ContainsFunc_Diagonal__i_crosses_1_eq (s : List Dg) (d : Dg) (hl : s.length < 4611686018427387904) : slices_ContainsFunc_Diagonal__i_crosses_1 ((s, ()), d) = some (s.any (crossD d), d) := by
  obtain ⟨a, b⟩ := d
  have hc : ∀ e : Dg, i_crosses_1 ((e, ()), (a, b)) = some (crossD (a, b) e, (a, b)) := by
    intro e
    obtain ⟨e0, e1⟩ := e
    simp [i_crosses_1, i_crosses_1_t, T.run, i_doCross_eq]
  have h := loop_find (step := fun v => (slices_IndexFunc_Diagonal__i_crosses_1_L2_step v).run) (xs := s) (crossD (a, b)) (fun k => ((s, ((), ((s.length : Int), (k : Int)))), (a, b))) (fun k => .inl ((k : Int), (a, b))) (.inr ((), (a, b)))
    (fun k x hx => by
      have hlt := getElem?_lt hx
      have h1 : (k : Int) < (s.length : Int) := by omega
      have h2 : (0 : Int) ≤ k ∧ (k : Int) < (s.length : Int) := by omega
      simp only [slices_IndexFunc_Diagonal__i_crosses_1_L2_step, T.run, Int.toNat_natCast, hx, Option.bind_some, h1, h2, decide_true, if_true, and_self, hc]
      rw [w64_id (z := (k : Int) + 1) (by omega) (by omega)]
      cases hv : crossD (a, b) x <;> simp)
    (by simp [slices_IndexFunc_Diagonal__i_crosses_1_L2_step, T.run])
  rw [show ((0 : Nat) : Int) = 0 from rfl] at h
  have hi : slices_IndexFunc_Diagonal__i_crosses_1 ((s, ()), (a, b)) = some (idxI (crossD (a, b)) s, (a, b)) := by
    simp only [slices_IndexFunc_Diagonal__i_crosses_1, slices_IndexFunc_Diagonal__i_crosses_1_t, T.run, slices_IndexFunc_Diagonal__i_crosses_1_L2]
    rw [h]
    simp only [idxI]
    cases hf : s.findIdx? (crossD (a, b)) <;> simp [Sum.isLeft]
  simp only [slices_ContainsFunc_Diagonal__i_crosses_1, slices_ContainsFunc_Diagonal__i_crosses_1_t, T.run, hi, Option.bind_some, idxI_ge]


def i_crosses_sh : FSh := ⟨[(.one (.sl (.pair (.int .i64) (.int .i64)) false false)), (.ag [(.si .i64), (.si .i64)])], []⟩

def i_crosses_fo : List FO := [⟨[(.one .sb)], []⟩]
noncomputable def i_crosses_t : (List ((Int × Int)) × (Int × Int)) → T Bool := fun (ds, (d_0, d_1)) =>
  (.sub (slices_ContainsFunc_Diagonal__i_crosses_1 ((ds, ()), (d_0, d_1))) fun z0 =>
  (.ret z0.1))
noncomputable def i_crosses (v : (List ((Int × Int)) × (Int × Int))) : Option Bool := (i_crosses_t v).run
noncomputable def i_crosses_E : TEnv := (E0.add1 n_slices_ContainsFunc_Diagonal slices_ContainsFunc_Diagonal__i_crosses_1_sh slices_ContainsFunc_Diagonal__i_crosses_1_fo slices_ContainsFunc_Diagonal__i_crosses_1)
theorem i_crosses_Eok : (i_crosses_E).OK := (E0ok.add1 slices_ContainsFunc_Diagonal__i_crosses_1_ok)
noncomputable def i_crosses_told : Nat → Option SealT := fun id => none
theorem i_crosses_ok : FOK Try.prog n_i_crosses i_crosses_sh i_crosses_fo i_crosses :=
  fn_ok (E := i_crosses_E) (i_crosses_Eok) (told := i_crosses_told) (fl := []) (c := bodyOf fn_i_crosses) (s := i_crosses_sh) (l := i_crosses_fo) (tree := i_crosses_t) fnat_i_crosses (by kernel_rfl) (by kernel_rfl) (by kernel_rfl) (loopsOK_of (ls := []) (by kernel_rfl) trivial) (fun v => by kernel_rfl)

theorem i_crosses_eq (s : List Dg) (d : Dg) (hl : s.length < 4611686018427387904) : i_crosses (s, d) = some (s.any (crossD d)) := by
  obtain ⟨a, b⟩ := d
  rw [i_crosses, i_crosses_t, T.run_sub, slices_ContainsFunc_Diagonal__i_crosses_1_eq s (a, b) hl, Option.bind_some, T.run_ret]


def i_IsCut_sh : FSh := ⟨[(.one (.si .i64)), (.one (.sl (.pair (.int .i64) (.int .i64)) false false))], []⟩

def i_IsCut_L4_sh : LSh := ⟨(fun ex => match ex with | .norm => [(0, none), (1, none), (17, none), (18, none), (19, none)] | .exit i => if i = 0 then [] else [] | .ret => [(4, none)]), [(0, (.one (.si .i64))), (1, (.one (.sl (.pair (.int .i64) (.int .i64)) false false))), (17, (.one (.sl (.pair (.int .i64) (.int .i64)) false false))), (18, (.one (.si .i64))), (19, (.one (.si .i64)))], [], [⟨.ret, [(4, (.one .sb))], []⟩, ⟨(.exit 0), [], []⟩], [], []⟩
noncomputable def i_IsCut_L4_step : (Int × List ((Int × Int)) × List ((Int × Int)) × Int × Int) → T ((Int × List ((Int × Int)) × List ((Int × Int)) × Int × Int) ⊕ (Bool ⊕ Unit)) := fun (n, ds, t17, t18, t19) =>
  (.test (decide (t19 < t18))
  (.test (decide ((0 ≤ t19) ∧ (t19 < ((List.length t17) : Int))))
   (.sub (t17[(Int.toNat t19)]?) fun z0 =>
    (.sub (i_isDiagonal (n, (z0.1, z0.2))) fun z1 =>
    (.test (! z1)
    (.ret (Sum.inr (Sum.inl false)))
    (.test (decide (t19 > 0))
     (.test (decide ((0 ≤ (w64 (t19 - 1))) ∧ ((w64 (t19 - 1)) < ((List.length ds) : Int))))
      (.sub (ds[(Int.toNat (w64 (t19 - 1)))]?) fun z2 =>
       (.sub (i_compareDiagonals ((z2.1, z2.2), (z0.1, z0.2))) fun z3 =>
       (.test (decide (z3 ≥ 0))
       (.ret (Sum.inr (Sum.inl false)))
       (.test (decide (0 ≤ t19))
        (.test (decide ((0 ≤ (Int.toNat t19)) ∧ ((Int.toNat t19) ≤ (List.length ds))))
         (.sub (i_crosses ((win ds 0 ((Int.toNat t19) - 0)), (z0.1, z0.2))) fun z4 =>
          (.test z4
          (.ret (Sum.inr (Sum.inl false)))
          (.ret (Sum.inl (n, (ds, (t17, (t18, (w64 (t19 + 1))))))))))
         .fail)
        .fail))))
      .fail)
     (.test (decide (0 ≤ t19))
      (.test (decide ((0 ≤ (Int.toNat t19)) ∧ ((Int.toNat t19) ≤ (List.length ds))))
       (.sub (i_crosses ((win ds 0 ((Int.toNat t19) - 0)), (z0.1, z0.2))) fun z5 =>
        (.test z5
        (.ret (Sum.inr (Sum.inl false)))
        (.ret (Sum.inl (n, (ds, (t17, (t18, (w64 (t19 + 1))))))))))
       .fail)
      .fail)))))
   .fail)
  (.ret (Sum.inr (Sum.inr ()))))
noncomputable def i_IsCut_L4 (v : (Int × List ((Int × Int)) × List ((Int × Int)) × Int × Int)) : Option (Bool ⊕ Unit) := loopO (fun v => (i_IsCut_L4_step v).run) v

def i_IsCut_fo : List FO := [⟨[(.one .sb)], []⟩]
noncomputable def i_IsCut_t : (Int × List ((Int × Int))) → T Bool := fun (n, ds) =>
  (.sub (i_isPolygon n) fun z0 =>
  (.test (! z0)
  (.ret false)
  (.test (decide (((List.length ds) : Int) > (w64 (n - 3))))
   (.ret false)
   (.sub (i_IsCut_L4 (n, (ds, (ds, (((List.length ds) : Int), (0 : Int)))))) fun z1 =>
    (.test (Sum.isLeft z1)
    (.sub (Sum.getLeft? z1) fun z2 =>
     (.ret z2))
    (.sub (Sum.getRight? z1) fun z3 =>
     (.ret true)))))))
noncomputable def i_IsCut (v : (Int × List ((Int × Int)))) : Option Bool := (i_IsCut_t v).run
noncomputable def i_IsCut_E : TEnv := ((((E0.add1 n_i_isPolygon i_isPolygon_sh i_isPolygon_fo i_isPolygon).add1 n_i_isDiagonal i_isDiagonal_sh i_isDiagonal_fo i_isDiagonal).add1 n_i_compareDiagonals i_compareDiagonals_sh i_compareDiagonals_fo i_compareDiagonals).add1 n_i_crosses i_crosses_sh i_crosses_fo i_crosses)
theorem i_IsCut_Eok : (i_IsCut_E).OK := ((((E0ok.add1 i_isPolygon_ok).add1 i_isDiagonal_ok).add1 i_compareDiagonals_ok).add1 i_crosses_ok)
noncomputable def i_IsCut_told : Nat → Option SealT := fun id => if id = 4 then some (LSh.told i_IsCut_L4_sh 0 (i_IsCut_L4_step)) else none
theorem i_IsCut_L4_ok : ToldOK Try.prog 0 (loopAt (bodyOf fn_i_IsCut) [0]) (LSh.told i_IsCut_L4_sh 0 (i_IsCut_L4_step)) :=
  loop_ok (E := i_IsCut_E) (i_IsCut_Eok) (told := i_IsCut_told) (l := i_IsCut_L4_sh) (step := i_IsCut_L4_step) (loopsOK_of (ls := []) (by kernel_rfl) trivial) (by kernel_rfl) (fun v => by kernel_rfl)
theorem i_IsCut_ok : FOK Try.prog n_i_IsCut i_IsCut_sh i_IsCut_fo i_IsCut :=
  fn_ok (E := i_IsCut_E) (i_IsCut_Eok) (told := i_IsCut_told) (fl := []) (c := bodyOf fn_i_IsCut) (s := i_IsCut_sh) (l := i_IsCut_fo) (tree := i_IsCut_t) fnat_i_IsCut (by kernel_rfl) (by kernel_rfl) (by kernel_rfl) (loopsOK_of (ls := [loopAt (bodyOf fn_i_IsCut) [0]]) (by kernel_rfl) ⟨.inr ⟨_, by kernel_rfl, i_IsCut_L4_ok⟩, trivial⟩) (fun v => by kernel_rfl)

theorem i_IsCut_eq (n : Int) (ds : List Dg) (hl : ds.length < 4611686018427387904) : i_IsCut (n, ds) = some (isCut n ds) := by
  simp only [i_IsCut, i_IsCut_t, T.run, i_isPolygon, i_isPolygon_t, i_within_eq, Option.bind_some, isCut]
  cases hn : inB 3 12 n with
  | false => simp
  | true =>
    rw [inB_iff] at hn
    rw [w64_id (z := n - 3) (by omega) (by omega)]
    by_cases he : (ds.length : Int) ≤ n - 3
    · have h := loop_any (step := fun v => (i_IsCut_L4_step v).run) (xs := List.range ds.length) (badT n ds) (fun k => (n, (ds, (ds, ((ds.length : Int), (k : Int)))))) (.inl false) (.inr ())
        (fun k x hx => by
          obtain ⟨hk, e⟩ := List.getElem?_eq_some_iff.1 hx
          simp only [List.getElem_range] at e
          subst e
          rw [List.length_range] at hk
          have g0 := gD_some hk
          have c0 : (k : Int) < (ds.length : Int) := by omega
          have c1 : (0 : Int) ≤ (k : Int) ∧ (k : Int) < (ds.length : Int) := by omega
          have w1 : w64 ((k : Int) + 1) = ((k + 1 : Nat) : Int) := by rw [w64_id (by omega) (by omega)]; omega
          have c2 : 0 ≤ k ∧ k ≤ ds.length := by omega
          have c3 : (0 : Int) ≤ (k : Int) := by omega
          have tw : win ds 0 (k - 0) = ds.take k := win_take _ _
          have hlt : (ds.take k).length < 4611686018427387904 := by simp; omega
          have hcr : i_crosses (ds.take k, ((gD ds k).1, (gD ds k).2)) = some ((ds.take k).any (crossD (gD ds k))) := i_crosses_eq _ _ hlt
          simp only [i_IsCut_L4_step, T.run, c0, c1, c2, c3, decide_true, if_true, and_self, Int.toNat_natCast, g0, Option.bind_some, i_isDiagonal_eq n (gD ds k) (by omega) (by omega), tw, hcr, w1, badT]
          rcases Bool.eq_false_or_eq_true (inDg n (gD ds k)) with hd | hd
          rotate_left
          · simp [hd]
          · simp only [hd]
            by_cases hk0 : 0 < k
            · have w2 : w64 ((k : Int) - 1) = ((k - 1 : Nat) : Int) := by rw [w64_id (by omega) (by omega)]; omega
              have c4 : (0 : Int) ≤ ((k - 1 : Nat) : Int) ∧ ((k - 1 : Nat) : Int) < (ds.length : Int) := by omega
              have g1 := gD_some (show k - 1 < ds.length by omega)
              have c5 : (k : Int) > 0 := by omega
              simp only [w2, c4, c5, decide_true, if_true, and_self, Int.toNat_natCast, g1, Option.bind_some, i_compareDiagonals_eq, cmpD_ge, hk0]
              cases ltD (gD ds (k - 1)) (gD ds k) <;> simp
              cases (ds.take k).any (crossD (gD ds k)) <;> simp
            · have c5 : ¬ (k : Int) > 0 := by omega
              simp only [c5, decide_false, hk0, if_false]
              cases (ds.take k).any (crossD (gD ds k)) <;> simp)
        (by simp [i_IsCut_L4_step, T.run])
      rw [show ((0 : Nat) : Int) = 0 from rfl] at h
      have he' : ¬ ((ds.length : Int) > n - 3) := by omega
      simp only [i_IsCut_L4, h, he', decide_eq_true he, decide_eq_false he']
      cases (List.range ds.length).any (badT n ds) <;> simp
    · have he' : (ds.length : Int) > n - 3 := by omega
      simp [he, he']


def i_isEqual_sh : FSh := ⟨[(.one (.si .i64)), (.one (.sl (.pair (.int .i64) (.int .i64)) false false)), (.one (.si .i64))], []⟩

def i_isEqual_fo : List FO := [⟨[(.one .sb)], []⟩]
noncomputable def i_isEqual_t : (Int × List ((Int × Int)) × Int) → T Bool := fun (n, ds, size) =>
  (.sub (i_sizes (n, ds)) fun z0 =>
  (.test (decide (((0 : Int) ≤ (0 : Int)) ∧ (0 < ((List.length z0.2) : Int))))
  (.sub (z0.2[0]?) fun z1 =>
   (.test (z1 == size)
   (.test (decide ((0 ≤ (w64 (((List.length z0.2) : Int) - 1))) ∧ ((w64 (((List.length z0.2) : Int) - 1)) < ((List.length z0.2) : Int))))
    (.sub (z0.2[(0 + (Int.toNat (w64 (((List.length z0.2) : Int) - 1))))]?) fun z2 =>
     (.ret (z2 == size)))
    .fail)
   (.ret false)))
  .fail))
noncomputable def i_isEqual (v : (Int × List ((Int × Int)) × Int)) : Option Bool := (i_isEqual_t v).run
noncomputable def i_isEqual_E : TEnv := (E0.add1 n_i_sizes i_sizes_sh i_sizes_fo i_sizes)
theorem i_isEqual_Eok : (i_isEqual_E).OK := (E0ok.add1 i_sizes_ok)
noncomputable def i_isEqual_told : Nat → Option SealT := fun id => none
theorem i_isEqual_ok : FOK Try.prog n_i_isEqual i_isEqual_sh i_isEqual_fo i_isEqual :=
  fn_ok (E := i_isEqual_E) (i_isEqual_Eok) (told := i_isEqual_told) (fl := []) (c := bodyOf fn_i_isEqual) (s := i_isEqual_sh) (l := i_isEqual_fo) (tree := i_isEqual_t) fnat_i_isEqual (by kernel_rfl) (by kernel_rfl) (by kernel_rfl) (loopsOK_of (ls := []) (by kernel_rfl) trivial) (fun v => by kernel_rfl)

theorem i_isEqual_eq {N : Nat} {ds : List Dg} (size : Int) (h3 : 3 ≤ N) (hN : N ≤ 12) (hl : ds.length + 3 ≤ N) (hc : CutD N ds) : i_isEqual ((N : Int), (ds, size)) = some ((szL N ds).all fun s => s == size) := by
  have hperm := sortI_perm (szL N ds)
  have hup := sortI_up (szL N ds)
  have hlen := hperm.length_eq
  rw [szL_len hc h3] at hlen
  have e : ((szL N ds).all fun s => s == size) = ((sortI (szL N ds)).all fun s => s == size) := by
    rw [Bool.eq_iff_iff, List.all_eq_true, List.all_eq_true]
    exact ⟨fun h x hx => h x (hperm.mem_iff.1 hx), fun h x hx => h x (hperm.mem_iff.2 hx)⟩
  rw [i_isEqual, i_isEqual_t, T.run_sub, i_sizes_eq h3 hN hl hc, Option.bind_some, e]
  obtain ⟨L, hL⟩ : ∃ L, L = sortI (szL N ds) := ⟨_, rfl⟩
  rw [← hL] at hlen hup ⊢
  have hup := List.pairwise_iff_getElem.1 hup
  have w1 : w64 ((L.length : Int) - 1) = ((L.length - 1 : Nat) : Int) := by rw [w64_id (by omega) (by omega)]; omega
  have h0 : 0 < L.length := by omega
  have hll : L.length - 1 < L.length := by omega
  dsimp only
  rw [T.run_test, if_pos (decide_eq_true (by omega)), T.run_sub, List.getElem?_eq_getElem h0, Option.bind_some, T.run_test]
  cases c : (L[0] == size) with
  | false =>
    rw [if_neg (by simp), T.run_ret]
    congr 1
    symm
    rw [List.all_eq_false]
    exact ⟨L[0], List.getElem_mem h0, by simpa using c⟩
  | true =>
    rw [if_pos rfl, T.run_test, w1, if_pos (decide_eq_true (by omega)), T.run_sub, Nat.zero_add, Int.toNat_natCast, List.getElem?_eq_getElem hll, Option.bind_some, T.run_ret]
    congr 1
    have c := eq_of_beq c
    cases c2 : (L[L.length - 1] == size) with
    | false =>
      symm
      rw [List.all_eq_false]
      exact ⟨_, List.getElem_mem hll, by simpa using c2⟩
    | true =>
      symm
      have c2 := eq_of_beq c2
      rw [List.all_eq_true]
      intro x hx
      obtain ⟨i, hi, rfl⟩ := List.getElem_of_mem hx
      have g1 : L[0] ≤ L[i] := by
        by_cases g : i = 0
        · subst g; exact Int.le_refl _
        · exact hup 0 i h0 hi (by omega)
      have g2 : L[i] ≤ L[L.length - 1] := by
        by_cases g : i = L.length - 1
        · have : ∀ (j : Nat) (hj : j < L.length), i = j → L[i] ≤ L[j] := fun j hj e => by subst e; exact Int.le_refl _
          exact this _ hll g
        · exact hup i (L.length - 1) hi hll (by omega)
      rw [beq_iff_eq]; omega


def i_IsEqualCut_sh : FSh := ⟨[(.one (.si .i64)), (.one (.sl (.pair (.int .i64) (.int .i64)) false false)), (.one (.si .i64))], []⟩

def i_IsEqualCut_fo : List FO := [⟨[(.one .sb), (.one .sb)], []⟩]
noncomputable def i_IsEqualCut_t : (Int × List ((Int × Int)) × Int) → T (Bool × Bool) := fun (n, ds, size) =>
  (.sub (i_IsCut (n, ds)) fun z0 =>
  (.test (! z0)
  (.ret (false, false))
  (.test (decide (size < 3))
   (.ret (false, false))
   (.sub (i_isEqual (n, (ds, size))) fun z1 =>
    (.ret (z1, true))))))
noncomputable def i_IsEqualCut (v : (Int × List ((Int × Int)) × Int)) : Option (Bool × Bool) := (i_IsEqualCut_t v).run
noncomputable def i_IsEqualCut_E : TEnv := ((E0.add1 n_i_IsCut i_IsCut_sh i_IsCut_fo i_IsCut).add1 n_i_isEqual i_isEqual_sh i_isEqual_fo i_isEqual)
theorem i_IsEqualCut_Eok : (i_IsEqualCut_E).OK := ((E0ok.add1 i_IsCut_ok).add1 i_isEqual_ok)
noncomputable def i_IsEqualCut_told : Nat → Option SealT := fun id => none
theorem i_IsEqualCut_ok : FOK Try.prog n_i_IsEqualCut i_IsEqualCut_sh i_IsEqualCut_fo i_IsEqualCut :=
  fn_ok (E := i_IsEqualCut_E) (i_IsEqualCut_Eok) (told := i_IsEqualCut_told) (fl := []) (c := bodyOf fn_i_IsEqualCut) (s := i_IsEqualCut_sh) (l := i_IsEqualCut_fo) (tree := i_IsEqualCut_t) fnat_i_IsEqualCut (by kernel_rfl) (by kernel_rfl) (by kernel_rfl) (loopsOK_of (ls := []) (by kernel_rfl) trivial) (fun v => by kernel_rfl)

def l_eqDiagonal_sh : FSh := ⟨[(.ag [(.si .i64), (.si .i64)]), (.ag [(.si .i64), (.si .i64)])], []⟩

def l_eqDiagonal_fo : List FO := [⟨[(.one .sb)], []⟩]
noncomputable def l_eqDiagonal_t : ((Int × Int) × (Int × Int)) → T Bool := fun ((a_0, a_1), (b_0, b_1)) =>
  (.test (a_0 != b_0)
  (.ret false)
  (.test (a_1 != b_1)
   (.ret false)
   (.ret true)))
noncomputable def l_eqDiagonal (v : ((Int × Int) × (Int × Int))) : Option Bool := (l_eqDiagonal_t v).run
noncomputable def l_eqDiagonal_E : TEnv := E0
theorem l_eqDiagonal_Eok : (l_eqDiagonal_E).OK := E0ok
noncomputable def l_eqDiagonal_told : Nat → Option SealT := fun id => none
theorem l_eqDiagonal_ok : FOK Try.prog n_l_eqDiagonal l_eqDiagonal_sh l_eqDiagonal_fo l_eqDiagonal :=
  fn_ok (E := l_eqDiagonal_E) (l_eqDiagonal_Eok) (told := l_eqDiagonal_told) (fl := []) (c := bodyOf fn_l_eqDiagonal) (s := l_eqDiagonal_sh) (l := l_eqDiagonal_fo) (tree := l_eqDiagonal_t) fnat_l_eqDiagonal (by kernel_rfl) (by kernel_rfl) (by kernel_rfl) (loopsOK_of (ls := []) (by kernel_rfl) trivial) (fun v => by kernel_rfl)

theorem l_eqDiagonal_eq (a b : Int × Int) : l_eqDiagonal (a, b) = some (decide (a = b)) := by
  obtain ⟨a0, a1⟩ := a
  obtain ⟨b0, b1⟩ := b
  simp only [l_eqDiagonal, l_eqDiagonal_t, T.run]
  by_cases h0 : a0 = b0
  · by_cases h1 : a1 = b1
    · simp [h0, h1]
    · simp [h0, h1]
  · simp [h0]


def l_eqDiagonalS_sh : FSh := ⟨[(.one (.sl (.pair (.int .i64) (.int .i64)) false false)), (.one (.sl (.pair (.int .i64) (.int .i64)) false false))], []⟩

def l_eqDiagonalS_L4_sh : LSh := ⟨(fun ex => match ex with | .norm => [(0, none), (1, none), (5, none)] | .exit i => if i = 0 then [] else [] | .ret => [(4, none)]), [(0, (.one (.sl (.pair (.int .i64) (.int .i64)) false false))), (1, (.one (.sl (.pair (.int .i64) (.int .i64)) false false))), (5, (.one (.si .i64)))], [], [⟨.ret, [(4, (.one .sb))], []⟩, ⟨(.exit 0), [], []⟩], [], []⟩
noncomputable def l_eqDiagonalS_L4_step : (List ((Int × Int)) × List ((Int × Int)) × Int) → T ((List ((Int × Int)) × List ((Int × Int)) × Int) ⊕ (Bool ⊕ Unit)) := fun (a, b, i) =>
  (.test (decide (i < ((List.length a) : Int)))
  (.test (decide ((0 ≤ i) ∧ (i < ((List.length a) : Int))))
   (.sub (a[(Int.toNat i)]?) fun z0 =>
    (.test (decide ((0 ≤ i) ∧ (i < ((List.length b) : Int))))
    (.sub (b[(Int.toNat i)]?) fun z1 =>
     (.sub (l_eqDiagonal ((z0.1, z0.2), (z1.1, z1.2))) fun z2 =>
     (.test (! z2)
     (.ret (Sum.inr (Sum.inl false)))
     (.ret (Sum.inl (a, (b, (w64 (i + 1)))))))))
    .fail))
   .fail)
  (.ret (Sum.inr (Sum.inr ()))))
noncomputable def l_eqDiagonalS_L4 (v : (List ((Int × Int)) × List ((Int × Int)) × Int)) : Option (Bool ⊕ Unit) := loopO (fun v => (l_eqDiagonalS_L4_step v).run) v

def l_eqDiagonalS_fo : List FO := [⟨[(.one .sb)], []⟩]
noncomputable def l_eqDiagonalS_t : (List ((Int × Int)) × List ((Int × Int))) → T Bool := fun (a, b) =>
  (.test (((List.length a) : Int) != ((List.length b) : Int))
  (.ret false)
  (.sub (l_eqDiagonalS_L4 (a, (b, (0 : Int)))) fun z0 =>
   (.test (Sum.isLeft z0)
   (.sub (Sum.getLeft? z0) fun z1 =>
    (.ret z1))
   (.sub (Sum.getRight? z0) fun z2 =>
    (.ret true)))))
noncomputable def l_eqDiagonalS (v : (List ((Int × Int)) × List ((Int × Int)))) : Option Bool := (l_eqDiagonalS_t v).run
noncomputable def l_eqDiagonalS_E : TEnv := (E0.add1 n_l_eqDiagonal l_eqDiagonal_sh l_eqDiagonal_fo l_eqDiagonal)
theorem l_eqDiagonalS_Eok : (l_eqDiagonalS_E).OK := (E0ok.add1 l_eqDiagonal_ok)
noncomputable def l_eqDiagonalS_told : Nat → Option SealT := fun id => if id = 4 then some (LSh.told l_eqDiagonalS_L4_sh 0 (l_eqDiagonalS_L4_step)) else none
theorem l_eqDiagonalS_L4_ok : ToldOK Try.prog 0 (loopAt (bodyOf fn_l_eqDiagonalS) [0]) (LSh.told l_eqDiagonalS_L4_sh 0 (l_eqDiagonalS_L4_step)) :=
  loop_ok (E := l_eqDiagonalS_E) (l_eqDiagonalS_Eok) (told := l_eqDiagonalS_told) (l := l_eqDiagonalS_L4_sh) (step := l_eqDiagonalS_L4_step) (loopsOK_of (ls := []) (by kernel_rfl) trivial) (by kernel_rfl) (fun v => by kernel_rfl)
theorem l_eqDiagonalS_ok : FOK Try.prog n_l_eqDiagonalS l_eqDiagonalS_sh l_eqDiagonalS_fo l_eqDiagonalS :=
  fn_ok (E := l_eqDiagonalS_E) (l_eqDiagonalS_Eok) (told := l_eqDiagonalS_told) (fl := []) (c := bodyOf fn_l_eqDiagonalS) (s := l_eqDiagonalS_sh) (l := l_eqDiagonalS_fo) (tree := l_eqDiagonalS_t) fnat_l_eqDiagonalS (by kernel_rfl) (by kernel_rfl) (by kernel_rfl) (loopsOK_of (ls := [loopAt (bodyOf fn_l_eqDiagonalS) [0]]) (by kernel_rfl) ⟨.inr ⟨_, by kernel_rfl, l_eqDiagonalS_L4_ok⟩, trivial⟩) (fun v => by kernel_rfl)

theorem l_eqDiagonalS_eq (a b : List (Int × Int)) (hl : a.length < 4611686018427387904) : l_eqDiagonalS (a, b) = some (decide (a = b)) := by
  by_cases hab : a.length = b.length
  · have h := loop_any (step := fun v => (l_eqDiagonalS_L4_step v).run) (xs := a.zip b) (fun p => !(decide (p.1 = p.2))) (fun k => (a, b, (k : Int))) (.inl false) (.inr ())
      (fun k x hx => by
        have hk := getElem?_lt hx
        rw [List.length_zip, hab, Nat.min_self] at hk
        rw [List.getElem?_zip_eq_some] at hx
        simp only [l_eqDiagonalS_L4_step, T.run, Option.bind_some, Int.toNat_natCast, hx.1, hx.2, Prod.eta, l_eqDiagonal_eq]
        rw [w64_id (by omega) (by omega)]
        have hka : k < a.length := by omega
        cases decide (x.1 = x.2) <;> simp [hk, hka])
      (by simp [l_eqDiagonalS_L4_step, T.run, hab])
    simp only [l_eqDiagonalS, l_eqDiagonalS_t, T.run, l_eqDiagonalS_L4]
    simp only [Int.natCast_zero] at h
    rw [h, hab]
    rw [zip_any_neD a b hab]
    cases decide (a = b) <;> simp
  · simp only [l_eqDiagonalS, l_eqDiagonalS_t, T.run]
    have : a ≠ b := fun e => hab (by rw [e])
    simp [this]
    omega


def l_FnExactIsEqualCut_sh : FSh := ⟨[(.one (.si .i64)), (.one (.sl (.pair (.int .i64) (.int .i64)) false false)), (.one (.si .i64))], []⟩

def l_FnExactIsEqualCut_fo : List FO := [⟨[(.one .sb)], []⟩]
noncomputable def l_FnExactIsEqualCut_t : (Int × List ((Int × Int)) × Int) → T Bool := fun (aN, aDs, aSize) =>
  (.sub (l_szDiagonalS (aDs, (1048576 : Int))) fun z0 =>
  (.test (decide (z0 < 0))
  (.ret true)
  (.sub (l_toDiagonalS aDs) fun z1 =>
   (.test (decide ((0 + (List.length z1.2)) ≤ (List.length z1.2)))
   (.sub (s_IsEqualCut (aN, ((win z1.2 0 (List.length z1.2)), aSize))) fun z2 =>
    (.sub (l_toDiagonalS aDs) fun z3 =>
    (.test (decide ((0 + (List.length z3.2)) ≤ (List.length z3.2)))
    (.sub (i_IsEqualCut (aN, ((win z3.2 0 (List.length z3.2)), aSize))) fun z4 =>
     (.test (! (z4.1 == z2.1))
     (.ret false)
     (.test (! (z4.2 == z2.2))
      (.ret false)
      (.sub (l_toDiagonalS aDs) fun z5 =>
       (.test (decide ((0 + (List.length z3.2)) ≤ (List.length z3.2)))
       (.test (decide ((0 + (List.length z5.2)) ≤ (List.length z5.2)))
        (.sub (l_eqDiagonalS ((win z3.2 0 (List.length z3.2)), (win z5.2 0 (List.length z5.2)))) fun z6 =>
         (.test (! z6)
         (.ret false)
         (.ret true)))
        .fail)
       .fail)))))
    .fail)))
   .fail))))
noncomputable def l_FnExactIsEqualCut (v : (Int × List ((Int × Int)) × Int)) : Option Bool := (l_FnExactIsEqualCut_t v).run
noncomputable def l_FnExactIsEqualCut_E : TEnv := (((((E0.add1 n_l_szDiagonalS l_szDiagonalS_sh l_szDiagonalS_fo l_szDiagonalS).add1 n_l_toDiagonalS l_toDiagonalS_sh l_toDiagonalS_fo l_toDiagonalS).add1 n_s_IsEqualCut s_IsEqualCut_sh s_IsEqualCut_fo s_IsEqualCut).add1 n_i_IsEqualCut i_IsEqualCut_sh i_IsEqualCut_fo i_IsEqualCut).add1 n_l_eqDiagonalS l_eqDiagonalS_sh l_eqDiagonalS_fo l_eqDiagonalS)
theorem l_FnExactIsEqualCut_Eok : (l_FnExactIsEqualCut_E).OK := (((((E0ok.add1 l_szDiagonalS_ok).add1 l_toDiagonalS_ok).add1 s_IsEqualCut_ok).add1 i_IsEqualCut_ok).add1 l_eqDiagonalS_ok)
noncomputable def l_FnExactIsEqualCut_told : Nat → Option SealT := fun id => none
theorem l_FnExactIsEqualCut_ok : FOK Try.prog n_l_FnExactIsEqualCut l_FnExactIsEqualCut_sh l_FnExactIsEqualCut_fo l_FnExactIsEqualCut :=
  fn_ok (E := l_FnExactIsEqualCut_E) (l_FnExactIsEqualCut_Eok) (told := l_FnExactIsEqualCut_told) (fl := []) (c := bodyOf fn_l_FnExactIsEqualCut) (s := l_FnExactIsEqualCut_sh) (l := l_FnExactIsEqualCut_fo) (tree := l_FnExactIsEqualCut_t) fnat_l_FnExactIsEqualCut (by kernel_rfl) (by kernel_rfl) (by kernel_rfl) (loopsOK_of (ls := []) (by kernel_rfl) trivial) (fun v => by kernel_rfl)

theorem l_FnExactIsEqualCut_true (v : Int × List (Int × Int) × Int) (hs : smallL ASh.small [.one (.si .i64), .one (.sl (.pair (.int .i64) (.int .i64)) false false), .one (.si .i64)] v) : l_FnExactIsEqualCut v = some true := by
  obtain ⟨n, ds, size⟩ := v
  have hl0 : ds.length < 140737488355328 := hs.2.1.1
  have hl : ds.length < 4611686018427387904 := by omega
  rw [l_FnExactIsEqualCut, l_FnExactIsEqualCut_t, T.run_sub, l_szDiagonalS_eq ds _ (by decide) hl, Option.bind_some, T.run_test]
  by_cases hsz : ((1048576 : Int) - (ds.length : Int) < 0)
  · rw [if_pos (by rw [if_pos hsz]; rfl)]; rfl
  · obtain ⟨r, hr, hsp⟩ : ∃ r, i_IsEqualCut (n, (ds, size)) = some r ∧ s_IsEqualCut (n, (ds, size)) = some r := by
      rw [i_IsEqualCut, i_IsEqualCut_t, T.run_sub, i_IsCut_eq n ds hl, Option.bind_some, T.run_test, s_IsEqualCut, s_IsEqualCut_t, T.run_sub, s_cuGood_eq n ds hl, Option.bind_some, T.run_test]
      cases h : isCut n ds with
      | false => exact ⟨_, rfl, rfl⟩
      | true =>
        obtain ⟨N, rfl, h3, hN, hlen, hc⟩ := isCut_cut h
        simp only [Bool.not_true, Bool.false_eq_true, if_false, T.run_test]
        by_cases c : size < 3
        · rw [if_pos (decide_eq_true c), if_pos (decide_eq_true c)]; exact ⟨_, rfl, rfl⟩
        · rw [if_neg (by rw [decide_eq_true_eq]; exact c), if_neg (by rw [decide_eq_true_eq]; exact c), T.run_sub, T.run_sub, i_isEqual_eq size h3 hN hlen hc, s_cuEqual_eq size h3 hN hlen hc]
          exact ⟨_, rfl, rfl⟩
    have ht := l_toDiagonalS_eq ds (by omega)
    rw [if_neg (by rw [if_neg hsz, decide_eq_true_eq]; exact hsz)]
    simp (config := { maxSteps := 10000000 }) [T.run, ht, win_all, hr, hsp, l_eqDiagonalS_eq ds ds hl]


end Go.Proofs.W
