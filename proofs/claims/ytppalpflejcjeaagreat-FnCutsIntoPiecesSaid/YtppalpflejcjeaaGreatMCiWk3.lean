import Derived.Test.YtppalpflejcjeaaGreatMCiWk2
set_option linter.unusedVariables false
set_option linter.unusedSimpArgs false
set_option maxRecDepth 100000
set_option maxHeartbeats 4000000
namespace Go.Proofs.W
open Go Go.Gm Go.Proofs
open Go.RowKit Go.Shelf
def F93_sh : FSh := ⟨[(.one (.si .i64)), (.one (.sl (.pair (.int .i64) (.int .i64)) false false))], []⟩
def F93_L3_sh : LSh := ⟨(fun ex => match ex with | .norm => [(1, none), (5, none), (15, none), (16, none)] | .exit i => if i = 0 then [(1, none), (5, none)] else [] | .ret => [(4, none)]), [(1, (.one (.sl (.pair (.int .i64) (.int .i64)) false false))), (5, (.one (.rw 0 0))), (15, (.one (.si .i64))), (16, (.one (.si .i64)))], [(.row 0 (.int .i64))], [⟨(.exit 0), [(1, (.one (.sl (.pair (.int .i64) (.int .i64)) false false))), (5, (.one (.rw 0 0)))], [(.row 0 (.int .i64))]⟩], [], []⟩
noncomputable def F93_L3_step : ((List ((Int × Int)) × Unit × Int × Int) × List (Int)) → T (((List ((Int × Int)) × Unit × Int × Int) × List (Int)) ⊕ ((List ((Int × Int)) × Unit) × List (Int))) := fun ((ds, (), t15, t16), whole) =>
 (.test (decide (t16 < t15))
 (.test (decide (1 ≤ (List.length (List.set (List.replicate 1 (0 : Int)) 0 t16))))
 (.test (decide ((0 + whole.length) ≤ whole.length))
 (.test (decide ((2 * ((whole.length + (List.length (win (List.set (List.replicate 1 (0 : Int)) 0 t16) 0 1))) * 9)) ≤ 140737488355328))
 (.test (decide ((0 = 0) ∧ ((whole.length + (List.length (win (List.set (List.replicate 1 (0 : Int)) 0 t16) 0 1))) = (List.length ((win whole 0 whole.length) ++ (win (List.set (List.replicate 1 (0 : Int)) 0 t16) 0 1))))))
 (.ret (Sum.inl ((ds, ((), (t15, (w64 (t16 + 1))))), ((win whole 0 whole.length) ++ (win (List.set (List.replicate 1 (0 : Int)) 0 t16) 0 1)))))
 .fail)
 .fail)
 .fail)
 .fail)
 (.test (decide ((0 = 0) ∧ (whole.length = whole.length)))
 (.ret (Sum.inr ((ds, ()), whole)))
 .fail))
noncomputable def F93_L3 (v) := loopO (fun v => (F93_L3_step v).run) v
def F93_L12_sh : LSh := ⟨(fun ex => match ex with | .norm => [(7, none), (9, none), (26, none), (27, none), (28, none), (32, none), (33, none), (34, none)] | .exit i => if i = 4 then [(7, none), (26, none), (27, none), (28, none)] else if i = 3 then [(7, none), (26, none), (27, none), (28, none)] else if i = 2 then [(7, none)] else [] | .ret => [(4, none)]), [(7, (.one (.rw 0 0))), (9, (.one (.pf 1 0 0))), (26, (.one (.sl (.pair (.int .i64) (.int .i64)) false false))), (27, (.one (.si .i64))), (28, (.one (.si .i64))), (32, (.one (.rw 0 0))), (33, (.one (.si .i64))), (34, (.one (.si .i64)))], [(.row 0 (.list true (.int .i64))), (.rcd 0 [(.si .i64), (.si .i64)])], [⟨(.exit 4), [(7, (.one (.rw 0 0))), (26, (.one (.sl (.pair (.int .i64) (.int .i64)) false false))), (27, (.one (.si .i64))), (28, (.one (.si .i64)))], [(.row 0 (.list true (.int .i64)))]⟩], [], []⟩
noncomputable def F93_L12_step : ((Unit × Unit × List ((Int × Int)) × Int × Int × Unit × Int × Int) × (List (List (Int)) × (Int × Int))) → T (((Unit × Unit × List ((Int × Int)) × Int × Int × Unit × Int × Int) × (List (List (Int)) × (Int × Int))) ⊕ ((Unit × List ((Int × Int)) × Int × Int) × List (List (Int)))) := fun (((), (), t26, t27, t28, (), t33, t34), (out, (d_0, d_1))) =>
 (.test (decide (t34 < t33))
 (.test (decide ((0 ≤ t34) ∧ (t34 < (out.length : Int))))
 (.sub (out[(0 + (Int.toNat t34))]?) fun z0 =>
 (.sub (F35 (z0, d_0)) fun z1 =>
 (.sub (F35 (z0, d_1)) fun z2 =>
 (.test (decide (z1 ≥ 0))
 (.test (decide (z2 ≥ 0))
 (.test (decide (0 ≤ (w64 (z1 + 1))))
 (.test (decide ((0 ≤ (Int.toNat (w64 (z1 + 1)))) ∧ ((Int.toNat (w64 (z1 + 1))) ≤ z0.length)))
 (.test (decide (0 ≤ z2))
 (.test (decide (((Int.toNat z2) ≤ z0.length) ∧ (z0.length ≤ z0.length)))
 (.test (decide (2 ≤ (List.length (List.set (List.set (List.replicate 2 ([] : List (Int))) 0 (win z0 0 ((Int.toNat (w64 (z1 + 1))) - 0))) 1 (win z0 (Int.toNat z2) (z0.length - (Int.toNat z2)))))))
 (.sub (F28 (win (List.set (List.set (List.replicate 2 ([] : List (Int))) 0 (win z0 0 ((Int.toNat (w64 (z1 + 1))) - 0))) 1 (win z0 (Int.toNat z2) (z0.length - (Int.toNat z2)))) 0 2)) fun z3 =>
 (.test (decide ((0 ≤ t34) ∧ (t34 < (out.length : Int))))
 (.test (decide ((0 + z3.2.length) ≤ z3.2.length))
 (.sub (out[(0 + (Int.toNat t34))]?) fun z4 =>
 (.test (decide (0 ≤ z1))
 (.test (decide (0 ≤ (w64 (z2 + 1))))
 (.test (decide (((Int.toNat z1) ≤ (Int.toNat (w64 (z2 + 1)))) ∧ ((Int.toNat (w64 (z2 + 1))) ≤ z0.length)))
 (.sub (F36 (win z0 (Int.toNat z1) ((Int.toNat (w64 (z2 + 1))) - (Int.toNat z1)))) fun z5 =>
 (.test (decide ((0 + z5.2.length) ≤ z5.2.length))
 (.test (decide (1 ≤ (List.length (List.set (List.replicate 1 ([] : List (Int))) 0 (win z5.2 0 z5.2.length)))))
 (.test (decide ((0 + out.length) ≤ (List.length (List.set out (0 + (Int.toNat t34)) (win z3.2 0 z3.2.length)))))
 (.test (decide ((2 * ((out.length + (List.length (win (List.set (List.replicate 1 ([] : List (Int))) 0 (win z5.2 0 z5.2.length)) 0 1))) * 25)) ≤ 140737488355328))
 (.test (decide ((0 = 0) ∧ ((out.length + (List.length (win (List.set (List.replicate 1 ([] : List (Int))) 0 (win z5.2 0 z5.2.length)) 0 1))) = (List.length ((win (List.set out (0 + (Int.toNat t34)) (win z3.2 0 z3.2.length)) 0 out.length) ++ (win (List.set (List.replicate 1 ([] : List (Int))) 0 (win z5.2 0 z5.2.length)) 0 1))))))
 (.ret (Sum.inr (((), (t26, (t27, t28))), ((win (List.set out (0 + (Int.toNat t34)) (win z3.2 0 z3.2.length)) 0 out.length) ++ (win (List.set (List.replicate 1 ([] : List (Int))) 0 (win z5.2 0 z5.2.length)) 0 1)))))
 .fail)
 .fail)
 .fail)
 .fail)
 .fail))
 .fail)
 .fail)
 .fail))
 .fail)
 .fail))
 .fail)
 .fail)
 .fail)
 .fail)
 .fail)
 (.test (decide ((0 = 0) ∧ (out.length = out.length)))
 (.test (decide ((0 = 0) ∧ (out.length = out.length)))
 (.ret (Sum.inl (((), ((), (t26, (t27, (t28, ((), (t33, (w64 (t34 + 1))))))))), (out, (d_0, d_1)))))
 .fail)
 .fail))
 (.test (decide ((0 = 0) ∧ (out.length = out.length)))
 (.test (decide ((0 = 0) ∧ (out.length = out.length)))
 (.ret (Sum.inl (((), ((), (t26, (t27, (t28, ((), (t33, (w64 (t34 + 1))))))))), (out, (d_0, d_1)))))
 .fail)
 .fail)))))
 .fail)
 (.test (decide ((0 = 0) ∧ (out.length = out.length)))
 (.ret (Sum.inr (((), (t26, (t27, t28))), out)))
 .fail))
noncomputable def F93_L12 (v) := loopO (fun v => (F93_L12_step v).run) v
def F93_L9_sh : LSh := ⟨(fun ex => match ex with | .norm => [(7, none), (26, none), (27, none), (28, none)] | .exit i => if i = 2 then [(7, none)] else [] | .ret => [(4, none)]), [(7, (.one (.rw 0 0))), (26, (.one (.sl (.pair (.int .i64) (.int .i64)) false false))), (27, (.one (.si .i64))), (28, (.one (.si .i64)))], [(.row 0 (.list true (.int .i64)))], [⟨(.exit 2), [(7, (.one (.rw 0 0)))], [(.row 0 (.list true (.int .i64)))]⟩], [], []⟩
noncomputable def F93_L9_step : ((Unit × List ((Int × Int)) × Int × Int) × List (List (Int))) → T (((Unit × List ((Int × Int)) × Int × Int) × List (List (Int))) ⊕ (Unit × List (List (Int)))) := fun (((), t26, t27, t28), out) =>
 (.test (decide (t28 < t27))
 (.test (decide ((0 ≤ t28) ∧ (t28 < (t26.length : Int))))
 (.sub (t26[(Int.toNat t28)]?) fun z0 =>
 (.test (decide ((0 = 0) ∧ (out.length = out.length)))
 (.test (decide ((0 = 0) ∧ (out.length = out.length)))
 (.sub (F93_L12 (((), ((), (t26, (t27, (t28, ((), ((out.length : Int), (0 : Int)))))))), (out, (z0.1, z0.2)))) fun z1 =>
 (.test (decide ((0 = 0) ∧ (z1.2.length = z1.2.length)))
 (.ret (Sum.inl (((), (z1.1.2.1, (z1.1.2.2.1, (w64 (z1.1.2.2.2 + 1))))), z1.2)))
 .fail))
 .fail)
 .fail))
 .fail)
 (.test (decide ((0 = 0) ∧ (out.length = out.length)))
 (.ret (Sum.inr ((), out)))
 .fail))
noncomputable def F93_L9 (v) := loopO (fun v => (F93_L9_step v).run) v
def F93_fo : List FO := [⟨[(.one (.rw 0 0))], [(.row 0 (.list true (.int .i64)))]⟩]
noncomputable def F93_t : (Int × List ((Int × Int))) → T (Unit × List (List (Int))) := fun (n, ds) =>
 (.test true
 (.sub (F93_L3 ((ds, ((), (n, (0 : Int)))), (List.replicate 0 (0 : Int)))) fun z0 =>
 (.test (decide ((0 + z0.2.length) ≤ z0.2.length))
 (.test (decide ((0 = 0) ∧ (1 = (List.length (List.set (List.replicate 1 ([] : List (Int))) 0 (win z0.2 0 z0.2.length))))))
 (.sub (F93_L9 (((), (z0.1.1, ((z0.1.1.length : Int), (0 : Int)))), (List.set (List.replicate 1 ([] : List (Int))) 0 (win z0.2 0 z0.2.length)))) fun z1 =>
 (.test (decide ((0 = 0) ∧ (z1.2.length = z1.2.length)))
 (.sub (F8 (((), ()), z1.2)) fun z2 =>
 (.test (decide ((0 = 0) ∧ (z1.2.length = z2.2.length)))
 (.ret ((), z2.2))
 .fail))
 .fail))
 .fail)
 .fail))
 .fail)
noncomputable def F93 (v) := (F93_t v).run
noncomputable def F93_E : TEnv := ((((E0.add1 n_F35 F35_sh F35_fo F35).add1 n_F28 F28_sh F28_fo F28).add1 n_F36 F36_sh F36_fo F36).add1 n_F23 F8_sh F8_fo F8)
theorem F93_Eok : (F93_E).OK := ((((E0ok.add1 F35_ok).add1 F28_ok).add1 F36_ok).add1 F8_ok)
noncomputable def F93_told : Nat → Option SealT := fun id => if id = 3 then some (LSh.told F93_L3_sh 0 (F93_L3_step)) else if id = 12 then some (LSh.told F93_L12_sh 0 (F93_L12_step)) else if id = 9 then some (LSh.told F93_L9_sh 0 (F93_L9_step)) else none
theorem F93_L3_ok : ToldOK Tryz.prog 0 (loopAt (bodyOf fn_F93) [0]) (LSh.told F93_L3_sh 0 (F93_L3_step)) :=
 loop_ok (E := F93_E) (F93_Eok) (told := F93_told) (l := F93_L3_sh) (step := F93_L3_step) (loopsOK_of (ls := []) (by kernel_rfl) trivial) (by kernel_rfl) (fun v => by kernel_rfl)
theorem F93_L12_ok : ToldOK Tryz.prog 0 (loopAt (bodyOf fn_F93) [1, 0]) (LSh.told F93_L12_sh 0 (F93_L12_step)) :=
 loop_ok (E := F93_E) (F93_Eok) (told := F93_told) (l := F93_L12_sh) (step := F93_L12_step) (loopsOK_of (ls := []) (by kernel_rfl) trivial) (by kernel_rfl) (fun v => by kernel_rfl)
theorem F93_L9_ok : ToldOK Tryz.prog 0 (loopAt (bodyOf fn_F93) [1]) (LSh.told F93_L9_sh 0 (F93_L9_step)) :=
 loop_ok (E := F93_E) (F93_Eok) (told := F93_told) (l := F93_L9_sh) (step := F93_L9_step) (loopsOK_of (ls := [loopAt (bodyOf fn_F93) [1, 0]]) (by kernel_rfl) ⟨.inr ⟨_, by kernel_rfl, F93_L12_ok⟩, trivial⟩) (by kernel_rfl) (fun v => by kernel_rfl)
theorem F93_ok : FOK Tryz.prog n_F93 F93_sh F93_fo F93 :=
 fn_ok (E := F93_E) (F93_Eok) (told := F93_told) (fl := []) (c := bodyOf fn_F93) (s := F93_sh) (l := F93_fo) (tree := F93_t) fnat_F93 (by kernel_rfl) (by kernel_rfl) (by kernel_rfl) (loopsOK_of (ls := [loopAt (bodyOf fn_F93) [0], loopAt (bodyOf fn_F93) [1]]) (by kernel_rfl) ⟨.inr ⟨_, by kernel_rfl, F93_L3_ok⟩, ⟨.inr ⟨_, by kernel_rfl, F93_L9_ok⟩, trivial⟩⟩) (fun v => by kernel_rfl)
theorem F93_whole (ds : List Dg) (N : Nat) (hN : N ≤ 12) : ∀ (m k : Nat), k + m = N → F93_L3 ((ds, ((), ((N : Int), (k : Int)))), nameL k) = some ((ds, ()), nameL N) := by
 intro m
 induction m with
 | zero =>
  intro k hk
  have e : k = N := by omega
  subst e
  simp only [F93_L3]
  refine loopO_done ?_
  rw [F93_L3_step, T.run_test, if_neg (by simp), T.run_test, if_pos (by simp), T.run_ret]
 | succ m ih =>
  intro k hk
  have w1 : w64 ((k : Int) + 1) = ((k + 1 : Nat) : Int) := by rw [w64_id (by omega) (by omega)]; omega
  have := ih (k + 1) (by omega)
  simp only [F93_L3] at this ⊢
  rw [← this]
  refine loopO_next ?_
  rw [F93_L3_step, T.run_test, if_pos (decide_eq_true (by omega)), T.run_test, if_pos (by simp), T.run_test, if_pos (by simp), win_all, win_one, T.run_test, if_pos (by exact decide_eq_true (by rw [nameL_length, List.length_singleton]; omega)), T.run_test, if_pos (by simp), T.run_ret, w1, nameL_succ]
theorem F93_cut {p : List Int} (hs : p.Pairwise (· < ·)) {d : Dg} {i j : Nat} (hi : i < p.length) (hj : j < p.length) (ei : p[i] = d.1) (ej : p[j] = d.2) (hd : d.1 < d.2) :
  p.filter (fun v => decide (v ≤ d.1 ∨ d.2 ≤ v)) = p.take (i + 1) ++ p.drop j ∧ p.filter (fun v => decide (d.1 ≤ v ∧ v ≤ d.2)) = (p.drop i).take (j + 1 - i) ∧ i < j := by
 have hij : i < j := (sorted_lt hs hi hj).1 (by rw [ei, ej]; exact hd)
 have lt : ∀ x (h : x < p.length), (p[x] < d.1 ↔ x < i) ∧ (p[x] < d.2 ↔ x < j) := fun x h => ⟨by rw [← ei]; exact sorted_lt hs h hi, by rw [← ej]; exact sorted_lt hs h hj⟩
 have gt : ∀ x (h : x < p.length), (d.1 < p[x] ↔ i < x) ∧ (d.2 < p[x] ↔ j < x) := fun x h => ⟨by rw [← ei]; exact sorted_lt hs hi h, by rw [← ej]; exact sorted_lt hs hj h⟩
 refine ⟨?_, ?_, hij⟩
 ·refine filter_out p _ (i + 1) j (by omega) (by omega) (fun x h hx => ?_) (fun x h h1 h2 => ?_) (fun x h hx => ?_)
  ·have := gt x h; rw [decide_eq_true_eq]; omega
  ·have := gt x h; have := lt x h; rw [decide_eq_false_iff_not]; omega
  ·have := lt x h; rw [decide_eq_true_eq]; omega
 ·refine filter_mid p _ i (j + 1) (by omega) (by omega) (fun x h hx => ?_) (fun x h h1 h2 => ?_) (fun x h hx => ?_)
  ·have := lt x h; rw [decide_eq_false_iff_not]; omega
  ·have := gt x h; have := lt x h; rw [decide_eq_true_eq]; omega
  ·have := gt x h; rw [decide_eq_false_iff_not]; omega
theorem F93_L12_eq (t26 : List Dg) (t27 t28 : Int) (d : Dg) (hd : d.1 < d.2) : ∀ (rest pre out : List (List Int)), out = pre ++ rest → out.length ≤ 100 → (∀ p ∈ out, p.Pairwise (· < ·) ∧ p.length ≤ 100) →
  F93_L12 (((), ((), (t26, (t27, (t28, ((), ((out.length : Int), (pre.length : Int)))))))), (out, d)) = some (((), (t26, (t27, t28))), pre ++ splitD d rest) := by
 intro rest
 induction rest with
 | nil =>
  intro pre out ho hl hp
  rw [List.append_nil] at ho
  subst ho
  simp only [F93_L12]
  refine loopO_done ?_
  rw [F93_L12_step, T.run_test, if_neg (by simp), T.run_test, if_pos (by simp), T.run_ret, splitD, List.append_nil]
 | cons p t ih =>
  intro pre out ho hl hp
  have hlen : out.length = pre.length + (t.length + 1) := by rw [ho, List.length_append, List.length_cons]
  have hg : out[pre.length]? = some p := by rw [ho, List.getElem?_append_right (Nat.le_refl _), Nat.sub_self]; rfl
  have hpm : p ∈ out := by rw [ho]; simp
  obtain ⟨hs, hpl⟩ := hp p hpm
  have x1 := F35_eq p d.1 (by omega)
  have x2 := F35_eq p d.2 (by omega)
  have w1 : w64 ((pre.length : Int) + 1) = (((pre ++ [p]).length : Nat) : Int) := by rw [List.length_append, List.length_singleton, w64_id (by omega) (by omega)]; omega
  have next := ih (pre ++ [p]) out (by rw [ho]; simp) hl hp
  have go : ¬ (d.1 ∈ p ∧ d.2 ∈ p) → (F93_L12_step (((), ((), (t26, (t27, (t28, ((), ((out.length : Int), (pre.length : Int)))))))), (out, d))).run = some (.inl (((), ((), (t26, (t27, (t28, ((), ((out.length : Int), (((pre ++ [p]).length : Nat) : Int)))))))), (out, d))) := by
   intro c
   rw [F93_L12_step, T.run_test, if_pos (decide_eq_true (by omega)), T.run_test, if_pos (decide_eq_true (by omega)), T.run_sub, Nat.zero_add, Int.toNat_natCast, hg, Option.bind_some, T.run_sub, x1, Option.bind_some, T.run_sub, x2, Option.bind_some, T.run_test]
   by_cases c1 : d.1 ∈ p
   ·obtain ⟨i, hi, ei, e1⟩ := idxI_yes c1
    have e2 := idxI_no (fun h => c ⟨c1, h⟩)
    rw [e1, e2, if_pos (decide_eq_true (by omega)), T.run_test, if_neg (by simp), T.run_test, if_pos (by simp), T.run_test, if_pos (by simp), T.run_ret, w1]
   ·rw [idxI_no c1, if_neg (by simp), T.run_test, if_pos (by simp), T.run_test, if_pos (by simp), T.run_ret, w1]
  by_cases c : d.1 ∈ p ∧ d.2 ∈ p
  ·obtain ⟨i, hi, ei, e1⟩ := idxI_yes c.1
   obtain ⟨j, hj, ej, e2⟩ := idxI_yes c.2
   obtain ⟨f1, f2, hij⟩ := F93_cut hs hi hj ei ej hd
   rw [e1] at x1
   rw [e2] at x2
   have v1 : w64 ((i : Int) + 1) = ((i + 1 : Nat) : Int) := by rw [w64_id (by omega) (by omega)]; omega
   have v2 : w64 ((j : Int) + 1) = ((j + 1 : Nat) : Int) := by rw [w64_id (by omega) (by omega)]; omega
   have g1 : win p 0 (i + 1 - 0) = p.take (i + 1) := by rw [win_take, Nat.sub_zero]
   have g2 : win p j (p.length - j) = p.drop j := by unfold win; rw [List.take_of_length_le (by simp)]
   have g3 : win p i (j + 1 - i) = (p.drop i).take (j + 1 - i) := rfl
   have g4 : win (List.set (List.set (List.replicate 2 ([] : List Int)) 0 (p.take (i + 1))) 1 (p.drop j)) 0 2 = [p.take (i + 1), p.drop j] := rfl
   have hcat := F28_two (p.take (i + 1)) (p.drop j) (by rw [List.length_take, List.length_drop]; omega)
   have hml : ((p.drop i).take (j + 1 - i)).length ≤ 100 := by rw [List.length_take, List.length_drop]; omega
   have hcl : F36 ((p.drop i).take (j + 1 - i)) = some ((), (p.drop i).take (j + 1 - i)) := by
    unfold F36
    rw [if_pos ⟨by unfold maxLen; omega, by omega⟩]
   have hset : out.set pre.length (p.take (i + 1) ++ p.drop j) = pre ++ (p.take (i + 1) ++ p.drop j) :: t := by
    rw [ho, List.set_append_right _ _ (Nat.le_refl _), Nat.sub_self]; rfl
   have hwo : win (pre ++ (p.take (i + 1) ++ p.drop j) :: t) 0 out.length = pre ++ (p.take (i + 1) ++ p.drop j) :: t := by
    have := win_all (pre ++ (p.take (i + 1) ++ p.drop j) :: t)
    rwa [List.length_append, List.length_cons, ← hlen] at this
   have hsl : (pre ++ (p.take (i + 1) ++ p.drop j) :: t).length = out.length := by rw [List.length_append, List.length_cons, ← hlen]
   rw [splitD, if_pos c, f1, f2]
   simp only [F93_L12]
   refine loopO_done ?_
   rw [F93_L12_step, T.run_test, if_pos (decide_eq_true (by omega)), T.run_test, if_pos (decide_eq_true (by omega)), T.run_sub, Nat.zero_add, Int.toNat_natCast, hg, Option.bind_some, T.run_sub, x1, Option.bind_some, T.run_sub, x2, Option.bind_some, T.run_test, if_pos (decide_eq_true (by omega)), T.run_test, if_pos (decide_eq_true (by omega)), v1, T.run_test, if_pos (decide_eq_true (by omega)), T.run_test, if_pos (decide_eq_true (by omega)), T.run_test, if_pos (decide_eq_true (by omega)), T.run_test, if_pos (decide_eq_true (by omega)), T.run_test, if_pos (by simp), T.run_sub]
   simp only [Int.toNat_natCast, g1, g2, g4, hcat, Option.bind_some]
   rw [T.run_test, if_pos (decide_eq_true (by omega)), T.run_test, if_pos (by simp), T.run_sub, Option.bind_some, T.run_test, if_pos (decide_eq_true (by omega)), v2, T.run_test, if_pos (decide_eq_true (by omega)), T.run_test, if_pos (decide_eq_true (by omega)), T.run_sub]
   simp only [Int.toNat_natCast, g3, hcl, Option.bind_some, win_all, hset, hwo, show ∀ q : List Int, win (List.set (List.replicate 1 ([] : List Int)) 0 q) 0 1 = [q] from fun q => rfl]
   rw [T.run_test, if_pos (by simp), T.run_test, if_pos (by simp), T.run_test, if_pos (by exact decide_eq_true (by rw [hsl]; omega)), T.run_test, if_pos (by exact decide_eq_true (by rw [List.length_singleton]; omega)), T.run_test, if_pos (by exact decide_eq_true (by rw [List.length_append, hsl]; exact ⟨trivial, rfl⟩)), T.run_ret]
   simp
  ·rw [splitD, if_neg c]
   simp only [F93_L12] at next ⊢
   rw [loopO_next (go c), next, List.append_assoc]
   rfl
theorem F93_L9_eq {N : Nat} (h3 : 3 ≤ N) (hN : N ≤ 12) (ds : List Dg) (hc : CutD N ds) (hl : ds.length ≤ 12) : ∀ (m k : Nat) (out : List (List Int)), k + m = ds.length → out.Perm ((wholeD N :: ds.take k).map (pcs N (ds.take k))) →
  F93_L9 (((), (ds, ((ds.length : Int), (k : Int)))), out) = some ((), (ds.drop k).foldl (fun out d => splitD d out) out) := by
 intro m
 induction m with
 | zero =>
  intro k out hk ho
  rw [List.drop_eq_nil_of_le (by omega)]
  simp only [F93_L9]
  refine loopO_done ?_
  rw [F93_L9_step, T.run_test, if_neg (by rw [decide_eq_true_eq]; omega), T.run_test, if_pos (by simp), T.run_ret]
  rfl
 | succ m ih =>
  intro k out hk ho
  have hlt : k < ds.length := by omega
  have w1 : w64 ((k : Int) + 1) = ((k + 1 : Nat) : Int) := by rw [w64_id (by omega) (by omega)]; omega
  have hte : ds.take (k + 1) = ds.take k ++ [ds[k]] := by rw [List.take_add_one, List.getElem?_eq_getElem hlt]; rfl
  have hcut : CutD N (ds.take k ++ [ds[k]]) := by
   rw [← hte]
   refine CutD.front (es := ds.drop (k + 1)) ?_
   rw [List.take_append_drop]; exact hc
  have hd := hc.1 ds[k] (List.getElem_mem hlt)
  have hol : out.length ≤ 20 := by
   have := ho.length_eq
   simp only [List.length_map, List.length_cons, List.length_take] at this
   omega
  have hp : ∀ p ∈ out, p.Pairwise (· < ·) ∧ p.length ≤ 100 := fun p hp => by
   obtain ⟨q, hq, rfl⟩ := List.mem_map.1 (ho.mem_iff.1 hp)
   have := (pcs_len hcut.front h3 hq).2
   exact ⟨pcs_sorted .., by omega⟩
  have h12 := F93_L12_eq ds (ds.length : Int) (k : Int) ds[k] (by omega) out [] out rfl (by omega) hp
  have := ih (k + 1) (splitD ds[k] out) (by omega) (by rw [hte]; exact split_perm hcut ho)
  rw [List.nil_append] at h12
  rw [List.drop_eq_getElem_cons hlt, List.foldl_cons]
  simp only [F93_L9] at this ⊢
  rw [← this]
  refine loopO_next ?_
  have h12' : F93_L12 (((), ((), (ds, ((ds.length : Int), ((k : Int), ((), ((out.length : Int), (0 : Int)))))))), (out, (ds[k].1, ds[k].2))) = some (((), (ds, ((ds.length : Int), (k : Int)))), splitD ds[k] out) := h12
  rw [F93_L9_step, T.run_test, if_pos (decide_eq_true (by omega)), T.run_test, if_pos (decide_eq_true (by omega)), T.run_sub, Int.toNat_natCast, List.getElem?_eq_getElem hlt, Option.bind_some, T.run_test, if_pos (by simp), T.run_test, if_pos (by simp), T.run_sub, h12', Option.bind_some, T.run_test, if_pos (by simp), T.run_ret, w1]
theorem F93_eq {N : Nat} {ds : List Dg} (h3 : 3 ≤ N) (hN : N ≤ 12) (hl : ds.length ≤ 12) (hc : CutD N ds) : F93 ((N : Int), ds) = some ((), sortL (specP N ds)) := by
 have hw := F93_whole ds N hN N 0 (by omega)
 have h9 := F93_L9_eq h3 hN ds hc hl ds.length 0 [nameL N] (by omega) (by
  have : pcs N [] (wholeD N) = nameL N := by
   unfold pcs covD wholeD
   rw [List.filter_eq_self]
   intro v hv
   have := nameL_mem hv
   simp; omega
  simp [this])
 rw [Int.natCast_zero] at hw h9
 rw [List.drop_zero] at h9
 change _ = some ((), implP N ds) at h9
 have hsl := implP_count h3 hc
 have hsort := F8_eq (implP N ds) (by omega) fun l hl => by have := implP_len h3 hc hl; omega
 have hsame : sortL (implP N ds) = sortL (specP N ds) := sortL_unique (sortL_up _) ((sortL_perm _).trans (pieces_same h3 hc))
 rw [F93, F93_t, T.run_test, if_pos rfl, T.run_sub, show List.replicate 0 (0 : Int) = nameL 0 from rfl, hw, Option.bind_some, T.run_test, if_pos (by simp), T.run_test, if_pos (by simp), T.run_sub, win_all, show List.set (List.replicate 1 ([] : List Int)) 0 (nameL N) = [nameL N] from rfl, h9, Option.bind_some, T.run_test, if_pos (by simp), T.run_sub, hsort, Option.bind_some, T.run_test, if_pos (by exact decide_eq_true ⟨rfl, (sortL_perm _).length_eq.symm⟩), T.run_ret, hsame]
def F48_sh : FSh := ⟨[(.one (.si .i64)), (.one (.sl (.pair (.int .i64) (.int .i64)) false false))], []⟩
def F48_fo : List FO := [⟨[(.one (.rw 0 0)), (.one .sb)], [(.row 0 (.list true (.int .i64)))]⟩]
noncomputable def F48_t : (Int × List ((Int × Int))) → T ((Unit × Bool) × List (List (Int))) := fun (n, ds) =>
 (.sub (F106 (n, ds)) fun z0 =>
 (.test (! z0)
 (.test true
 (.ret (((), false), ([] : List (List Int))))
 .fail)
 (.sub (F93 (n, ds)) fun z1 =>
 (.test (decide ((0 = 0) ∧ (z1.2.length = z1.2.length)))
 (.ret (((), true), z1.2))
 .fail))))
noncomputable def F48 (v) := (F48_t v).run
noncomputable def F48_E : TEnv := ((E0.add1 n_F106 F106_sh F106_fo F106).add1 n_F93 F93_sh F93_fo F93)
theorem F48_Eok : (F48_E).OK := ((E0ok.add1 F106_ok).add1 F93_ok)
noncomputable def F48_told : Nat → Option SealT := fun id => none
theorem F48_ok : FOK Tryz.prog n_F48 F48_sh F48_fo F48 :=
 fn_ok (E := F48_E) (F48_Eok) (told := F48_told) (fl := []) (c := bodyOf fn_F48) (s := F48_sh) (l := F48_fo) (tree := F48_t) fnat_F48 (by kernel_rfl) (by kernel_rfl) (by kernel_rfl) (loopsOK_of (ls := []) (by kernel_rfl) trivial) (fun v => by kernel_rfl)
def piR (n : Int) (ds : List Dg) : (Unit × Bool) × List (List Int) := if isCut n ds = true then (((), true), sortL (specP n.toNat ds)) else (((), false), [])
theorem F48_eq (n : Int) (ds : List Dg) (hl : ds.length < 4611686018427387904) : F48 (n, ds) = some (piR n ds) := by
 unfold piR
 rw [F48, F48_t, T.run_sub, F106_eq n ds hl, Option.bind_some, T.run_test]
 by_cases c : isCut n ds = true
 ·obtain ⟨N, rfl, h3, h12, hlen, hc⟩ := isCut_cut c
  rw [c, if_neg (by decide), T.run_sub, F93_eq h3 h12 (by omega) hc, Option.bind_some, T.run_test, if_pos (by simp), T.run_ret, if_pos rfl, Int.toNat_natCast]
 ·rw [if_pos (by simp at c ⊢; exact c), T.run_test, if_pos rfl, T.run_ret, if_neg c]
def F94_sh : FSh := ⟨[(.one (.si .i64)), (.one (.sl (.pair (.int .i64) (.int .i64)) false false))], []⟩
def F94_L9_sh : LSh := ⟨(fun ex => match ex with | .norm => [(0, none), (1, none), (6, none), (19, none), (20, none), (21, none), (46, none), (47, none), (48, none)] | .exit i => if i = 2 then [(0, none), (1, none), (19, none), (20, none), (21, none)] else if i = 1 then [(0, none), (1, none), (19, none), (20, none), (21, none)] else if i = 0 then [] else [] | .ret => [(4, none)]), [(0, (.one (.si .i64))), (1, (.one (.sl (.pair (.int .i64) (.int .i64)) false false))), (6, (.one (.pf 0 0 0))), (19, (.one (.sl (.pair (.int .i64) (.int .i64)) false false))), (20, (.one (.si .i64))), (21, (.one (.si .i64))), (46, (.one (.sl (.pair (.int .i64) (.int .i64)) false false))), (47, (.one (.si .i64))), (48, (.one (.si .i64)))], [(.rcd 0 [(.si .i64), (.si .i64)])], [⟨.ret, [(4, (.one .sb))], []⟩, ⟨(.exit 2), [(0, (.one (.si .i64))), (1, (.one (.sl (.pair (.int .i64) (.int .i64)) false false))), (19, (.one (.sl (.pair (.int .i64) (.int .i64)) false false))), (20, (.one (.si .i64))), (21, (.one (.si .i64)))], []⟩], [], []⟩
noncomputable def F94_L9_step : ((Int × List ((Int × Int)) × Unit × List ((Int × Int)) × Int × Int × List ((Int × Int)) × Int × Int) × (Int × Int)) → T (((Int × List ((Int × Int)) × Unit × List ((Int × Int)) × Int × Int × List ((Int × Int)) × Int × Int) × (Int × Int)) ⊕ (Bool ⊕ (Int × List ((Int × Int)) × List ((Int × Int)) × Int × Int))) := fun ((n, ds, (), t19, t20, t21, t46, t47, t48), (d_0, d_1)) =>
 (.test (decide (t48 < t47))
 (.test (decide ((0 ≤ t48) ∧ (t48 < (t46.length : Int))))
 (.sub (t46[(Int.toNat t48)]?) fun z0 =>
 (.sub (F81 ((d_0, d_1), (z0.1, z0.2))) fun z1 =>
 (.test z1
 (.ret (Sum.inr (Sum.inl false)))
 (.ret (Sum.inl ((n, (ds, ((), (t19, (t20, (t21, (t46, (t47, (w64 (t48 + 1)))))))))), (d_0, d_1)))))))
 .fail)
 (.ret (Sum.inr (Sum.inr (n, (ds, (t19, (t20, t21))))))))
noncomputable def F94_L9 (v) := loopO (fun v => (F94_L9_step v).run) v
def F94_L4_sh : LSh := ⟨(fun ex => match ex with | .norm => [(0, none), (1, none), (19, none), (20, none), (21, none)] | .exit i => if i = 0 then [] else [] | .ret => [(4, none)]), [(0, (.one (.si .i64))), (1, (.one (.sl (.pair (.int .i64) (.int .i64)) false false))), (19, (.one (.sl (.pair (.int .i64) (.int .i64)) false false))), (20, (.one (.si .i64))), (21, (.one (.si .i64)))], [], [⟨.ret, [(4, (.one .sb))], []⟩, ⟨(.exit 0), [], []⟩], [], []⟩
noncomputable def F94_L4_step : (Int × List ((Int × Int)) × List ((Int × Int)) × Int × Int) → T ((Int × List ((Int × Int)) × List ((Int × Int)) × Int × Int) ⊕ (Bool ⊕ Unit)) := fun (n, ds, t19, t20, t21) =>
 (.test (decide (t21 < t20))
 (.test (decide ((0 ≤ t21) ∧ (t21 < (t19.length : Int))))
 (.sub (t19[(Int.toNat t21)]?) fun z0 =>
 (.sub (F57 (n, (z0.1, z0.2))) fun z1 =>
 (.test (! z1)
 (.ret (Sum.inr (Sum.inl false)))
 (.test (decide (t21 > 0))
 (.test (decide ((0 ≤ (w64 (t21 - 1))) ∧ ((w64 (t21 - 1)) < (ds.length : Int))))
 (.sub (ds[(Int.toNat (w64 (t21 - 1)))]?) fun z2 =>
 (.sub (F89 ((z2.1, z2.2), (z0.1, z0.2))) fun z3 =>
 (.test (! z3)
 (.ret (Sum.inr (Sum.inl false)))
 (.test (decide (0 ≤ t21))
 (.test (decide ((0 ≤ (Int.toNat t21)) ∧ ((Int.toNat t21) ≤ ds.length)))
 (.sub (F94_L9 ((n, (ds, ((), (t19, (t20, (t21, ((win ds 0 ((Int.toNat t21) - 0)), (((List.length (win ds 0 ((Int.toNat t21) - 0))) : Int), (0 : Int))))))))), (z0.1, z0.2))) fun z4 =>
 (.test (Sum.isLeft z4)
 (.sub (Sum.getLeft? z4) fun z5 =>
 (.ret (Sum.inr (Sum.inl z5))))
 (.sub (Sum.getRight? z4) fun z6 =>
 (.ret (Sum.inl (z6.1, (z6.2.1, (z6.2.2.1, (z6.2.2.2.1, (w64 (z6.2.2.2.2 + 1)))))))))))
 .fail)
 .fail))))
 .fail)
 (.test (decide (0 ≤ t21))
 (.test (decide ((0 ≤ (Int.toNat t21)) ∧ ((Int.toNat t21) ≤ ds.length)))
 (.sub (F94_L9 ((n, (ds, ((), (t19, (t20, (t21, ((win ds 0 ((Int.toNat t21) - 0)), (((List.length (win ds 0 ((Int.toNat t21) - 0))) : Int), (0 : Int))))))))), (z0.1, z0.2))) fun z7 =>
 (.test (Sum.isLeft z7)
 (.sub (Sum.getLeft? z7) fun z8 =>
 (.ret (Sum.inr (Sum.inl z8))))
 (.sub (Sum.getRight? z7) fun z9 =>
 (.ret (Sum.inl (z9.1, (z9.2.1, (z9.2.2.1, (z9.2.2.2.1, (w64 (z9.2.2.2.2 + 1)))))))))))
 .fail)
 .fail)))))
 .fail)
 (.ret (Sum.inr (Sum.inr ()))))
noncomputable def F94_L4 (v) := loopO (fun v => (F94_L4_step v).run) v
def F94_fo : List FO := [⟨[(.one .sb)], []⟩]
noncomputable def F94_t : (Int × List ((Int × Int))) → T Bool := fun (n, ds) =>
 (.sub (F118 n) fun z0 =>
 (.test (! z0)
 (.ret false)
 (.test (decide ((ds.length : Int) > (w64 (n - 3))))
 (.ret false)
 (.sub (F94_L4 (n, (ds, (ds, ((ds.length : Int), (0 : Int)))))) fun z1 =>
 (.test (Sum.isLeft z1)
 (.sub (Sum.getLeft? z1) fun z2 =>
 (.ret z2))
 (.sub (Sum.getRight? z1) fun z3 =>
 (.ret true)))))))
noncomputable def F94 (v) := (F94_t v).run
noncomputable def F94_E : TEnv := ((((E0.add1 n_F118 F118_sh F118_fo F118).add1 n_F57 F57_sh F57_fo F57).add1 n_F89 F89_sh F89_fo F89).add1 n_F81 F81_sh F81_fo F81)
theorem F94_Eok : (F94_E).OK := ((((E0ok.add1 F118_ok).add1 F57_ok).add1 F89_ok).add1 F81_ok)
noncomputable def F94_told : Nat → Option SealT := fun id => if id = 9 then some (LSh.told F94_L9_sh 0 (F94_L9_step)) else if id = 4 then some (LSh.told F94_L4_sh 0 (F94_L4_step)) else none
theorem F94_L9_ok : ToldOK Tryz.prog 0 (loopAt (bodyOf fn_F94) [0, 0]) (LSh.told F94_L9_sh 0 (F94_L9_step)) :=
 loop_ok (E := F94_E) (F94_Eok) (told := F94_told) (l := F94_L9_sh) (step := F94_L9_step) (loopsOK_of (ls := []) (by kernel_rfl) trivial) (by kernel_rfl) (fun v => by kernel_rfl)
theorem F94_L4_ok : ToldOK Tryz.prog 0 (loopAt (bodyOf fn_F94) [0]) (LSh.told F94_L4_sh 0 (F94_L4_step)) :=
 loop_ok (E := F94_E) (F94_Eok) (told := F94_told) (l := F94_L4_sh) (step := F94_L4_step) (loopsOK_of (ls := [loopAt (bodyOf fn_F94) [0, 0]]) (by kernel_rfl) ⟨.inr ⟨_, by kernel_rfl, F94_L9_ok⟩, trivial⟩) (by kernel_rfl) (fun v => by kernel_rfl)
theorem F94_ok : FOK Tryz.prog n_F94 F94_sh F94_fo F94 :=
 fn_ok (E := F94_E) (F94_Eok) (told := F94_told) (fl := []) (c := bodyOf fn_F94) (s := F94_sh) (l := F94_fo) (tree := F94_t) fnat_F94 (by kernel_rfl) (by kernel_rfl) (by kernel_rfl) (loopsOK_of (ls := [loopAt (bodyOf fn_F94) [0]]) (by kernel_rfl) ⟨.inr ⟨_, by kernel_rfl, F94_L4_ok⟩, trivial⟩) (fun v => by kernel_rfl)
theorem F94_L9_eq (n : Int) (ds t19 xs : List Dg) (t20 t21 : Int) (d : Dg) (hl : xs.length < 4611686018427387904) :
  F94_L9 ((n, (ds, ((), (t19, (t20, (t21, (xs, ((xs.length : Int), (0 : Int))))))))), d) = some (if xs.any (crossD d) then .inl false else .inr (n, (ds, (t19, (t20, t21))))) := by
 obtain ⟨a, b⟩ := d
 have h := loop_any (step := fun v => (F94_L9_step v).run) (xs := xs) (crossD (a, b)) (fun k => ((n, (ds, ((), (t19, (t20, (t21, (xs, ((xs.length : Int), (k : Int))))))))), (a, b))) (.inl false) (.inr (n, (ds, (t19, (t20, t21)))))
  (fun k x hx => by
   have hlt := getElem?_lt hx
   have w1 : w64 ((k : Int) + 1) = ((k + 1 : Nat) : Int) := by rw [w64_id (by omega) (by omega)]; omega
   rw [F94_L9_step, T.run_test, if_pos (decide_eq_true (by omega)), T.run_test, if_pos (decide_eq_true (by omega)), T.run_sub, Int.toNat_natCast, hx, Option.bind_some, T.run_sub, F81_eq, Option.bind_some, T.run_test, w1]
   cases crossD (a, b) x <;> rfl)
  (by rw [F94_L9_step, T.run_test, if_neg (by simp), T.run_ret])
 simp only [Int.natCast_zero] at h
 exact h
theorem F94_eq (n : Int) (ds : List Dg) (hl : ds.length < 4611686018427387904) : F94 (n, ds) = some (isCut n ds) := by
 rw [F94, F94_t, T.run_sub, F118, F118_t, T.run_sub, F117_eq, Option.bind_some, T.run_ret, Option.bind_some, T.run_test, isCut]
 cases hn : inB 3 12 n with
 | false => rfl
 | true =>
  rw [inB_iff] at hn
  have w3 : w64 (n - 3) = n - 3 := w64_id (by omega) (by omega)
  rw [if_neg (by simp), T.run_test, w3]
  by_cases he : (ds.length : Int) ≤ n - 3
  ·have h := loop_any (step := fun v => (F94_L4_step v).run) (xs := List.range ds.length) (badT n ds) (fun k => (n, (ds, (ds, ((ds.length : Int), (k : Int)))))) (.inl false) (.inr ())
    (fun k x hx => by
     obtain ⟨hk, e⟩ := List.getElem?_eq_some_iff.1 hx
     simp only [List.getElem_range] at e
     subst e
     rw [List.length_range] at hk
     have g0 := gD_some hk
     have w1 : w64 ((k : Int) + 1) = ((k + 1 : Nat) : Int) := by rw [w64_id (by omega) (by omega)]; omega
     have tw : win ds 0 (k - 0) = ds.take k := win_take _ _
     have hcr := F94_L9_eq n ds ds (ds.take k) (ds.length : Int) (k : Int) (gD ds k) (by simp; omega)
     have hcr' : F94_L9 ((n, (ds, ((), (ds, ((ds.length : Int), ((k : Int), ((ds.take k), (((ds.take k).length : Int), (0 : Int))))))))), ((gD ds k).1, (gD ds k).2)) = _ := hcr
     have hdg : F57 (n, ((gD ds k).1, (gD ds k).2)) = some (inDg n (gD ds k)) := F57_eq n (gD ds k) (by omega) (by omega)
     rw [F94_L4_step, T.run_test, if_pos (decide_eq_true (by omega)), T.run_test, if_pos (decide_eq_true (by omega)), T.run_sub, Int.toNat_natCast, g0, Option.bind_some, T.run_sub, hdg, Option.bind_some, T.run_test, badT]
     cases hd : inDg n (gD ds k) with
     | false => rfl
     | true =>
      rw [if_neg (by simp), T.run_test]
      by_cases hk0 : 0 < k
      ·have w2 : w64 ((k : Int) - 1) = ((k - 1 : Nat) : Int) := by rw [w64_id (by omega) (by omega)]; omega
       have g1 := gD_some (show k - 1 < ds.length by omega)
       have hls : F89 (((gD ds (k - 1)).1, (gD ds (k - 1)).2), ((gD ds k).1, (gD ds k).2)) = some (ltD (gD ds (k - 1)) (gD ds k)) := F89_eq _ _
       rw [if_pos (decide_eq_true (by omega)), T.run_test, w2, if_pos (decide_eq_true (by omega)), T.run_sub, Int.toNat_natCast, g1, Option.bind_some, T.run_sub, hls, Option.bind_some, T.run_test, decide_eq_true hk0]
       cases ltD (gD ds (k - 1)) (gD ds k) with
       | false => rfl
       | true =>
        rw [if_neg (by simp), T.run_test, if_pos (decide_eq_true (by omega)), T.run_test, if_pos (decide_eq_true (by omega)), T.run_sub, tw, hcr', Option.bind_some, T.run_test, ← w1]
        cases (ds.take k).any (crossD (gD ds k)) <;> rfl
      ·rw [if_neg (by rw [decide_eq_true_eq]; omega), T.run_test, if_pos (decide_eq_true (by omega)), T.run_test, if_pos (decide_eq_true (by omega)), T.run_sub, tw, hcr', Option.bind_some, T.run_test, decide_eq_false hk0, ← w1]
       cases (ds.take k).any (crossD (gD ds k)) <;> rfl)
    (by rw [F94_L4_step, T.run_test, if_neg (by simp), T.run_ret])
   simp only [Int.natCast_zero] at h
   rw [if_neg (by rw [decide_eq_true_eq]; omega), T.run_sub, F94_L4, h, Option.bind_some, T.run_test, decide_eq_true he]
   cases (List.range ds.length).any (badT n ds) <;> rfl
  ·rw [if_pos (decide_eq_true (by omega)), T.run_ret, decide_eq_false he]
   rfl
def F74_sh : FSh := ⟨[(.one (.si .i64)), (.one (.sl (.pair (.int .i64) (.int .i64)) false false)), (.one (.si .i64)), (.one (.si .i64))], []⟩
def F74_L4_sh : LSh := ⟨(fun ex => match ex with | .norm => [(2, none), (3, none), (23, none), (24, none), (25, none)] | .exit i => if i = 0 then [] else [] | .ret => [(8, none)]), [(2, (.one (.si .i64))), (3, (.one (.si .i64))), (23, (.one (.sl (.pair (.int .i64) (.int .i64)) false false))), (24, (.one (.si .i64))), (25, (.one (.si .i64)))], [], [⟨.ret, [(8, (.one .sb))], []⟩, ⟨(.exit 0), [], []⟩], [], []⟩
noncomputable def F74_L4_step : (Int × Int × List ((Int × Int)) × Int × Int) → T ((Int × Int × List ((Int × Int)) × Int × Int) ⊕ (Bool ⊕ Unit)) := fun (a, b, t23, t24, t25) =>
 (.test (decide (t25 < t24))
 (.test (decide ((0 ≤ t25) ∧ (t25 < (t23.length : Int))))
 (.sub (t23[(Int.toNat t25)]?) fun z0 =>
 (.test (z0.1 == a)
 (.test (z0.2 == b)
 (.ret (Sum.inr (Sum.inl true)))
 (.ret (Sum.inl (a, (b, (t23, (t24, (w64 (t25 + 1)))))))))
 (.ret (Sum.inl (a, (b, (t23, (t24, (w64 (t25 + 1))))))))))
 .fail)
 (.ret (Sum.inr (Sum.inr ()))))
noncomputable def F74_L4 (v) := loopO (fun v => (F74_L4_step v).run) v
def F74_fo : List FO := [⟨[(.one .sb)], []⟩]
noncomputable def F74_t : (Int × List ((Int × Int)) × Int × Int) → T Bool := fun (n, ds, a, b) =>
 (.test ((w64 (b - a)) == 1)
 (.ret true)
 (.test ((w64 (b - a)) == (w64 (n - 1)))
 (.ret true)
 (.sub (F74_L4 (a, (b, (ds, ((ds.length : Int), (0 : Int)))))) fun z0 =>
 (.test (Sum.isLeft z0)
 (.sub (Sum.getLeft? z0) fun z1 =>
 (.ret z1))
 (.sub (Sum.getRight? z0) fun z2 =>
 (.ret false))))))
noncomputable def F74 (v) := (F74_t v).run
noncomputable def F74_E : TEnv := E0
theorem F74_Eok : (F74_E).OK := E0ok
noncomputable def F74_told : Nat → Option SealT := fun id => if id = 4 then some (LSh.told F74_L4_sh 0 (F74_L4_step)) else none
theorem F74_L4_ok : ToldOK Tryz.prog 0 (loopAt (bodyOf fn_F74) [0]) (LSh.told F74_L4_sh 0 (F74_L4_step)) :=
 loop_ok (E := F74_E) (F74_Eok) (told := F74_told) (l := F74_L4_sh) (step := F74_L4_step) (loopsOK_of (ls := []) (by kernel_rfl) trivial) (by kernel_rfl) (fun v => by kernel_rfl)
theorem F74_ok : FOK Tryz.prog n_F74 F74_sh F74_fo F74 :=
 fn_ok (E := F74_E) (F74_Eok) (told := F74_told) (fl := []) (c := bodyOf fn_F74) (s := F74_sh) (l := F74_fo) (tree := F74_t) fnat_F74 (by kernel_rfl) (by kernel_rfl) (by kernel_rfl) (loopsOK_of (ls := [loopAt (bodyOf fn_F74) [0]]) (by kernel_rfl) ⟨.inr ⟨_, by kernel_rfl, F74_L4_ok⟩, trivial⟩) (fun v => by kernel_rfl)
theorem F74_eq (n : Nat) (ds : List Dg) (a b : Int) (hn : n ≤ 12) (ha : 0 ≤ a ∧ a ≤ 12) (hb : 0 ≤ b ∧ b ≤ 12) (hl : ds.length < 1000000) : F74 ((n : Int), (ds, (a, b))) = some (joinD n ds a b) := by
 have w1 : w64 (b - a) = b - a := w64_id (by omega) (by omega)
 have w2 : w64 ((n : Int) - 1) = (n : Int) - 1 := w64_id (by omega) (by omega)
 have h := loop_any (step := fun v => (F74_L4_step v).run) (xs := ds) (fun d => decide ((a, b) = d)) (fun k => (a, (b, (ds, ((ds.length : Int), (k : Int)))))) (.inl true) (.inr ())
  (fun k x hx => by
   have hlt := getElem?_lt hx
   obtain ⟨x, y⟩ := x
   have w1 : w64 ((k : Int) + 1) = ((k + 1 : Nat) : Int) := by rw [w64_id (by omega) (by omega)]; omega
   rw [F74_L4_step, T.run_test, if_pos (decide_eq_true (by omega)), T.run_test, if_pos (decide_eq_true (by omega)), T.run_sub, Int.toNat_natCast, hx, Option.bind_some, T.run_test, w1]
   by_cases c1 : x = a
   ·subst c1
    rw [if_pos (by simp), T.run_test]
    by_cases c2 : y = b
    ·subst c2
     rw [if_pos (by simp), T.run_ret]
     simp
    ·rw [if_neg (by simpa using c2), T.run_ret, if_neg (by simp; exact fun e => c2 e.symm)]
   ·rw [if_neg (by simpa using c1), T.run_ret, if_neg (by simp; exact fun e => absurd e.symm c1)])
  (by rw [F74_L4_step, T.run_test, if_neg (by simp), T.run_ret])
 simp only [Int.natCast_zero] at h
 have e : ds.any (fun d => decide ((a, b) = d)) = decide ((a, b) ∈ ds) := by
  rw [Bool.eq_iff_iff, List.any_eq_true, decide_eq_true_eq]
  constructor
  ·rintro ⟨d, hd, e⟩; rw [decide_eq_true_eq] at e; rw [e]; exact hd
  ·exact fun h => ⟨_, h, by simp⟩
 rw [F74, F74_t, T.run_test, w1, w2, joinD]
 by_cases c1 : b - a = 1
 ·rw [if_pos (by simpa using c1), T.run_ret, decide_eq_true c1]; rfl
 ·rw [if_neg (by simpa using c1), T.run_test, decide_eq_false c1]
  by_cases c2 : b - a = (n : Int) - 1
  ·rw [if_pos (by simpa using c2), T.run_ret, decide_eq_true c2]; rfl
  ·rw [if_neg (by simpa using c2), T.run_sub, F74_L4, h, Option.bind_some, T.run_test, decide_eq_false c2, e]
   cases decide ((a, b) ∈ ds) <;> rfl
def F95_sh : FSh := ⟨[(.one (.sl (.int .i64) false false)), (.one (.sl (.int .i64) false false))], []⟩
def F95_L2_sh : LSh := ⟨(fun ex => match ex with | .norm => [(0, none), (1, none), (5, none)] | .exit i => if i = 0 then [(0, none), (1, none)] else [] | .ret => [(4, none)]), [(0, (.one (.sl (.int .i64) false false))), (1, (.one (.sl (.int .i64) false false))), (5, (.one (.si .i64)))], [], [⟨.ret, [(4, (.one .sb))], []⟩, ⟨(.exit 0), [(0, (.one (.sl (.int .i64) false false))), (1, (.one (.sl (.int .i64) false false)))], []⟩], [], []⟩
noncomputable def F95_L2_step : (List (Int) × List (Int) × Int) → T ((List (Int) × List (Int) × Int) ⊕ (Bool ⊕ (List (Int) × List (Int)))) := fun (a, b, i) =>
 (.test (decide (i < (a.length : Int)))
 (.test (decide (i < (b.length : Int)))
 (.test (decide ((0 ≤ i) ∧ (i < (a.length : Int))))
 (.sub (a[(Int.toNat i)]?) fun z0 =>
 (.test (decide ((0 ≤ i) ∧ (i < (b.length : Int))))
 (.sub (b[(Int.toNat i)]?) fun z1 =>
 (.test (z0 != z1)
 (.test (decide ((0 ≤ i) ∧ (i < (a.length : Int))))
 (.sub (a[(Int.toNat i)]?) fun z2 =>
 (.test (decide ((0 ≤ i) ∧ (i < (b.length : Int))))
 (.sub (b[(Int.toNat i)]?) fun z3 =>
 (.ret (Sum.inr (Sum.inl (decide (z2 < z3))))))
 .fail))
 .fail)
 (.ret (Sum.inl (a, (b, (w64 (i + 1))))))))
 .fail))
 .fail)
 (.ret (Sum.inr (Sum.inr (a, b)))))
 (.ret (Sum.inr (Sum.inr (a, b)))))
noncomputable def F95_L2 (v) := loopO (fun v => (F95_L2_step v).run) v
def F95_fo : List FO := [⟨[(.one .sb)], []⟩]
noncomputable def F95_t : (List (Int) × List (Int)) → T Bool := fun (a, b) =>
 (.sub (F95_L2 (a, (b, (0 : Int)))) fun z0 =>
 (.test (Sum.isLeft z0)
 (.sub (Sum.getLeft? z0) fun z1 =>
 (.ret z1))
 (.sub (Sum.getRight? z0) fun z2 =>
 (.ret (decide ((z2.1.length : Int) < (z2.2.length : Int)))))))
noncomputable def F95 (v) := (F95_t v).run
noncomputable def F95_E : TEnv := E0
theorem F95_Eok : (F95_E).OK := E0ok
noncomputable def F95_told : Nat → Option SealT := fun id => if id = 2 then some (LSh.told F95_L2_sh 0 (F95_L2_step)) else none
theorem F95_L2_ok : ToldOK Tryz.prog 0 (loopAt (bodyOf fn_F95) [0]) (LSh.told F95_L2_sh 0 (F95_L2_step)) :=
 loop_ok (E := F95_E) (F95_Eok) (told := F95_told) (l := F95_L2_sh) (step := F95_L2_step) (loopsOK_of (ls := []) (by kernel_rfl) trivial) (by kernel_rfl) (fun v => by kernel_rfl)
theorem F95_ok : FOK Tryz.prog n_F95 F95_sh F95_fo F95 :=
 fn_ok (E := F95_E) (F95_Eok) (told := F95_told) (fl := []) (c := bodyOf fn_F95) (s := F95_sh) (l := F95_fo) (tree := F95_t) fnat_F95 (by kernel_rfl) (by kernel_rfl) (by kernel_rfl) (loopsOK_of (ls := [loopAt (bodyOf fn_F95) [0]]) (by kernel_rfl) ⟨.inr ⟨_, by kernel_rfl, F95_L2_ok⟩, trivial⟩) (fun v => by kernel_rfl)
theorem F95_loop (a b : List Int) (ha : a.length < 1000000) (hb : b.length < 1000000) : ∀ (m i : Nat), i + m = a.length → a.take i = b.take i → i ≤ b.length → ∃ r, F95_L2 (a, (b, (i : Int))) = some r ∧ ((∃ v, r = .inl v ∧ v = ltL (a.drop i) (b.drop i)) ∨ (r = .inr (a, b) ∧ decide ((a.length : Int) < (b.length : Int)) = ltL (a.drop i) (b.drop i))) := by
 intro m
 induction m with
 | zero =>
  intro i hi ht hib
  refine ⟨.inr (a, b), ?_, .inr ⟨rfl, ?_⟩⟩
  ·simp only [F95_L2]
   refine loopO_done ?_
   rw [F95_L2_step, T.run_test, if_neg (by rw [decide_eq_true_eq]; omega), T.run_ret]
  ·rw [List.drop_eq_nil_of_le (by omega : a.length ≤ i)]
   by_cases c : i = b.length
   ·rw [List.drop_eq_nil_of_le (by omega : b.length ≤ i)]
    rw [ltL, decide_eq_false (by omega)]
   ·rw [List.drop_eq_getElem_cons (show i < b.length by omega), ltL, decide_eq_true (by omega)]
 | succ m ih =>
  intro i hi ht hib
  have hia : i < a.length := by omega
  by_cases c : i < b.length
  ·have w1 : w64 ((i : Int) + 1) = ((i + 1 : Nat) : Int) := by rw [w64_id (by omega) (by omega)]; omega
   have st : ∀ z : T ((List Int × List Int × Int) ⊕ (Bool ⊕ (List Int × List Int))), True := fun _ => trivial
   rw [List.drop_eq_getElem_cons hia, List.drop_eq_getElem_cons c, ltL]
   by_cases e : a[i] = b[i]
   ·obtain ⟨r, h1, h2⟩ := ih (i + 1) (by omega) (by rw [List.take_add_one, List.take_add_one, ht, List.getElem?_eq_getElem hia, List.getElem?_eq_getElem c, e]) (by omega)
    refine ⟨r, ?_, ?_⟩
    ·simp only [F95_L2] at h1 ⊢
     rw [← h1]
     refine loopO_next ?_
     rw [F95_L2_step, T.run_test, if_pos (decide_eq_true (by omega)), T.run_test, if_pos (decide_eq_true (by omega)), T.run_test, if_pos (decide_eq_true (by omega)), T.run_sub, Int.toNat_natCast, List.getElem?_eq_getElem hia, Option.bind_some, T.run_test, if_pos (decide_eq_true (by omega)), T.run_sub, List.getElem?_eq_getElem c, Option.bind_some, T.run_test, if_neg (by simp [e]), T.run_ret, w1]
    ·rw [if_neg (by omega), if_neg (by omega)]
     exact h2
   ·refine ⟨.inl (decide (a[i] < b[i])), ?_, .inl ⟨_, rfl, ?_⟩⟩
    ·simp only [F95_L2]
     refine loopO_done ?_
     rw [F95_L2_step, T.run_test, if_pos (decide_eq_true (by omega)), T.run_test, if_pos (decide_eq_true (by omega)), T.run_test, if_pos (decide_eq_true (by omega)), T.run_sub, Int.toNat_natCast, List.getElem?_eq_getElem hia, Option.bind_some, T.run_test, if_pos (decide_eq_true (by omega)), T.run_sub, List.getElem?_eq_getElem c, Option.bind_some, T.run_test, if_pos (by simpa using e),
      T.run_test, if_pos (decide_eq_true (by omega)), T.run_sub, Option.bind_some, T.run_test, if_pos (decide_eq_true (by omega)), T.run_sub, Option.bind_some, T.run_ret]
    ·by_cases c2 : a[i] < b[i]
     ·rw [if_pos c2, decide_eq_true c2]
     ·rw [if_neg c2, if_pos (by omega), decide_eq_false c2]
  ·refine ⟨.inr (a, b), ?_, .inr ⟨rfl, ?_⟩⟩
   ·simp only [F95_L2]
    refine loopO_done ?_
    rw [F95_L2_step, T.run_test, if_pos (decide_eq_true (by omega)), T.run_test, if_neg (by rw [decide_eq_true_eq]; omega), T.run_ret]
   ·rw [List.drop_eq_getElem_cons hia, List.drop_eq_nil_of_le (by omega : b.length ≤ i), ltL, decide_eq_false (by omega)]
theorem F95_eq (a b : List Int) (ha : a.length < 1000000) (hb : b.length < 1000000) : F95 (a, b) = some (ltL a b) := by
 obtain ⟨r, h1, h2⟩ := F95_loop a b ha hb a.length 0 (by omega) rfl (by omega)
 rw [Int.natCast_zero] at h1
 rw [F95, F95_t, T.run_sub, h1, Option.bind_some, T.run_test]
 rcases h2 with ⟨v, rfl, hv⟩ | ⟨rfl, hv⟩
 ·rw [if_pos (by simp), T.run_sub]
  simp only [List.drop_zero] at hv
  rw [← hv]; rfl
 ·rw [if_neg (by simp), T.run_sub]
  simp only [List.drop_zero] at hv
  rw [← hv]; rfl
def insF (out : List (List Int)) (q : List Int) : List (List Int) := out.takeWhile (fun p => ltL p q) ++ q :: out.dropWhile (fun p => ltL p q)
theorem insF_perm (out : List (List Int)) (q : List Int) : (insF out q).Perm (q :: out) := by
 unfold insF
 have h := List.perm_middle (a := q) (l₁ := out.takeWhile fun p => ltL p q) (l₂ := out.dropWhile fun p => ltL p q)
 rwa [List.takeWhile_append_dropWhile] at h
theorem insF_up (q : List Int) : ∀ {out : List (List Int)}, (out.Pairwise fun a b => leL a b = true) → (insF out q).Pairwise fun a b => leL a b = true
 | [], _ => by simp [insF]
 | p :: t, h => by
  rw [List.pairwise_cons] at h
  obtain ⟨h1, h2⟩ := h
  cases c : ltL p q with
  | true =>
   have e : insF (p :: t) q = p :: insF t q := by simp [insF, c]
   rw [e, List.pairwise_cons]
   refine ⟨fun b hb => ?_, insF_up q h2⟩
   rcases List.mem_cons.1 ((insF_perm t q).mem_iff.1 hb) with rfl | hb
   ·unfold leL
    cases c2 : ltL b p with
    | false => rfl
    | true => have := ltL_trans c c2; rw [ltL_irr] at this; cases this
   ·exact h1 b hb
  | false =>
   have e : insF (p :: t) q = q :: p :: t := by simp [insF, c]
   have hq : leL q p = true := by unfold leL; rw [c]; rfl
   rw [e, List.pairwise_cons]
   refine ⟨fun b hb => ?_, List.pairwise_cons.2 ⟨h1, h2⟩⟩
   rcases List.mem_cons.1 hb with rfl | hb
   ·exact hq
   ·exact leL_trans hq (h1 b hb)
theorem insF_all : ∀ (l out : List (List Int)), (out.Pairwise fun a b => leL a b = true) → ((l.foldl insF out).Pairwise fun a b => leL a b = true) ∧ (l.foldl insF out).Perm (out ++ l)
 | [], out, h => ⟨h, by simp⟩
 | q :: l, out, h => by
  obtain ⟨h1, h2⟩ := insF_all l (insF out q) (insF_up q h)
  refine ⟨h1, h2.trans ?_⟩
  exact ((insF_perm out q).append_right l).trans (by simpa using (List.perm_middle (a := q) (l₁ := out) (l₂ := l)).symm)
theorem insF_sortL (l : List (List Int)) : l.foldl insF [] = sortL l := by
 obtain ⟨h1, h2⟩ := insF_all l [] (by simp)
 exact sortL_unique h1 (by rwa [List.nil_append] at h2)
theorem insF_len (out : List (List Int)) (q : List Int) : (insF out q).length = out.length + 1 := (insF_perm out q).length_eq
theorem insF_idx {α : Type} (f : α → Bool) : ∀ (l : List α), ∃ k, k ≤ l.length ∧ l.takeWhile f = l.take k ∧ l.dropWhile f = l.drop k ∧ (∀ p (h : p < l.length), p < k → f l[p] = true) ∧ ∀ (h : k < l.length), f l[k] = false
 | [] => ⟨0, by simp, rfl, rfl, fun p h => by simp at h, fun h => by simp at h⟩
 | a :: l => by
  cases c : f a with
  | false => exact ⟨0, by simp, by simp [c], by simp [c], fun p h h2 => by omega, fun h => c⟩
  | true =>
   obtain ⟨k, h1, h2, h3, h4, h5⟩ := insF_idx f l
   refine ⟨k + 1, by simp [h1], by simp [c, h2], by simp [c, h3], fun p h hp => ?_, fun h => ?_⟩
   ·cases p with
    | zero => exact c
    | succ p => exact h4 p (by simpa using h) (by omega)
   ·exact h5 (by simpa using h)
def F75_sh : FSh := ⟨[(.one (.sl (.list true (.int .i64)) false false))], []⟩
def F75_L6_sh : LSh := ⟨(fun ex => match ex with | .norm => [(3, none), (5, none), (6, none), (8, none), (9, none), (10, none)] | .exit i => if i = 2 then [(3, none), (5, none), (6, none), (8, none), (9, none), (10, none)] else if i = 1 then [(3, none), (8, none), (9, none), (10, none)] else if i = 0 then [(3, none)] else [] | .ret => [(2, none)]), [(3, (.one (.rw 0 0))), (5, (.one (.sl (.int .i64) false true))), (6, (.one (.si .i64))), (8, (.one (.sl (.list true (.int .i64)) false false))), (9, (.one (.si .i64))), (10, (.one (.si .i64)))], [(.row 0 (.list true (.int .i64)))], [⟨(.exit 2), [(3, (.one (.rw 0 0))), (5, (.one (.sl (.int .i64) false true))), (6, (.one (.si .i64))), (8, (.one (.sl (.list true (.int .i64)) false false))), (9, (.one (.si .i64))), (10, (.one (.si .i64)))], [(.row 0 (.list true (.int .i64)))]⟩], [], []⟩
noncomputable def F75_L6_step : ((Unit × List (Int) × Int × List (List (Int)) × Int × Int) × List (List (Int))) → T (((Unit × List (Int) × Int × List (List (Int)) × Int × Int) × List (List (Int))) ⊕ ((Unit × List (Int) × Int × List (List (Int)) × Int × Int) × List (List (Int)))) := fun (((), x, k, t8, t9, t10), out) =>
 (.test (decide (k < (out.length : Int)))
 (.test (decide ((0 ≤ k) ∧ (k < (out.length : Int))))
 (.sub (out[(0 + (Int.toNat k))]?) fun z0 =>
 (.sub (F95 (z0, x)) fun z1 =>
 (.test z1
 (.test (decide ((0 = 0) ∧ (out.length = out.length)))
 (.ret (Sum.inl (((), (x, ((w64 (k + 1)), (t8, (t9, t10))))), out)))
 .fail)
 (.test (decide ((0 = 0) ∧ (out.length = out.length)))
 (.ret (Sum.inr (((), (x, (k, (t8, (t9, t10))))), out)))
 .fail))))
 .fail)
 (.test (decide ((0 = 0) ∧ (out.length = out.length)))
 (.ret (Sum.inr (((), (x, (k, (t8, (t9, t10))))), out)))
 .fail))
noncomputable def F75_L6 (v) := loopO (fun v => (F75_L6_step v).run) v
def F75_L3_sh : LSh := ⟨(fun ex => match ex with | .norm => [(3, none), (8, none), (9, none), (10, none)] | .exit i => if i = 0 then [(3, none)] else [] | .ret => [(2, none)]), [(3, (.one (.rw 0 0))), (8, (.one (.sl (.list true (.int .i64)) false false))), (9, (.one (.si .i64))), (10, (.one (.si .i64)))], [(.row 0 (.list true (.int .i64)))], [⟨(.exit 0), [(3, (.one (.rw 0 0)))], [(.row 0 (.list true (.int .i64)))]⟩], [], []⟩
noncomputable def F75_L3_step : ((Unit × List (List (Int)) × Int × Int) × List (List (Int))) → T (((Unit × List (List (Int)) × Int × Int) × List (List (Int))) ⊕ (Unit × List (List (Int)))) := fun (((), t8, t9, t10), out) =>
 (.test (decide (t10 < t9))
 (.test (decide ((0 ≤ t10) ∧ (t10 < (t8.length : Int))))
 (.sub (t8[(Int.toNat t10)]?) fun z0 =>
 (.test (decide ((0 = 0) ∧ (out.length = out.length)))
 (.sub (F75_L6 (((), (z0, ((0 : Int), (t8, (t9, t10))))), out)) fun z1 =>
 (.test (decide (0 ≤ z1.1.2.2.1))
 (.test (decide ((0 ≤ (Int.toNat z1.1.2.2.1)) ∧ ((Int.toNat z1.1.2.2.1) ≤ z1.2.length)))
 (.test (decide ((0 + ((Int.toNat z1.1.2.2.1) - 0)) ≤ z1.2.length))
 (.test true
 (.test (decide ((2 * ((0 + (List.length (win z1.2 0 ((Int.toNat z1.1.2.2.1) - 0)))) * 25)) ≤ 140737488355328))
 (.test (decide (1 ≤ (List.length (List.set (List.replicate 1 ([] : List (Int))) 0 z1.1.2.1))))
 (.test (decide ((0 + (0 + (List.length (win z1.2 0 ((Int.toNat z1.1.2.2.1) - 0))))) ≤ (List.length ((win (List.replicate 0 ([] : List (Int))) 0 0) ++ (win z1.2 0 ((Int.toNat z1.1.2.2.1) - 0))))))
 (.test (decide ((2 * (((0 + (List.length (win z1.2 0 ((Int.toNat z1.1.2.2.1) - 0)))) + (List.length (win (List.set (List.replicate 1 ([] : List (Int))) 0 z1.1.2.1) 0 1))) * 25)) ≤ 140737488355328))
 (.test (decide (0 ≤ z1.1.2.2.1))
 (.test (decide (((Int.toNat z1.1.2.2.1) ≤ z1.2.length) ∧ (z1.2.length ≤ z1.2.length)))
 (.test (decide (((0 + (Int.toNat z1.1.2.2.1)) + (z1.2.length - (Int.toNat z1.1.2.2.1))) ≤ z1.2.length))
 (.test (decide ((0 + ((0 + (List.length (win z1.2 0 ((Int.toNat z1.1.2.2.1) - 0)))) + (List.length (win (List.set (List.replicate 1 ([] : List (Int))) 0 z1.1.2.1) 0 1)))) ≤ (List.length ((win ((win (List.replicate 0 ([] : List (Int))) 0 0) ++ (win z1.2 0 ((Int.toNat z1.1.2.2.1) - 0))) 0 (0 + (List.length (win z1.2 0 ((Int.toNat z1.1.2.2.1) - 0))))) ++ (win (List.set (List.replicate 1 ([] : List (Int))) 0 z1.1.2.1) 0 1)))))
 (.test (decide ((2 * ((((0 + (List.length (win z1.2 0 ((Int.toNat z1.1.2.2.1) - 0)))) + (List.length (win (List.set (List.replicate 1 ([] : List (Int))) 0 z1.1.2.1) 0 1))) + (List.length (win z1.2 (0 + (Int.toNat z1.1.2.2.1)) (z1.2.length - (Int.toNat z1.1.2.2.1))))) * 25)) ≤ 140737488355328))
 (.test (decide ((0 = 0) ∧ ((((0 + (List.length (win z1.2 0 ((Int.toNat z1.1.2.2.1) - 0)))) + (List.length (win (List.set (List.replicate 1 ([] : List (Int))) 0 z1.1.2.1) 0 1))) + (List.length (win z1.2 (0 + (Int.toNat z1.1.2.2.1)) (z1.2.length - (Int.toNat z1.1.2.2.1))))) = (List.length ((win ((win ((win (List.replicate 0 ([] : List (Int))) 0 0) ++ (win z1.2 0 ((Int.toNat z1.1.2.2.1) - 0))) 0 (0 + (List.length (win z1.2 0 ((Int.toNat z1.1.2.2.1) - 0))))) ++ (win (List.set (List.replicate 1 ([] : List (Int))) 0 z1.1.2.1) 0 1)) 0 ((0 + (List.length (win z1.2 0 ((Int.toNat z1.1.2.2.1) - 0)))) + (List.length (win (List.set (List.replicate 1 ([] : List (Int))) 0 z1.1.2.1) 0 1)))) ++ (win z1.2 (0 + (Int.toNat z1.1.2.2.1)) (z1.2.length - (Int.toNat z1.1.2.2.1))))))))
 (.ret (Sum.inl (((), (z1.1.2.2.2.1, (z1.1.2.2.2.2.1, (w64 (z1.1.2.2.2.2.2 + 1))))), ((win ((win ((win (List.replicate 0 ([] : List (Int))) 0 0) ++ (win z1.2 0 ((Int.toNat z1.1.2.2.1) - 0))) 0 (0 + (List.length (win z1.2 0 ((Int.toNat z1.1.2.2.1) - 0))))) ++ (win (List.set (List.replicate 1 ([] : List (Int))) 0 z1.1.2.1) 0 1)) 0 ((0 + (List.length (win z1.2 0 ((Int.toNat z1.1.2.2.1) - 0)))) + (List.length (win (List.set (List.replicate 1 ([] : List (Int))) 0 z1.1.2.1) 0 1)))) ++ (win z1.2 (0 + (Int.toNat z1.1.2.2.1)) (z1.2.length - (Int.toNat z1.1.2.2.1)))))))
 .fail)
 .fail)
 .fail)
 .fail)
 .fail)
 .fail)
 .fail)
 .fail)
 .fail)
 .fail)
 .fail)
 .fail)
 .fail)
 .fail))
 .fail))
 .fail)
 (.test (decide ((0 = 0) ∧ (out.length = out.length)))
 (.ret (Sum.inr ((), out)))
 .fail))
noncomputable def F75_L3 (v) := loopO (fun v => (F75_L3_step v).run) v
def F75_fo : List FO := [⟨[(.one (.rw 0 0))], [(.row 0 (.list true (.int .i64)))]⟩]
noncomputable def F75_t : List (List (Int)) → T (Unit × List (List (Int))) := fun list =>
 (.test true
 (.sub (F75_L3 (((), (list, ((list.length : Int), (0 : Int)))), ([] : List (List Int)))) fun z0 =>
 (.test (decide ((0 = 0) ∧ (z0.2.length = z0.2.length)))
 (.ret ((), z0.2))
 .fail))
 .fail)
noncomputable def F75 (v) := (F75_t v).run
noncomputable def F75_E : TEnv := (E0.add1 n_F95 F95_sh F95_fo F95)
theorem F75_Eok : (F75_E).OK := (E0ok.add1 F95_ok)
noncomputable def F75_told : Nat → Option SealT := fun id => if id = 6 then some (LSh.told F75_L6_sh 0 (F75_L6_step)) else if id = 3 then some (LSh.told F75_L3_sh 0 (F75_L3_step)) else none
theorem F75_L6_ok : ToldOK Tryz.prog 0 (loopAt (bodyOf fn_F75) [0, 0]) (LSh.told F75_L6_sh 0 (F75_L6_step)) :=
 loop_ok (E := F75_E) (F75_Eok) (told := F75_told) (l := F75_L6_sh) (step := F75_L6_step) (loopsOK_of (ls := []) (by kernel_rfl) trivial) (by kernel_rfl) (fun v => by kernel_rfl)
theorem F75_L3_ok : ToldOK Tryz.prog 0 (loopAt (bodyOf fn_F75) [0]) (LSh.told F75_L3_sh 0 (F75_L3_step)) :=
 loop_ok (E := F75_E) (F75_Eok) (told := F75_told) (l := F75_L3_sh) (step := F75_L3_step) (loopsOK_of (ls := [loopAt (bodyOf fn_F75) [0, 0]]) (by kernel_rfl) ⟨.inr ⟨_, by kernel_rfl, F75_L6_ok⟩, trivial⟩) (by kernel_rfl) (fun v => by kernel_rfl)
theorem F75_ok : FOK Tryz.prog n_F75 F75_sh F75_fo F75 :=
 fn_ok (E := F75_E) (F75_Eok) (told := F75_told) (fl := []) (c := bodyOf fn_F75) (s := F75_sh) (l := F75_fo) (tree := F75_t) fnat_F75 (by kernel_rfl) (by kernel_rfl) (by kernel_rfl) (loopsOK_of (ls := [loopAt (bodyOf fn_F75) [0]]) (by kernel_rfl) ⟨.inr ⟨_, by kernel_rfl, F75_L3_ok⟩, trivial⟩) (fun v => by kernel_rfl)
theorem F75_L6_eq (x : List Int) (t8 : List (List Int)) (t9 t10 : Int) (out : List (List Int)) (K : Nat) (hx : x.length < 1000000) (ho : ∀ p ∈ out, p.length < 1000000) (hl : out.length < 1000000)
  (hK : K ≤ out.length) (k4 : ∀ p (h : p < out.length), p < K → ltL out[p] x = true) (k5 : ∀ (h : K < out.length), ltL out[K] x = false) : ∀ (m k : Nat), k + m = out.length → k ≤ K →
  F75_L6 (((), (x, ((k : Int), (t8, (t9, t10))))), out) = some (((), (x, ((K : Int), (t8, (t9, t10))))), out) := by
 intro m
 induction m with
 | zero =>
  intro k hk h2
  have e : K = k := by omega
  rw [e]
  simp only [F75_L6]
  refine loopO_done ?_
  rw [F75_L6_step, T.run_test, if_neg (by rw [decide_eq_true_eq]; omega), T.run_test, if_pos (by simp), T.run_ret]
 | succ m ih =>
  intro k hk h2
  have hlt : k < out.length := by omega
  have w1 : w64 ((k : Int) + 1) = ((k + 1 : Nat) : Int) := by rw [w64_id (by omega) (by omega)]; omega
  by_cases c : k < K
  ·have hp := k4 k hlt c
   have := ih (k + 1) (by omega) (by omega)
   simp only [F75_L6] at this ⊢
   rw [← this]
   refine loopO_next ?_
   rw [F75_L6_step, T.run_test, if_pos (decide_eq_true (by omega)), T.run_test, if_pos (decide_eq_true (by omega)), T.run_sub, Nat.zero_add, Int.toNat_natCast, List.getElem?_eq_getElem hlt, Option.bind_some, T.run_sub, F95_eq _ _ (ho _ (List.getElem_mem hlt)) hx, Option.bind_some, T.run_test, if_pos hp, T.run_test, if_pos (by simp), T.run_ret, w1]
  ·have e : K = k := by omega
   subst e
   have hp := k5 hlt
   simp only [F75_L6]
   refine loopO_done ?_
   rw [F75_L6_step, T.run_test, if_pos (decide_eq_true (by omega)), T.run_test, if_pos (decide_eq_true (by omega)), T.run_sub, Nat.zero_add, Int.toNat_natCast, List.getElem?_eq_getElem hlt, Option.bind_some, T.run_sub, F95_eq _ _ (ho _ (List.getElem_mem hlt)) hx, Option.bind_some, T.run_test, if_neg (by rw [hp]; simp), T.run_test, if_pos (by simp), T.run_ret]
theorem F75_loop (l : List (List Int)) (hl : l.length < 1000) (hx : ∀ p ∈ l, p.length < 1000000) : ∀ (m i : Nat) (out : List (List Int)), i + m = l.length → out.length = i → (∀ p ∈ out, p.length < 1000000) →
  F75_L3 (((), (l, ((l.length : Int), (i : Int)))), out) = some ((), (l.drop i).foldl insF out) := by
 intro m
 induction m with
 | zero =>
  intro i out hi ho hp
  rw [List.drop_eq_nil_of_le (by omega)]
  simp only [F75_L3]
  refine loopO_done ?_
  rw [F75_L3_step, T.run_test, if_neg (by rw [decide_eq_true_eq]; omega), T.run_test, if_pos (by simp), T.run_ret]
  rfl
 | succ m ih =>
  intro i out hi ho hp
  have hlt : i < l.length := by omega
  have w1 : w64 ((i : Int) + 1) = ((i + 1 : Nat) : Int) := by rw [w64_id (by omega) (by omega)]; omega
  have hxi := hx _ (List.getElem_mem hlt)
  have := ih (i + 1) (insF out l[i]) (by omega) (by rw [insF_len]; omega) (fun p hp' => by
   rcases List.mem_cons.1 ((insF_perm _ _).mem_iff.1 hp') with rfl | h
   ·exact hxi
   ·exact hp p h)
  obtain ⟨K, k1, k2, k3, k4, k5⟩ := insF_idx (fun p => ltL p l[i]) out
  have h6 := F75_L6_eq l[i] l (l.length : Int) (i : Int) out K hxi hp (by omega) k1 k4 k5 out.length 0 (by omega) (by omega)
  rw [Int.natCast_zero] at h6
  have et : win out 0 (K - 0) = out.take K := by rw [win_take, Nat.sub_zero]
  have ed : win out K (out.length - K) = out.drop K := by
   unfold win
   rw [List.take_of_length_le (by simp)]
  have lA : (out.take K).length = K := by rw [List.length_take]; omega
  have lB : (out.drop K).length = out.length - K := by rw [List.length_drop]
  have ei : insF out l[i] = (out.take K ++ [l[i]]) ++ out.drop K := by unfold insF; rw [k2, k3]; simp
  rw [List.drop_eq_getElem_cons hlt, List.foldl_cons]
  generalize out.take K = A at *
  generalize out.drop K = B at *
  have hw1 : win A 0 K = A := by have := win_all A; rwa [lA] at this
  have hw2 : win (A ++ [l[i]]) 0 (K + 1) = A ++ [l[i]] := by have := win_all (A ++ [l[i]]); rwa [List.length_append, lA] at this
  have e0 : win (List.replicate 0 ([] : List Int)) 0 0 = [] := rfl
  simp only [F75_L3] at this ⊢
  rw [← this]
  refine loopO_next ?_
  rw [F75_L3_step, T.run_test, if_pos (decide_eq_true (by omega)), T.run_test, if_pos (decide_eq_true (by omega)), T.run_sub, Int.toNat_natCast, List.getElem?_eq_getElem hlt, Option.bind_some, T.run_test, if_pos (by simp), T.run_sub, h6, Option.bind_some]
  simp only [Int.toNat_natCast, Nat.zero_add, et, ed, e0, win_one, List.nil_append, lA, lB, hw1, hw2, List.length_append, List.length_singleton, w1]
  rw [T.run_test, if_pos (decide_eq_true (by omega)), T.run_test, if_pos (decide_eq_true (by omega)), T.run_test, if_pos (decide_eq_true (by omega)), T.run_test, if_pos rfl, T.run_test, if_pos (decide_eq_true (by omega)), T.run_test, if_pos (by simp), T.run_test, if_pos (decide_eq_true (by omega)), T.run_test, if_pos (decide_eq_true (by omega)), T.run_test, if_pos (decide_eq_true (by omega)), T.run_test, if_pos (decide_eq_true (by omega)), T.run_test, if_pos (decide_eq_true (by omega)), T.run_test, if_pos (decide_eq_true (by omega)), T.run_test, if_pos (decide_eq_true (by omega)), T.run_test, if_pos (by simp), T.run_ret, ei]
theorem F75_eq (l : List (List Int)) (hl : l.length < 1000) (hx : ∀ p ∈ l, p.length < 1000000) : F75 l = some ((), sortL l) := by
 have h := F75_loop l hl hx l.length 0 [] (by omega) rfl (by simp)
 rw [Int.natCast_zero, List.drop_zero, insF_sortL] at h
 rw [F75, F75_t, T.run_test, if_pos rfl, T.run_sub, h, Option.bind_some, T.run_test, if_pos (by simp), T.run_ret]
def F76_sh : FSh := ⟨[(.one (.si .i64)), (.one (.sl (.pair (.int .i64) (.int .i64)) false false))], []⟩
def F76_L16_sh : LSh := ⟨(fun ex => match ex with | .norm => [(0, none), (1, none), (5, none), (6, none), (7, none), (8, none), (9, none), (10, none), (11, none), (12, none)] | .exit i => if i = 6 then [(0, none), (1, none), (5, none), (6, none), (7, none), (8, none), (9, none), (11, none)] else if i = 5 then [(0, none), (1, none), (5, none), (6, none), (7, none), (8, none), (9, none), (10, none)] else if i = 4 then [(0, none), (1, none), (5, none), (6, none), (7, none), (8, none), (9, none)] else if i = 3 then [(0, none), (1, none), (5, none), (6, none), (7, none), (8, none)] else if i = 2 then [(0, none), (1, none), (5, none), (6, none), (7, none)] else if i = 1 then [(0, none), (1, none), (5, none), (6, none), (7, none)] else if i = 0 then [(5, none)] else [] | .ret => [(4, none)]), [(0, (.one (.si .i64))), (1, (.one (.sl (.pair (.int .i64) (.int .i64)) false false))), (5, (.one (.rw 0 0))), (6, (.one (.rw 1 0))), (7, (.one (.si .i64))), (8, (.one (.si .i64))), (9, (.one (.rw 2 0))), (10, (.one (.si .i64))), (11, (.one (.si .i64))), (12, (.one (.si .i64)))], [(.row 0 (.list true (.int .i64))), (.row 0 .bool), (.row 0 (.int .i64))], [⟨(.exit 6), [(0, (.one (.si .i64))), (1, (.one (.sl (.pair (.int .i64) (.int .i64)) false false))), (5, (.one (.rw 0 0))), (6, (.one (.rw 1 0))), (7, (.one (.si .i64))), (8, (.one (.si .i64))), (9, (.one (.rw 2 0))), (11, (.one (.si .i64)))], [(.row 0 (.list true (.int .i64))), (.row 0 .bool), (.row 0 (.int .i64))]⟩], [], []⟩
noncomputable def F76_L16_step : ((Int × List ((Int × Int)) × Unit × Unit × Int × Int × Unit × Int × Int × Int) × (List (List (Int)) × List (Bool) × List (Int))) → T (((Int × List ((Int × Int)) × Unit × Unit × Int × Int × Unit × Int × Int × Int) × (List (List (Int)) × List (Bool) × List (Int))) ⊕ ((Int × List ((Int × Int)) × Unit × Unit × Int × Int × Unit × Int) × (List (List (Int)) × List (Bool) × List (Int)))) := fun ((n, ds, (), (), a, b, (), at', next, c), (out, seen, piece)) =>
 (.test (decide (c > at'))
 (.sub (F74 (n, (ds, (at', c)))) fun z0 =>
 (.test z0
 (.test (at' != a)
 (.test (decide ((0 = 0) ∧ (out.length = out.length)))
 (.test (decide ((0 = 0) ∧ (seen.length = seen.length)))
 (.test (decide ((0 = 0) ∧ (piece.length = piece.length)))
 (.ret (Sum.inr ((n, (ds, ((), ((), (a, (b, ((), c))))))), (out, (seen, piece)))))
 .fail)
 .fail)
 .fail)
 (.test (c != b)
 (.test (decide ((0 = 0) ∧ (out.length = out.length)))
 (.test (decide ((0 = 0) ∧ (seen.length = seen.length)))
 (.test (decide ((0 = 0) ∧ (piece.length = piece.length)))
 (.ret (Sum.inr ((n, (ds, ((), ((), (a, (b, ((), c))))))), (out, (seen, piece)))))
 .fail)
 .fail)
 .fail)
 (.test (decide ((0 = 0) ∧ (out.length = out.length)))
 (.test (decide ((0 = 0) ∧ (seen.length = seen.length)))
 (.test (decide ((0 = 0) ∧ (piece.length = piece.length)))
 (.ret (Sum.inl ((n, (ds, ((), ((), (a, (b, ((), (at', (next, (w64 (c - 1))))))))))), (out, (seen, piece)))))
 .fail)
 .fail)
 .fail)))
 (.test (decide ((0 = 0) ∧ (out.length = out.length)))
 (.test (decide ((0 = 0) ∧ (seen.length = seen.length)))
 (.test (decide ((0 = 0) ∧ (piece.length = piece.length)))
 (.ret (Sum.inl ((n, (ds, ((), ((), (a, (b, ((), (at', (next, (w64 (c - 1))))))))))), (out, (seen, piece)))))
 .fail)
 .fail)
 .fail)))
 (.test (decide ((0 = 0) ∧ (out.length = out.length)))
 (.test (decide ((0 = 0) ∧ (seen.length = seen.length)))
 (.test (decide ((0 = 0) ∧ (piece.length = piece.length)))
 (.ret (Sum.inr ((n, (ds, ((), ((), (a, (b, ((), next))))))), (out, (seen, piece)))))
 .fail)
 .fail)
 .fail))
noncomputable def F76_L16 (v) := loopO (fun v => (F76_L16_step v).run) v
def F76_L13_sh : LSh := ⟨(fun ex => match ex with | .norm => [(0, none), (1, none), (5, none), (6, none), (7, none), (8, none), (9, none), (10, none)] | .exit i => if i = 4 then [(0, none), (1, none), (5, none), (6, none), (7, none), (8, none), (9, none)] else if i = 3 then [(0, none), (1, none), (5, none), (6, none), (7, none), (8, none)] else if i = 2 then [(0, none), (1, none), (5, none), (6, none), (7, none)] else if i = 1 then [(0, none), (1, none), (5, none), (6, none), (7, none)] else if i = 0 then [(5, none)] else [] | .ret => [(4, none)]), [(0, (.one (.si .i64))), (1, (.one (.sl (.pair (.int .i64) (.int .i64)) false false))), (5, (.one (.rw 0 0))), (6, (.one (.rw 1 0))), (7, (.one (.si .i64))), (8, (.one (.si .i64))), (9, (.one (.rw 2 0))), (10, (.one (.si .i64)))], [(.row 0 (.list true (.int .i64))), (.row 0 .bool), (.row 0 (.int .i64))], [⟨(.exit 4), [(0, (.one (.si .i64))), (1, (.one (.sl (.pair (.int .i64) (.int .i64)) false false))), (5, (.one (.rw 0 0))), (6, (.one (.rw 1 0))), (7, (.one (.si .i64))), (8, (.one (.si .i64))), (9, (.one (.rw 2 0)))], [(.row 0 (.list true (.int .i64))), (.row 0 .bool), (.row 0 (.int .i64))]⟩], [], []⟩
noncomputable def F76_L13_step : ((Int × List ((Int × Int)) × Unit × Unit × Int × Int × Unit × Int) × (List (List (Int)) × List (Bool) × List (Int))) → T (((Int × List ((Int × Int)) × Unit × Unit × Int × Int × Unit × Int) × (List (List (Int)) × List (Bool) × List (Int))) ⊕ ((Int × List ((Int × Int)) × Unit × Unit × Int × Int × Unit) × (List (List (Int)) × List (Bool) × List (Int)))) := fun ((n, ds, (), (), a, b, (), at'), (out, seen, piece)) =>
 (.test (at' != b)
 (.test (decide ((0 = 0) ∧ (out.length = out.length)))
 (.test (decide ((0 = 0) ∧ (seen.length = seen.length)))
 (.test (decide ((0 = 0) ∧ (piece.length = piece.length)))
 (.sub (F76_L16 ((n, (ds, ((), ((), (a, (b, ((), (at', ((w64 (at' + 1)), b))))))))), (out, (seen, piece)))) fun z0 =>
 (.test (decide (1 ≤ (List.length (List.set (List.replicate 1 (0 : Int)) 0 z0.1.2.2.2.2.2.2.2))))
 (.test (decide ((0 + z0.2.2.2.length) ≤ z0.2.2.2.length))
 (.test (decide ((2 * ((z0.2.2.2.length + (List.length (win (List.set (List.replicate 1 (0 : Int)) 0 z0.1.2.2.2.2.2.2.2) 0 1))) * 9)) ≤ 140737488355328))
 (.test (decide ((0 = 0) ∧ (z0.2.1.length = z0.2.1.length)))
 (.test (decide ((0 = 0) ∧ (z0.2.2.1.length = z0.2.2.1.length)))
 (.test (decide ((0 = 0) ∧ ((z0.2.2.2.length + (List.length (win (List.set (List.replicate 1 (0 : Int)) 0 z0.1.2.2.2.2.2.2.2) 0 1))) = (List.length ((win z0.2.2.2 0 z0.2.2.2.length) ++ (win (List.set (List.replicate 1 (0 : Int)) 0 z0.1.2.2.2.2.2.2.2) 0 1))))))
 (.ret (Sum.inl ((z0.1.1, (z0.1.2.1, ((), ((), (z0.1.2.2.2.2.1, (z0.1.2.2.2.2.2.1, ((), z0.1.2.2.2.2.2.2.2))))))), (z0.2.1, (z0.2.2.1, ((win z0.2.2.2 0 z0.2.2.2.length) ++ (win (List.set (List.replicate 1 (0 : Int)) 0 z0.1.2.2.2.2.2.2.2) 0 1)))))))
 .fail)
 .fail)
 .fail)
 .fail)
 .fail)
 .fail))
 .fail)
 .fail)
 .fail)
 (.test (decide ((0 = 0) ∧ (out.length = out.length)))
 (.test (decide ((0 = 0) ∧ (seen.length = seen.length)))
 (.test (decide ((0 = 0) ∧ (piece.length = piece.length)))
 (.ret (Sum.inr ((n, (ds, ((), ((), (a, (b, ())))))), (out, (seen, piece)))))
 .fail)
 .fail)
 .fail))
noncomputable def F76_L13 (v) := loopO (fun v => (F76_L13_step v).run) v
def F76_L7_sh : LSh := ⟨(fun ex => match ex with | .norm => [(0, none), (1, none), (5, none), (6, none), (7, none), (8, none)] | .exit i => if i = 2 then [(0, none), (1, none), (5, none), (6, none), (7, none)] else if i = 1 then [(0, none), (1, none), (5, none), (6, none), (7, none)] else if i = 0 then [(5, none)] else [] | .ret => [(4, none)]), [(0, (.one (.si .i64))), (1, (.one (.sl (.pair (.int .i64) (.int .i64)) false false))), (5, (.one (.rw 0 0))), (6, (.one (.rw 1 0))), (7, (.one (.si .i64))), (8, (.one (.si .i64)))], [(.row 0 (.list true (.int .i64))), (.row 0 .bool)], [⟨(.exit 2), [(0, (.one (.si .i64))), (1, (.one (.sl (.pair (.int .i64) (.int .i64)) false false))), (5, (.one (.rw 0 0))), (6, (.one (.rw 1 0))), (7, (.one (.si .i64)))], [(.row 0 (.list true (.int .i64))), (.row 0 .bool)]⟩], [], []⟩
noncomputable def F76_L7_step : ((Int × List ((Int × Int)) × Unit × Unit × Int × Int) × (List (List (Int)) × List (Bool))) → T (((Int × List ((Int × Int)) × Unit × Unit × Int × Int) × (List (List (Int)) × List (Bool))) ⊕ ((Int × List ((Int × Int)) × Unit × Unit × Int) × (List (List (Int)) × List (Bool)))) := fun ((n, ds, (), (), a, b), (out, seen)) =>
 (.test (decide (b < n))
 (.sub (F74 (n, (ds, (a, b)))) fun z0 =>
 (.test (! z0)
 (.test (decide ((0 = 0) ∧ (out.length = out.length)))
 (.test (decide ((0 = 0) ∧ (seen.length = seen.length)))
 (.ret (Sum.inl ((n, (ds, ((), ((), (a, (w64 (b + 1))))))), (out, seen))))
 .fail)
 .fail)
 (.test ((w64 (b - a)) == 1)
 (.test (decide ((0 = 0) ∧ (out.length = out.length)))
 (.test (decide ((0 = 0) ∧ (seen.length = seen.length)))
 (.ret (Sum.inl ((n, (ds, ((), ((), (a, (w64 (b + 1))))))), (out, seen))))
 .fail)
 .fail)
 (.test (decide ((0 ≤ (w64 ((w64 (a * n)) + b))) ∧ ((w64 ((w64 (a * n)) + b)) < (seen.length : Int))))
 (.sub (seen[(0 + (Int.toNat (w64 ((w64 (a * n)) + b))))]?) fun z1 =>
 (.test z1
 (.test (decide ((0 = 0) ∧ (out.length = out.length)))
 (.test (decide ((0 = 0) ∧ (seen.length = seen.length)))
 (.ret (Sum.inl ((n, (ds, ((), ((), (a, (w64 (b + 1))))))), (out, seen))))
 .fail)
 .fail)
 (.test (decide ((0 ≤ (w64 ((w64 (a * n)) + b))) ∧ ((w64 ((w64 (a * n)) + b)) < (seen.length : Int))))
 (.sub (seen[(0 + (Int.toNat (w64 ((w64 (a * n)) + b))))]?) fun z2 =>
 (.test (decide ((0 = 0) ∧ (out.length = out.length)))
 (.test (decide ((0 = 0) ∧ (seen.length = (List.length (List.set seen (0 + (Int.toNat (w64 ((w64 (a * n)) + b)))) true)))))
 (.test (decide ((0 = 0) ∧ (1 = (List.length (List.set (List.replicate 1 (0 : Int)) 0 a)))))
 (.sub (F76_L13 ((n, (ds, ((), ((), (a, (b, ((), a))))))), (out, ((List.set seen (0 + (Int.toNat (w64 ((w64 (a * n)) + b)))) true), (List.set (List.replicate 1 (0 : Int)) 0 a))))) fun z3 =>
 (.test (decide ((0 + z3.2.2.2.length) ≤ z3.2.2.2.length))
 (.test (decide (1 ≤ (List.length (List.set (List.replicate 1 ([] : List (Int))) 0 (win z3.2.2.2 0 z3.2.2.2.length)))))
 (.test (decide ((0 + z3.2.1.length) ≤ z3.2.1.length))
 (.test (decide ((2 * ((z3.2.1.length + (List.length (win (List.set (List.replicate 1 ([] : List (Int))) 0 (win z3.2.2.2 0 z3.2.2.2.length)) 0 1))) * 25)) ≤ 140737488355328))
 (.test (decide ((0 = 0) ∧ ((z3.2.1.length + (List.length (win (List.set (List.replicate 1 ([] : List (Int))) 0 (win z3.2.2.2 0 z3.2.2.2.length)) 0 1))) = (List.length ((win z3.2.1 0 z3.2.1.length) ++ (win (List.set (List.replicate 1 ([] : List (Int))) 0 (win z3.2.2.2 0 z3.2.2.2.length)) 0 1))))))
 (.test (decide ((0 = 0) ∧ (z3.2.2.1.length = z3.2.2.1.length)))
 (.ret (Sum.inl ((z3.1.1, (z3.1.2.1, ((), ((), (z3.1.2.2.2.2.1, (w64 (z3.1.2.2.2.2.2.1 + 1))))))), (((win z3.2.1 0 z3.2.1.length) ++ (win (List.set (List.replicate 1 ([] : List (Int))) 0 (win z3.2.2.2 0 z3.2.2.2.length)) 0 1)), z3.2.2.1))))
 .fail)
 .fail)
 .fail)
 .fail)
 .fail)
 .fail))
 .fail)
 .fail)
 .fail))
 .fail)))
 .fail))))
 (.test (decide ((0 = 0) ∧ (out.length = out.length)))
 (.test (decide ((0 = 0) ∧ (seen.length = seen.length)))
 (.ret (Sum.inr ((n, (ds, ((), ((), a)))), (out, seen))))
 .fail)
 .fail))
noncomputable def F76_L7 (v) := loopO (fun v => (F76_L7_step v).run) v
def F76_L4_sh : LSh := ⟨(fun ex => match ex with | .norm => [(0, none), (1, none), (5, none), (6, none), (7, none)] | .exit i => if i = 0 then [(5, none)] else [] | .ret => [(4, none)]), [(0, (.one (.si .i64))), (1, (.one (.sl (.pair (.int .i64) (.int .i64)) false false))), (5, (.one (.rw 0 0))), (6, (.one (.rw 1 0))), (7, (.one (.si .i64)))], [(.row 0 (.list true (.int .i64))), (.row 0 .bool)], [⟨(.exit 0), [(5, (.one (.rw 0 0)))], [(.row 0 (.list true (.int .i64)))]⟩], [], []⟩
noncomputable def F76_L4_step : ((Int × List ((Int × Int)) × Unit × Unit × Int) × (List (List (Int)) × List (Bool))) → T (((Int × List ((Int × Int)) × Unit × Unit × Int) × (List (List (Int)) × List (Bool))) ⊕ (Unit × List (List (Int)))) := fun ((n, ds, (), (), a), (out, seen)) =>
 (.test (decide (a < n))
 (.test (decide ((0 = 0) ∧ (out.length = out.length)))
 (.test (decide ((0 = 0) ∧ (seen.length = seen.length)))
 (.sub (F76_L7 ((n, (ds, ((), ((), (a, (w64 (a + 1))))))), (out, seen))) fun z0 =>
 (.test (decide ((0 = 0) ∧ (z0.2.1.length = z0.2.1.length)))
 (.test (decide ((0 = 0) ∧ (z0.2.2.length = z0.2.2.length)))
 (.ret (Sum.inl ((z0.1.1, (z0.1.2.1, ((), ((), (w64 (z0.1.2.2.2.2 + 1)))))), (z0.2.1, z0.2.2))))
 .fail)
 .fail))
 .fail)
 .fail)
 (.test (decide ((0 = 0) ∧ (out.length = out.length)))
 (.ret (Sum.inr ((), out)))
 .fail))
noncomputable def F76_L4 (v) := loopO (fun v => (F76_L4_step v).run) v
def F76_fo : List FO := [⟨[(.one (.rw 0 0))], [(.row 0 (.list true (.int .i64)))]⟩]
noncomputable def F76_t : (Int × List ((Int × Int))) → T (Unit × List (List (Int))) := fun (n, ds) =>
 (.test (decide ((0 ≤ (w64 (n * n))) ∧ (((w64 (n * n)) ≤ (w64 (n * n))) ∧ (((Int.toNat (w64 (n * n))) * 2) ≤ 140737488355328))))
 (.test (decide ((0 = 0) ∧ (0 = (List.length ([] : List (List Int))))))
 (.test (decide ((0 = 0) ∧ ((Int.toNat (w64 (n * n))) = (List.length (List.replicate (Int.toNat (w64 (n * n))) false)))))
 (.sub (F76_L4 ((n, (ds, ((), ((), (0 : Int))))), (([] : List (List Int)), (List.replicate (Int.toNat (w64 (n * n))) false)))) fun z0 =>
 (.test (decide ((0 + z0.2.length) ≤ z0.2.length))
 (.sub (F75 (win z0.2 0 z0.2.length)) fun z1 =>
 (.test (decide ((0 = 0) ∧ (z1.2.length = z1.2.length)))
 (.ret ((), z1.2))
 .fail))
 .fail))
 .fail)
 .fail)
 .fail)
noncomputable def F76 (v) := (F76_t v).run
noncomputable def F76_E : TEnv := ((E0.add1 n_F74 F74_sh F74_fo F74).add1 n_F75 F75_sh F75_fo F75)
theorem F76_Eok : (F76_E).OK := ((E0ok.add1 F74_ok).add1 F75_ok)
noncomputable def F76_told : Nat → Option SealT := fun id => if id = 16 then some (LSh.told F76_L16_sh 0 (F76_L16_step)) else if id = 13 then some (LSh.told F76_L13_sh 0 (F76_L13_step)) else if id = 7 then some (LSh.told F76_L7_sh 0 (F76_L7_step)) else if id = 4 then some (LSh.told F76_L4_sh 0 (F76_L4_step)) else none
theorem F76_L16_ok : ToldOK Tryz.prog 0 (loopAt (bodyOf fn_F76) [0, 0, 0, 0]) (LSh.told F76_L16_sh 0 (F76_L16_step)) :=
 loop_ok (E := F76_E) (F76_Eok) (told := F76_told) (l := F76_L16_sh) (step := F76_L16_step) (loopsOK_of (ls := []) (by kernel_rfl) trivial) (by kernel_rfl) (fun v => by kernel_rfl)
theorem F76_L13_ok : ToldOK Tryz.prog 0 (loopAt (bodyOf fn_F76) [0, 0, 0]) (LSh.told F76_L13_sh 0 (F76_L13_step)) :=
 loop_ok (E := F76_E) (F76_Eok) (told := F76_told) (l := F76_L13_sh) (step := F76_L13_step) (loopsOK_of (ls := [loopAt (bodyOf fn_F76) [0, 0, 0, 0]]) (by kernel_rfl) ⟨.inr ⟨_, by kernel_rfl, F76_L16_ok⟩, trivial⟩) (by kernel_rfl) (fun v => by kernel_rfl)
theorem F76_L7_ok : ToldOK Tryz.prog 0 (loopAt (bodyOf fn_F76) [0, 0]) (LSh.told F76_L7_sh 0 (F76_L7_step)) :=
 loop_ok (E := F76_E) (F76_Eok) (told := F76_told) (l := F76_L7_sh) (step := F76_L7_step) (loopsOK_of (ls := [loopAt (bodyOf fn_F76) [0, 0, 0]]) (by kernel_rfl) ⟨.inr ⟨_, by kernel_rfl, F76_L13_ok⟩, trivial⟩) (by kernel_rfl) (fun v => by kernel_rfl)
theorem F76_L4_ok : ToldOK Tryz.prog 0 (loopAt (bodyOf fn_F76) [0]) (LSh.told F76_L4_sh 0 (F76_L4_step)) :=
 loop_ok (E := F76_E) (F76_Eok) (told := F76_told) (l := F76_L4_sh) (step := F76_L4_step) (loopsOK_of (ls := [loopAt (bodyOf fn_F76) [0, 0]]) (by kernel_rfl) ⟨.inr ⟨_, by kernel_rfl, F76_L7_ok⟩, trivial⟩) (by kernel_rfl) (fun v => by kernel_rfl)
theorem F76_ok : FOK Tryz.prog n_F76 F76_sh F76_fo F76 :=
 fn_ok (E := F76_E) (F76_Eok) (told := F76_told) (fl := []) (c := bodyOf fn_F76) (s := F76_sh) (l := F76_fo) (tree := F76_t) fnat_F76 (by kernel_rfl) (by kernel_rfl) (by kernel_rfl) (loopsOK_of (ls := [loopAt (bodyOf fn_F76) [0]]) (by kernel_rfl) ⟨.inr ⟨_, by kernel_rfl, F76_L4_ok⟩, trivial⟩) (fun v => by kernel_rfl)
theorem F76_L16_eq {N : Nat} {ds : List Dg} (hN : N ≤ 12) (hl : ds.length < 1000000) {a b i c : Int} (ha : 0 ≤ a ∧ a ≤ 12) (hb : 0 ≤ b ∧ b ≤ 12) (h0 : 0 ≤ i) (h1 : i < c) (h2 : c ≤ b) (hj : joinD N ds i c = true) (hne : (i, c) ≠ (a, b))
  (hm : ∀ c', c < c' → c' ≤ b → (i, c') ≠ (a, b) → joinD N ds i c' = false) (next : Int) (out : List (List Int)) (seen : List Bool) (piece : List Int) : ∀ (m : Nat) (t : Int), t = c + (m : Int) → t ≤ b →
  F76_L16 (((N : Int), (ds, ((), ((), (a, (b, ((), (i, (next, t))))))))), (out, (seen, piece))) = some (((N : Int), (ds, ((), ((), (a, (b, ((), c))))))), (out, (seen, piece))) := by
 intro m
 induction m with
 | zero =>
  intro t ht htb
  have e : t = c := by omega
  subst e
  have hjo := F74_eq N ds i t hN (by omega) (by omega) hl
  simp only [F76_L16]
  refine loopO_done ?_
  rw [F76_L16_step, T.run_test, if_pos (decide_eq_true (by omega)), T.run_sub, hjo, Option.bind_some, T.run_test, if_pos hj, T.run_test]
  by_cases c1 : i = a
  ·have c2 : t ≠ b := fun e => hne (by rw [c1, e])
   rw [if_neg (by simp [c1]), T.run_test, if_pos (by simpa using c2), T.run_test, if_pos (by simp), T.run_test, if_pos (by simp), T.run_test, if_pos (by simp), T.run_ret]
  ·rw [if_pos (by simpa using c1), T.run_test, if_pos (by simp), T.run_test, if_pos (by simp), T.run_test, if_pos (by simp), T.run_ret]
 | succ m ih =>
  intro t ht htb
  have w1 : w64 (t - 1) = t - 1 := w64_id (by omega) (by omega)
  have := ih (t - 1) (by omega) (by omega)
  have hjo := F74_eq N ds i t hN (by omega) (by omega) hl
  simp only [F76_L16] at this ⊢
  rw [← this]
  refine loopO_next ?_
  rw [F76_L16_step, T.run_test, if_pos (decide_eq_true (by omega)), T.run_sub, hjo, Option.bind_some, T.run_test, w1]
  by_cases c1 : (i, t) = (a, b)
  ·simp only [Prod.mk.injEq] at c1
   obtain ⟨rfl, rfl⟩ := c1
   cases joinD N ds i t with
   | false => rw [if_neg (by simp), T.run_test, if_pos (by simp), T.run_test, if_pos (by simp), T.run_test, if_pos (by simp), T.run_ret]
   | true => rw [if_pos rfl, T.run_test, if_neg (by simp), T.run_test, if_neg (by simp), T.run_test, if_pos (by simp), T.run_test, if_pos (by simp), T.run_test, if_pos (by simp), T.run_ret]
  ·rw [hm t (by omega) htb c1, if_neg (by simp), T.run_test, if_pos (by simp), T.run_test, if_pos (by simp), T.run_test, if_pos (by simp), T.run_ret]
theorem F76_L13_eq {N : Nat} {ds : List Dg} (h3 : 3 ≤ N) (hN : N ≤ 12) (hl : ds.length < 1000000) (hc : CutD N ds) {a b : Int} (hk : (a, b) ∈ wholeD N :: ds) (out : List (List Int)) (seen : List Bool) : ∀ (m : Nat) (i : Int) (piece : List Int), b - i ≤ (m : Int) → i ∈ pcs N ds (a, b) → piece.length ≤ 20 - m →  m ≤ 20 →
  F76_L13 (((N : Int), (ds, ((), ((), (a, (b, ((), i))))))), (out, (seen, piece))) = some (((N : Int), (ds, ((), ((), (a, (b, ()))))) ), (out, (seen, piece ++ (pcs N ds (a, b)).filter fun v => decide (i < v)))) := by
 have hlow := key_low hc h3 hk
 simp only at hlow
 have stop : ∀ (i : Int) (piece : List Int), i = b → F76_L13 (((N : Int), (ds, ((), ((), (a, (b, ((), i))))))), (out, (seen, piece))) = some (((N : Int), (ds, ((), ((), (a, (b, ()))))) ), (out, (seen, piece ++ (pcs N ds (a, b)).filter fun v => decide (i < v)))) := by
  intro i piece e
  subst e
  have hlast := pcs_last N ds (a, i)
  simp only at hlast
  rw [hlast, List.append_nil]
  simp only [F76_L13]
  refine loopO_done ?_
  rw [F76_L13_step, T.run_test, if_neg (by simp), T.run_test, if_pos (by simp), T.run_test, if_pos (by simp), T.run_test, if_pos (by simp), T.run_ret]
 intro m
 induction m with
 | zero =>
  intro i piece hm hi hp h20
  have := (pcs_mem.1 hi).2.1
  simp only at this
  exact stop i piece (by omega)
 | succ m ih =>
  intro i piece hm hi hp h20
  have hib := (pcs_mem.1 hi).2.1
  simp only at hib
  by_cases e : i = b
  ·exact stop i piece e
  ·obtain ⟨c, c1, c2, c3, c4, c5⟩ := next_exists (n := N) (ds := ds) (k := (a, b)) (i := i) (by simp only; omega) (by simp only; omega)
   simp only at c2
   obtain ⟨g1, g2⟩ := next_corner hc h3 hk hi c1 c2 c3 c4 c5
   have w1 : w64 (i + 1) = i + 1 := w64_id (by omega) (by omega)
   have h16 := F76_L16_eq hN hl (a := a) (b := b) (by omega) (by omega) (by omega) c1 c2 c3 c4 c5 (i + 1) out seen piece (b - c).toNat b (by omega) (Int.le_refl _)
   have := ih c (piece ++ [c]) (by omega) g1 (by rw [List.length_append, List.length_singleton]; omega) (by omega)
   rw [after_corner c1 g1 g2]
   rw [List.append_assoc] at this
   simp only [F76_L13] at this ⊢
   show _ = some (((N : Int), (ds, ((), ((), (a, (b, ()))))) ), (out, (seen, piece ++ ([c] ++ (pcs N ds (a, b)).filter fun v => decide (c < v)))))
   rw [← this]
   refine loopO_next ?_
   rw [F76_L13_step, T.run_test, if_pos (by simpa using e), T.run_test, if_pos (by simp), T.run_test, if_pos (by simp), T.run_test, if_pos (by simp), T.run_sub, w1, h16, Option.bind_some]
   simp only [win_one, win_all]
   rw [T.run_test, if_pos (by simp), T.run_test, if_pos (by simp), T.run_test, if_pos (by exact decide_eq_true (by rw [List.length_singleton]; omega)), T.run_test, if_pos (by simp), T.run_test, if_pos (by simp), T.run_test, if_pos (by simp), T.run_ret]
def SeenOK (N a b : Nat) (seen : List Bool) : Prop := seen.length = N * N ∧ ∀ x y : Nat, x < N → y < N → (a < x ∨ a = x ∧ b ≤ y) → seen[x * N + y]? = some false
theorem seen_idx {N x y : Nat} (hx : x < N) (hy : y < N) : x * N + y < N * N := by
 have := Nat.mul_le_mul_right N (show x + 1 ≤ N from hx)
 rw [Nat.add_mul, Nat.one_mul] at this
 omega
theorem SeenOK.mono {N a b a' b' : Nat} {seen : List Bool} (h : SeenOK N a b seen) (hh : a < a' ∨ a = a' ∧ b ≤ b') : SeenOK N a' b' seen := ⟨h.1, fun x y hx hy hxy => h.2 x y hx hy (by omega)⟩
theorem SeenOK.put {N a b : Nat} {seen : List Bool} (h : SeenOK N a b seen) (hb : b < N) : SeenOK N a (b + 1) (seen.set (a * N + b) true) := by
 refine ⟨by rw [List.length_set]; exact h.1, fun x y hx hy hxy => ?_⟩
 rw [List.getElem?_set_ne]
 ·exact h.2 x y hx hy (by omega)
 ·rcases hxy with g | ⟨rfl, g⟩
  ·have := Nat.mul_le_mul_right N (show a + 1 ≤ x from g)
   rw [Nat.add_mul, Nat.one_mul] at this
   omega
  ·omega
def keysAt (N : Nat) (ds : List Dg) (a b : Nat) : List Dg := (((List.range N).drop b).filter fun b => decide (a + 1 < b) && joinD N ds (a : Int) (b : Int)).map fun (b : Nat) => ((a : Int), (b : Int))
theorem drop_range {N b : Nat} (h : b < N) : (List.range N).drop b = b :: (List.range N).drop (b + 1) := by
 rw [List.drop_eq_getElem_cons (by simpa using h), List.getElem_range]
theorem F76_L7_eq {N : Nat} {ds : List Dg} (h3 : 3 ≤ N) (hN : N ≤ 12) (hl : ds.length < 1000000) (hc : CutD N ds) (a : Nat) (ha : a < N) : ∀ (m b : Nat) (out : List (List Int)) (seen : List Bool), b + m = N → a < b → out.length ≤ a * N + b → SeenOK N a b seen →
  ∃ seen', F76_L7 (((N : Int), (ds, ((), ((), ((a : Int), (b : Int)))))), (out, seen)) = some (((N : Int), (ds, ((), ((), (a : Int))))), (out ++ (keysAt N ds a b).map (pcs N ds), seen')) ∧ SeenOK N (a + 1) 0 seen' ∧ (out ++ (keysAt N ds a b).map (pcs N ds)).length ≤ a * N + N := by
 have haN : a * N ≤ 144 := by have := Nat.mul_le_mul (show a ≤ 12 by omega) hN; omega
 intro m
 induction m with
 | zero =>
  intro b out seen hb hab ho hs
  refine ⟨seen, ?_, hs.mono (by omega), ?_⟩
  ·have e : keysAt N ds a b = [] := by unfold keysAt; rw [List.drop_eq_nil_of_le (by simp; omega)]; rfl
   rw [e]
   simp only [F76_L7]
   refine loopO_done ?_
   rw [F76_L7_step, T.run_test, if_neg (by rw [decide_eq_true_eq]; omega), T.run_test, if_pos (by simp), T.run_test, if_pos (by simp), T.run_ret]
   simp
  ·have e : keysAt N ds a b = [] := by unfold keysAt; rw [List.drop_eq_nil_of_le (by simp; omega)]; rfl
   rw [e]
   simp
   omega
 | succ m ih =>
  intro b out seen hb hab ho hs
  have hbN : b < N := by omega
  have w1 : w64 ((b : Int) + 1) = ((b + 1 : Nat) : Int) := by rw [w64_id (by omega) (by omega)]; omega
  have w2 : w64 ((b : Int) - (a : Int)) = (b : Int) - (a : Int) := w64_id (by omega) (by omega)
  have hjo := F74_eq N ds (a : Int) (b : Int) hN (by omega) (by omega) hl
  have ek : keysAt N ds a b = (if a + 1 < b ∧ joinD N ds (a : Int) (b : Int) = true then [((a : Int), (b : Int))] else []) ++ keysAt N ds a (b + 1) := by
   unfold keysAt
   rw [drop_range hbN, List.filter_cons]
   by_cases c : a + 1 < b ∧ joinD N ds (a : Int) (b : Int) = true
   ·rw [if_pos c, if_pos (by simp [c.1, c.2])]; rfl
   ·rw [if_neg c, if_neg (by simpa using c)]; rfl
  have skip : ¬ (a + 1 < b ∧ joinD N ds (a : Int) (b : Int) = true) → (F76_L7_step (((N : Int), (ds, ((), ((), ((a : Int), (b : Int)))))), (out, seen))).run = some (.inl (((N : Int), (ds, ((), ((), ((a : Int), ((b + 1 : Nat) : Int)))))), (out, seen))) := by
   intro c
   rw [F76_L7_step, T.run_test, if_pos (decide_eq_true (by omega)), T.run_sub, hjo, Option.bind_some, T.run_test, w1]
   cases hj : joinD N ds (a : Int) (b : Int) with
   | false => rw [if_pos (by simp), T.run_test, if_pos (by simp), T.run_test, if_pos (by simp), T.run_ret]
   | true =>
    have : ¬ (a + 1 < b) := fun h => c ⟨h, hj⟩
    rw [if_neg (by simp), T.run_test, w2, if_pos (by simp; omega), T.run_test, if_pos (by simp), T.run_test, if_pos (by simp), T.run_ret]
  by_cases c : a + 1 < b ∧ joinD N ds (a : Int) (b : Int) = true
  ·obtain ⟨c1, hj⟩ := c
   have hk : ((a : Int), (b : Int)) ∈ wholeD N :: ds := by
    rcases joinD_iff.1 hj with g | g | g
    ·omega
    ·exact List.mem_cons.2 (.inl (Prod.ext (by simp only [wholeD]; omega) (by simp only [wholeD]; omega)))
    ·exact List.mem_cons.2 (.inr g)
   have hends := (key_ends hc h3 hk).1
   have hw : w64 (w64 ((a : Int) * (N : Int)) + (b : Int)) = ((a * N + b : Nat) : Int) := by
    rw [← Int.natCast_mul, w64_id (z := ((a * N : Nat) : Int)) (by omega) (by omega), w64_id (by omega) (by omega)]; omega
   have hidx := seen_idx ha hbN
   have hsl := hs.1
   have hg := hs.2 a b ha hbN (by omega)
   have h13 := F76_L13_eq h3 hN hl hc hk out (seen.set (a * N + b) true) 12 (a : Int) [(a : Int)] (by omega) hends (by simp) (by omega)
   have hfirst := pcs_first hc h3 hk
   simp only at hfirst
   rw [show [(a : Int)] ++ (pcs N ds ((a : Int), (b : Int))).filter (fun v => decide ((a : Int) < v)) = pcs N ds ((a : Int), (b : Int)) from hfirst.symm] at h13
   obtain ⟨seen', e1, e2, e3⟩ := ih (b + 1) (out ++ [pcs N ds ((a : Int), (b : Int))]) (seen.set (a * N + b) true) (by omega) (by omega) (by simp; omega) (hs.put hbN)
   refine ⟨seen', ?_, e2, ?_⟩
   ·rw [ek, if_pos ⟨c1, hj⟩, List.map_append, ← List.append_assoc]
    simp only [F76_L7] at e1 ⊢
    rw [show List.map (pcs N ds) [((a : Int), (b : Int))] = [pcs N ds ((a : Int), (b : Int))] from rfl, ← e1]
    refine loopO_next ?_
    rw [F76_L7_step, T.run_test, if_pos (decide_eq_true (by omega)), T.run_sub, hjo, Option.bind_some, T.run_test, hj, if_neg (by simp), T.run_test, w2, if_neg (by simp; omega), T.run_test, hw, if_pos (decide_eq_true (by omega)), T.run_sub, Nat.zero_add, Int.toNat_natCast, hg, Option.bind_some, T.run_test, if_neg (by simp), T.run_test, if_pos (decide_eq_true (by omega)), T.run_sub, Option.bind_some, T.run_test, if_pos (by simp), T.run_test, if_pos (by simp), T.run_test, if_pos (by simp), T.run_sub,
     show (List.replicate 1 (0 : Int)).set 0 (a : Int) = [(a : Int)] from rfl, h13, Option.bind_some]
    simp only [win_one, win_all, w1]
    rw [T.run_test, if_pos (by simp), T.run_test, if_pos (by simp), T.run_test, if_pos (by simp), T.run_test, if_pos (by exact decide_eq_true (by rw [List.length_singleton]; omega)), T.run_test, if_pos (by simp), T.run_test, if_pos (by simp), T.run_ret]
   ·rw [ek, if_pos ⟨c1, hj⟩, List.map_append, ← List.append_assoc]
    exact e3
  ·obtain ⟨seen', e1, e2, e3⟩ := ih (b + 1) out seen (by omega) (by omega) (by omega) (hs.mono (by omega))
   refine ⟨seen', ?_, e2, ?_⟩
   ·rw [ek, if_neg c, List.nil_append]
    simp only [F76_L7] at e1 ⊢
    rw [← e1]
    exact loopO_next (skip c)
   ·rw [ek, if_neg c, List.nil_append]
    exact e3
theorem keysAt_eq (N : Nat) (ds : List Dg) (a : Nat) : keysAt N ds a (a + 1) = keysOf N ds a := by
 have h : ((List.range N).take (a + 1)).filter (fun b => decide (a + 1 < b) && joinD N ds (a : Int) (b : Int)) = [] := by
  rw [List.filter_eq_nil_iff]
  intro x hx
  obtain ⟨i, hi, e⟩ := List.mem_take_iff_getElem.1 hx
  rw [List.getElem_range] at e
  simp; omega
 have h2 := congrArg (List.filter (fun b => decide (a + 1 < b) && joinD N ds (a : Int) (b : Int))) (List.take_append_drop (a + 1) (List.range N))
 rw [List.filter_append, h, List.nil_append] at h2
 unfold keysAt keysOf
 rw [h2]
theorem F76_L4_eq {N : Nat} {ds : List Dg} (h3 : 3 ≤ N) (hN : N ≤ 12) (hl : ds.length < 1000000) (hc : CutD N ds) : ∀ (m a : Nat) (out : List (List Int)) (seen : List Bool), a + m = N → out.length ≤ a * N → SeenOK N a 0 seen →
  F76_L4 (((N : Int), (ds, ((), ((), (a : Int))))), (out, seen)) = some ((), out ++ (((List.range N).drop a).flatMap (keysOf N ds)).map (pcs N ds)) := by
 intro m
 induction m with
 | zero =>
  intro a out seen ha ho hs
  rw [List.drop_eq_nil_of_le (by simp; omega)]
  simp only [F76_L4]
  refine loopO_done ?_
  rw [F76_L4_step, T.run_test, if_neg (by rw [decide_eq_true_eq]; omega), T.run_test, if_pos (by simp), T.run_ret]
  simp
 | succ m ih =>
  intro a out seen ha ho hs
  have haN : a < N := by omega
  have w1 : w64 ((a : Int) + 1) = ((a + 1 : Nat) : Int) := by rw [w64_id (by omega) (by omega)]; omega
  obtain ⟨seen', e1, e2, e3⟩ := F76_L7_eq h3 hN hl hc a haN (N - (a + 1)) (a + 1) out seen (by omega) (by omega) (by omega) (hs.mono (by omega))
  rw [keysAt_eq] at e1 e3
  have := ih (a + 1) _ seen' (by omega) (by rw [Nat.add_mul, Nat.one_mul]; exact e3) e2
  rw [drop_range haN, List.flatMap_cons, List.map_append, ← List.append_assoc]
  simp only [F76_L4] at this ⊢
  rw [← this]
  refine loopO_next ?_
  rw [F76_L4_step, T.run_test, if_pos (decide_eq_true (by omega)), T.run_test, if_pos (by simp), T.run_test, if_pos (by simp), T.run_sub, w1, e1, Option.bind_some, T.run_test, if_pos (by simp), T.run_test, if_pos (by simp), T.run_ret, w1]
theorem specP_len {n : Nat} {ds : List Dg} (h : CutD n ds) (hn : 3 ≤ n) : (specP n ds).length = ds.length + 1 := by
 have := (specP_perm h hn).length_eq
 simpa using this
theorem F76_eq {N : Nat} {ds : List Dg} (h3 : 3 ≤ N) (hN : N ≤ 12) (hl : ds.length ≤ 12) (hc : CutD N ds) : F76 ((N : Int), ds) = some ((), sortL (specP N ds)) := by
 have hNN : N * N ≤ 144 := by have := Nat.mul_le_mul hN hN; omega
 have hw : w64 ((N : Int) * (N : Int)) = ((N * N : Nat) : Int) := by rw [← Int.natCast_mul, w64_id (by omega) (by omega)]
 have h4 := F76_L4_eq h3 hN (by omega) hc N 0 [] (List.replicate (N * N) false) (by omega) (by simp) ⟨by simp, fun x y hx hy _ => by rw [List.getElem?_replicate, if_pos (seen_idx hx hy)]⟩
 rw [List.drop_zero, List.nil_append, Int.natCast_zero] at h4
 change _ = some ((), specP N ds) at h4
 have hsl := specP_len hc h3
 have hs := F75_eq (specP N ds) (by omega) fun p hp => by
  obtain ⟨k, hk, rfl⟩ := List.mem_map.1 ((specP_perm hc h3).mem_iff.1 hp)
  have := pcs_len hc h3 hk
  omega
 rw [F76, F76_t, T.run_test, hw, if_pos (decide_eq_true (by omega)), T.run_test, if_pos (by simp), T.run_test, if_pos (by simp), T.run_sub, Int.toNat_natCast, h4, Option.bind_some, T.run_test, if_pos (by simp), T.run_sub, win_all, hs, Option.bind_some, T.run_test, if_pos (by simp), T.run_ret]
def F49_sh : FSh := ⟨[(.one (.si .i64)), (.one (.sl (.pair (.int .i64) (.int .i64)) false false))], []⟩
def F49_fo : List FO := [⟨[(.one (.rw 0 0)), (.one .sb)], [(.row 0 (.list true (.int .i64)))]⟩]
noncomputable def F49_t : (Int × List ((Int × Int))) → T ((Unit × Bool) × List (List (Int))) := fun (n, ds) =>
 (.sub (F94 (n, ds)) fun z0 =>
 (.test (! z0)
 (.test true
 (.ret (((), false), ([] : List (List Int))))
 .fail)
 (.sub (F76 (n, ds)) fun z1 =>
 (.test (decide ((0 = 0) ∧ (z1.2.length = z1.2.length)))
 (.ret (((), true), z1.2))
 .fail))))
noncomputable def F49 (v) := (F49_t v).run
noncomputable def F49_E : TEnv := ((E0.add1 n_F94 F94_sh F94_fo F94).add1 n_F76 F76_sh F76_fo F76)
theorem F49_Eok : (F49_E).OK := ((E0ok.add1 F94_ok).add1 F76_ok)
noncomputable def F49_told : Nat → Option SealT := fun id => none
theorem F49_ok : FOK Tryz.prog n_F49 F49_sh F49_fo F49 :=
 fn_ok (E := F49_E) (F49_Eok) (told := F49_told) (fl := []) (c := bodyOf fn_F49) (s := F49_sh) (l := F49_fo) (tree := F49_t) fnat_F49 (by kernel_rfl) (by kernel_rfl) (by kernel_rfl) (loopsOK_of (ls := []) (by kernel_rfl) trivial) (fun v => by kernel_rfl)
theorem F49_eq (n : Int) (ds : List Dg) (hl : ds.length < 4611686018427387904) : F49 (n, ds) = some (piR n ds) := by
 unfold piR
 rw [F49, F49_t, T.run_sub, F94_eq n ds hl, Option.bind_some, T.run_test]
 by_cases c : isCut n ds = true
 ·obtain ⟨N, rfl, h3, h12, hlen, hc⟩ := isCut_cut c
  rw [c, if_neg (by decide), T.run_sub, F76_eq h3 h12 (by omega) hc, Option.bind_some, T.run_test, if_pos (by simp), T.run_ret, if_pos rfl, Int.toNat_natCast]
 ·rw [if_pos (by simp at c ⊢; exact c), T.run_test, if_pos rfl, T.run_ret, if_neg c]
def F50_sh : FSh := ⟨[.one (.si .u64)], []⟩
def F50_fo : List FO := [⟨[.one (.si .i64)], []⟩]
def F50 (x : Int) : Option Int := if 0 ≤ x ∧ x ≤ 18446744073709551615 then some (Lib.bitLen x.toNat : Int) else none
def F50_ren : Shelf.Ren := ⟨fun k => if k = 125 then n_F50 else if k = 128 then 152 else 153, fun t => if t = 3 then 3 else if t = 4 then 4 else if t = 5 then 5 else if t = 9 then 9 else if t = 46 then 113 else if t = 51 then 131 else 69, fun x => x⟩
theorem F50_lay : Lays.n125 Tryz.prog F50_ren :=
 { mixed := by kernel_rfl, f125 := by kernel_rfl, f128 := by kernel_rfl, f129 := by kernel_rfl, t3 := by kernel_rfl, a3 := fun w => by kernel_rfl, z3 := fun w => by kernel_rfl, v3 := fun w => by kernel_rfl, t4 := by kernel_rfl, a4 := fun w => by kernel_rfl, z4 := fun w => by kernel_rfl, v4 := fun w => by kernel_rfl, t5 := by kernel_rfl, a5 := fun w => by kernel_rfl, z5 := fun w => by kernel_rfl, v5 := fun w => by kernel_rfl, t9 := by kernel_rfl, a9 := fun w => by kernel_rfl, z9 := fun w => by kernel_rfl, v9 := fun w => by kernel_rfl, t46 := by kernel_rfl, a46 := fun w => by kernel_rfl, z46 := fun w => by kernel_rfl, v46 := fun w => by kernel_rfl, t51 := by kernel_rfl, a51 := fun w => by kernel_rfl, z51 := fun w => by kernel_rfl, v51 := fun w => by kernel_rfl, t53 := by kernel_rfl, a53 := fun w => by kernel_rfl, z53 := fun w => by kernel_rfl, v53 := fun w => by kernel_rfl }
theorem F50_ok : FOK Tryz.prog n_F50 F50_sh F50_fo F50 :=
 bitsLen_ok ⟨_, fnat_F50, by kernel_rfl, by kernel_rfl⟩ (ρr := F50_ren) rfl F50_lay
def F59_sh : FSh := ⟨[(.one (.si .i64)), (.one (.si .i64))], []⟩
def F59_fo : List FO := [⟨[(.one .sb)], []⟩]
noncomputable def F59_t : (Int × Int) → T Bool := fun (x, y) =>
 (.sub (F47 x) fun z0 =>
 (.test z0
 (.sub (F47 y) fun z1 =>
 (.test (! z1)
 (.ret true)
 (.ret (decide (x < y)))))
 (.ret (decide (x < y)))))
noncomputable def F59 (v) := (F59_t v).run
noncomputable def F59_E : TEnv := (E0.add1 n_F47 F47_sh F47_fo F47)
theorem F59_Eok : (F59_E).OK := (E0ok.add1 F47_ok)
noncomputable def F59_told : Nat → Option SealT := fun id => none
theorem F59_ok : FOK Tryz.prog n_F59 F59_sh F59_fo F59 :=
 fn_ok (E := F59_E) (F59_Eok) (told := F59_told) (fl := []) (c := bodyOf fn_F59) (s := F59_sh) (l := F59_fo) (tree := F59_t) fnat_F59 (by kernel_rfl) (by kernel_rfl) (by kernel_rfl) (loopsOK_of (ls := []) (by kernel_rfl) trivial) (fun v => by kernel_rfl)
theorem F59_val (x y : Int) : F59 (x, y) = some (decide (x < y)) := by
 simp [F59, F59_t, T.run, F47, F47_t]
def asD (l : List Int) : List Dg := l.map fun x => (x, (0 : Int))
def ofD (l : List Dg) : List Int := l.map Prod.fst
theorem ofD_asD (l : List Int) : ofD (asD l) = l := by
 unfold ofD asD
 rw [List.map_map]
 exact List.map_id' l
def sortI (l : List Int) : List Int := ofD (sortD (asD l))
theorem sortI_perm (l : List Int) : (sortI l).Perm l := by
 have := (sortD_perm (asD l)).map Prod.fst
 change (sortI l).Perm (ofD (asD l)) at this
 rwa [ofD_asD] at this
theorem asD_snd {l : List Int} {d : Dg} (h : d ∈ asD l) : d.2 = 0 := by
 obtain ⟨x, _, rfl⟩ := List.mem_map.1 h
 rfl
theorem sortI_up (l : List Int) : (sortI l).Pairwise (· ≤ ·) := by
 unfold sortI ofD
 rw [List.pairwise_map]
 exact (sortD_sorted (asD l)).imp fun {a b} h => by have := leD_iff.1 h; omega
theorem sortI_unique {l m : List Int} (h : m.Pairwise (· ≤ ·)) (hp : m.Perm l) : m = sortI l :=
 List.Perm.eq_of_pairwise (fun a b _ _ h1 h2 => by omega) h (sortI_up l) (hp.trans (sortI_perm l).symm)
theorem ofD_get {L : List Dg} {p : Nat} (h : p < L.length) : (ofD L)[p]? = some (gD L p).1 := by
 unfold ofD
 rw [List.getElem?_map, gD_some h]
 rfl
theorem w64_form (z : Int) : w64 z = if z % 18446744073709551616 ≥ 9223372036854775808 then z % 18446744073709551616 - 18446744073709551616 else z % 18446744073709551616 := by
 simp [w64, IntKind.wrap, IntKind.bits, IntKind.signed]
theorem w64_mod (z : Int) : w64 z % 18446744073709551616 = z % 18446744073709551616 := by
 rw [w64_form]
 split <;> omega
theorem w64_congr {x y : Int} (h : x % 18446744073709551616 = y % 18446744073709551616) : w64 x = w64 y := by
 rw [w64_form, w64_form, h]
theorem w64_mul_swap (z a b : Int) : w64 (w64 (z * a) * b) = w64 (w64 (z * b) * a) := by
 apply w64_congr
 rw [Int.mul_emod, w64_mod, ← Int.mul_emod, Int.mul_emod (w64 (z * b)), w64_mod, ← Int.mul_emod]
 congr 1
 rw [Int.mul_assoc, Int.mul_comm a b, Int.mul_assoc]
theorem foldl_mul_perm (f : Int → Int) {l m : List Int} (h : l.Perm m) (a : Int) : l.foldl (fun o s => w64 (o * f s)) a = m.foldl (fun o s => w64 (o * f s)) a :=
 h.foldl_eq' (fun x _ y _ z => w64_mul_swap z (f x) (f y)) a
def F11_sh : FSh := ⟨[(.one (.rw 0 0)), (.one (.si .i64)), (.one (.si .i64))], [(.row 0 (.int .i64))]⟩
def F11_L4_sh : LSh := ⟨(fun ex => match ex with | .norm => [(0, none), (1, none), (2, none), (6, none), (7, none)] | .exit i => if i = 2 then [(0, none), (1, none), (2, none), (6, none)] else if i = 1 then [(0, none), (1, none), (2, none), (6, none)] else if i = 0 then [] else [] | .ret => []), [(0, (.one (.rw 0 0))), (1, (.one (.si .i64))), (2, (.one (.si .i64))), (6, (.one (.si .i64))), (7, (.one (.si .i64)))], [(.row 0 (.int .i64))], [⟨(.exit 2), [(0, (.one (.rw 0 0))), (1, (.one (.si .i64))), (2, (.one (.si .i64))), (6, (.one (.si .i64)))], [(.row 0 (.int .i64))]⟩], [], []⟩
noncomputable def F11_L4_step : ((Unit × Int × Int × Int × Int) × List (Int)) → T (((Unit × Int × Int × Int × Int) × List (Int)) ⊕ ((Unit × Int × Int × Int) × List (Int))) := fun (((), a, b, i, j), data) =>
 (.test (decide (j > a))
 (.test (decide ((0 ≤ j) ∧ (j < (data.length : Int))))
 (.sub (data[(0 + (Int.toNat j))]?) fun z0 =>
 (.test (decide ((0 ≤ (w64 (j - 1))) ∧ ((w64 (j - 1)) < (data.length : Int))))
 (.sub (data[(0 + (Int.toNat (w64 (j - 1))))]?) fun z1 =>
 (.sub (F59 (z0, z1)) fun z2 =>
 (.test z2
 (.test (decide ((0 ≤ (w64 (j - 1))) ∧ ((w64 (j - 1)) < (data.length : Int))))
 (.sub (data[(0 + (Int.toNat (w64 (j - 1))))]?) fun z3 =>
 (.test (decide ((0 ≤ j) ∧ (j < (data.length : Int))))
 (.sub (data[(0 + (Int.toNat j))]?) fun z4 =>
 (.test (decide ((0 ≤ j) ∧ (j < (data.length : Int))))
 (.sub (data[(0 + (Int.toNat j))]?) fun z5 =>
 (.test (decide ((0 ≤ (w64 (j - 1))) ∧ ((w64 (j - 1)) < (data.length : Int))))
 (.sub ((List.set data (0 + (Int.toNat j)) z3)[(0 + (Int.toNat (w64 (j - 1))))]?) fun z6 =>
 (.test (decide ((0 = 0) ∧ (data.length = (List.length (List.set (List.set data (0 + (Int.toNat j)) z3) (0 + (Int.toNat (w64 (j - 1)))) z4)))))
 (.ret (Sum.inl (((), (a, (b, (i, (w64 (j - 1)))))), (List.set (List.set data (0 + (Int.toNat j)) z3) (0 + (Int.toNat (w64 (j - 1)))) z4))))
 .fail))
 .fail))
 .fail))
 .fail))
 .fail)
 (.test (decide ((0 = 0) ∧ (data.length = data.length)))
 (.ret (Sum.inr (((), (a, (b, i))), data)))
 .fail))))
 .fail))
 .fail)
 (.test (decide ((0 = 0) ∧ (data.length = data.length)))
 (.ret (Sum.inr (((), (a, (b, i))), data)))
 .fail))
noncomputable def F11_L4 (v) := loopO (fun v => (F11_L4_step v).run) v
def F11_L1_sh : LSh := ⟨(fun ex => match ex with | .norm => [(0, none), (1, none), (2, none), (6, none)] | .exit i => if i = 0 then [] else [] | .ret => []), [(0, (.one (.rw 0 0))), (1, (.one (.si .i64))), (2, (.one (.si .i64))), (6, (.one (.si .i64)))], [(.row 0 (.int .i64))], [⟨(.exit 0), [], [(.row 0 (.int .i64))]⟩], [], []⟩
noncomputable def F11_L1_step : ((Unit × Int × Int × Int) × List (Int)) → T (((Unit × Int × Int × Int) × List (Int)) ⊕ (Unit × List (Int))) := fun (((), a, b, i), data) =>
 (.test (decide (i < b))
 (.test (decide ((0 = 0) ∧ (data.length = data.length)))
 (.sub (F11_L4 (((), (a, (b, (i, i)))), data)) fun z0 =>
 (.test (decide ((0 = 0) ∧ (z0.2.length = z0.2.length)))
 (.ret (Sum.inl (((), (z0.1.2.1, (z0.1.2.2.1, (w64 (z0.1.2.2.2 + 1))))), z0.2)))
 .fail))
 .fail)
 (.ret (Sum.inr ((), data))))
noncomputable def F11_L1 (v) := loopO (fun v => (F11_L1_step v).run) v
def F11_fo : List FO := [⟨[], [(.row 0 (.int .i64))]⟩]
noncomputable def F11_t : ((Unit × Int × Int) × List (Int)) → T (Unit × List (Int)) := fun (((), a, b), data) =>
 (.test (decide ((0 = 0) ∧ (data.length = data.length)))
 (.sub (F11_L1 (((), (a, (b, (w64 (a + 1))))), data)) fun z0 =>
 (.ret ((), z0.2)))
 .fail)
noncomputable def F11 (v) := (F11_t v).run
noncomputable def F11_E : TEnv := (E0.add1 n_F59 F59_sh F59_fo F59)
theorem F11_Eok : (F11_E).OK := (E0ok.add1 F59_ok)
noncomputable def F11_told : Nat → Option SealT := fun id => if id = 4 then some (LSh.told F11_L4_sh 1 (F11_L4_step)) else if id = 1 then some (LSh.told F11_L1_sh 1 (F11_L1_step)) else none
theorem F11_L4_ok : ToldOK Tryz.prog 1 (loopAt (bodyOf fn_F11) [0, 0]) (LSh.told F11_L4_sh 1 (F11_L4_step)) :=
 loop_ok (E := F11_E) (F11_Eok) (told := F11_told) (l := F11_L4_sh) (step := F11_L4_step) (loopsOK_of (ls := []) (by kernel_rfl) trivial) (by kernel_rfl) (fun v => by kernel_rfl)
theorem F11_L1_ok : ToldOK Tryz.prog 1 (loopAt (bodyOf fn_F11) [0]) (LSh.told F11_L1_sh 1 (F11_L1_step)) :=
 loop_ok (E := F11_E) (F11_Eok) (told := F11_told) (l := F11_L1_sh) (step := F11_L1_step) (loopsOK_of (ls := [loopAt (bodyOf fn_F11) [0, 0]]) (by kernel_rfl) ⟨.inr ⟨_, by kernel_rfl, F11_L4_ok⟩, trivial⟩) (by kernel_rfl) (fun v => by kernel_rfl)
theorem F11_ok : FOK Tryz.prog n_F11 F11_sh F11_fo F11 :=
 fn_ok (E := F11_E) (F11_Eok) (told := F11_told) (fl := []) (c := bodyOf fn_F11) (s := F11_sh) (l := F11_fo) (tree := F11_t) fnat_F11 (by kernel_rfl) (by kernel_rfl) (by kernel_rfl) (loopsOK_of (ls := [loopAt (bodyOf fn_F11) [0]]) (by kernel_rfl) ⟨.inr ⟨_, by kernel_rfl, F11_L1_ok⟩, trivial⟩) (fun v => by kernel_rfl)
theorem F11_sink (b i : Int) : ∀ (j : Nat) (L : List Dg), j < L.length → L.length < 1000000 → (∀ d ∈ L, d.2 = 0) →
  F11_L4 (((), ((0 : Int), (b, (i, (j : Int))))), ofD L) = some (((), ((0 : Int), (b, i))), ofD (sinkD j L))
 | 0, L, hj, hl, hz => by
  simp only [F11_L4]
  exact loopO_done (by simp [F11_L4_step, T.run, sinkD])
 | j + 1, L, hj, hl, hz => by
  have ih := F11_sink b i j (swapD L j) (by rw [swapD_length]; omega) (by rw [swapD_length]; omega) (fun d hd => hz d ((swapD_perm hj).mem_iff.1 hd))
  simp only [F11_L4] at ih ⊢
  have w1 : w64 (((j + 1 : Nat) : Int) - 1) = (j : Int) := by rw [w64_id (by omega) (by omega)]; omega
  have hol : (ofD L).length = L.length := by unfold ofD; rw [List.length_map]
  have g1 := ofD_get hj
  have g2 := ofD_get (show j < L.length by omega)
  have z1 : (gD L (j + 1)).2 = 0 := by rw [gD_eq hj]; exact hz _ (List.getElem_mem hj)
  have z2 : (gD L j).2 = 0 := by rw [gD_eq (by omega)]; exact hz _ (List.getElem_mem (by omega))
  have hcmp : ltD (gD L (j + 1)) (gD L j) = decide ((gD L (j + 1)).1 < (gD L j).1) := by
   rw [Bool.eq_iff_iff, ltD_iff, decide_eq_true_eq, z1, z2]; omega
  have c0 : ((j + 1 : Nat) : Int) > 0 := by omega
  have c1 : (0 : Int) ≤ ((j + 1 : Nat) : Int) ∧ ((j + 1 : Nat) : Int) < ((ofD L).length : Int) := by omega
  have c2 : (0 : Int) ≤ (j : Int) ∧ (j : Int) < ((ofD L).length : Int) := by omega
  cases hlt : ltD (gD L (j + 1)) (gD L j) with
  | false =>
   have e : sinkD (j + 1) L = L := by unfold sinkD; rw [hlt]; rfl
   rw [e]
   refine loopO_done ?_
   rw [hcmp] at hlt
   rw [F11_L4_step, T.run_test, if_pos (decide_eq_true c0), T.run_test, if_pos (decide_eq_true c1), T.run_sub, Nat.zero_add, Int.toNat_natCast, g1, Option.bind_some, T.run_test, w1, if_pos (decide_eq_true c2), T.run_sub, Nat.zero_add, Int.toNat_natCast, g2, Option.bind_some, T.run_sub, F59_val, Option.bind_some, T.run_test, hlt, if_neg (by simp), T.run_test, if_pos (by simp), T.run_ret]
  | true =>
   have e : sinkD (j + 1) L = sinkD j (swapD L j) := by conv => lhs; unfold sinkD
                                                        rw [hlt]; rfl
   rw [e, ← ih]
   refine loopO_next ?_
   rw [hcmp] at hlt
   have g3 : ((ofD L).set (j + 1) (gD L j).1)[j]? = some (gD L j).1 := by rw [List.getElem?_set_ne (by omega)]; exact g2
   have hsw : ((ofD L).set (j + 1) (gD L j).1).set j (gD L (j + 1)).1 = ofD (swapD L j) := by unfold ofD swapD; rw [List.map_set, List.map_set]
   rw [F11_L4_step, T.run_test, if_pos (decide_eq_true c0), T.run_test, if_pos (decide_eq_true c1), T.run_sub, Nat.zero_add, Int.toNat_natCast, g1, Option.bind_some, T.run_test, w1, if_pos (decide_eq_true c2), T.run_sub, Nat.zero_add, Int.toNat_natCast, g2, Option.bind_some, T.run_sub, F59_val, Option.bind_some, T.run_test, hlt, if_pos rfl,
    T.run_test, if_pos (decide_eq_true c2), T.run_sub, Option.bind_some, T.run_test, if_pos (decide_eq_true c1), T.run_sub, Option.bind_some, T.run_test, if_pos (decide_eq_true c1), T.run_sub, Option.bind_some, T.run_test, if_pos (decide_eq_true c2), T.run_sub, g3, Option.bind_some, T.run_test, if_pos (by simp), T.run_ret, hsw]
theorem F11_isort : ∀ (n i : Nat) (L : List Dg), i + n = L.length → L.length < 1000000 → (∀ d ∈ L, d.2 = 0) → 0 < i →
  F11_L1 (((), ((0 : Int), ((L.length : Int), (i : Int)))), ofD L) = some ((), ofD (isortD n i L))
 | 0, i, L, hi, hl, hz, h0 => by
  simp only [F11_L1]
  refine loopO_done ?_
  rw [F11_L1_step, T.run_test, if_neg (by rw [decide_eq_true_eq]; omega), T.run_ret]
  rfl
 | n + 1, i, L, hi, hl, hz, h0 => by
  have ih := F11_isort n (i + 1) (sinkD i L) (by rw [sinkD_length]; omega) (by rw [sinkD_length]; omega) (fun d hd => hz d ((sinkD_perm (by omega)).mem_iff.1 hd)) (by omega)
  rw [sinkD_length] at ih
  have hs := F11_sink (L.length : Int) (i : Int) i L (by omega) hl hz
  simp only [F11_L1] at ih ⊢
  show _ = some ((), ofD (isortD n (i + 1) (sinkD i L)))
  rw [← ih]
  refine loopO_next ?_
  have w1 : w64 ((i : Int) + 1) = ((i + 1 : Nat) : Int) := by rw [w64_id (by omega) (by omega)]; omega
  rw [F11_L1_step, T.run_test, if_pos (decide_eq_true (by omega)), T.run_test, if_pos (by simp), T.run_sub, hs, Option.bind_some, T.run_test, if_pos (by simp), T.run_ret, w1]
def F15_sh : FSh := ⟨[(.one (.rw 0 0)), (.one (.si .i64)), (.one (.si .i64)), (.one (.si .i64))], [(.row 0 (.int .i64))]⟩
def F15_L2_sh : LSh := ⟨(fun ex => match ex with | .norm => [(0, none), (1, none), (2, none), (3, none), (8, none), (9, none)] | .exit i => if i = 0 then [] else [] | .ret => []), [(0, (.one (.rw 0 0))), (1, (.one (.si .i64))), (2, (.one (.si .i64))), (3, (.one (.si .i64))), (8, (.one .sb)), (9, (.one .sb))], [(.row 0 (.int .i64))], [⟨.ret, [], [(.row 0 (.int .i64))]⟩], [], []⟩
noncomputable def F15_L2_step : ((Unit × Int × Int × Int × Bool × Bool) × List (Int)) → T (((Unit × Int × Int × Int × Bool × Bool) × List (Int)) ⊕ (Unit × List (Int))) := fun (((), a, b, limit, wasBalanced, wasPartitioned), data) =>
 (.test (decide ((w64 (b - a)) ≤ 12))
 (.test (decide ((0 = 0) ∧ (data.length = data.length)))
 (.sub (F11 (((), (a, b)), data)) fun z0 =>
 (.ret (Sum.inr ((), z0.2))))
 .fail)
 (.test (limit == 0)
 .fail
 (.test (! wasBalanced)
 .fail
 .fail)))
noncomputable def F15_L2 (v) := loopO (fun v => (F15_L2_step v).run) v
def F15_fo : List FO := [⟨[], [(.row 0 (.int .i64))]⟩]
noncomputable def F15_t : ((Unit × Int × Int × Int) × List (Int)) → T (Unit × List (Int)) := fun (((), a, b, limit), data) =>
 (.test (decide ((0 = 0) ∧ (data.length = data.length)))
 (.sub (F15_L2 (((), (a, (b, (limit, (true, true))))), data)) fun z0 =>
 (.ret ((), z0.2)))
 .fail)
noncomputable def F15 (v) := (F15_t v).run
noncomputable def F15_E : TEnv := (E0.add1 n_F11 F11_sh F11_fo F11)
theorem F15_Eok : (F15_E).OK := (E0ok.add1 F11_ok)
noncomputable def F15_told : Nat → Option SealT := fun id => if id = 2 then some (LSh.told F15_L2_sh 1 (F15_L2_step)) else none
theorem F15_L2_ok : ToldOK Tryz.prog 1 (loopAt (bodyOf fn_F15) [0]) (LSh.told F15_L2_sh 1 (F15_L2_step)) :=
 loop_ok (E := F15_E) (F15_Eok) (told := F15_told) (l := F15_L2_sh) (step := F15_L2_step) (loopsOK_of (ls := []) (by kernel_rfl) trivial) (by kernel_rfl) (fun v => by kernel_rfl)
theorem F15_ok : FOK Tryz.prog n_F15 F15_sh F15_fo F15 :=
 fn_ok (E := F15_E) (F15_Eok) (told := F15_told) (fl := []) (c := bodyOf fn_F15) (s := F15_sh) (l := F15_fo) (tree := F15_t) fnat_F15 (by kernel_rfl) (by kernel_rfl) (by kernel_rfl) (loopsOK_of (ls := [loopAt (bodyOf fn_F15) [0]]) (by kernel_rfl) ⟨.inr ⟨_, by kernel_rfl, F15_L2_ok⟩, trivial⟩) (fun v => by kernel_rfl)
def F41_sh : FSh := ⟨[(.one (.rw 0 0))], [(.row 0 (.int .i64))]⟩
def F41_fo : List FO := [⟨[], [(.row 0 (.int .i64))]⟩]
noncomputable def F41_t : (Unit × List (Int)) → T (Unit × List (Int)) := fun ((), x) =>
 (.sub (F50 (wu64 (x.length : Int))) fun z0 =>
 (.test (decide ((0 = 0) ∧ (x.length = x.length)))
 (.sub (F15 (((), ((0 : Int), ((x.length : Int), z0))), x)) fun z1 =>
 (.ret ((), z1.2)))
 .fail))
noncomputable def F41 (v) := (F41_t v).run
noncomputable def F41_E : TEnv := ((E0.add1 n_F50 F50_sh F50_fo F50).add1 n_F15 F15_sh F15_fo F15)
theorem F41_Eok : (F41_E).OK := ((E0ok.add1 F50_ok).add1 F15_ok)
noncomputable def F41_told : Nat → Option SealT := fun id => none
theorem F41_ok : FOK Tryz.prog n_F41 F41_sh F41_fo F41 :=
 fn_ok (E := F41_E) (F41_Eok) (told := F41_told) (fl := []) (c := bodyOf fn_F41) (s := F41_sh) (l := F41_fo) (tree := F41_t) fnat_F41 (by kernel_rfl) (by kernel_rfl) (by kernel_rfl) (loopsOK_of (ls := []) (by kernel_rfl) trivial) (fun v => by kernel_rfl)
theorem F41_eq (l : List Int) (hl : l.length ≤ 12) : F41 ((), l) = some ((), sortI l) := by
 have hw : wu64 (l.length : Int) = (l.length : Int) := IntWalk.u64_in _ ⟨by omega, by omega⟩
 have hz : F50 (wu64 (l.length : Int)) = some (Lib.bitLen l.length : Int) := by
  rw [hw]; unfold F50; rw [if_pos ⟨by omega, by omega⟩, Int.toNat_natCast]
 have w0 : w64 ((l.length : Int) - 0) = (l.length : Int) := by rw [w64_id (by omega) (by omega)]; omega
 have w1 : w64 ((0 : Int) + 1) = ((1 : Nat) : Int) := by rw [w64_id (by omega) (by omega)]; rfl
 have hal : (asD l).length = l.length := by unfold asD; rw [List.length_map]
 have hins : F11 (((), ((0 : Int), (l.length : Int))), l) = some ((), sortI l) := by
  by_cases h0 : l.length = 0
  ·have : l = [] := List.eq_nil_of_length_eq_zero h0
   subst this
   rw [F11, F11_t, T.run_test, if_pos (by simp), T.run_sub, w1, F11_L1, loopO_done (o := ((), []))]
   ·rfl
   ·rfl
  ·have h := F11_isort (l.length - 1) 1 (asD l) (by omega) (by omega) (fun d => asD_snd) (by omega)
   rw [ofD_asD, hal, ← hal, isortD_eq] at h
   rw [F11, F11_t, T.run_test, if_pos (by simp), T.run_sub, w1, ← hal, h, Option.bind_some, T.run_ret]
   rfl
 rw [F41, F41_t, T.run_sub, hz, Option.bind_some, T.run_test, if_pos (by simp), T.run_sub, F15, F15_t, T.run_test, if_pos (by simp), T.run_sub, F15_L2, loopO_done (o := ((), sortI l)), Option.bind_some, T.run_ret, Option.bind_some, T.run_ret]
 rw [F15_L2_step, T.run_test, w0, if_pos (decide_eq_true (by omega)), T.run_test, if_pos (by simp), T.run_sub, hins, Option.bind_some, T.run_ret]
def F108_sh : FSh := ⟨[(.one (.si .i64)), (.one (.sl (.pair (.int .i64) (.int .i64)) false false))], []⟩
def F108_L3_sh : LSh := ⟨(fun ex => match ex with | .norm => [(5, none), (11, none), (12, none), (13, none)] | .exit i => if i = 0 then [(5, none)] else [] | .ret => [(4, none)]), [(5, (.one (.rw 0 0))), (11, (.one (.rw 1 0))), (12, (.one (.si .i64))), (13, (.one (.si .i64)))], [(.row 0 (.int .i64)), (.row 0 (.list true (.int .i64)))], [⟨(.exit 0), [(5, (.one (.rw 0 0)))], [(.row 0 (.int .i64))]⟩], [], []⟩
noncomputable def F108_L3_step : ((Unit × Unit × Int × Int) × (List (Int) × List (List (Int)))) → T (((Unit × Unit × Int × Int) × (List (Int) × List (List (Int)))) ⊕ (Unit × List (Int))) := fun (((), (), t12, t13), (out, t11)) =>
 (.test (decide (t13 < t12))
 (.test (decide ((0 ≤ t13) ∧ (t13 < (t11.length : Int))))
 (.sub (t11[(0 + (Int.toNat t13))]?) fun z0 =>
 (.test (decide (1 ≤ (List.length (List.set (List.replicate 1 (0 : Int)) 0 (z0.length : Int)))))
 (.test (decide ((0 + out.length) ≤ out.length))
 (.test (decide ((2 * ((out.length + (List.length (win (List.set (List.replicate 1 (0 : Int)) 0 (z0.length : Int)) 0 1))) * 9)) ≤ 140737488355328))
 (.test (decide ((0 = 0) ∧ ((out.length + (List.length (win (List.set (List.replicate 1 (0 : Int)) 0 (z0.length : Int)) 0 1))) = (List.length ((win out 0 out.length) ++ (win (List.set (List.replicate 1 (0 : Int)) 0 (z0.length : Int)) 0 1))))))
 (.test (decide ((0 = 0) ∧ (t11.length = t11.length)))
 (.ret (Sum.inl (((), ((), (t12, (w64 (t13 + 1))))), (((win out 0 out.length) ++ (win (List.set (List.replicate 1 (0 : Int)) 0 (z0.length : Int)) 0 1)), t11))))
 .fail)
 .fail)
 .fail)
 .fail)
 .fail))
 .fail)
 (.test (decide ((0 = 0) ∧ (out.length = out.length)))
 (.ret (Sum.inr ((), out)))
 .fail))
noncomputable def F108_L3 (v) := loopO (fun v => (F108_L3_step v).run) v
def F108_fo : List FO := [⟨[(.one (.rw 0 0))], [(.row 0 (.int .i64))]⟩]
noncomputable def F108_t : (Int × List ((Int × Int))) → T (Unit × List (Int)) := fun (n, ds) =>
 (.sub (F93 (n, ds)) fun z0 =>
 (.test (decide ((0 = 0) ∧ (0 = (List.length (List.replicate 0 (0 : Int))))))
 (.test (decide ((0 = 0) ∧ (z0.2.length = z0.2.length)))
 (.sub (F108_L3 (((), ((), ((z0.2.length : Int), (0 : Int)))), ((List.replicate 0 (0 : Int)), z0.2))) fun z1 =>
 (.test (decide ((0 = 0) ∧ (z1.2.length = z1.2.length)))
 (.sub (F41 ((), z1.2)) fun z2 =>
 (.test (decide ((0 = 0) ∧ (z1.2.length = z2.2.length)))
 (.ret ((), z2.2))
 .fail))
 .fail))
 .fail)
 .fail))
noncomputable def F108 (v) := (F108_t v).run
noncomputable def F108_E : TEnv := ((E0.add1 n_F93 F93_sh F93_fo F93).add1 n_F41 F41_sh F41_fo F41)
theorem F108_Eok : (F108_E).OK := ((E0ok.add1 F93_ok).add1 F41_ok)
noncomputable def F108_told : Nat → Option SealT := fun id => if id = 3 then some (LSh.told F108_L3_sh 0 (F108_L3_step)) else none
theorem F108_L3_ok : ToldOK Tryz.prog 0 (loopAt (bodyOf fn_F108) [0]) (LSh.told F108_L3_sh 0 (F108_L3_step)) :=
 loop_ok (E := F108_E) (F108_Eok) (told := F108_told) (l := F108_L3_sh) (step := F108_L3_step) (loopsOK_of (ls := []) (by kernel_rfl) trivial) (by kernel_rfl) (fun v => by kernel_rfl)
theorem F108_ok : FOK Tryz.prog n_F108 F108_sh F108_fo F108 :=
 fn_ok (E := F108_E) (F108_Eok) (told := F108_told) (fl := []) (c := bodyOf fn_F108) (s := F108_sh) (l := F108_fo) (tree := F108_t) fnat_F108 (by kernel_rfl) (by kernel_rfl) (by kernel_rfl) (loopsOK_of (ls := [loopAt (bodyOf fn_F108) [0]]) (by kernel_rfl) ⟨.inr ⟨_, by kernel_rfl, F108_L3_ok⟩, trivial⟩) (fun v => by kernel_rfl)
def szL (N : Nat) (ds : List Dg) : List Int := (sortL (specP N ds)).map fun p => (p.length : Int)
theorem szL_mem {N : Nat} {ds : List Dg} (hc : CutD N ds) (h3 : 3 ≤ N) {s : Int} (h : s ∈ szL N ds) : 3 ≤ s ∧ s ≤ (N : Int) := by
 obtain ⟨p, hp, rfl⟩ := List.mem_map.1 h
 obtain ⟨k, hk, rfl⟩ := List.mem_map.1 (((sortL_perm _).trans (specP_perm hc h3)).mem_iff.1 hp)
 have := pcs_len hc h3 hk
 omega
theorem sortP_len {N : Nat} {ds : List Dg} (hc : CutD N ds) (h3 : 3 ≤ N) : (sortL (specP N ds)).length = ds.length + 1 := by
 rw [(sortL_perm _).length_eq, specP_len hc h3]
theorem szL_len {N : Nat} {ds : List Dg} (hc : CutD N ds) (h3 : 3 ≤ N) : (szL N ds).length = ds.length + 1 := by
 unfold szL; rw [List.length_map, sortP_len hc h3]
theorem F108_L3_eq (t11 : List (List Int)) (hl : t11.length ≤ 20) (hb : ∀ p ∈ t11, p.length ≤ 100) : ∀ (m k : Nat) (out : List Int), k + m = t11.length → out.length = k →
  F108_L3 (((), ((), ((t11.length : Int), (k : Int)))), (out, t11)) = some ((), out ++ (t11.drop k).map fun p => (p.length : Int)) := by
 intro m
 induction m with
 | zero =>
  intro k out hk ho
  rw [List.drop_eq_nil_of_le (by omega)]
  simp only [F108_L3]
  refine loopO_done ?_
  rw [F108_L3_step, T.run_test, if_neg (by rw [decide_eq_true_eq]; omega), T.run_test, if_pos (by simp), T.run_ret]
  simp
 | succ m ih =>
  intro k out hk ho
  have hlt : k < t11.length := by omega
  have w1 : w64 ((k : Int) + 1) = ((k + 1 : Nat) : Int) := by rw [w64_id (by omega) (by omega)]; omega
  have := ih (k + 1) (out ++ [(t11[k].length : Int)]) (by omega) (by rw [List.length_append, List.length_singleton]; omega)
  rw [List.drop_eq_getElem_cons hlt, List.map_cons, List.append_cons]
  simp only [F108_L3] at this ⊢
  rw [← this]
  refine loopO_next ?_
  rw [F108_L3_step, T.run_test, if_pos (decide_eq_true (by omega)), T.run_test, if_pos (decide_eq_true (by omega)), T.run_sub, Nat.zero_add, Int.toNat_natCast, List.getElem?_eq_getElem hlt, Option.bind_some]
  simp only [win_one, win_all]
  rw [T.run_test, if_pos (by simp), T.run_test, if_pos (by simp), T.run_test, if_pos (by exact decide_eq_true (by rw [List.length_singleton]; omega)), T.run_test, if_pos (by simp), T.run_test, if_pos (by simp), T.run_ret, w1]
theorem F108_eq {N : Nat} {ds : List Dg} (h3 : 3 ≤ N) (hN : N ≤ 12) (hl : ds.length + 3 ≤ N) (hc : CutD N ds) : F108 ((N : Int), ds) = some ((), sortI (szL N ds)) := by
 have hp := F93_eq h3 hN (by omega) hc
 have hlen := sortP_len hc h3
 have hL := F108_L3_eq (sortL (specP N ds)) (by omega) (fun p hp => by
  have := szL_mem hc h3 (s := (p.length : Int)) (List.mem_map_of_mem hp)
  omega) (sortL (specP N ds)).length 0 [] (by omega) rfl
 rw [Int.natCast_zero, List.drop_zero, List.nil_append] at hL
 change _ = some ((), szL N ds) at hL
 have hs := F41_eq (szL N ds) (by rw [szL_len hc h3]; omega)
 rw [F108, F108_t, T.run_sub, hp, Option.bind_some, T.run_test, if_pos (by simp), T.run_test, if_pos (by simp), T.run_sub, show List.replicate 0 (0 : Int) = [] from rfl, hL, Option.bind_some, T.run_test, if_pos (by simp), T.run_sub, hs, Option.bind_some, T.run_test, if_pos (by exact decide_eq_true ⟨rfl, (sortI_perm _).length_eq.symm⟩), T.run_ret]
def F60_sh : FSh := ⟨[(.one (.si .i64)), (.one (.sl (.pair (.int .i64) (.int .i64)) false false))], []⟩
def F60_fo : List FO := [⟨[(.one (.rw 0 0)), (.one .sb)], [(.row 0 (.int .i64))]⟩]
noncomputable def F60_t : (Int × List ((Int × Int))) → T ((Unit × Bool) × List (Int)) := fun (n, ds) =>
 (.sub (F106 (n, ds)) fun z0 =>
 (.test (! z0)
 (.test true
 (.ret (((), false), ([] : List (Int))))
 .fail)
 (.sub (F108 (n, ds)) fun z1 =>
 (.test (decide ((0 = 0) ∧ (z1.2.length = z1.2.length)))
 (.ret (((), true), z1.2))
 .fail))))
noncomputable def F60 (v) := (F60_t v).run
noncomputable def F60_E : TEnv := ((E0.add1 n_F106 F106_sh F106_fo F106).add1 n_F108 F108_sh F108_fo F108)
theorem F60_Eok : (F60_E).OK := ((E0ok.add1 F106_ok).add1 F108_ok)
noncomputable def F60_told : Nat → Option SealT := fun id => none
theorem F60_ok : FOK Tryz.prog n_F60 F60_sh F60_fo F60 :=
 fn_ok (E := F60_E) (F60_Eok) (told := F60_told) (fl := []) (c := bodyOf fn_F60) (s := F60_sh) (l := F60_fo) (tree := F60_t) fnat_F60 (by kernel_rfl) (by kernel_rfl) (by kernel_rfl) (loopsOK_of (ls := []) (by kernel_rfl) trivial) (fun v => by kernel_rfl)
theorem F60_eq (n : Int) (ds : List Dg) (hl : ds.length < 4611686018427387904) : F60 (n, ds) = some (if isCut n ds then (((), true), sortI (szL n.toNat ds)) else (((), false), [])) := by
 rw [F60, F60_t, T.run_sub, F106_eq n ds hl, Option.bind_some, T.run_test]
 cases h : isCut n ds with
 | false => rfl
 | true =>
  obtain ⟨N, rfl, h3, hN, hlen, hc⟩ := isCut_cut h
  rw [if_neg (by simp), T.run_sub, F108_eq h3 hN hlen hc, Option.bind_some, T.run_test, if_pos (by simp), T.run_ret, Int.toNat_natCast]
  rfl
def F61_sh : FSh := ⟨[(.one (.si .i64)), (.one (.sl (.pair (.int .i64) (.int .i64)) false false))], []⟩
def F61_L8_sh : LSh := ⟨(fun ex => match ex with | .norm => [(0, none), (1, none), (6, none), (7, none), (21, none), (22, none), (23, none)] | .exit i => if i = 2 then [(0, none), (1, none), (6, none), (7, none)] else if i = 1 then [(0, none), (1, none), (6, none), (7, none)] else if i = 0 then [(6, none)] else [] | .ret => [(4, none), (5, none)]), [(0, (.one (.si .i64))), (1, (.one (.sl (.pair (.int .i64) (.int .i64)) false false))), (6, (.one (.rw 0 0))), (7, (.one (.si .i64))), (21, (.one (.rw 1 0))), (22, (.one (.si .i64))), (23, (.one (.si .i64)))], [(.row 0 (.int .i64)), (.row 0 (.list true (.int .i64)))], [⟨(.exit 2), [(0, (.one (.si .i64))), (1, (.one (.sl (.pair (.int .i64) (.int .i64)) false false))), (6, (.one (.rw 0 0))), (7, (.one (.si .i64)))], [(.row 0 (.int .i64))]⟩], [], []⟩
noncomputable def F61_L8_step : ((Int × List ((Int × Int)) × Unit × Int × Unit × Int × Int) × (List (Int) × List (List (Int)))) → T (((Int × List ((Int × Int)) × Unit × Int × Unit × Int × Int) × (List (Int) × List (List (Int)))) ⊕ ((Int × List ((Int × Int)) × Unit × Int) × List (Int))) := fun ((n, ds, (), size, (), t22, t23), (out, t21)) =>
 (.test (decide (t23 < t22))
 (.test (decide ((0 ≤ t23) ∧ (t23 < (t21.length : Int))))
 (.sub (t21[(0 + (Int.toNat t23))]?) fun z0 =>
 (.test ((z0.length : Int) == size)
 (.test (decide (1 ≤ (List.length (List.set (List.replicate 1 (0 : Int)) 0 size))))
 (.test (decide ((0 + out.length) ≤ out.length))
 (.test (decide ((2 * ((out.length + (List.length (win (List.set (List.replicate 1 (0 : Int)) 0 size) 0 1))) * 9)) ≤ 140737488355328))
 (.test (decide ((0 = 0) ∧ ((out.length + (List.length (win (List.set (List.replicate 1 (0 : Int)) 0 size) 0 1))) = (List.length ((win out 0 out.length) ++ (win (List.set (List.replicate 1 (0 : Int)) 0 size) 0 1))))))
 (.test (decide ((0 = 0) ∧ (t21.length = t21.length)))
 (.ret (Sum.inl ((n, (ds, ((), (size, ((), (t22, (w64 (t23 + 1)))))))), (((win out 0 out.length) ++ (win (List.set (List.replicate 1 (0 : Int)) 0 size) 0 1)), t21))))
 .fail)
 .fail)
 .fail)
 .fail)
 .fail)
 (.test (decide ((0 = 0) ∧ (out.length = out.length)))
 (.test (decide ((0 = 0) ∧ (t21.length = t21.length)))
 (.ret (Sum.inl ((n, (ds, ((), (size, ((), (t22, (w64 (t23 + 1)))))))), (out, t21))))
 .fail)
 .fail)))
 .fail)
 (.test (decide ((0 = 0) ∧ (out.length = out.length)))
 (.ret (Sum.inr ((n, (ds, ((), size))), out)))
 .fail))
noncomputable def F61_L8 (v) := loopO (fun v => (F61_L8_step v).run) v
def F61_L5_sh : LSh := ⟨(fun ex => match ex with | .norm => [(0, none), (1, none), (6, none), (7, none)] | .exit i => if i = 0 then [(6, none)] else [] | .ret => [(4, none), (5, none)]), [(0, (.one (.si .i64))), (1, (.one (.sl (.pair (.int .i64) (.int .i64)) false false))), (6, (.one (.rw 0 0))), (7, (.one (.si .i64)))], [(.row 0 (.int .i64))], [⟨(.exit 0), [(6, (.one (.rw 0 0)))], [(.row 0 (.int .i64))]⟩], [], []⟩
noncomputable def F61_L5_step : ((Int × List ((Int × Int)) × Unit × Int) × List (Int)) → T (((Int × List ((Int × Int)) × Unit × Int) × List (Int)) ⊕ (Unit × List (Int))) := fun ((n, ds, (), size), out) =>
 (.test (decide (size ≤ n))
 (.sub (F76 (n, ds)) fun z0 =>
 (.test (decide ((0 = 0) ∧ (out.length = out.length)))
 (.test (decide ((0 = 0) ∧ (z0.2.length = z0.2.length)))
 (.sub (F61_L8 ((n, (ds, ((), (size, ((), ((z0.2.length : Int), (0 : Int))))))), (out, z0.2))) fun z1 =>
 (.test (decide ((0 = 0) ∧ (z1.2.length = z1.2.length)))
 (.ret (Sum.inl ((z1.1.1, (z1.1.2.1, ((), (w64 (z1.1.2.2.2 + 1))))), z1.2)))
 .fail))
 .fail)
 .fail))
 (.test (decide ((0 = 0) ∧ (out.length = out.length)))
 (.ret (Sum.inr ((), out)))
 .fail))
noncomputable def F61_L5 (v) := loopO (fun v => (F61_L5_step v).run) v
def F61_fo : List FO := [⟨[(.one (.rw 0 0)), (.one .sb)], [(.row 0 (.int .i64))]⟩]
noncomputable def F61_t : (Int × List ((Int × Int))) → T ((Unit × Bool) × List (Int)) := fun (n, ds) =>
 (.sub (F94 (n, ds)) fun z0 =>
 (.test (! z0)
 (.test true
 (.ret (((), false), ([] : List (Int))))
 .fail)
 (.test true
 (.sub (F61_L5 ((n, (ds, ((), (3 : Int)))), ([] : List (Int)))) fun z1 =>
 (.test (decide ((0 = 0) ∧ (z1.2.length = z1.2.length)))
 (.ret (((), true), z1.2))
 .fail))
 .fail)))
noncomputable def F61 (v) := (F61_t v).run
noncomputable def F61_E : TEnv := ((E0.add1 n_F94 F94_sh F94_fo F94).add1 n_F76 F76_sh F76_fo F76)
theorem F61_Eok : (F61_E).OK := ((E0ok.add1 F94_ok).add1 F76_ok)
noncomputable def F61_told : Nat → Option SealT := fun id => if id = 8 then some (LSh.told F61_L8_sh 0 (F61_L8_step)) else if id = 5 then some (LSh.told F61_L5_sh 0 (F61_L5_step)) else none
theorem F61_L8_ok : ToldOK Tryz.prog 0 (loopAt (bodyOf fn_F61) [0, 0]) (LSh.told F61_L8_sh 0 (F61_L8_step)) :=
 loop_ok (E := F61_E) (F61_Eok) (told := F61_told) (l := F61_L8_sh) (step := F61_L8_step) (loopsOK_of (ls := []) (by kernel_rfl) trivial) (by kernel_rfl) (fun v => by kernel_rfl)
theorem F61_L5_ok : ToldOK Tryz.prog 0 (loopAt (bodyOf fn_F61) [0]) (LSh.told F61_L5_sh 0 (F61_L5_step)) :=
 loop_ok (E := F61_E) (F61_Eok) (told := F61_told) (l := F61_L5_sh) (step := F61_L5_step) (loopsOK_of (ls := [loopAt (bodyOf fn_F61) [0, 0]]) (by kernel_rfl) ⟨.inr ⟨_, by kernel_rfl, F61_L8_ok⟩, trivial⟩) (by kernel_rfl) (fun v => by kernel_rfl)
theorem F61_ok : FOK Tryz.prog n_F61 F61_sh F61_fo F61 :=
 fn_ok (E := F61_E) (F61_Eok) (told := F61_told) (fl := []) (c := bodyOf fn_F61) (s := F61_sh) (l := F61_fo) (tree := F61_t) fnat_F61 (by kernel_rfl) (by kernel_rfl) (by kernel_rfl) (loopsOK_of (ls := [loopAt (bodyOf fn_F61) [0]]) (by kernel_rfl) ⟨.inr ⟨_, by kernel_rfl, F61_L5_ok⟩, trivial⟩) (fun v => by kernel_rfl)
theorem F61_L8_eq (n size : Int) (ds : List Dg) (t21 : List (List Int)) (hl : t21.length ≤ 20) : ∀ (m k : Nat) (out : List Int), k + m = t21.length → out.length + m ≤ 1000 →
  F61_L8 ((n, (ds, ((), (size, ((), ((t21.length : Int), (k : Int))))))), (out, t21)) = some ((n, (ds, ((), size))), out ++ ((t21.drop k).map fun p => (p.length : Int)).filter fun s => s == size) := by
 intro m
 induction m with
 | zero =>
  intro k out hk ho
  rw [List.drop_eq_nil_of_le (by omega)]
  simp only [F61_L8]
  refine loopO_done ?_
  rw [F61_L8_step, T.run_test, if_neg (by rw [decide_eq_true_eq]; omega), T.run_test, if_pos (by simp), T.run_ret]
  simp
 | succ m ih =>
  intro k out hk ho
  have hlt : k < t21.length := by omega
  have w1 : w64 ((k : Int) + 1) = ((k + 1 : Nat) : Int) := by rw [w64_id (by omega) (by omega)]; omega
  rw [List.drop_eq_getElem_cons hlt, List.map_cons, List.filter_cons]
  by_cases c : ((t21[k].length : Int) == size) = true
  ·have := ih (k + 1) (out ++ [size]) (by omega) (by rw [List.length_append, List.length_singleton]; omega)
   rw [if_pos c, List.append_cons, eq_of_beq c]
   simp only [F61_L8] at this ⊢
   rw [← this]
   refine loopO_next ?_
   rw [F61_L8_step, T.run_test, if_pos (decide_eq_true (by omega)), T.run_test, if_pos (decide_eq_true (by omega)), T.run_sub, Nat.zero_add, Int.toNat_natCast, List.getElem?_eq_getElem hlt, Option.bind_some, T.run_test, if_pos c]
   simp only [win_one, win_all]
   rw [T.run_test, if_pos (by simp), T.run_test, if_pos (by simp), T.run_test, if_pos (by exact decide_eq_true (by rw [List.length_singleton]; omega)), T.run_test, if_pos (by simp), T.run_test, if_pos (by simp), T.run_ret, w1]
  ·have := ih (k + 1) out (by omega) (by omega)
   rw [if_neg c]
   simp only [F61_L8] at this ⊢
   rw [← this]
   refine loopO_next ?_
   rw [F61_L8_step, T.run_test, if_pos (decide_eq_true (by omega)), T.run_test, if_pos (decide_eq_true (by omega)), T.run_sub, Nat.zero_add, Int.toNat_natCast, List.getElem?_eq_getElem hlt, Option.bind_some, T.run_test, if_neg c, T.run_test, if_pos (by simp), T.run_test, if_pos (by simp), T.run_ret, w1]
theorem F61_L5_eq {N : Nat} {ds : List Dg} (h3 : 3 ≤ N) (hN : N ≤ 12) (hl : ds.length + 3 ≤ N) (hc : CutD N ds) : ∀ (m : Nat) (size : Nat) (out : List Int), size + m = N + 1 → out.Pairwise (· ≤ ·) → (∀ x ∈ out, x < (size : Int)) → (out ++ (szL N ds).filter fun s => decide ((size : Int) ≤ s)).Perm (szL N ds) →
  F61_L5 (((N : Int), (ds, ((), (size : Int)))), out) = some ((), sortI (szL N ds)) := by
 intro m
 induction m with
 | zero =>
  intro size out hm h1 h2 hp
  have e : (szL N ds).filter (fun s => decide ((size : Int) ≤ s)) = [] := by
   rw [List.filter_eq_nil_iff]
   intro s hs
   have := szL_mem hc h3 hs
   rw [decide_eq_true_eq]; omega
  rw [e, List.append_nil] at hp
  have e2 := sortI_unique h1 hp
  simp only [F61_L5]
  refine loopO_done ?_
  rw [F61_L5_step, T.run_test, if_neg (by rw [decide_eq_true_eq]; omega), T.run_test, if_pos (by simp), T.run_ret, e2]
 | succ m ih =>
  intro size out hm h1 h2 hp
  have w1 : w64 ((size : Int) + 1) = ((size + 1 : Nat) : Int) := by rw [w64_id (by omega) (by omega)]; omega
  have hlen := sortP_len hc h3
  have hol : out.length ≤ ds.length + 1 := by
   have := hp.length_eq
   rw [List.length_append, szL_len hc h3] at this
   omega
  have h8 := F61_L8_eq (N : Int) (size : Int) ds (sortL (specP N ds)) (by omega) (sortL (specP N ds)).length 0 out (by omega) (by omega)
  rw [Int.natCast_zero, List.drop_zero] at h8
  change _ = some (_, out ++ (szL N ds).filter fun s => s == (size : Int)) at h8
  have := ih (size + 1) (out ++ (szL N ds).filter fun s => s == (size : Int)) (by omega) (by
   rw [List.pairwise_append]
   refine ⟨h1, ?_, fun a ha b hb => ?_⟩
   ·rw [List.pairwise_iff_forall_sublist]
    intro a b hab
    have ha := (List.mem_filter.1 (hab.subset (List.mem_cons_self ..))).2
    have hb := (List.mem_filter.1 (hab.subset (List.mem_cons_of_mem _ (List.mem_cons_self ..)))).2
    rw [eq_of_beq ha, eq_of_beq hb]
    exact Int.le_refl _
   ·have := h2 a ha
    have hb := (List.mem_filter.1 hb).2
    rw [eq_of_beq hb]; omega) (fun x hx => by
   rcases List.mem_append.1 hx with hx | hx
   ·have := h2 x hx; omega
   ·have hx := (List.mem_filter.1 hx).2
    rw [eq_of_beq hx]; omega) (by
   refine List.Perm.trans ?_ hp
   rw [List.append_assoc]
   refine List.Perm.append_left _ ?_
   have h := List.filter_append_perm (fun s => s == (size : Int)) ((szL N ds).filter fun s => decide ((size : Int) ≤ s))
   rw [List.filter_filter, List.filter_filter] at h
   refine List.Perm.trans ?_ h
   rw [List.filter_congr (q := fun s => (s == (size : Int)) && decide ((size : Int) ≤ s)), List.filter_congr (l := szL N ds) (p := fun s => decide (((size + 1 : Nat) : Int) ≤ s)) (q := fun s => (!(s == (size : Int))) && decide ((size : Int) ≤ s))]
   ·intro s _
    rw [Bool.eq_iff_iff, Bool.and_eq_true, decide_eq_true_eq, decide_eq_true_eq, Bool.not_eq_true', beq_eq_false_iff_ne]
    omega
   ·intro s _
    rw [Bool.eq_iff_iff, Bool.and_eq_true, decide_eq_true_eq, beq_iff_eq]
    omega)
  simp only [F61_L5] at this ⊢
  rw [← this]
  refine loopO_next ?_
  rw [F61_L5_step, T.run_test, if_pos (decide_eq_true (by omega)), T.run_sub, F76_eq h3 hN (by omega) hc, Option.bind_some, T.run_test, if_pos (by simp), T.run_test, if_pos (by simp), T.run_sub, h8, Option.bind_some, T.run_test, if_pos (by simp), T.run_ret, w1]
theorem F61_eq (n : Int) (ds : List Dg) (hl : ds.length < 4611686018427387904) : F61 (n, ds) = some (if isCut n ds then (((), true), sortI (szL n.toNat ds)) else (((), false), [])) := by
 rw [F61, F61_t, T.run_sub, F94_eq n ds hl, Option.bind_some, T.run_test]
 cases h : isCut n ds with
 | false => rfl
 | true =>
  obtain ⟨N, rfl, h3, hN, hlen, hc⟩ := isCut_cut h
  have h5 := F61_L5_eq h3 hN hlen hc (N - 2) 3 [] (by omega) (by simp) (by simp) (by
   rw [List.nil_append, List.filter_eq_self.2]
   intro s hs
   have := szL_mem hc h3 hs
   rw [decide_eq_true_eq]; omega)
  rw [if_neg (by simp), T.run_test, if_pos rfl, T.run_sub, show (3 : Int) = ((3 : Nat) : Int) from rfl, h5, Option.bind_some, T.run_test, if_pos (by simp), T.run_ret, Int.toNat_natCast]
  rfl
def F51_sh : FSh := ⟨[.one (.si .u64), .one (.si .u64)], []⟩
def F51_fo : List FO := [⟨[.one (.si .u64), .one (.si .u64)], []⟩]
def F51 (v : Int × Int) : Option (Int × Int) := if 0 ≤ v.1 ∧ v.1 < 18446744073709551616 ∧ 0 ≤ v.2 ∧ v.2 < 18446744073709551616 then some (((v.1.toNat * v.2.toNat / 18446744073709551616 : Nat) : Int), ((v.1.toNat * v.2.toNat % 18446744073709551616 : Nat) : Int)) else none
def F51_ren : Shelf.Ren := ⟨fun k => if k = 212 then n_F51 else if k = 263 then 162 else 163, fun t => if t = 46 then 113 else if t = 51 then 131 else if t = 146 then 138 else if t = 148 then 140 else 69, fun x => x⟩
theorem F51_lay : Lays.n212 Tryz.prog F51_ren :=
 { mixed := by kernel_rfl, f212 := by kernel_rfl, f263 := by kernel_rfl, f264 := by kernel_rfl, t46 := by kernel_rfl, a46 := fun w => by kernel_rfl, z46 := fun w => by kernel_rfl, v46 := fun w => by kernel_rfl, t51 := by kernel_rfl, a51 := fun w => by kernel_rfl, z51 := fun w => by kernel_rfl, v51 := fun w => by kernel_rfl, t53 := by kernel_rfl, a53 := fun w => by kernel_rfl, z53 := fun w => by kernel_rfl, v53 := fun w => by kernel_rfl, t146 := by kernel_rfl, a146 := fun w => by kernel_rfl, z146 := fun w => by kernel_rfl, v146 := fun w => by kernel_rfl, t148 := by kernel_rfl, a148 := fun w => by kernel_rfl, z148 := fun w => by kernel_rfl, v148 := fun w => by kernel_rfl }
theorem F51_ok : FOK Tryz.prog n_F51 F51_sh F51_fo F51 :=
 bitsMul_ok ⟨_, fnat_F51, by kernel_rfl, by kernel_rfl⟩ (ρr := F51_ren) rfl F51_lay
end Go.Proofs.W
