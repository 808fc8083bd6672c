import Derived.Test.YtaoeghfoifhhcaaGreatMCxWk5
set_option linter.unusedVariables false
set_option linter.unusedSimpArgs false
set_option maxRecDepth 100000
set_option maxHeartbeats 4000000
namespace Go.Proofs.W
open Go Go.Gm Go.Proofs
open Go.RowKit Go.Shelf
def F49_sh : FSh := ⟨[(.one (.sl (.int .u8) false true))], []⟩
def F49_fo : List FO := [⟨[(.one (.si .i64)), (.one (.rw 0 0))], [(.row 0 (.pair (.int .i64) (.int .i64)))]⟩]
noncomputable def F49_t : List (Int) → T ((Int × Unit) × List ((Int × Int))) := fun code =>
 (.sub (F42 (((), (9 : Int)), (code, ((0 : Int), (0 : Int))))) fun z0 =>
 (.test ((z0.2.2.length : Int) == 0)
 (.test (decide ((0 = 0) ∧ (z0.2.2.length = z0.2.2.length)))
 (.ret ((z0.1.1, ()), z0.2.2))
 .fail)
 (.sub (F65 (((), (6 : Int)), z0.2.1)) fun z1 =>
 (.test z1.1
 (.test (decide ((0 = 0) ∧ (z0.2.2.length = z0.2.2.length)))
 (.ret ((z0.1.1, ()), z0.2.2))
 .fail)
 (.sub (F59 (((), (z0.2.2.length : Int)), z1.2)) fun z2 =>
 (.test (decide (0 ≤ z2.1))
 (.test (decide ((0 ≤ (Int.toNat z2.1)) ∧ ((Int.toNat z2.1) ≤ z0.2.2.length)))
 (.test (decide ((0 + ((Int.toNat z2.1) - 0)) ≤ z0.2.2.length))
 (.test true
 (.test (decide ((2 * ((0 + (List.length (win z0.2.2 0 ((Int.toNat z2.1) - 0)))) * 17)) ≤ 140737488355328))
 (.sub (F59 (((), (2 : Int)), z2.2)) fun z3 =>
 (.test (decide (0 ≤ (w64 (z2.1 + z3.1))))
 (.test (decide (((Int.toNat (w64 (z2.1 + z3.1))) ≤ z0.2.2.length) ∧ (z0.2.2.length ≤ z0.2.2.length)))
 (.test (decide (((0 + (Int.toNat (w64 (z2.1 + z3.1)))) + (z0.2.2.length - (Int.toNat (w64 (z2.1 + z3.1))))) ≤ z0.2.2.length))
 (.test (decide ((0 + (0 + (List.length (win z0.2.2 0 ((Int.toNat z2.1) - 0))))) ≤ (List.length (([] : List (Int × Int)) ++ (win z0.2.2 0 ((Int.toNat z2.1) - 0))))))
 (.test (decide ((2 * (((0 + (List.length (win z0.2.2 0 ((Int.toNat z2.1) - 0)))) + (List.length (win z0.2.2 (0 + (Int.toNat (w64 (z2.1 + z3.1)))) (z0.2.2.length - (Int.toNat (w64 (z2.1 + z3.1))))))) * 17)) ≤ 140737488355328))
 (.test (decide ((0 = 0) ∧ (((0 + (List.length (win z0.2.2 0 ((Int.toNat z2.1) - 0)))) + (List.length (win z0.2.2 (0 + (Int.toNat (w64 (z2.1 + z3.1)))) (z0.2.2.length - (Int.toNat (w64 (z2.1 + z3.1))))))) = (List.length ((win (([] : List (Int × Int)) ++ (win z0.2.2 0 ((Int.toNat z2.1) - 0))) 0 (0 + (List.length (win z0.2.2 0 ((Int.toNat z2.1) - 0))))) ++ (win z0.2.2 (0 + (Int.toNat (w64 (z2.1 + z3.1)))) (z0.2.2.length - (Int.toNat (w64 (z2.1 + z3.1))))))))))
 (.ret ((z0.1.1, ()), ((win (([] : List (Int × Int)) ++ (win z0.2.2 0 ((Int.toNat z2.1) - 0))) 0 (0 + (List.length (win z0.2.2 0 ((Int.toNat z2.1) - 0))))) ++ (win z0.2.2 (0 + (Int.toNat (w64 (z2.1 + z3.1)))) (z0.2.2.length - (Int.toNat (w64 (z2.1 + z3.1))))))))
 .fail)
 .fail)
 .fail)
 .fail)
 .fail)
 .fail))
 .fail)
 .fail)
 .fail)
 .fail)
 .fail))))))
noncomputable def F49 (v) := (F49_t v).run
noncomputable def F49_E : TEnv := (((E0.add1 n_F42 F42_sh F42_fo F42).add1 n_F65 F65_sh F65_fo F65).add1 n_F59 F59_sh F59_fo F59)
theorem F49_Eok : (F49_E).OK := (((E0ok.add1 F42_ok).add1 F65_ok).add1 F59_ok)
noncomputable def F49_told : Nat → Option SealT := fun id => none
theorem F49_ok : FOK Tryz.prog n_F49 F49_sh F49_fo F49 :=
 fn_ok (E := F49_E) (F49_Eok) (told := F49_told) (fl := []) (c := bodyOf fn_F49) (s := F49_sh) (l := F49_fo) (tree := F49_t) fnat_F49 (by kernel_rfl) (by kernel_rfl) (by kernel_rfl) (loopsOK_of (ls := []) (by kernel_rfl) trivial) (fun v => by kernel_rfl)
theorem F49_some {code : List Int} (h : bytesOK code) : ∃ n ds, F49 code = some ((n, ()), ds) ∧ ds.length ≤ 40 := by
 obtain ⟨n, ds, c', e, hl, h1⟩ := polygon_ok 9 (by omega) (cur0 h) (by omega)
 rw [F49, F49_t, T.run_sub, e, Option.bind_some, T.run_test]
 dsimp only
 by_cases h0 : ((ds.length : Int) == 0) = true
 ·rw [if_pos h0, T.run_test, if_pos (by simp), T.run_ret]
  exact ⟨_, _, rfl, by omega⟩
 obtain ⟨v2, c2, e2, h2⟩ := one_ok 6 h1 (by omega)
 rw [if_neg h0, T.run_sub, e2, Option.bind_some, T.run_test]
 cases v2 with
 | true =>
  rw [if_pos rfl, T.run_test, if_pos (by simp), T.run_ret]
  exact ⟨_, _, rfl, by omega⟩
 | false =>
  have hne : ds.length ≠ 0 := by simpa using h0
  obtain ⟨v3, c3, e3, p0, p1, _, h3⟩ := pick_ok (ds.length : Int) h2 (by omega)
  have p1 := p1 (by omega)
  obtain ⟨v4, c4, e4, q0, q1, _, h4⟩ := pick_ok 2 h3 (by omega)
  have q1 := q1 (by omega)
  have w : w64 (v3 + v4) = v3 + v4 := w64_id (by omega) (by omega)
  have l1 : (win ds 0 (v3.toNat - 0)).length = v3.toNat := by rw [win_len _ _ _ (by omega)]; omega
  have l2 : (win ds (0 + (v3 + v4).toNat) (ds.length - (v3 + v4).toNat)).length = ds.length - (v3 + v4).toNat := by rw [win_len _ _ _ (by omega)]
  rw [if_neg (by simp), T.run_sub, e3, Option.bind_some]
  dsimp only
  rw [T.run_test, if_pos (decide_eq_true (by omega)), T.run_test, if_pos (decide_eq_true (by omega)), T.run_test, if_pos (decide_eq_true (by omega)), T.run_test, if_pos rfl, T.run_test, if_pos (decide_eq_true (by rw [l1]; omega)),
   T.run_sub, e4, Option.bind_some]
  dsimp only
  rw [w, T.run_test, if_pos (decide_eq_true (by omega)), T.run_test, if_pos (decide_eq_true (by omega)), T.run_test, if_pos (decide_eq_true (by omega)), T.run_test, if_pos (decide_eq_true (by simp)), T.run_test, if_pos (decide_eq_true (by rw [l1, l2]; omega)), T.run_test, if_pos (decide_eq_true (by
    refine ⟨rfl, ?_⟩
    rw [List.length_append, l2, l1, List.nil_append, win_len _ _ _ (by rw [l1]; omega)])), T.run_ret]
  refine ⟨_, _, rfl, ?_⟩
  rw [List.length_append, l2, List.nil_append]
  have := win_le (win ds 0 (v3.toNat - 0)) 0 (0 + (win ds 0 (v3.toNat - 0)).length)
  omega
def F50_sh : FSh := ⟨[(.one (.si .i64)), (.one (.si .i64))], []⟩
def F50_fo : List FO := [⟨[(.one (.si .i64))], []⟩]
noncomputable def F50_t : (Int × Int) → T Int := fun (x, y) =>
 (.sub (F54 x) fun z0 =>
 (.sub (F54 y) fun z1 =>
 (.test z0
 (.test z1
 (.ret (0 : Int))
 (.ret (-1)))
 (.test z1
 (.ret (1 : Int))
 (.test (decide (x < y))
 (.ret (-1))
 (.test (decide (x > y))
 (.ret (1 : Int))
 (.ret (0 : Int))))))))
noncomputable def F50 (v) := (F50_t v).run
noncomputable def F50_E : TEnv := (E0.add1 n_F54 F54_sh F54_fo F54)
theorem F50_Eok : (F50_E).OK := (E0ok.add1 F54_ok)
noncomputable def F50_told : Nat → Option SealT := fun id => none
theorem F50_ok : FOK Tryz.prog n_F50 F50_sh F50_fo F50 :=
 fn_ok (E := F50_E) (F50_Eok) (told := F50_told) (fl := []) (c := bodyOf fn_F50) (s := F50_sh) (l := F50_fo) (tree := F50_t) fnat_F50 (by kernel_rfl) (by kernel_rfl) (by kernel_rfl) (loopsOK_of (ls := []) (by kernel_rfl) trivial) (fun v => by kernel_rfl)
theorem F50_eq (a b : Int) : F50 (a, b) = some (if a < b then -1 else if b < a then 1 else 0) := by
 have h : ∀ x, F54 x = some false := fun x => by simp [F54, F54_t, T.run]
 simp only [F50, F50_t, T.run, h, Option.bind_some]
 by_cases h1 : a < b
 ·simp [h1]
 ·by_cases h2 : b < a <;> simp [h1, h2]
def F77_sh : FSh := ⟨[(.one (.sl (.int .i64) false false))], []⟩
def F77_L3_sh : LSh := ⟨(fun ex => match ex with | .norm => [(3, none), (6, none), (7, none), (8, none)] | .exit i => if i = 0 then [(3, none)] else [] | .ret => [(2, none)]), [(3, (.one (.si .i64))), (6, (.one (.sl (.int .i64) false false))), (7, (.one (.si .i64))), (8, (.one (.si .i64)))], [], [⟨.ret, [(2, (.one (.si .i64)))], []⟩, ⟨(.exit 0), [(3, (.one (.si .i64)))], []⟩], [], []⟩
noncomputable def F77_L3_step : (Int × List (Int) × Int × Int) → T ((Int × List (Int) × Int × Int) ⊕ (Int ⊕ Int)) := fun (zero, t6, t7, t8) =>
 (.test (decide (t8 < t7))
 (.test (decide ((0 ≤ t8) ∧ (t8 < (t6.length : Int))))
 (.sub (t6[(Int.toNat t8)]?) fun z0 =>
 (.test (z0 != zero)
 (.ret (Sum.inr (Sum.inl z0)))
 (.ret (Sum.inl (zero, (t6, (t7, (w64 (t8 + 1)))))))))
 .fail)
 (.ret (Sum.inr (Sum.inr zero))))
noncomputable def F77_L3 (v) := loopO (fun v => (F77_L3_step v).run) v
def F77_fo : List FO := [⟨[(.one (.si .i64))], []⟩]
noncomputable def F77_t : List (Int) → T Int := fun vals =>
 (.sub (F77_L3 ((0 : Int), (vals, ((vals.length : Int), (0 : Int))))) fun z0 =>
 (.test (Sum.isLeft z0)
 (.sub (Sum.getLeft? z0) fun z1 =>
 (.ret z1))
 (.sub (Sum.getRight? z0) fun z2 =>
 (.ret z2))))
noncomputable def F77 (v) := (F77_t v).run
noncomputable def F77_E : TEnv := E0
theorem F77_Eok : (F77_E).OK := E0ok
noncomputable def F77_told : Nat → Option SealT := fun id => if id = 3 then some (LSh.told F77_L3_sh 0 (F77_L3_step)) else none
theorem F77_L3_ok : ToldOK Tryz.prog 0 (loopAt (bodyOf fn_F77) [0]) (LSh.told F77_L3_sh 0 (F77_L3_step)) :=
 loop_ok (E := F77_E) (F77_Eok) (told := F77_told) (l := F77_L3_sh) (step := F77_L3_step) (loopsOK_of (ls := []) (by kernel_rfl) trivial) (by kernel_rfl) (fun v => by kernel_rfl)
theorem F77_ok : FOK Tryz.prog n_F77 F77_sh F77_fo F77 :=
 fn_ok (E := F77_E) (F77_Eok) (told := F77_told) (fl := []) (c := bodyOf fn_F77) (s := F77_sh) (l := F77_fo) (tree := F77_t) fnat_F77 (by kernel_rfl) (by kernel_rfl) (by kernel_rfl) (loopsOK_of (ls := [loopAt (bodyOf fn_F77) [0]]) (by kernel_rfl) ⟨.inr ⟨_, by kernel_rfl, F77_L3_ok⟩, trivial⟩) (fun v => by kernel_rfl)
theorem F77_two (a b : Int) : F77 [a, b] = some (if a = 0 then b else a) := by
 simp only [F77, F77_t, T.run, F77_L3]
 rw [loopO_step]
 simp only [F77_L3_step, T.run]
 by_cases ha : a = 0
 ·subst ha
  simp [w64_id (z := 1)]
  rw [loopO_step]
  simp only [F77_L3_step, T.run]
  by_cases hb : b = 0
  ·subst hb
   simp [w64_id (z := 2)]
   rw [loopO_step]
   simp [F77_L3_step, T.run]
  ·simp [hb]
 ·simp [ha]
def F31_sh : FSh := ⟨[(.ag [(.si .i64), (.si .i64)]), (.ag [(.si .i64), (.si .i64)])], []⟩
def F31_fo : List FO := [⟨[(.one (.si .i64))], []⟩]
noncomputable def F31_t : ((Int × Int) × (Int × Int)) → T Int := fun ((a_0, a_1), (b_0, b_1)) =>
 (.sub (F50 (a_0, b_0)) fun z0 =>
 (.sub (F50 (a_1, b_1)) fun z1 =>
 (.test (decide (2 ≤ (List.length (List.set (List.set (List.replicate 2 (0 : Int)) 0 z0) 1 z1))))
 (.sub (F77 (win (List.set (List.set (List.replicate 2 (0 : Int)) 0 z0) 1 z1) 0 2)) fun z2 =>
 (.ret z2))
 .fail)))
noncomputable def F31 (v) := (F31_t v).run
noncomputable def F31_E : TEnv := ((E0.add1 n_F50 F50_sh F50_fo F50).add1 n_F77 F77_sh F77_fo F77)
theorem F31_Eok : (F31_E).OK := ((E0ok.add1 F50_ok).add1 F77_ok)
noncomputable def F31_told : Nat → Option SealT := fun id => none
theorem F31_ok : FOK Tryz.prog n_F31 F31_sh F31_fo F31 :=
 fn_ok (E := F31_E) (F31_Eok) (told := F31_told) (fl := []) (c := bodyOf fn_F31) (s := F31_sh) (l := F31_fo) (tree := F31_t) fnat_F31 (by kernel_rfl) (by kernel_rfl) (by kernel_rfl) (loopsOK_of (ls := []) (by kernel_rfl) trivial) (fun v => by kernel_rfl)
theorem F31_eq (d e : Dg) : F31 (d, e) = some (cmpD d e) := by
 obtain ⟨a, b⟩ := d
 obtain ⟨c, f⟩ := e
 have h2 : win (List.set (List.set (List.replicate 2 (0 : Int)) 0 (if a < c then -1 else if c < a then 1 else 0)) 1 (if b < f then -1 else if f < b then 1 else 0)) 0 2 = [if a < c then -1 else if c < a then 1 else 0, if b < f then -1 else if f < b then 1 else 0] := rfl
 simp only [F31, F31_t, T.run, F50_eq, Option.bind_some, h2, F77_two]
 simp only [List.length_set, List.length_replicate, Nat.le_refl, decide_true, if_true]
 congr 1
 unfold cmpD ltD
 simp only [decide_eq_true_eq]
 split <;> split <;> (try split) <;> (try split) <;> omega
theorem cmpD_ge (d e : Dg) : decide (cmpD d e ≥ 0) = !ltD d e := by
 unfold cmpD
 cases ltD d e <;> simp
 split <;> omega
def F67_sh : FSh := ⟨[(.ag [(.si .i64), (.si .i64)]), (.one (.pf 0 0 0))], [(.rcd 0 [(.si .i64), (.si .i64)])]⟩
def F67_fo : List FO := [⟨[(.one .sb)], [(.rcd 0 [(.si .i64), (.si .i64)])]⟩]
noncomputable def F67_t : (((Int × Int) × Unit) × (Int × Int)) → T (Bool × (Int × Int)) := fun (((e_0, e_1), ()), (t1_0, t1_1)) =>
 (.sub (F81 ((t1_0, t1_1), (e_0, e_1))) fun z0 =>
 (.ret (z0, (t1_0, t1_1))))
noncomputable def F67 (v) := (F67_t v).run
noncomputable def F67_E : TEnv := (E0.add1 n_F81 F81_sh F81_fo F81)
theorem F67_Eok : (F67_E).OK := (E0ok.add1 F81_ok)
noncomputable def F67_told : Nat → Option SealT := fun id => none
theorem F67_ok : FOK Tryz.prog n_F67 F67_sh F67_fo F67 :=
 fn_ok (E := F67_E) (F67_Eok) (told := F67_told) (fl := []) (c := bodyOf fn_F67) (s := F67_sh) (l := F67_fo) (tree := F67_t) fnat_F67 (by kernel_rfl) (by kernel_rfl) (by kernel_rfl) (loopsOK_of (ls := []) (by kernel_rfl) trivial) (fun v => by kernel_rfl)
def F7_sh : FSh := ⟨[(.one (.sl (.pair (.int .i64) (.int .i64)) false false)), (.clo n_F67 [(.one (.pf 0 0 0))])], [(.rcd 0 [(.si .i64), (.si .i64)])]⟩
def F7_L2_sh : LSh := ⟨(fun ex => match ex with | .norm => [(0, none), (1, none), (7, none), (8, none)] | .exit i => if i = 0 then [] else [] | .ret => [(4, none)]), [(0, (.one (.sl (.pair (.int .i64) (.int .i64)) false false))), (1, (.clo n_F67 [(.one (.pf 0 0 0))])), (7, (.one (.si .i64))), (8, (.one (.si .i64)))], [(.rcd 0 [(.si .i64), (.si .i64)])], [⟨.ret, [(4, (.one (.si .i64)))], [(.rcd 0 [(.si .i64), (.si .i64)])]⟩, ⟨(.exit 0), [], [(.rcd 0 [(.si .i64), (.si .i64)])]⟩], [], []⟩
noncomputable def F7_L2_step : ((List ((Int × Int)) × Unit × Int × Int) × (Int × Int)) → T (((List ((Int × Int)) × Unit × Int × Int) × (Int × Int)) ⊕ ((Int × (Int × Int)) ⊕ (Unit × (Int × Int)))) := fun ((s, (), t7, t8), (r0_0, r0_1)) =>
 (.test (decide (t8 < t7))
 (.test (decide ((0 ≤ t8) ∧ (t8 < (s.length : Int))))
 (.sub (s[(Int.toNat t8)]?) fun z0 =>
 (.sub (F67 (((z0.1, z0.2), ()), (r0_0, r0_1))) fun z1 =>
 (.test z1.1
 (.ret (Sum.inr (Sum.inl (t8, (z1.2.1, z1.2.2)))))
 (.ret (Sum.inl ((s, ((), (t7, (w64 (t8 + 1))))), (z1.2.1, z1.2.2)))))))
 .fail)
 (.ret (Sum.inr (Sum.inr ((), (r0_0, r0_1))))))
noncomputable def F7_L2 (v) := loopO (fun v => (F7_L2_step v).run) v
def F7_fo : List FO := [⟨[(.one (.si .i64))], [(.rcd 0 [(.si .i64), (.si .i64)])]⟩]
noncomputable def F7_t : ((List ((Int × Int)) × Unit) × (Int × Int)) → T (Int × (Int × Int)) := fun ((s, ()), (r0_0, r0_1)) =>
 (.sub (F7_L2 ((s, ((), ((s.length : Int), (0 : Int)))), (r0_0, r0_1))) fun z0 =>
 (.test (Sum.isLeft z0)
 (.sub (Sum.getLeft? z0) fun z1 =>
 (.ret (z1.1, (z1.2.1, z1.2.2))))
 (.sub (Sum.getRight? z0) fun z2 =>
 (.ret ((-1), (z2.2.1, z2.2.2))))))
noncomputable def F7 (v) := (F7_t v).run
noncomputable def F7_E : TEnv := (E0.add1 n_F67 F67_sh F67_fo F67)
theorem F7_Eok : (F7_E).OK := (E0ok.add1 F67_ok)
noncomputable def F7_told : Nat → Option SealT := fun id => if id = 2 then some (LSh.told F7_L2_sh 1 (F7_L2_step)) else none
theorem F7_L2_ok : ToldOK Tryz.prog 1 (loopAt (bodyOf fn_F15) [0]) (LSh.told F7_L2_sh 1 (F7_L2_step)) :=
 loop_ok (E := F7_E) (F7_Eok) (told := F7_told) (l := F7_L2_sh) (step := F7_L2_step) (loopsOK_of (ls := []) (by kernel_rfl) trivial) (by kernel_rfl) (fun v => by kernel_rfl)
theorem F7_ok : FOK Tryz.prog n_F15 F7_sh F7_fo F7 :=
 fn_ok (E := F7_E) (F7_Eok) (told := F7_told) (fl := []) (c := bodyOf fn_F15) (s := F7_sh) (l := F7_fo) (tree := F7_t) fnat_F15 (by kernel_rfl) (by kernel_rfl) (by kernel_rfl) (loopsOK_of (ls := [loopAt (bodyOf fn_F15) [0]]) (by kernel_rfl) ⟨.inr ⟨_, by kernel_rfl, F7_L2_ok⟩, trivial⟩) (fun v => by kernel_rfl)
def F5_sh : FSh := ⟨[(.one (.sl (.pair (.int .i64) (.int .i64)) false false)), (.clo n_F67 [(.one (.pf 0 0 0))])], [(.rcd 0 [(.si .i64), (.si .i64)])]⟩
def F5_fo : List FO := [⟨[(.one .sb)], [(.rcd 0 [(.si .i64), (.si .i64)])]⟩]
noncomputable def F5_t : ((List ((Int × Int)) × Unit) × (Int × Int)) → T (Bool × (Int × Int)) := fun ((s, ()), (r0_0, r0_1)) =>
 (.sub (F7 ((s, ()), (r0_0, r0_1))) fun z0 =>
 (.ret ((decide (z0.1 ≥ 0)), (z0.2.1, z0.2.2))))
noncomputable def F5 (v) := (F5_t v).run
noncomputable def F5_E : TEnv := (E0.add1 n_F15 F7_sh F7_fo F7)
theorem F5_Eok : (F5_E).OK := (E0ok.add1 F7_ok)
noncomputable def F5_told : Nat → Option SealT := fun id => none
theorem F5_ok : FOK Tryz.prog n_F9 F5_sh F5_fo F5 :=
 fn_ok (E := F5_E) (F5_Eok) (told := F5_told) (fl := []) (c := bodyOf fn_F9) (s := F5_sh) (l := F5_fo) (tree := F5_t) fnat_F9 (by kernel_rfl) (by kernel_rfl) (by kernel_rfl) (loopsOK_of (ls := []) (by kernel_rfl) trivial) (fun v => by kernel_rfl)
theorem F5_eq (s : List Dg) (d : Dg) (hl : s.length < 4611686018427387904) : F5 ((s, ()), d) = some (s.any (crossD d), d) := by
 obtain ⟨a, b⟩ := d
 have hc : ∀ e : Dg, F67 ((e, ()), (a, b)) = some (crossD (a, b) e, (a, b)) := by
  intro e
  obtain ⟨e0, e1⟩ := e
  simp [F67, F67_t, T.run, F81_eq]
 have h := loop_find (step := fun v => (F7_L2_step v).run) (xs := s) (crossD (a, b)) (fun k => ((s, ((), ((s.length : Int), (k : Int)))), (a, b))) (fun k => .inl ((k : Int), (a, b))) (.inr ((), (a, b)))
  (fun k x hx => by
   have hlt := getElem?_lt hx
   have h1 : (k : Int) < (s.length : Int) := by omega
   have h2 : (0 : Int) ≤ k ∧ (k : Int) < (s.length : Int) := by omega
   simp only [F7_L2_step, T.run, Int.toNat_natCast, hx, Option.bind_some, h1, h2, decide_true, if_true, and_self, hc]
   rw [w64_id (z := (k : Int) + 1) (by omega) (by omega)]
   cases hv : crossD (a, b) x <;> simp)
  (by simp [F7_L2_step, T.run])
 rw [show ((0 : Nat) : Int) = 0 from rfl] at h
 have hi : F7 ((s, ()), (a, b)) = some (idxI (crossD (a, b)) s, (a, b)) := by
  simp only [F7, F7_t, T.run, F7_L2]
  rw [h]
  simp only [idxI]
  cases hf : s.findIdx? (crossD (a, b)) <;> simp [Sum.isLeft]
 simp only [F5, F5_t, T.run, hi, Option.bind_some, idxI_ge]
def F82_sh : FSh := ⟨[(.one (.sl (.pair (.int .i64) (.int .i64)) false false)), (.ag [(.si .i64), (.si .i64)])], []⟩
def F82_fo : List FO := [⟨[(.one .sb)], []⟩]
noncomputable def F82_t : (List ((Int × Int)) × (Int × Int)) → T Bool := fun (ds, (d_0, d_1)) =>
 (.sub (F5 ((ds, ()), (d_0, d_1))) fun z0 =>
 (.ret z0.1))
noncomputable def F82 (v) := (F82_t v).run
noncomputable def F82_E : TEnv := (E0.add1 n_F9 F5_sh F5_fo F5)
theorem F82_Eok : (F82_E).OK := (E0ok.add1 F5_ok)
noncomputable def F82_told : Nat → Option SealT := fun id => none
theorem F82_ok : FOK Tryz.prog n_F82 F82_sh F82_fo F82 :=
 fn_ok (E := F82_E) (F82_Eok) (told := F82_told) (fl := []) (c := bodyOf fn_F82) (s := F82_sh) (l := F82_fo) (tree := F82_t) fnat_F82 (by kernel_rfl) (by kernel_rfl) (by kernel_rfl) (loopsOK_of (ls := []) (by kernel_rfl) trivial) (fun v => by kernel_rfl)
theorem F82_eq (s : List Dg) (d : Dg) (hl : s.length < 4611686018427387904) : F82 (s, d) = some (s.any (crossD d)) := by
 obtain ⟨a, b⟩ := d
 rw [F82, F82_t, T.run_sub, F5_eq s (a, b) hl, Option.bind_some, T.run_ret]
def F107_sh : FSh := ⟨[(.one (.si .i64)), (.one (.sl (.pair (.int .i64) (.int .i64)) false false))], []⟩
def F107_L4_sh : LSh := ⟨(fun ex => match ex with | .norm => [(0, none), (1, none), (17, none), (18, none), (19, none)] | .exit i => if i = 0 then [] else [] | .ret => [(4, none)]), [(0, (.one (.si .i64))), (1, (.one (.sl (.pair (.int .i64) (.int .i64)) false false))), (17, (.one (.sl (.pair (.int .i64) (.int .i64)) false false))), (18, (.one (.si .i64))), (19, (.one (.si .i64)))], [], [⟨.ret, [(4, (.one .sb))], []⟩, ⟨(.exit 0), [], []⟩], [], []⟩
noncomputable def F107_L4_step : (Int × List ((Int × Int)) × List ((Int × Int)) × Int × Int) → T ((Int × List ((Int × Int)) × List ((Int × Int)) × Int × Int) ⊕ (Bool ⊕ Unit)) := fun (n, ds, t17, t18, t19) =>
 (.test (decide (t19 < t18))
 (.test (decide ((0 ≤ t19) ∧ (t19 < (t17.length : Int))))
 (.sub (t17[(Int.toNat t19)]?) fun z0 =>
 (.sub (F61 (n, (z0.1, z0.2))) fun z1 =>
 (.test (! z1)
 (.ret (Sum.inr (Sum.inl false)))
 (.test (decide (t19 > 0))
 (.test (decide ((0 ≤ (w64 (t19 - 1))) ∧ ((w64 (t19 - 1)) < (ds.length : Int))))
 (.sub (ds[(Int.toNat (w64 (t19 - 1)))]?) fun z2 =>
 (.sub (F31 ((z2.1, z2.2), (z0.1, z0.2))) fun z3 =>
 (.test (decide (z3 ≥ 0))
 (.ret (Sum.inr (Sum.inl false)))
 (.test (decide (0 ≤ t19))
 (.test (decide ((0 ≤ (Int.toNat t19)) ∧ ((Int.toNat t19) ≤ ds.length)))
 (.sub (F82 ((win ds 0 ((Int.toNat t19) - 0)), (z0.1, z0.2))) fun z4 =>
 (.test z4
 (.ret (Sum.inr (Sum.inl false)))
 (.ret (Sum.inl (n, (ds, (t17, (t18, (w64 (t19 + 1))))))))))
 .fail)
 .fail))))
 .fail)
 (.test (decide (0 ≤ t19))
 (.test (decide ((0 ≤ (Int.toNat t19)) ∧ ((Int.toNat t19) ≤ ds.length)))
 (.sub (F82 ((win ds 0 ((Int.toNat t19) - 0)), (z0.1, z0.2))) fun z5 =>
 (.test z5
 (.ret (Sum.inr (Sum.inl false)))
 (.ret (Sum.inl (n, (ds, (t17, (t18, (w64 (t19 + 1))))))))))
 .fail)
 .fail)))))
 .fail)
 (.ret (Sum.inr (Sum.inr ()))))
noncomputable def F107_L4 (v) := loopO (fun v => (F107_L4_step v).run) v
def F107_fo : List FO := [⟨[(.one .sb)], []⟩]
noncomputable def F107_t : (Int × List ((Int × Int))) → T Bool := fun (n, ds) =>
 (.sub (F66 n) fun z0 =>
 (.test (! z0)
 (.ret false)
 (.test (decide ((ds.length : Int) > (w64 (n - 3))))
 (.ret false)
 (.sub (F107_L4 (n, (ds, (ds, ((ds.length : Int), (0 : Int)))))) fun z1 =>
 (.test (Sum.isLeft z1)
 (.sub (Sum.getLeft? z1) fun z2 =>
 (.ret z2))
 (.sub (Sum.getRight? z1) fun z3 =>
 (.ret true)))))))
noncomputable def F107 (v) := (F107_t v).run
noncomputable def F107_E : TEnv := ((((E0.add1 n_F66 F66_sh F66_fo F66).add1 n_F61 F61_sh F61_fo F61).add1 n_F31 F31_sh F31_fo F31).add1 n_F82 F82_sh F82_fo F82)
theorem F107_Eok : (F107_E).OK := ((((E0ok.add1 F66_ok).add1 F61_ok).add1 F31_ok).add1 F82_ok)
noncomputable def F107_told : Nat → Option SealT := fun id => if id = 4 then some (LSh.told F107_L4_sh 0 (F107_L4_step)) else none
theorem F107_L4_ok : ToldOK Tryz.prog 0 (loopAt (bodyOf fn_F107) [0]) (LSh.told F107_L4_sh 0 (F107_L4_step)) :=
 loop_ok (E := F107_E) (F107_Eok) (told := F107_told) (l := F107_L4_sh) (step := F107_L4_step) (loopsOK_of (ls := []) (by kernel_rfl) trivial) (by kernel_rfl) (fun v => by kernel_rfl)
theorem F107_ok : FOK Tryz.prog n_F107 F107_sh F107_fo F107 :=
 fn_ok (E := F107_E) (F107_Eok) (told := F107_told) (fl := []) (c := bodyOf fn_F107) (s := F107_sh) (l := F107_fo) (tree := F107_t) fnat_F107 (by kernel_rfl) (by kernel_rfl) (by kernel_rfl) (loopsOK_of (ls := [loopAt (bodyOf fn_F107) [0]]) (by kernel_rfl) ⟨.inr ⟨_, by kernel_rfl, F107_L4_ok⟩, trivial⟩) (fun v => by kernel_rfl)
theorem F107_eq (n : Int) (ds : List Dg) (hl : ds.length < 4611686018427387904) : F107 (n, ds) = some (isCut n ds) := by
 simp only [F107, F107_t, T.run, F66, F66_t, F90_eq, Option.bind_some, isCut]
 cases hn : inB 3 12 n with
 | false => simp
 | true =>
  rw [inB_iff] at hn
  rw [w64_id (z := n - 3) (by omega) (by omega)]
  by_cases he : (ds.length : Int) ≤ n - 3
  ·have h := loop_any (step := fun v => (F107_L4_step v).run) (xs := List.range ds.length) (badT n ds) (fun k => (n, (ds, (ds, ((ds.length : Int), (k : Int)))))) (.inl false) (.inr ())
    (fun k x hx => by
     obtain ⟨hk, e⟩ := List.getElem?_eq_some_iff.1 hx
     simp only [List.getElem_range] at e
     subst e
     rw [List.length_range] at hk
     have g0 := gD_some hk
     have c0 : (k : Int) < (ds.length : Int) := by omega
     have c1 : (0 : Int) ≤ (k : Int) ∧ (k : Int) < (ds.length : Int) := by omega
     have w1 : w64 ((k : Int) + 1) = ((k + 1 : Nat) : Int) := by rw [w64_id (by omega) (by omega)]; omega
     have c2 : 0 ≤ k ∧ k ≤ ds.length := by omega
     have c3 : (0 : Int) ≤ (k : Int) := by omega
     have tw : win ds 0 (k - 0) = ds.take k := win_take _ _
     have hlt : (ds.take k).length < 4611686018427387904 := by simp; omega
     have hcr : F82 (ds.take k, ((gD ds k).1, (gD ds k).2)) = some ((ds.take k).any (crossD (gD ds k))) := F82_eq _ _ hlt
     simp only [F107_L4_step, T.run, c0, c1, c2, c3, decide_true, if_true, and_self, Int.toNat_natCast, g0, Option.bind_some, F61_eq n (gD ds k) (by omega) (by omega), tw, hcr, w1, badT]
     rcases Bool.eq_false_or_eq_true (inDg n (gD ds k)) with hd | hd
     rotate_left
     ·simp [hd]
     ·simp only [hd]
      by_cases hk0 : 0 < k
      ·have w2 : w64 ((k : Int) - 1) = ((k - 1 : Nat) : Int) := by rw [w64_id (by omega) (by omega)]; omega
       have c4 : (0 : Int) ≤ ((k - 1 : Nat) : Int) ∧ ((k - 1 : Nat) : Int) < (ds.length : Int) := by omega
       have g1 := gD_some (show k - 1 < ds.length by omega)
       have c5 : (k : Int) > 0 := by omega
       simp only [w2, c4, c5, decide_true, if_true, and_self, Int.toNat_natCast, g1, Option.bind_some, F31_eq, cmpD_ge, hk0]
       cases ltD (gD ds (k - 1)) (gD ds k) <;> simp
       cases (ds.take k).any (crossD (gD ds k)) <;> simp
      ·have c5 : ¬ (k : Int) > 0 := by omega
       simp only [c5, decide_false, hk0, if_false]
       cases (ds.take k).any (crossD (gD ds k)) <;> simp)
    (by simp [F107_L4_step, T.run])
   rw [show ((0 : Nat) : Int) = 0 from rfl] at h
   have he' : ¬ ((ds.length : Int) > n - 3) := by omega
   simp only [F107_L4, h, he', decide_eq_true he, decide_eq_false he']
   cases (List.range ds.length).any (badT n ds) <;> simp
  ·have he' : (ds.length : Int) > n - 3 := by omega
   simp [he, he']
def F62_sh : FSh := ⟨[(.one (.si .i64)), (.one (.sl (.pair (.int .i64) (.int .i64)) false false))], []⟩
def F62_L5_sh : LSh := ⟨(fun ex => match ex with | .norm => [(6, none), (15, none), (16, none), (17, none)] | .exit i => if i = 0 then [(6, none)] else [] | .ret => [(4, none), (5, none)]), [(6, (.one (.si .i64))), (15, (.one (.rw 0 0))), (16, (.one (.si .i64))), (17, (.one (.si .i64)))], [(.row 0 (.int .i64))], [⟨(.exit 0), [(6, (.one (.si .i64)))], []⟩], [], []⟩
noncomputable def F62_L5_step : ((Int × Unit × Int × Int) × List (Int)) → T (((Int × Unit × Int × Int) × List (Int)) ⊕ Int) := fun ((out, (), t16, t17), t15) =>
 (.test (decide (t17 < t16))
 (.test (decide ((0 ≤ t17) ∧ (t17 < (t15.length : Int))))
 (.sub (t15[(0 + (Int.toNat t17))]?) fun z0 =>
 (.sub (F79 z0) fun z1 =>
 (.test (decide ((0 = 0) ∧ (t15.length = t15.length)))
 (.ret (Sum.inl (((w64 (out * z1)), ((), (t16, (w64 (t17 + 1))))), t15)))
 .fail)))
 .fail)
 (.ret (Sum.inr out)))
noncomputable def F62_L5 (v) := loopO (fun v => (F62_L5_step v).run) v
def F62_fo : List FO := [⟨[(.one (.si .i64)), (.one .sb)], []⟩]
noncomputable def F62_t : (Int × List ((Int × Int))) → T (Int × Bool) := fun (n, ds) =>
 (.sub (F107 (n, ds)) fun z0 =>
 (.test (! z0)
 (.ret ((0 : Int), false))
 (.sub (F105 (n, ds)) fun z1 =>
 (.test (decide ((0 = 0) ∧ (z1.2.length = z1.2.length)))
 (.sub (F62_L5 (((1 : Int), ((), ((z1.2.length : Int), (0 : Int)))), z1.2)) fun z2 =>
 (.ret (z2, true)))
 .fail))))
noncomputable def F62 (v) := (F62_t v).run
noncomputable def F62_E : TEnv := (((E0.add1 n_F107 F107_sh F107_fo F107).add1 n_F105 F105_sh F105_fo F105).add1 n_F79 F79_sh F79_fo F79)
theorem F62_Eok : (F62_E).OK := (((E0ok.add1 F107_ok).add1 F105_ok).add1 F79_ok)
noncomputable def F62_told : Nat → Option SealT := fun id => if id = 5 then some (LSh.told F62_L5_sh 0 (F62_L5_step)) else none
theorem F62_L5_ok : ToldOK Tryz.prog 0 (loopAt (bodyOf fn_F62) [0]) (LSh.told F62_L5_sh 0 (F62_L5_step)) :=
 loop_ok (E := F62_E) (F62_Eok) (told := F62_told) (l := F62_L5_sh) (step := F62_L5_step) (loopsOK_of (ls := []) (by kernel_rfl) trivial) (by kernel_rfl) (fun v => by kernel_rfl)
theorem F62_ok : FOK Tryz.prog n_F62 F62_sh F62_fo F62 :=
 fn_ok (E := F62_E) (F62_Eok) (told := F62_told) (fl := []) (c := bodyOf fn_F62) (s := F62_sh) (l := F62_fo) (tree := F62_t) fnat_F62 (by kernel_rfl) (by kernel_rfl) (by kernel_rfl) (loopsOK_of (ls := [loopAt (bodyOf fn_F62) [0]]) (by kernel_rfl) ⟨.inr ⟨_, by kernel_rfl, F62_L5_ok⟩, trivial⟩) (fun v => by kernel_rfl)
theorem F62_L5_eq (l : List Int) (hl : l.length ≤ 100) (hb : ∀ s ∈ l, 3 ≤ s ∧ s ≤ 12) : ∀ (m k : Nat) (out : Int), k + m = l.length →
  F62_L5 ((out, ((), ((l.length : Int), (k : Int)))), l) = some ((l.drop k).foldl (fun o s => w64 (o * catV s)) out) := by
 intro m
 induction m with
 | zero =>
  intro k out hk
  rw [List.drop_eq_nil_of_le (by omega)]
  simp only [F62_L5]
  refine loopO_done ?_
  rw [F62_L5_step, T.run_test, if_neg (by rw [decide_eq_true_eq]; omega), T.run_ret]
  rfl
 | succ m ih =>
  intro k out hk
  have hlt : k < l.length := by omega
  have hs := hb l[k] (List.getElem_mem hlt)
  have w1 : w64 ((k : Int) + 1) = ((k + 1 : Nat) : Int) := by rw [w64_id (by omega) (by omega)]; omega
  have := ih (k + 1) (w64 (out * catV l[k])) (by omega)
  rw [List.drop_eq_getElem_cons hlt, List.foldl_cons]
  simp only [F62_L5] at this ⊢
  rw [← this]
  refine loopO_next ?_
  rw [F62_L5_step, T.run_test, if_pos (decide_eq_true (by omega)), T.run_test, if_pos (decide_eq_true (by omega)), T.run_sub, Nat.zero_add, Int.toNat_natCast, List.getElem?_eq_getElem hlt, Option.bind_some, T.run_sub, F79_eq _ hs.1 hs.2, Option.bind_some, T.run_test, if_pos (by simp), T.run_ret, w1]
def finV (n : Int) (ds : List Dg) : Int × Bool := if isCut n ds then ((szL n.toNat ds).foldl (fun o s => w64 (o * catV s)) 1, true) else (0, false)
theorem F62_eq (n : Int) (ds : List Dg) (hl : ds.length < 4611686018427387904) : F62 (n, ds) = some (finV n ds) := by
 rw [F62, F62_t, T.run_sub, F107_eq n ds hl, Option.bind_some, T.run_test, finV]
 cases h : isCut n ds with
 | false => rfl
 | true =>
  obtain ⟨N, rfl, h3, hN, hlen, hc⟩ := isCut_cut h
  have hsl := (sortI_perm (szL N ds)).length_eq
  have hL := F62_L5_eq (sortI (szL N ds)) (by rw [hsl, szL_len hc h3]; omega) (fun s hs => by have := szL_mem hc h3 ((sortI_perm _).mem_iff.1 hs); omega) (sortI (szL N ds)).length 0 1 (by omega)
  rw [Int.natCast_zero, List.drop_zero, foldl_mul_perm catV (sortI_perm (szL N ds))] at hL
  rw [if_neg (by simp), T.run_sub, F105_eq h3 hN hlen hc, Option.bind_some, T.run_test, if_pos (by simp), T.run_sub, hL, Option.bind_some, T.run_ret, Int.toNat_natCast]
  rfl
def F68_sh : FSh := ⟨[(.one (.si .i64)), (.one (.sl (.pair (.int .i64) (.int .i64)) false false))], []⟩
def F68_fo : List FO := [⟨[(.one (.si .i64)), (.one .sb)], []⟩]
noncomputable def F68_t : (Int × List ((Int × Int))) → T (Int × Bool) := fun (n, ds) =>
 (.sub (F62 (n, ds)) fun z0 =>
 (.ret (z0.1, z0.2)))
noncomputable def F68 (v) := (F68_t v).run
noncomputable def F68_E : TEnv := (E0.add1 n_F62 F62_sh F62_fo F62)
theorem F68_Eok : (F68_E).OK := (E0ok.add1 F62_ok)
noncomputable def F68_told : Nat → Option SealT := fun id => none
theorem F68_ok : FOK Tryz.prog n_F68 F68_sh F68_fo F68 :=
 fn_ok (E := F68_E) (F68_Eok) (told := F68_told) (fl := []) (c := bodyOf fn_F68) (s := F68_sh) (l := F68_fo) (tree := F68_t) fnat_F68 (by kernel_rfl) (by kernel_rfl) (by kernel_rfl) (loopsOK_of (ls := []) (by kernel_rfl) trivial) (fun v => by kernel_rfl)
theorem F68_eq (n : Int) (ds : List Dg) (hl : ds.length < 4611686018427387904) : F68 (n, ds) = some (finV n ds) := by
 rw [F68, F68_t, T.run_sub, F62_eq n ds hl, Option.bind_some, T.run_ret]
def F63_sh : FSh := ⟨[(.one (.si .i64)), (.ag [(.si .i64), (.si .i64)])], []⟩
def F63_fo : List FO := [⟨[(.one .sb)], []⟩]
noncomputable def F63_t : (Int × (Int × Int)) → T Bool := fun (n, (d_0, d_1)) =>
 (.sub (F114 n) fun z0 =>
 (.test z0
 (.sub (F113 (d_0, ((0 : Int), (w64 (n - 1))))) fun z1 =>
 (.test z1
 (.sub (F113 (d_1, ((0 : Int), (w64 (n - 1))))) fun z2 =>
 (.test z2
 (.test (decide ((w64 (d_1 - d_0)) ≥ 2))
 (.ret (decide ((w64 (d_1 - d_0)) ≤ (w64 (n - 2)))))
 (.ret false))
 (.ret false)))
 (.ret false)))
 (.ret false)))
noncomputable def F63 (v) := (F63_t v).run
noncomputable def F63_E : TEnv := ((E0.add1 n_F114 F114_sh F114_fo F114).add1 n_F113 F113_sh F113_fo F113)
theorem F63_Eok : (F63_E).OK := ((E0ok.add1 F114_ok).add1 F113_ok)
noncomputable def F63_told : Nat → Option SealT := fun id => none
theorem F63_ok : FOK Tryz.prog n_F63 F63_sh F63_fo F63 :=
 fn_ok (E := F63_E) (F63_Eok) (told := F63_told) (fl := []) (c := bodyOf fn_F63) (s := F63_sh) (l := F63_fo) (tree := F63_t) fnat_F63 (by kernel_rfl) (by kernel_rfl) (by kernel_rfl) (loopsOK_of (ls := []) (by kernel_rfl) trivial) (fun v => by kernel_rfl)
theorem F63_eq (n : Int) (d : Dg) (h1 : 3 ≤ n) (h2 : n ≤ 12) : F63 (n, d) = some (inDg n d) := by
 obtain ⟨a, b⟩ := d
 have hp : inB 3 12 n = true := inB_iff.2 ⟨h1, h2⟩
 simp only [F63, F63_t, T.run, F114, F114_t, F113_eq, Option.bind_some, hp, if_true, w64_id (z := n - 1) (by omega) (by omega), w64_id (z := n - 2) (by omega) (by omega)]
 cases ha : inB 0 (n - 1) a with
 | false => simp [inDg, ha]
 | true =>
  cases hb : inB 0 (n - 1) b with
  | false => simp [inDg, hb]
  | true =>
   have e : inDg n (a, b) = decide (b - a ≥ 2 ∧ b - a ≤ n - 2) := by
    rw [Bool.eq_iff_iff, inDg_iff, decide_eq_true_eq]
    rw [inB_iff] at ha hb
    simp only []
    omega
   rw [inB_iff] at ha hb
   rw [w64_id (z := b - a) (by omega) (by omega), e]
   by_cases g1 : b - a ≥ 2 <;> by_cases g2 : b - a ≤ n - 2 <;> simp [g1, g2]
def F83_sh : FSh := ⟨[(.ag [(.si .i64), (.si .i64)]), (.ag [(.si .i64), (.si .i64)])], []⟩
def F83_fo : List FO := [⟨[(.one .sb)], []⟩]
noncomputable def F83_t : ((Int × Int) × (Int × Int)) → T Bool := fun ((d_0, d_1), (e_0, e_1)) =>
 (.test (decide (d_0 < e_0))
 (.test (decide (e_0 < d_1))
 (.test (decide (d_1 < e_1))
 (.ret true)
 (.test (decide (e_0 < d_0))
 (.test (decide (d_0 < e_1))
 (.ret (decide (e_1 < d_1)))
 (.ret false))
 (.ret false)))
 (.test (decide (e_0 < d_0))
 (.test (decide (d_0 < e_1))
 (.ret (decide (e_1 < d_1)))
 (.ret false))
 (.ret false)))
 (.test (decide (e_0 < d_0))
 (.test (decide (d_0 < e_1))
 (.ret (decide (e_1 < d_1)))
 (.ret false))
 (.ret false)))
noncomputable def F83 (v) := (F83_t v).run
noncomputable def F83_E : TEnv := E0
theorem F83_Eok : (F83_E).OK := E0ok
noncomputable def F83_told : Nat → Option SealT := fun id => none
theorem F83_ok : FOK Tryz.prog n_F83 F83_sh F83_fo F83 :=
 fn_ok (E := F83_E) (F83_Eok) (told := F83_told) (fl := []) (c := bodyOf fn_F83) (s := F83_sh) (l := F83_fo) (tree := F83_t) fnat_F83 (by kernel_rfl) (by kernel_rfl) (by kernel_rfl) (loopsOK_of (ls := []) (by kernel_rfl) trivial) (fun v => by kernel_rfl)
theorem F83_eq (d e : Dg) : F83 (d, e) = some (crossD d e) := by
 obtain ⟨a, b⟩ := d
 obtain ⟨c, f⟩ := e
 simp only [F83, F83_t, T.run, crossD]
 by_cases h1 : a < c <;> by_cases h2 : c < b <;> by_cases h3 : b < f <;> by_cases h4 : c < a <;> by_cases h5 : a < f <;> by_cases h6 : f < b <;> simp [h1, h2, h3, h4, h5, h6]
def F93_sh : FSh := ⟨[(.one (.si .i64)), (.one (.sl (.pair (.int .i64) (.int .i64)) false false))], []⟩
def F93_L9_sh : LSh := ⟨(fun ex => match ex with | .norm => [(0, none), (1, none), (6, none), (19, none), (20, none), (21, none), (46, none), (47, none), (48, none)] | .exit i => if i = 2 then [(0, none), (1, none), (19, none), (20, none), (21, none)] else if i = 1 then [(0, none), (1, none), (19, none), (20, none), (21, none)] else if i = 0 then [] else [] | .ret => [(4, none)]), [(0, (.one (.si .i64))), (1, (.one (.sl (.pair (.int .i64) (.int .i64)) false false))), (6, (.one (.pf 0 0 0))), (19, (.one (.sl (.pair (.int .i64) (.int .i64)) false false))), (20, (.one (.si .i64))), (21, (.one (.si .i64))), (46, (.one (.sl (.pair (.int .i64) (.int .i64)) false false))), (47, (.one (.si .i64))), (48, (.one (.si .i64)))], [(.rcd 0 [(.si .i64), (.si .i64)])], [⟨.ret, [(4, (.one .sb))], []⟩, ⟨(.exit 2), [(0, (.one (.si .i64))), (1, (.one (.sl (.pair (.int .i64) (.int .i64)) false false))), (19, (.one (.sl (.pair (.int .i64) (.int .i64)) false false))), (20, (.one (.si .i64))), (21, (.one (.si .i64)))], []⟩], [], []⟩
noncomputable def F93_L9_step : ((Int × List ((Int × Int)) × Unit × List ((Int × Int)) × Int × Int × List ((Int × Int)) × Int × Int) × (Int × Int)) → T (((Int × List ((Int × Int)) × Unit × List ((Int × Int)) × Int × Int × List ((Int × Int)) × Int × Int) × (Int × Int)) ⊕ (Bool ⊕ (Int × List ((Int × Int)) × List ((Int × Int)) × Int × Int))) := fun ((n, ds, (), t19, t20, t21, t46, t47, t48), (d_0, d_1)) =>
 (.test (decide (t48 < t47))
 (.test (decide ((0 ≤ t48) ∧ (t48 < (t46.length : Int))))
 (.sub (t46[(Int.toNat t48)]?) fun z0 =>
 (.sub (F83 ((d_0, d_1), (z0.1, z0.2))) fun z1 =>
 (.test z1
 (.ret (Sum.inr (Sum.inl false)))
 (.ret (Sum.inl ((n, (ds, ((), (t19, (t20, (t21, (t46, (t47, (w64 (t48 + 1)))))))))), (d_0, d_1)))))))
 .fail)
 (.ret (Sum.inr (Sum.inr (n, (ds, (t19, (t20, t21))))))))
noncomputable def F93_L9 (v) := loopO (fun v => (F93_L9_step v).run) v
def F93_L4_sh : LSh := ⟨(fun ex => match ex with | .norm => [(0, none), (1, none), (19, none), (20, none), (21, none)] | .exit i => if i = 0 then [] else [] | .ret => [(4, none)]), [(0, (.one (.si .i64))), (1, (.one (.sl (.pair (.int .i64) (.int .i64)) false false))), (19, (.one (.sl (.pair (.int .i64) (.int .i64)) false false))), (20, (.one (.si .i64))), (21, (.one (.si .i64)))], [], [⟨.ret, [(4, (.one .sb))], []⟩, ⟨(.exit 0), [], []⟩], [], []⟩
noncomputable def F93_L4_step : (Int × List ((Int × Int)) × List ((Int × Int)) × Int × Int) → T ((Int × List ((Int × Int)) × List ((Int × Int)) × Int × Int) ⊕ (Bool ⊕ Unit)) := fun (n, ds, t19, t20, t21) =>
 (.test (decide (t21 < t20))
 (.test (decide ((0 ≤ t21) ∧ (t21 < (t19.length : Int))))
 (.sub (t19[(Int.toNat t21)]?) fun z0 =>
 (.sub (F63 (n, (z0.1, z0.2))) fun z1 =>
 (.test (! z1)
 (.ret (Sum.inr (Sum.inl false)))
 (.test (decide (t21 > 0))
 (.test (decide ((0 ≤ (w64 (t21 - 1))) ∧ ((w64 (t21 - 1)) < (ds.length : Int))))
 (.sub (ds[(Int.toNat (w64 (t21 - 1)))]?) fun z2 =>
 (.sub (F86 ((z2.1, z2.2), (z0.1, z0.2))) fun z3 =>
 (.test (! z3)
 (.ret (Sum.inr (Sum.inl false)))
 (.test (decide (0 ≤ t21))
 (.test (decide ((0 ≤ (Int.toNat t21)) ∧ ((Int.toNat t21) ≤ ds.length)))
 (.sub (F93_L9 ((n, (ds, ((), (t19, (t20, (t21, ((win ds 0 ((Int.toNat t21) - 0)), (((List.length (win ds 0 ((Int.toNat t21) - 0))) : Int), (0 : Int))))))))), (z0.1, z0.2))) fun z4 =>
 (.test (Sum.isLeft z4)
 (.sub (Sum.getLeft? z4) fun z5 =>
 (.ret (Sum.inr (Sum.inl z5))))
 (.sub (Sum.getRight? z4) fun z6 =>
 (.ret (Sum.inl (z6.1, (z6.2.1, (z6.2.2.1, (z6.2.2.2.1, (w64 (z6.2.2.2.2 + 1)))))))))))
 .fail)
 .fail))))
 .fail)
 (.test (decide (0 ≤ t21))
 (.test (decide ((0 ≤ (Int.toNat t21)) ∧ ((Int.toNat t21) ≤ ds.length)))
 (.sub (F93_L9 ((n, (ds, ((), (t19, (t20, (t21, ((win ds 0 ((Int.toNat t21) - 0)), (((List.length (win ds 0 ((Int.toNat t21) - 0))) : Int), (0 : Int))))))))), (z0.1, z0.2))) fun z7 =>
 (.test (Sum.isLeft z7)
 (.sub (Sum.getLeft? z7) fun z8 =>
 (.ret (Sum.inr (Sum.inl z8))))
 (.sub (Sum.getRight? z7) fun z9 =>
 (.ret (Sum.inl (z9.1, (z9.2.1, (z9.2.2.1, (z9.2.2.2.1, (w64 (z9.2.2.2.2 + 1)))))))))))
 .fail)
 .fail)))))
 .fail)
 (.ret (Sum.inr (Sum.inr ()))))
noncomputable def F93_L4 (v) := loopO (fun v => (F93_L4_step v).run) v
def F93_fo : List FO := [⟨[(.one .sb)], []⟩]
noncomputable def F93_t : (Int × List ((Int × Int))) → T Bool := fun (n, ds) =>
 (.sub (F114 n) fun z0 =>
 (.test (! z0)
 (.ret false)
 (.test (decide ((ds.length : Int) > (w64 (n - 3))))
 (.ret false)
 (.sub (F93_L4 (n, (ds, (ds, ((ds.length : Int), (0 : Int)))))) fun z1 =>
 (.test (Sum.isLeft z1)
 (.sub (Sum.getLeft? z1) fun z2 =>
 (.ret z2))
 (.sub (Sum.getRight? z1) fun z3 =>
 (.ret true)))))))
noncomputable def F93 (v) := (F93_t v).run
noncomputable def F93_E : TEnv := ((((E0.add1 n_F114 F114_sh F114_fo F114).add1 n_F63 F63_sh F63_fo F63).add1 n_F86 F86_sh F86_fo F86).add1 n_F83 F83_sh F83_fo F83)
theorem F93_Eok : (F93_E).OK := ((((E0ok.add1 F114_ok).add1 F63_ok).add1 F86_ok).add1 F83_ok)
noncomputable def F93_told : Nat → Option SealT := fun id => if id = 9 then some (LSh.told F93_L9_sh 0 (F93_L9_step)) else if id = 4 then some (LSh.told F93_L4_sh 0 (F93_L4_step)) else none
theorem F93_L9_ok : ToldOK Tryz.prog 0 (loopAt (bodyOf fn_F93) [0, 0]) (LSh.told F93_L9_sh 0 (F93_L9_step)) :=
 loop_ok (E := F93_E) (F93_Eok) (told := F93_told) (l := F93_L9_sh) (step := F93_L9_step) (loopsOK_of (ls := []) (by kernel_rfl) trivial) (by kernel_rfl) (fun v => by kernel_rfl)
theorem F93_L4_ok : ToldOK Tryz.prog 0 (loopAt (bodyOf fn_F93) [0]) (LSh.told F93_L4_sh 0 (F93_L4_step)) :=
 loop_ok (E := F93_E) (F93_Eok) (told := F93_told) (l := F93_L4_sh) (step := F93_L4_step) (loopsOK_of (ls := [loopAt (bodyOf fn_F93) [0, 0]]) (by kernel_rfl) ⟨.inr ⟨_, by kernel_rfl, F93_L9_ok⟩, trivial⟩) (by kernel_rfl) (fun v => by kernel_rfl)
theorem F93_ok : FOK Tryz.prog n_F93 F93_sh F93_fo F93 :=
 fn_ok (E := F93_E) (F93_Eok) (told := F93_told) (fl := []) (c := bodyOf fn_F93) (s := F93_sh) (l := F93_fo) (tree := F93_t) fnat_F93 (by kernel_rfl) (by kernel_rfl) (by kernel_rfl) (loopsOK_of (ls := [loopAt (bodyOf fn_F93) [0]]) (by kernel_rfl) ⟨.inr ⟨_, by kernel_rfl, F93_L4_ok⟩, trivial⟩) (fun v => by kernel_rfl)
theorem F93_L9_eq (n : Int) (ds t19 xs : List Dg) (t20 t21 : Int) (d : Dg) (hl : xs.length < 4611686018427387904) :
  F93_L9 ((n, (ds, ((), (t19, (t20, (t21, (xs, ((xs.length : Int), (0 : Int))))))))), d) = some (if xs.any (crossD d) then .inl false else .inr (n, (ds, (t19, (t20, t21))))) := by
 obtain ⟨a, b⟩ := d
 have h := loop_any (step := fun v => (F93_L9_step v).run) (xs := xs) (crossD (a, b)) (fun k => ((n, (ds, ((), (t19, (t20, (t21, (xs, ((xs.length : Int), (k : Int))))))))), (a, b))) (.inl false) (.inr (n, (ds, (t19, (t20, t21)))))
  (fun k x hx => by
   have hlt := getElem?_lt hx
   have w1 : w64 ((k : Int) + 1) = ((k + 1 : Nat) : Int) := by rw [w64_id (by omega) (by omega)]; omega
   rw [F93_L9_step, T.run_test, if_pos (decide_eq_true (by omega)), T.run_test, if_pos (decide_eq_true (by omega)), T.run_sub, Int.toNat_natCast, hx, Option.bind_some, T.run_sub, F83_eq, Option.bind_some, T.run_test, w1]
   cases crossD (a, b) x <;> rfl)
  (by rw [F93_L9_step, T.run_test, if_neg (by simp), T.run_ret])
 simp only [Int.natCast_zero] at h
 exact h
theorem F93_eq (n : Int) (ds : List Dg) (hl : ds.length < 4611686018427387904) : F93 (n, ds) = some (isCut n ds) := by
 rw [F93, F93_t, T.run_sub, F114, F114_t, T.run_sub, F113_eq, Option.bind_some, T.run_ret, Option.bind_some, T.run_test, isCut]
 cases hn : inB 3 12 n with
 | false => rfl
 | true =>
  rw [inB_iff] at hn
  have w3 : w64 (n - 3) = n - 3 := w64_id (by omega) (by omega)
  rw [if_neg (by simp), T.run_test, w3]
  by_cases he : (ds.length : Int) ≤ n - 3
  ·have h := loop_any (step := fun v => (F93_L4_step v).run) (xs := List.range ds.length) (badT n ds) (fun k => (n, (ds, (ds, ((ds.length : Int), (k : Int)))))) (.inl false) (.inr ())
    (fun k x hx => by
     obtain ⟨hk, e⟩ := List.getElem?_eq_some_iff.1 hx
     simp only [List.getElem_range] at e
     subst e
     rw [List.length_range] at hk
     have g0 := gD_some hk
     have w1 : w64 ((k : Int) + 1) = ((k + 1 : Nat) : Int) := by rw [w64_id (by omega) (by omega)]; omega
     have tw : win ds 0 (k - 0) = ds.take k := win_take _ _
     have hcr := F93_L9_eq n ds ds (ds.take k) (ds.length : Int) (k : Int) (gD ds k) (by simp; omega)
     have hcr' : F93_L9 ((n, (ds, ((), (ds, ((ds.length : Int), ((k : Int), ((ds.take k), (((ds.take k).length : Int), (0 : Int))))))))), ((gD ds k).1, (gD ds k).2)) = _ := hcr
     have hdg : F63 (n, ((gD ds k).1, (gD ds k).2)) = some (inDg n (gD ds k)) := F63_eq n (gD ds k) (by omega) (by omega)
     rw [F93_L4_step, T.run_test, if_pos (decide_eq_true (by omega)), T.run_test, if_pos (decide_eq_true (by omega)), T.run_sub, Int.toNat_natCast, g0, Option.bind_some, T.run_sub, hdg, Option.bind_some, T.run_test, badT]
     cases hd : inDg n (gD ds k) with
     | false => rfl
     | true =>
      rw [if_neg (by simp), T.run_test]
      by_cases hk0 : 0 < k
      ·have w2 : w64 ((k : Int) - 1) = ((k - 1 : Nat) : Int) := by rw [w64_id (by omega) (by omega)]; omega
       have g1 := gD_some (show k - 1 < ds.length by omega)
       have hls : F86 (((gD ds (k - 1)).1, (gD ds (k - 1)).2), ((gD ds k).1, (gD ds k).2)) = some (ltD (gD ds (k - 1)) (gD ds k)) := F86_eq _ _
       rw [if_pos (decide_eq_true (by omega)), T.run_test, w2, if_pos (decide_eq_true (by omega)), T.run_sub, Int.toNat_natCast, g1, Option.bind_some, T.run_sub, hls, Option.bind_some, T.run_test, decide_eq_true hk0]
       cases ltD (gD ds (k - 1)) (gD ds k) with
       | false => rfl
       | true =>
        rw [if_neg (by simp), T.run_test, if_pos (decide_eq_true (by omega)), T.run_test, if_pos (decide_eq_true (by omega)), T.run_sub, tw, hcr', Option.bind_some, T.run_test, ← w1]
        cases (ds.take k).any (crossD (gD ds k)) <;> rfl
      ·rw [if_neg (by rw [decide_eq_true_eq]; omega), T.run_test, if_pos (decide_eq_true (by omega)), T.run_test, if_pos (decide_eq_true (by omega)), T.run_sub, tw, hcr', Option.bind_some, T.run_test, decide_eq_false hk0, ← w1]
       cases (ds.take k).any (crossD (gD ds k)) <;> rfl)
    (by rw [F93_L4_step, T.run_test, if_neg (by simp), T.run_ret])
   simp only [Int.natCast_zero] at h
   rw [if_neg (by rw [decide_eq_true_eq]; omega), T.run_sub, F93_L4, h, Option.bind_some, T.run_test, decide_eq_true he]
   cases (List.range ds.length).any (badT n ds) <;> rfl
  ·rw [if_pos (decide_eq_true (by omega)), T.run_ret, decide_eq_false he]
   rfl
def F108_sh : FSh := ⟨[(.one (.si .i64)), (.one (.sl (.pair (.int .i64) (.int .i64)) false false))], []⟩
def F108_fo : List FO := [⟨[(.one .sb)], []⟩]
noncomputable def F108_t : (Int × List ((Int × Int))) → T Bool := fun (n, ds) =>
 (.sub (F93 (n, ds)) fun z0 =>
 (.ret z0))
noncomputable def F108 (v) := (F108_t v).run
noncomputable def F108_E : TEnv := (E0.add1 n_F93 F93_sh F93_fo F93)
theorem F108_Eok : (F108_E).OK := (E0ok.add1 F93_ok)
noncomputable def F108_told : Nat → Option SealT := fun id => none
theorem F108_ok : FOK Tryz.prog n_F108 F108_sh F108_fo F108 :=
 fn_ok (E := F108_E) (F108_Eok) (told := F108_told) (fl := []) (c := bodyOf fn_F108) (s := F108_sh) (l := F108_fo) (tree := F108_t) fnat_F108 (by kernel_rfl) (by kernel_rfl) (by kernel_rfl) (loopsOK_of (ls := []) (by kernel_rfl) trivial) (fun v => by kernel_rfl)
def F64_sh : FSh := ⟨[(.one (.si .i64)), (.one (.sl (.pair (.int .i64) (.int .i64)) false false))], []⟩
def F64_L8_sh : LSh := ⟨(fun ex => match ex with | .norm => [(0, none), (1, none), (6, none), (7, none), (21, none), (22, none), (23, none)] | .exit i => if i = 2 then [(0, none), (1, none), (6, none), (7, none)] else if i = 1 then [(0, none), (1, none), (6, none), (7, none)] else if i = 0 then [(6, none)] else [] | .ret => [(4, none), (5, none)]), [(0, (.one (.si .i64))), (1, (.one (.sl (.pair (.int .i64) (.int .i64)) false false))), (6, (.one (.rw 0 0))), (7, (.one (.si .i64))), (21, (.one (.rw 1 0))), (22, (.one (.si .i64))), (23, (.one (.si .i64)))], [(.row 0 (.int .i64)), (.row 0 (.list true (.int .i64)))], [⟨(.exit 2), [(0, (.one (.si .i64))), (1, (.one (.sl (.pair (.int .i64) (.int .i64)) false false))), (6, (.one (.rw 0 0))), (7, (.one (.si .i64)))], [(.row 0 (.int .i64))]⟩], [], []⟩
noncomputable def F64_L8_step : ((Int × List ((Int × Int)) × Unit × Int × Unit × Int × Int) × (List (Int) × List (List (Int)))) → T (((Int × List ((Int × Int)) × Unit × Int × Unit × Int × Int) × (List (Int) × List (List (Int)))) ⊕ ((Int × List ((Int × Int)) × Unit × Int) × List (Int))) := fun ((n, ds, (), size, (), t22, t23), (out, t21)) =>
 (.test (decide (t23 < t22))
 (.test (decide ((0 ≤ t23) ∧ (t23 < (t21.length : Int))))
 (.sub (t21[(0 + (Int.toNat t23))]?) fun z0 =>
 (.test ((z0.length : Int) == size)
 (.test (decide (1 ≤ (List.length (List.set (List.replicate 1 (0 : Int)) 0 size))))
 (.test (decide ((0 + out.length) ≤ out.length))
 (.test (decide ((2 * ((out.length + (List.length (win (List.set (List.replicate 1 (0 : Int)) 0 size) 0 1))) * 9)) ≤ 140737488355328))
 (.test (decide ((0 = 0) ∧ ((out.length + (List.length (win (List.set (List.replicate 1 (0 : Int)) 0 size) 0 1))) = (List.length ((win out 0 out.length) ++ (win (List.set (List.replicate 1 (0 : Int)) 0 size) 0 1))))))
 (.test (decide ((0 = 0) ∧ (t21.length = t21.length)))
 (.ret (Sum.inl ((n, (ds, ((), (size, ((), (t22, (w64 (t23 + 1)))))))), (((win out 0 out.length) ++ (win (List.set (List.replicate 1 (0 : Int)) 0 size) 0 1)), t21))))
 .fail)
 .fail)
 .fail)
 .fail)
 .fail)
 (.test (decide ((0 = 0) ∧ (out.length = out.length)))
 (.test (decide ((0 = 0) ∧ (t21.length = t21.length)))
 (.ret (Sum.inl ((n, (ds, ((), (size, ((), (t22, (w64 (t23 + 1)))))))), (out, t21))))
 .fail)
 .fail)))
 .fail)
 (.test (decide ((0 = 0) ∧ (out.length = out.length)))
 (.ret (Sum.inr ((n, (ds, ((), size))), out)))
 .fail))
noncomputable def F64_L8 (v) := loopO (fun v => (F64_L8_step v).run) v
def F64_L5_sh : LSh := ⟨(fun ex => match ex with | .norm => [(0, none), (1, none), (6, none), (7, none)] | .exit i => if i = 0 then [(6, none)] else [] | .ret => [(4, none), (5, none)]), [(0, (.one (.si .i64))), (1, (.one (.sl (.pair (.int .i64) (.int .i64)) false false))), (6, (.one (.rw 0 0))), (7, (.one (.si .i64)))], [(.row 0 (.int .i64))], [⟨(.exit 0), [(6, (.one (.rw 0 0)))], [(.row 0 (.int .i64))]⟩], [], []⟩
noncomputable def F64_L5_step : ((Int × List ((Int × Int)) × Unit × Int) × List (Int)) → T (((Int × List ((Int × Int)) × Unit × Int) × List (Int)) ⊕ (Unit × List (Int))) := fun ((n, ds, (), size), out) =>
 (.test (decide (size ≤ n))
 (.sub (F74 (n, ds)) fun z0 =>
 (.test (decide ((0 = 0) ∧ (out.length = out.length)))
 (.test (decide ((0 = 0) ∧ (z0.2.length = z0.2.length)))
 (.sub (F64_L8 ((n, (ds, ((), (size, ((), ((z0.2.length : Int), (0 : Int))))))), (out, z0.2))) fun z1 =>
 (.test (decide ((0 = 0) ∧ (z1.2.length = z1.2.length)))
 (.ret (Sum.inl ((z1.1.1, (z1.1.2.1, ((), (w64 (z1.1.2.2.2 + 1))))), z1.2)))
 .fail))
 .fail)
 .fail))
 (.test (decide ((0 = 0) ∧ (out.length = out.length)))
 (.ret (Sum.inr ((), out)))
 .fail))
noncomputable def F64_L5 (v) := loopO (fun v => (F64_L5_step v).run) v
def F64_fo : List FO := [⟨[(.one (.rw 0 0)), (.one .sb)], [(.row 0 (.int .i64))]⟩]
noncomputable def F64_t : (Int × List ((Int × Int))) → T ((Unit × Bool) × List (Int)) := fun (n, ds) =>
 (.sub (F93 (n, ds)) fun z0 =>
 (.test (! z0)
 (.test true
 (.ret (((), false), ([] : List (Int))))
 .fail)
 (.test true
 (.sub (F64_L5 ((n, (ds, ((), (3 : Int)))), ([] : List (Int)))) fun z1 =>
 (.test (decide ((0 = 0) ∧ (z1.2.length = z1.2.length)))
 (.ret (((), true), z1.2))
 .fail))
 .fail)))
noncomputable def F64 (v) := (F64_t v).run
noncomputable def F64_E : TEnv := ((E0.add1 n_F93 F93_sh F93_fo F93).add1 n_F74 F74_sh F74_fo F74)
theorem F64_Eok : (F64_E).OK := ((E0ok.add1 F93_ok).add1 F74_ok)
noncomputable def F64_told : Nat → Option SealT := fun id => if id = 8 then some (LSh.told F64_L8_sh 0 (F64_L8_step)) else if id = 5 then some (LSh.told F64_L5_sh 0 (F64_L5_step)) else none
theorem F64_L8_ok : ToldOK Tryz.prog 0 (loopAt (bodyOf fn_F64) [0, 0]) (LSh.told F64_L8_sh 0 (F64_L8_step)) :=
 loop_ok (E := F64_E) (F64_Eok) (told := F64_told) (l := F64_L8_sh) (step := F64_L8_step) (loopsOK_of (ls := []) (by kernel_rfl) trivial) (by kernel_rfl) (fun v => by kernel_rfl)
theorem F64_L5_ok : ToldOK Tryz.prog 0 (loopAt (bodyOf fn_F64) [0]) (LSh.told F64_L5_sh 0 (F64_L5_step)) :=
 loop_ok (E := F64_E) (F64_Eok) (told := F64_told) (l := F64_L5_sh) (step := F64_L5_step) (loopsOK_of (ls := [loopAt (bodyOf fn_F64) [0, 0]]) (by kernel_rfl) ⟨.inr ⟨_, by kernel_rfl, F64_L8_ok⟩, trivial⟩) (by kernel_rfl) (fun v => by kernel_rfl)
theorem F64_ok : FOK Tryz.prog n_F64 F64_sh F64_fo F64 :=
 fn_ok (E := F64_E) (F64_Eok) (told := F64_told) (fl := []) (c := bodyOf fn_F64) (s := F64_sh) (l := F64_fo) (tree := F64_t) fnat_F64 (by kernel_rfl) (by kernel_rfl) (by kernel_rfl) (loopsOK_of (ls := [loopAt (bodyOf fn_F64) [0]]) (by kernel_rfl) ⟨.inr ⟨_, by kernel_rfl, F64_L5_ok⟩, trivial⟩) (fun v => by kernel_rfl)
theorem F64_L8_eq (n size : Int) (ds : List Dg) (t21 : List (List Int)) (hl : t21.length ≤ 20) : ∀ (m k : Nat) (out : List Int), k + m = t21.length → out.length + m ≤ 1000 →
  F64_L8 ((n, (ds, ((), (size, ((), ((t21.length : Int), (k : Int))))))), (out, t21)) = some ((n, (ds, ((), size))), out ++ ((t21.drop k).map fun p => (p.length : Int)).filter fun s => s == size) := by
 intro m
 induction m with
 | zero =>
  intro k out hk ho
  rw [List.drop_eq_nil_of_le (by omega)]
  simp only [F64_L8]
  refine loopO_done ?_
  rw [F64_L8_step, T.run_test, if_neg (by rw [decide_eq_true_eq]; omega), T.run_test, if_pos (by simp), T.run_ret]
  simp
 | succ m ih =>
  intro k out hk ho
  have hlt : k < t21.length := by omega
  have w1 : w64 ((k : Int) + 1) = ((k + 1 : Nat) : Int) := by rw [w64_id (by omega) (by omega)]; omega
  rw [List.drop_eq_getElem_cons hlt, List.map_cons, List.filter_cons]
  by_cases c : ((t21[k].length : Int) == size) = true
  ·have := ih (k + 1) (out ++ [size]) (by omega) (by rw [List.length_append, List.length_singleton]; omega)
   rw [if_pos c, List.append_cons, eq_of_beq c]
   simp only [F64_L8] at this ⊢
   rw [← this]
   refine loopO_next ?_
   rw [F64_L8_step, T.run_test, if_pos (decide_eq_true (by omega)), T.run_test, if_pos (decide_eq_true (by omega)), T.run_sub, Nat.zero_add, Int.toNat_natCast, List.getElem?_eq_getElem hlt, Option.bind_some, T.run_test, if_pos c]
   simp only [win_one, win_all]
   rw [T.run_test, if_pos (by simp), T.run_test, if_pos (by simp), T.run_test, if_pos (by exact decide_eq_true (by rw [List.length_singleton]; omega)), T.run_test, if_pos (by simp), T.run_test, if_pos (by simp), T.run_ret, w1]
  ·have := ih (k + 1) out (by omega) (by omega)
   rw [if_neg c]
   simp only [F64_L8] at this ⊢
   rw [← this]
   refine loopO_next ?_
   rw [F64_L8_step, T.run_test, if_pos (decide_eq_true (by omega)), T.run_test, if_pos (decide_eq_true (by omega)), T.run_sub, Nat.zero_add, Int.toNat_natCast, List.getElem?_eq_getElem hlt, Option.bind_some, T.run_test, if_neg c, T.run_test, if_pos (by simp), T.run_test, if_pos (by simp), T.run_ret, w1]
theorem F64_L5_eq {N : Nat} {ds : List Dg} (h3 : 3 ≤ N) (hN : N ≤ 12) (hl : ds.length + 3 ≤ N) (hc : CutD N ds) : ∀ (m : Nat) (size : Nat) (out : List Int), size + m = N + 1 → out.Pairwise (· ≤ ·) → (∀ x ∈ out, x < (size : Int)) → (out ++ (szL N ds).filter fun s => decide ((size : Int) ≤ s)).Perm (szL N ds) →
  F64_L5 (((N : Int), (ds, ((), (size : Int)))), out) = some ((), sortI (szL N ds)) := by
 intro m
 induction m with
 | zero =>
  intro size out hm h1 h2 hp
  have e : (szL N ds).filter (fun s => decide ((size : Int) ≤ s)) = [] := by
   rw [List.filter_eq_nil_iff]
   intro s hs
   have := szL_mem hc h3 hs
   rw [decide_eq_true_eq]; omega
  rw [e, List.append_nil] at hp
  have e2 := sortI_unique h1 hp
  simp only [F64_L5]
  refine loopO_done ?_
  rw [F64_L5_step, T.run_test, if_neg (by rw [decide_eq_true_eq]; omega), T.run_test, if_pos (by simp), T.run_ret, e2]
 | succ m ih =>
  intro size out hm h1 h2 hp
  have w1 : w64 ((size : Int) + 1) = ((size + 1 : Nat) : Int) := by rw [w64_id (by omega) (by omega)]; omega
  have hlen := sortP_len hc h3
  have hol : out.length ≤ ds.length + 1 := by
   have := hp.length_eq
   rw [List.length_append, szL_len hc h3] at this
   omega
  have h8 := F64_L8_eq (N : Int) (size : Int) ds (sortL (specP N ds)) (by omega) (sortL (specP N ds)).length 0 out (by omega) (by omega)
  rw [Int.natCast_zero, List.drop_zero] at h8
  change _ = some (_, out ++ (szL N ds).filter fun s => s == (size : Int)) at h8
  have := ih (size + 1) (out ++ (szL N ds).filter fun s => s == (size : Int)) (by omega) (by
   rw [List.pairwise_append]
   refine ⟨h1, ?_, fun a ha b hb => ?_⟩
   ·rw [List.pairwise_iff_forall_sublist]
    intro a b hab
    have ha := (List.mem_filter.1 (hab.subset (List.mem_cons_self ..))).2
    have hb := (List.mem_filter.1 (hab.subset (List.mem_cons_of_mem _ (List.mem_cons_self ..)))).2
    rw [eq_of_beq ha, eq_of_beq hb]
    exact Int.le_refl _
   ·have := h2 a ha
    have hb := (List.mem_filter.1 hb).2
    rw [eq_of_beq hb]; omega) (fun x hx => by
   rcases List.mem_append.1 hx with hx | hx
   ·have := h2 x hx; omega
   ·have hx := (List.mem_filter.1 hx).2
    rw [eq_of_beq hx]; omega) (by
   refine List.Perm.trans ?_ hp
   rw [List.append_assoc]
   refine List.Perm.append_left _ ?_
   have h := List.filter_append_perm (fun s => s == (size : Int)) ((szL N ds).filter fun s => decide ((size : Int) ≤ s))
   rw [List.filter_filter, List.filter_filter] at h
   refine List.Perm.trans ?_ h
   rw [List.filter_congr (q := fun s => (s == (size : Int)) && decide ((size : Int) ≤ s)), List.filter_congr (l := szL N ds) (p := fun s => decide (((size + 1 : Nat) : Int) ≤ s)) (q := fun s => (!(s == (size : Int))) && decide ((size : Int) ≤ s))]
   ·intro s _
    rw [Bool.eq_iff_iff, Bool.and_eq_true, decide_eq_true_eq, decide_eq_true_eq, Bool.not_eq_true', beq_eq_false_iff_ne]
    omega
   ·intro s _
    rw [Bool.eq_iff_iff, Bool.and_eq_true, decide_eq_true_eq, beq_iff_eq]
    omega)
  simp only [F64_L5] at this ⊢
  rw [← this]
  refine loopO_next ?_
  rw [F64_L5_step, T.run_test, if_pos (decide_eq_true (by omega)), T.run_sub, F74_eq h3 hN (by omega) hc, Option.bind_some, T.run_test, if_pos (by simp), T.run_test, if_pos (by simp), T.run_sub, h8, Option.bind_some, T.run_test, if_pos (by simp), T.run_ret, w1]
theorem F64_eq (n : Int) (ds : List Dg) (hl : ds.length < 4611686018427387904) : F64 (n, ds) = some (if isCut n ds then (((), true), sortI (szL n.toNat ds)) else (((), false), [])) := by
 rw [F64, F64_t, T.run_sub, F93_eq n ds hl, Option.bind_some, T.run_test]
 cases h : isCut n ds with
 | false => rfl
 | true =>
  obtain ⟨N, rfl, h3, hN, hlen, hc⟩ := isCut_cut h
  have h5 := F64_L5_eq h3 hN hlen hc (N - 2) 3 [] (by omega) (by simp) (by simp) (by
   rw [List.nil_append, List.filter_eq_self.2]
   intro s hs
   have := szL_mem hc h3 hs
   rw [decide_eq_true_eq]; omega)
  rw [if_neg (by simp), T.run_test, if_pos rfl, T.run_sub, show (3 : Int) = ((3 : Nat) : Int) from rfl, h5, Option.bind_some, T.run_test, if_pos (by simp), T.run_ret, Int.toNat_natCast]
  rfl
def F69_sh : FSh := ⟨[(.one (.si .i64)), (.one (.sl (.pair (.int .i64) (.int .i64)) false false))], []⟩
def F69_L6_sh : LSh := ⟨(fun ex => match ex with | .norm => [(6, none), (21, none), (22, none), (23, none)] | .exit i => if i = 0 then [(6, none)] else [] | .ret => [(4, none), (5, none)]), [(6, (.one (.si .i64))), (21, (.one (.rw 0 0))), (22, (.one (.si .i64))), (23, (.one (.si .i64)))], [(.row 0 (.int .i64))], [⟨(.exit 0), [(6, (.one (.si .i64)))], []⟩], [], []⟩
noncomputable def F69_L6_step : ((Int × Unit × Int × Int) × List (Int)) → T (((Int × Unit × Int × Int) × List (Int)) ⊕ Int) := fun ((out, (), t22, t23), t21) =>
 (.test (decide (t23 < t22))
 (.test (decide ((0 ≤ t23) ∧ (t23 < (t21.length : Int))))
 (.sub (t21[(0 + (Int.toNat t23))]?) fun z0 =>
 (.sub (F80 z0) fun z1 =>
 (.test (decide ((0 = 0) ∧ (t21.length = t21.length)))
 (.ret (Sum.inl (((w64 (out * z1)), ((), (t22, (w64 (t23 + 1))))), t21)))
 .fail)))
 .fail)
 (.ret (Sum.inr out)))
noncomputable def F69_L6 (v) := loopO (fun v => (F69_L6_step v).run) v
def F69_fo : List FO := [⟨[(.one (.si .i64)), (.one .sb)], []⟩]
noncomputable def F69_t : (Int × List ((Int × Int))) → T (Int × Bool) := fun (n, ds) =>
 (.sub (F108 (n, ds)) fun z0 =>
 (.test (! z0)
 (.ret ((0 : Int), false))
 (.sub (F64 (n, ds)) fun z1 =>
 (.test (decide ((0 = 0) ∧ (z1.2.length = z1.2.length)))
 (.sub (F69_L6 (((1 : Int), ((), ((z1.2.length : Int), (0 : Int)))), z1.2)) fun z2 =>
 (.ret (z2, true)))
 .fail))))
noncomputable def F69 (v) := (F69_t v).run
noncomputable def F69_E : TEnv := (((E0.add1 n_F108 F108_sh F108_fo F108).add1 n_F64 F64_sh F64_fo F64).add1 n_F80 F80_sh F80_fo F80)
theorem F69_Eok : (F69_E).OK := (((E0ok.add1 F108_ok).add1 F64_ok).add1 F80_ok)
noncomputable def F69_told : Nat → Option SealT := fun id => if id = 6 then some (LSh.told F69_L6_sh 0 (F69_L6_step)) else none
theorem F69_L6_ok : ToldOK Tryz.prog 0 (loopAt (bodyOf fn_F69) [0]) (LSh.told F69_L6_sh 0 (F69_L6_step)) :=
 loop_ok (E := F69_E) (F69_Eok) (told := F69_told) (l := F69_L6_sh) (step := F69_L6_step) (loopsOK_of (ls := []) (by kernel_rfl) trivial) (by kernel_rfl) (fun v => by kernel_rfl)
theorem F69_ok : FOK Tryz.prog n_F69 F69_sh F69_fo F69 :=
 fn_ok (E := F69_E) (F69_Eok) (told := F69_told) (fl := []) (c := bodyOf fn_F69) (s := F69_sh) (l := F69_fo) (tree := F69_t) fnat_F69 (by kernel_rfl) (by kernel_rfl) (by kernel_rfl) (loopsOK_of (ls := [loopAt (bodyOf fn_F69) [0]]) (by kernel_rfl) ⟨.inr ⟨_, by kernel_rfl, F69_L6_ok⟩, trivial⟩) (fun v => by kernel_rfl)
theorem F69_L6_eq (l : List Int) (hl : l.length ≤ 100) (hb : ∀ s ∈ l, 3 ≤ s ∧ s ≤ 12) : ∀ (m k : Nat) (out : Int), k + m = l.length →
  F69_L6 ((out, ((), ((l.length : Int), (k : Int)))), l) = some ((l.drop k).foldl (fun o s => w64 (o * catV s)) out) := by
 intro m
 induction m with
 | zero =>
  intro k out hk
  rw [List.drop_eq_nil_of_le (by omega)]
  simp only [F69_L6]
  refine loopO_done ?_
  rw [F69_L6_step, T.run_test, if_neg (by rw [decide_eq_true_eq]; omega), T.run_ret]
  rfl
 | succ m ih =>
  intro k out hk
  have hlt : k < l.length := by omega
  have hs := hb l[k] (List.getElem_mem hlt)
  have w1 : w64 ((k : Int) + 1) = ((k + 1 : Nat) : Int) := by rw [w64_id (by omega) (by omega)]; omega
  have := ih (k + 1) (w64 (out * catV l[k])) (by omega)
  rw [List.drop_eq_getElem_cons hlt, List.foldl_cons]
  simp only [F69_L6] at this ⊢
  rw [← this]
  refine loopO_next ?_
  rw [F69_L6_step, T.run_test, if_pos (decide_eq_true (by omega)), T.run_test, if_pos (decide_eq_true (by omega)), T.run_sub, Nat.zero_add, Int.toNat_natCast, List.getElem?_eq_getElem hlt, Option.bind_some, T.run_sub, F80_eq _ hs.1 hs.2, Option.bind_some, T.run_test, if_pos (by simp), T.run_ret, w1]
theorem F69_eq (n : Int) (ds : List Dg) (hl : ds.length < 4611686018427387904) : F69 (n, ds) = some (finV n ds) := by
 have hS := F64_eq n ds hl
 rw [F69, F69_t, T.run_sub, F108, F108_t, T.run_sub, F93_eq n ds hl, Option.bind_some, T.run_ret, Option.bind_some, T.run_test, finV]
 cases h : isCut n ds with
 | false => rfl
 | true =>
  obtain ⟨N, rfl, h3, hN, hlen, hc⟩ := isCut_cut h
  rw [h, if_pos rfl, Int.toNat_natCast] at hS
  have hsl := (sortI_perm (szL N ds)).length_eq
  have hL := F69_L6_eq (sortI (szL N ds)) (by rw [hsl, szL_len hc h3]; omega) (fun s hs => by have := szL_mem hc h3 ((sortI_perm _).mem_iff.1 hs); omega) (sortI (szL N ds)).length 0 1 (by omega)
  rw [Int.natCast_zero, List.drop_zero, foldl_mul_perm catV (sortI_perm (szL N ds))] at hL
  rw [if_neg (by simp), T.run_sub, hS, Option.bind_some, T.run_test, if_pos (by simp), T.run_sub, hL, Option.bind_some, T.run_ret, Int.toNat_natCast]
  rfl
def F13_sh : FSh := ⟨[(.one (.sl (.int .u8) false true))], []⟩
def F13_fo : List FO := [⟨[(.one (.si .i64)), (.one (.rw 0 0))], [(.row 0 (.pair (.int .i64) (.int .i64)))]⟩]
noncomputable def F13_t : List (Int) → T ((Int × Unit) × List ((Int × Int))) := fun code =>
 (.sub (F42 (((), (8 : Int)), (code, ((0 : Int), (0 : Int))))) fun z0 =>
 (.test (decide ((0 = 0) ∧ (z0.2.2.length = z0.2.2.length)))
 (.ret ((z0.1.1, ()), z0.2.2))
 .fail))
noncomputable def F13 (v) := (F13_t v).run
noncomputable def F13_E : TEnv := (E0.add1 n_F42 F42_sh F42_fo F42)
theorem F13_Eok : (F13_E).OK := (E0ok.add1 F42_ok)
noncomputable def F13_told : Nat → Option SealT := fun id => none
theorem F13_ok : FOK Tryz.prog n_F13 F13_sh F13_fo F13 :=
 fn_ok (E := F13_E) (F13_Eok) (told := F13_told) (fl := []) (c := bodyOf fn_F13) (s := F13_sh) (l := F13_fo) (tree := F13_t) fnat_F13 (by kernel_rfl) (by kernel_rfl) (by kernel_rfl) (loopsOK_of (ls := []) (by kernel_rfl) trivial) (fun v => by kernel_rfl)
theorem F13_some {code : List Int} (h : bytesOK code) : ∃ n ds, F13 code = some ((n, ()), ds) ∧ ds.length ≤ 20 := by
 obtain ⟨n, ds, c', e, hl, _⟩ := polygon_ok 8 (by omega) (cur0 h) (by omega)
 rw [F13, F13_t, T.run_sub, e, Option.bind_some, T.run_test, if_pos (by simp), T.run_ret]
 exact ⟨_, _, rfl, hl⟩
def F30_sh : FSh := ⟨[(.ag [(.si .i64), (.si .i64)]), (.one (.pf 0 0 0))], [(.rcd 0 [(.si .i64), (.si .i64)])]⟩
def F30_fo : List FO := [⟨[(.one .sb)], [(.rcd 0 [(.si .i64), (.si .i64)])]⟩]
noncomputable def F30_t : (((Int × Int) × Unit) × (Int × Int)) → T (Bool × (Int × Int)) := fun (((e_0, e_1), ()), (t1_0, t1_1)) =>
 (.sub (F81 ((t1_0, t1_1), (e_0, e_1))) fun z0 =>
 (.ret (z0, (t1_0, t1_1))))
noncomputable def F30 (v) := (F30_t v).run
noncomputable def F30_E : TEnv := (E0.add1 n_F81 F81_sh F81_fo F81)
theorem F30_Eok : (F30_E).OK := (E0ok.add1 F81_ok)
noncomputable def F30_told : Nat → Option SealT := fun id => none
theorem F30_ok : FOK Tryz.prog n_F30 F30_sh F30_fo F30 :=
 fn_ok (E := F30_E) (F30_Eok) (told := F30_told) (fl := []) (c := bodyOf fn_F30) (s := F30_sh) (l := F30_fo) (tree := F30_t) fnat_F30 (by kernel_rfl) (by kernel_rfl) (by kernel_rfl) (loopsOK_of (ls := []) (by kernel_rfl) trivial) (fun v => by kernel_rfl)
def F4_sh : FSh := ⟨[(.one (.sl (.pair (.int .i64) (.int .i64)) false false)), (.clo n_F30 [(.one (.pf 0 0 0))])], [(.rcd 0 [(.si .i64), (.si .i64)])]⟩
def F4_L2_sh : LSh := ⟨(fun ex => match ex with | .norm => [(0, none), (1, none), (7, none), (8, none)] | .exit i => if i = 0 then [] else [] | .ret => [(4, none)]), [(0, (.one (.sl (.pair (.int .i64) (.int .i64)) false false))), (1, (.clo n_F30 [(.one (.pf 0 0 0))])), (7, (.one (.si .i64))), (8, (.one (.si .i64)))], [(.rcd 0 [(.si .i64), (.si .i64)])], [⟨.ret, [(4, (.one (.si .i64)))], [(.rcd 0 [(.si .i64), (.si .i64)])]⟩, ⟨(.exit 0), [], [(.rcd 0 [(.si .i64), (.si .i64)])]⟩], [], []⟩
noncomputable def F4_L2_step : ((List ((Int × Int)) × Unit × Int × Int) × (Int × Int)) → T (((List ((Int × Int)) × Unit × Int × Int) × (Int × Int)) ⊕ ((Int × (Int × Int)) ⊕ (Unit × (Int × Int)))) := fun ((s, (), t7, t8), (r0_0, r0_1)) =>
 (.test (decide (t8 < t7))
 (.test (decide ((0 ≤ t8) ∧ (t8 < (s.length : Int))))
 (.sub (s[(Int.toNat t8)]?) fun z0 =>
 (.sub (F30 (((z0.1, z0.2), ()), (r0_0, r0_1))) fun z1 =>
 (.test z1.1
 (.ret (Sum.inr (Sum.inl (t8, (z1.2.1, z1.2.2)))))
 (.ret (Sum.inl ((s, ((), (t7, (w64 (t8 + 1))))), (z1.2.1, z1.2.2)))))))
 .fail)
 (.ret (Sum.inr (Sum.inr ((), (r0_0, r0_1))))))
noncomputable def F4_L2 (v) := loopO (fun v => (F4_L2_step v).run) v
def F4_fo : List FO := [⟨[(.one (.si .i64))], [(.rcd 0 [(.si .i64), (.si .i64)])]⟩]
noncomputable def F4_t : ((List ((Int × Int)) × Unit) × (Int × Int)) → T (Int × (Int × Int)) := fun ((s, ()), (r0_0, r0_1)) =>
 (.sub (F4_L2 ((s, ((), ((s.length : Int), (0 : Int)))), (r0_0, r0_1))) fun z0 =>
 (.test (Sum.isLeft z0)
 (.sub (Sum.getLeft? z0) fun z1 =>
 (.ret (z1.1, (z1.2.1, z1.2.2))))
 (.sub (Sum.getRight? z0) fun z2 =>
 (.ret ((-1), (z2.2.1, z2.2.2))))))
noncomputable def F4 (v) := (F4_t v).run
noncomputable def F4_E : TEnv := (E0.add1 n_F30 F30_sh F30_fo F30)
theorem F4_Eok : (F4_E).OK := (E0ok.add1 F30_ok)
noncomputable def F4_told : Nat → Option SealT := fun id => if id = 2 then some (LSh.told F4_L2_sh 1 (F4_L2_step)) else none
theorem F4_L2_ok : ToldOK Tryz.prog 1 (loopAt (bodyOf fn_F15) [0]) (LSh.told F4_L2_sh 1 (F4_L2_step)) :=
 loop_ok (E := F4_E) (F4_Eok) (told := F4_told) (l := F4_L2_sh) (step := F4_L2_step) (loopsOK_of (ls := []) (by kernel_rfl) trivial) (by kernel_rfl) (fun v => by kernel_rfl)
theorem F4_ok : FOK Tryz.prog n_F15 F4_sh F4_fo F4 :=
 fn_ok (E := F4_E) (F4_Eok) (told := F4_told) (fl := []) (c := bodyOf fn_F15) (s := F4_sh) (l := F4_fo) (tree := F4_t) fnat_F15 (by kernel_rfl) (by kernel_rfl) (by kernel_rfl) (loopsOK_of (ls := [loopAt (bodyOf fn_F15) [0]]) (by kernel_rfl) ⟨.inr ⟨_, by kernel_rfl, F4_L2_ok⟩, trivial⟩) (fun v => by kernel_rfl)
def F3_sh : FSh := ⟨[(.one (.sl (.pair (.int .i64) (.int .i64)) false false)), (.clo n_F30 [(.one (.pf 0 0 0))])], [(.rcd 0 [(.si .i64), (.si .i64)])]⟩
def F3_fo : List FO := [⟨[(.one .sb)], [(.rcd 0 [(.si .i64), (.si .i64)])]⟩]
noncomputable def F3_t : ((List ((Int × Int)) × Unit) × (Int × Int)) → T (Bool × (Int × Int)) := fun ((s, ()), (r0_0, r0_1)) =>
 (.sub (F4 ((s, ()), (r0_0, r0_1))) fun z0 =>
 (.ret ((decide (z0.1 ≥ 0)), (z0.2.1, z0.2.2))))
noncomputable def F3 (v) := (F3_t v).run
noncomputable def F3_E : TEnv := (E0.add1 n_F15 F4_sh F4_fo F4)
theorem F3_Eok : (F3_E).OK := (E0ok.add1 F4_ok)
noncomputable def F3_told : Nat → Option SealT := fun id => none
theorem F3_ok : FOK Tryz.prog n_F9 F3_sh F3_fo F3 :=
 fn_ok (E := F3_E) (F3_Eok) (told := F3_told) (fl := []) (c := bodyOf fn_F9) (s := F3_sh) (l := F3_fo) (tree := F3_t) fnat_F9 (by kernel_rfl) (by kernel_rfl) (by kernel_rfl) (loopsOK_of (ls := []) (by kernel_rfl) trivial) (fun v => by kernel_rfl)
theorem F3_eq (s : List Dg) (d : Dg) (hl : s.length < 4611686018427387904) : F3 ((s, ()), d) = some (s.any (crossD d), d) := by
 obtain ⟨a, b⟩ := d
 have hc : ∀ e : Dg, F30 ((e, ()), (a, b)) = some (crossD (a, b) e, (a, b)) := by
  intro e
  obtain ⟨e0, e1⟩ := e
  simp [F30, F30_t, T.run, F81_eq]
 have h := loop_find (step := fun v => (F4_L2_step v).run) (xs := s) (crossD (a, b)) (fun k => ((s, ((), ((s.length : Int), (k : Int)))), (a, b))) (fun k => .inl ((k : Int), (a, b))) (.inr ((), (a, b)))
  (fun k x hx => by
   have hlt := getElem?_lt hx
   have h1 : (k : Int) < (s.length : Int) := by omega
   have h2 : (0 : Int) ≤ k ∧ (k : Int) < (s.length : Int) := by omega
   simp only [F4_L2_step, T.run, Int.toNat_natCast, hx, Option.bind_some, h1, h2, decide_true, if_true, and_self, hc]
   rw [w64_id (z := (k : Int) + 1) (by omega) (by omega)]
   cases hv : crossD (a, b) x <;> simp)
  (by simp [F4_L2_step, T.run])
 rw [show ((0 : Nat) : Int) = 0 from rfl] at h
 have hi : F4 ((s, ()), (a, b)) = some (idxI (crossD (a, b)) s, (a, b)) := by
  simp only [F4, F4_t, T.run, F4_L2]
  rw [h]
  simp only [idxI]
  cases hf : s.findIdx? (crossD (a, b)) <;> simp [Sum.isLeft]
 simp only [F3, F3_t, T.run, hi, Option.bind_some, idxI_ge]
def F37_sh : FSh := ⟨[(.one (.si .i64)), (.one (.sl (.pair (.int .i64) (.int .i64)) false false))], []⟩
def F37_L4_sh : LSh := ⟨(fun ex => match ex with | .norm => [(0, none), (1, none), (17, none), (18, none), (19, none)] | .exit i => if i = 0 then [] else [] | .ret => [(4, none)]), [(0, (.one (.si .i64))), (1, (.one (.sl (.pair (.int .i64) (.int .i64)) false false))), (17, (.one (.sl (.pair (.int .i64) (.int .i64)) false false))), (18, (.one (.si .i64))), (19, (.one (.si .i64)))], [], [⟨.ret, [(4, (.one .sb))], []⟩, ⟨(.exit 0), [], []⟩], [], []⟩
noncomputable def F37_L4_step : (Int × List ((Int × Int)) × List ((Int × Int)) × Int × Int) → T ((Int × List ((Int × Int)) × List ((Int × Int)) × Int × Int) ⊕ (Bool ⊕ Unit)) := fun (n, ds, t17, t18, t19) =>
 (.test (decide (t19 < t18))
 (.test (decide ((0 ≤ t19) ∧ (t19 < (t17.length : Int))))
 (.sub (t17[(Int.toNat t19)]?) fun z0 =>
 (.sub (F61 (n, (z0.1, z0.2))) fun z1 =>
 (.test (! z1)
 (.ret (Sum.inr (Sum.inl false)))
 (.test (decide (t19 > 0))
 (.test (decide ((0 ≤ (w64 (t19 - 1))) ∧ ((w64 (t19 - 1)) < (ds.length : Int))))
 (.sub (ds[(Int.toNat (w64 (t19 - 1)))]?) fun z2 =>
 (.sub (F31 ((z2.1, z2.2), (z0.1, z0.2))) fun z3 =>
 (.test (decide (z3 ≥ 0))
 (.ret (Sum.inr (Sum.inl false)))
 (.test (decide (0 ≤ t19))
 (.test (decide ((0 ≤ (Int.toNat t19)) ∧ ((Int.toNat t19) ≤ ds.length)))
 (.sub (F3 (((win ds 0 ((Int.toNat t19) - 0)), ()), (z0.1, z0.2))) fun z4 =>
 (.test z4.1
 (.ret (Sum.inr (Sum.inl false)))
 (.ret (Sum.inl (n, (ds, (t17, (t18, (w64 (t19 + 1))))))))))
 .fail)
 .fail))))
 .fail)
 (.test (decide (0 ≤ t19))
 (.test (decide ((0 ≤ (Int.toNat t19)) ∧ ((Int.toNat t19) ≤ ds.length)))
 (.sub (F3 (((win ds 0 ((Int.toNat t19) - 0)), ()), (z0.1, z0.2))) fun z5 =>
 (.test z5.1
 (.ret (Sum.inr (Sum.inl false)))
 (.ret (Sum.inl (n, (ds, (t17, (t18, (w64 (t19 + 1))))))))))
 .fail)
 .fail)))))
 .fail)
 (.ret (Sum.inr (Sum.inr ()))))
noncomputable def F37_L4 (v) := loopO (fun v => (F37_L4_step v).run) v
def F37_fo : List FO := [⟨[(.one .sb)], []⟩]
noncomputable def F37_t : (Int × List ((Int × Int))) → T Bool := fun (n, ds) =>
 (.sub (F66 n) fun z0 =>
 (.test (! z0)
 (.ret false)
 (.test ((ds.length : Int) != (w64 (n - 3)))
 (.ret false)
 (.sub (F37_L4 (n, (ds, (ds, ((ds.length : Int), (0 : Int)))))) fun z1 =>
 (.test (Sum.isLeft z1)
 (.sub (Sum.getLeft? z1) fun z2 =>
 (.ret z2))
 (.sub (Sum.getRight? z1) fun z3 =>
 (.ret true)))))))
noncomputable def F37 (v) := (F37_t v).run
noncomputable def F37_E : TEnv := ((((E0.add1 n_F66 F66_sh F66_fo F66).add1 n_F61 F61_sh F61_fo F61).add1 n_F31 F31_sh F31_fo F31).add1 n_F9 F3_sh F3_fo F3)
theorem F37_Eok : (F37_E).OK := ((((E0ok.add1 F66_ok).add1 F61_ok).add1 F31_ok).add1 F3_ok)
noncomputable def F37_told : Nat → Option SealT := fun id => if id = 4 then some (LSh.told F37_L4_sh 0 (F37_L4_step)) else none
theorem F37_L4_ok : ToldOK Tryz.prog 0 (loopAt (bodyOf fn_F37) [0]) (LSh.told F37_L4_sh 0 (F37_L4_step)) :=
 loop_ok (E := F37_E) (F37_Eok) (told := F37_told) (l := F37_L4_sh) (step := F37_L4_step) (loopsOK_of (ls := []) (by kernel_rfl) trivial) (by kernel_rfl) (fun v => by kernel_rfl)
theorem F37_ok : FOK Tryz.prog n_F37 F37_sh F37_fo F37 :=
 fn_ok (E := F37_E) (F37_Eok) (told := F37_told) (fl := []) (c := bodyOf fn_F37) (s := F37_sh) (l := F37_fo) (tree := F37_t) fnat_F37 (by kernel_rfl) (by kernel_rfl) (by kernel_rfl) (loopsOK_of (ls := [loopAt (bodyOf fn_F37) [0]]) (by kernel_rfl) ⟨.inr ⟨_, by kernel_rfl, F37_L4_ok⟩, trivial⟩) (fun v => by kernel_rfl)
theorem F37_eq (n : Int) (ds : List Dg) (hl : ds.length < 4611686018427387904) : F37 (n, ds) = some (isTri n ds) := by
 simp only [F37, F37_t, T.run, F66, F66_t, F90_eq, Option.bind_some, isTri]
 cases hn : inB 3 12 n with
 | false => simp
 | true =>
  rw [inB_iff] at hn
  rw [w64_id (z := n - 3) (by omega) (by omega)]
  by_cases he : (ds.length : Int) = n - 3
  ·have h := loop_any (step := fun v => (F37_L4_step v).run) (xs := List.range ds.length) (badT n ds) (fun k => (n, (ds, (ds, ((ds.length : Int), (k : Int)))))) (.inl false) (.inr ())
    (fun k x hx => by
     obtain ⟨hk, e⟩ := List.getElem?_eq_some_iff.1 hx
     simp only [List.getElem_range] at e
     subst e
     rw [List.length_range] at hk
     have g0 := gD_some hk
     have c0 : (k : Int) < (ds.length : Int) := by omega
     have c1 : (0 : Int) ≤ (k : Int) ∧ (k : Int) < (ds.length : Int) := by omega
     have w1 : w64 ((k : Int) + 1) = ((k + 1 : Nat) : Int) := by rw [w64_id (by omega) (by omega)]; omega
     have c2 : 0 ≤ k ∧ k ≤ ds.length := by omega
     have c3 : (0 : Int) ≤ (k : Int) := by omega
     have tw : win ds 0 (k - 0) = ds.take k := win_take _ _
     have hlt : (ds.take k).length < 4611686018427387904 := by simp; omega
     simp only [F37_L4_step, T.run, c0, c1, c2, c3, decide_true, if_true, and_self, Int.toNat_natCast, g0, Option.bind_some, F61_eq n (gD ds k) (by omega) (by omega), tw, F3_eq _ (gD ds k) hlt, w1, badT]
     rcases Bool.eq_false_or_eq_true (inDg n (gD ds k)) with hd | hd
     rotate_left
     ·simp [hd]
     ·simp only [hd]
      by_cases hk0 : 0 < k
      ·have w2 : w64 ((k : Int) - 1) = ((k - 1 : Nat) : Int) := by rw [w64_id (by omega) (by omega)]; omega
       have c4 : (0 : Int) ≤ ((k - 1 : Nat) : Int) ∧ ((k - 1 : Nat) : Int) < (ds.length : Int) := by omega
       have g1 := gD_some (show k - 1 < ds.length by omega)
       have c5 : (k : Int) > 0 := by omega
       simp only [w2, c4, c5, decide_true, if_true, and_self, Int.toNat_natCast, g1, Option.bind_some, F31_eq, cmpD_ge, hk0]
       cases ltD (gD ds (k - 1)) (gD ds k) <;> simp
       cases (ds.take k).any (crossD (gD ds k)) <;> simp
      ·have c5 : ¬ (k : Int) > 0 := by omega
       simp only [c5, decide_false, hk0, if_false]
       cases (ds.take k).any (crossD (gD ds k)) <;> simp)
    (by simp [F37_L4_step, T.run])
   rw [show ((0 : Nat) : Int) = 0 from rfl] at h
   have he' : ((ds.length : Int) != n - 3) = false := by simp [he]
   simp only [F37_L4, h, he', decide_eq_true he]
   cases (List.range ds.length).any (badT n ds) <;> simp
  ·simp [he]
theorem cmp_loop {X A : Type} [DecidableEq X] {step : A → Option (A ⊕ (Bool ⊕ Unit))} (a b : List X) (emb : Nat → A) (hab : a.length = b.length)
  (h : ∀ k x y, a[k]? = some x → b[k]? = some y → step (emb k) = if x = y then some (.inl (emb (k + 1))) else some (.inr (.inl false))) (hend : step (emb a.length) = some (.inr (.inr ()))) :
  loopO step (emb 0) = some (if a = b then .inr () else .inl false) := by
 have key : ∀ m k, k + m = a.length → loopO step (emb k) = some (if a.drop k = b.drop k then .inr () else .inl false) := by
  intro m
  induction m with
  | zero =>
   intro k hk
   rw [List.drop_of_length_le (by omega), List.drop_of_length_le (by omega), if_pos rfl, show k = a.length by omega]
   exact loopO_done hend
  | succ m ih =>
   intro k hk
   have h1 : k < a.length := by omega
   have h2 : k < b.length := by omega
   have hs := h k a[k] b[k] (List.getElem?_eq_getElem h1) (List.getElem?_eq_getElem h2)
   rw [List.drop_eq_getElem_cons h1, List.drop_eq_getElem_cons h2]
   by_cases e : a[k] = b[k]
   ·rw [if_pos e] at hs
    rw [loopO_next hs, ih (k + 1) (by omega), e]
    by_cases e2 : a.drop (k + 1) = b.drop (k + 1)
    ·rw [if_pos e2, e2, if_pos rfl]
    ·rw [if_neg e2, if_neg fun x => e2 (List.cons.inj x).2]
   ·rw [if_neg e] at hs
    rw [loopO_done hs, if_neg fun x => e (List.cons.inj x).1]
 have := key a.length 0 (by omega)
 rwa [List.drop_zero, List.drop_zero] at this
def F22_sh : FSh := ⟨[(.one (.sl (.pair (.int .i64) (.int .i64)) false false)), (.one (.sl (.pair (.int .i64) (.int .i64)) false false))], []⟩
def F22_L4_sh : LSh := ⟨(fun ex => match ex with | .norm => [(0, none), (1, none), (12, none), (13, none)] | .exit i => if i = 0 then [] else [] | .ret => [(4, none)]), [(0, (.one (.sl (.pair (.int .i64) (.int .i64)) false false))), (1, (.one (.sl (.pair (.int .i64) (.int .i64)) false false))), (12, (.one (.si .i64))), (13, (.one (.si .i64)))], [], [⟨.ret, [(4, (.one .sb))], []⟩, ⟨(.exit 0), [], []⟩], [], []⟩
noncomputable def F22_L4_step : (List ((Int × Int)) × List ((Int × Int)) × Int × Int) → T ((List ((Int × Int)) × List ((Int × Int)) × Int × Int) ⊕ (Bool ⊕ Unit)) := fun (s1, s2, t12, t13) =>
 (.test (decide (t13 < t12))
 (.test (decide ((0 ≤ t13) ∧ (t13 < (s1.length : Int))))
 (.sub (s1[(Int.toNat t13)]?) fun z0 =>
 (.test (decide ((0 ≤ t13) ∧ (t13 < (s2.length : Int))))
 (.sub (s2[(Int.toNat t13)]?) fun z1 =>
 (.test (! ((z0.1 == z1.1) && ((z0.2 == z1.2) && true)))
 (.ret (Sum.inr (Sum.inl false)))
 (.ret (Sum.inl (s1, (s2, (t12, (w64 (t13 + 1)))))))))
 .fail))
 .fail)
 (.ret (Sum.inr (Sum.inr ()))))
noncomputable def F22_L4 (v) := loopO (fun v => (F22_L4_step v).run) v
def F22_fo : List FO := [⟨[(.one .sb)], []⟩]
noncomputable def F22_t : (List ((Int × Int)) × List ((Int × Int))) → T Bool := fun (s1, s2) =>
 (.test ((s1.length : Int) != (s2.length : Int))
 (.ret false)
 (.sub (F22_L4 (s1, (s2, ((s1.length : Int), (0 : Int))))) fun z0 =>
 (.test (Sum.isLeft z0)
 (.sub (Sum.getLeft? z0) fun z1 =>
 (.ret z1))
 (.sub (Sum.getRight? z0) fun z2 =>
 (.ret true)))))
noncomputable def F22 (v) := (F22_t v).run
noncomputable def F22_E : TEnv := E0
theorem F22_Eok : (F22_E).OK := E0ok
noncomputable def F22_told : Nat → Option SealT := fun id => if id = 4 then some (LSh.told F22_L4_sh 0 (F22_L4_step)) else none
theorem F22_L4_ok : ToldOK Tryz.prog 0 (loopAt (bodyOf fn_F22) [0]) (LSh.told F22_L4_sh 0 (F22_L4_step)) :=
 loop_ok (E := F22_E) (F22_Eok) (told := F22_told) (l := F22_L4_sh) (step := F22_L4_step) (loopsOK_of (ls := []) (by kernel_rfl) trivial) (by kernel_rfl) (fun v => by kernel_rfl)
theorem F22_ok : FOK Tryz.prog n_F22 F22_sh F22_fo F22 :=
 fn_ok (E := F22_E) (F22_Eok) (told := F22_told) (fl := []) (c := bodyOf fn_F22) (s := F22_sh) (l := F22_fo) (tree := F22_t) fnat_F22 (by kernel_rfl) (by kernel_rfl) (by kernel_rfl) (loopsOK_of (ls := [loopAt (bodyOf fn_F22) [0]]) (by kernel_rfl) ⟨.inr ⟨_, by kernel_rfl, F22_L4_ok⟩, trivial⟩) (fun v => by kernel_rfl)
theorem F22_val (a b : List Dg) (hl : a.length < 4611686018427387904) : F22 (a, b) = some (decide (a = b)) := by
 rw [F22, F22_t, T.run_test]
 by_cases he : a.length = b.length
 ·have h := cmp_loop (step := fun v => (F22_L4_step v).run) a b (fun k => (a, (b, ((a.length : Int), (k : Int))))) he
   (fun k x y hx hy => by
    have k1 := getElem?_lt hx
    have k2 := getElem?_lt hy
    have w1 : w64 ((k : Int) + 1) = ((k + 1 : Nat) : Int) := by rw [w64_id (by omega) (by omega)]; omega
    rw [F22_L4_step, T.run_test, if_pos (decide_eq_true (by omega)), T.run_test, if_pos (decide_eq_true (by omega)), T.run_sub, Int.toNat_natCast, hx, Option.bind_some, T.run_test, if_pos (decide_eq_true (by omega)), T.run_sub, hy, Option.bind_some, T.run_test]
    by_cases e : x = y
    ·rw [if_neg (by simp [e]), if_pos e, T.run_ret, w1]
    ·rw [if_pos (by
      obtain ⟨x1, x2⟩ := x
      obtain ⟨y1, y2⟩ := y
      simp only [Prod.mk.injEq] at e
      by_cases e1 : x1 = y1
      ·have e2 : x2 ≠ y2 := fun h => e ⟨e1, h⟩
       simp [e2]
      ·simp [e1]), if_neg e, T.run_ret])
   (by rw [F22_L4_step, T.run_test, if_neg (by simp), T.run_ret])
  have h' : F22_L4 (a, (b, ((a.length : Int), (0 : Int)))) = _ := h
  rw [if_neg (by simp [he]), T.run_sub, h', Option.bind_some]
  by_cases e : a = b
  ·rw [if_pos e, decide_eq_true e]; rfl
  ·rw [if_neg e, decide_eq_false e]; rfl
 ·rw [if_pos (by simp; omega), T.run_ret, decide_eq_false fun e => he (by rw [e])]
def F17_sh : FSh := ⟨[(.one (.sl (.pair (.int .i64) (.int .i64)) false false)), (.one (.pb (.list false (.pair (.int .i64) (.int .i64)))))], []⟩
def F17_fo : List FO := [⟨[(.one .sb)], []⟩]
noncomputable def F17_t : (List ((Int × Int)) × List ((Int × Int))) → T Bool := fun (all, t1) =>
 (.sub ([t1][0]?) fun z0 =>
 (.sub (F22 (all, z0)) fun z1 =>
 (.ret z1)))
noncomputable def F17 (v) := (F17_t v).run
noncomputable def F17_E : TEnv := (E0.add1 n_F22 F22_sh F22_fo F22)
theorem F17_Eok : (F17_E).OK := (E0ok.add1 F22_ok)
noncomputable def F17_told : Nat → Option SealT := fun id => none
theorem F17_ok : FOK Tryz.prog n_F17 F17_sh F17_fo F17 :=
 fn_ok (E := F17_E) (F17_Eok) (told := F17_told) (fl := []) (c := bodyOf fn_F17) (s := F17_sh) (l := F17_fo) (tree := F17_t) fnat_F17 (by kernel_rfl) (by kernel_rfl) (by kernel_rfl) (loopsOK_of (ls := []) (by kernel_rfl) trivial) (fun v => by kernel_rfl)
theorem F17_eq (a ds : List Dg) (hl : a.length < 4611686018427387904) : F17 (a, ds) = some (decide (a = ds)) := by
 rw [F17, F17_t, T.run_sub, List.getElem?_cons_zero, Option.bind_some, T.run_sub, F22_val a ds hl, Option.bind_some, T.run_ret]
def F1_sh : FSh := ⟨[(.one (.sl (.list true (.pair (.int .i64) (.int .i64))) false false)), (.clo n_F17 [(.one (.pb (.list false (.pair (.int .i64) (.int .i64)))))])], []⟩
def F1_L2_sh : LSh := ⟨(fun ex => match ex with | .norm => [(0, none), (1, none), (7, none), (8, none)] | .exit i => if i = 0 then [] else [] | .ret => [(4, none)]), [(0, (.one (.sl (.list true (.pair (.int .i64) (.int .i64))) false false))), (1, (.clo n_F17 [(.one (.pb (.list false (.pair (.int .i64) (.int .i64)))))])), (7, (.one (.si .i64))), (8, (.one (.si .i64)))], [], [⟨.ret, [(4, (.one (.si .i64)))], []⟩, ⟨(.exit 0), [], []⟩], [], []⟩
noncomputable def F1_L2_step : (List (List ((Int × Int))) × List ((Int × Int)) × Int × Int) → T ((List (List ((Int × Int))) × List ((Int × Int)) × Int × Int) ⊕ (Int ⊕ Unit)) := fun (s, f_0, t7, t8) =>
 (.test (decide (t8 < t7))
 (.test (decide ((0 ≤ t8) ∧ (t8 < (s.length : Int))))
 (.sub (s[(Int.toNat t8)]?) fun z0 =>
 (.sub (F17 (z0, f_0)) fun z1 =>
 (.test z1
 (.ret (Sum.inr (Sum.inl t8)))
 (.ret (Sum.inl (s, (f_0, (t7, (w64 (t8 + 1))))))))))
 .fail)
 (.ret (Sum.inr (Sum.inr ()))))
noncomputable def F1_L2 (v) := loopO (fun v => (F1_L2_step v).run) v
def F1_fo : List FO := [⟨[(.one (.si .i64))], []⟩]
noncomputable def F1_t : (List (List ((Int × Int))) × List ((Int × Int))) → T Int := fun (s, f_0) =>
 (.sub (F1_L2 (s, (f_0, ((s.length : Int), (0 : Int))))) fun z0 =>
 (.test (Sum.isLeft z0)
 (.sub (Sum.getLeft? z0) fun z1 =>
 (.ret z1))
 (.sub (Sum.getRight? z0) fun z2 =>
 (.ret (-1)))))
noncomputable def F1 (v) := (F1_t v).run
noncomputable def F1_E : TEnv := (E0.add1 n_F17 F17_sh F17_fo F17)
theorem F1_Eok : (F1_E).OK := (E0ok.add1 F17_ok)
noncomputable def F1_told : Nat → Option SealT := fun id => if id = 2 then some (LSh.told F1_L2_sh 0 (F1_L2_step)) else none
theorem F1_L2_ok : ToldOK Tryz.prog 0 (loopAt (bodyOf fn_F10) [0]) (LSh.told F1_L2_sh 0 (F1_L2_step)) :=
 loop_ok (E := F1_E) (F1_Eok) (told := F1_told) (l := F1_L2_sh) (step := F1_L2_step) (loopsOK_of (ls := []) (by kernel_rfl) trivial) (by kernel_rfl) (fun v => by kernel_rfl)
theorem F1_ok : FOK Tryz.prog n_F10 F1_sh F1_fo F1 :=
 fn_ok (E := F1_E) (F1_Eok) (told := F1_told) (fl := []) (c := bodyOf fn_F10) (s := F1_sh) (l := F1_fo) (tree := F1_t) fnat_F10 (by kernel_rfl) (by kernel_rfl) (by kernel_rfl) (loopsOK_of (ls := [loopAt (bodyOf fn_F10) [0]]) (by kernel_rfl) ⟨.inr ⟨_, by kernel_rfl, F1_L2_ok⟩, trivial⟩) (fun v => by kernel_rfl)
theorem F1_eq (s : List (List Dg)) (ds : List Dg) (hs : ∀ a ∈ s, a.length < 4611686018427387904) (hl : s.length < 4611686018427387904) :
  F1 (s, ds) = some (idxI (fun a => decide (a = ds)) s) := by
 have hf := loop_find (step := fun v => (F1_L2_step v).run) (xs := s) (fun a => decide (a = ds)) (fun k => (s, (ds, ((s.length : Int), (k : Int))))) (fun k => .inl (k : Int)) (.inr ())
  (fun k a hd => by
   have hk := getElem?_lt hd
   have w1 : w64 ((k : Int) + 1) = ((k + 1 : Nat) : Int) := by rw [w64_id (by omega) (by omega)]; omega
   rw [F1_L2_step, T.run_test, if_pos (decide_eq_true (by omega)), T.run_test, if_pos (decide_eq_true (by omega)), T.run_sub, Int.toNat_natCast, hd, Option.bind_some, T.run_sub, F17_eq a ds (hs a (List.mem_of_getElem? hd)), Option.bind_some, T.run_test]
   cases decide (a = ds) with
   | true => rfl
   | false => rw [if_neg (by simp), T.run_ret, w1]; rfl)
  (by rw [F1_L2_step, T.run_test, if_neg (by simp), T.run_ret])
 have hf' : F1_L2 (s, (ds, ((s.length : Int), (0 : Int)))) = _ := hf
 rw [F1, F1_t, T.run_sub, hf', Option.bind_some]
 unfold idxI
 cases s.findIdx? (fun a => decide (a = ds)) <;> rfl
def F23_sh : FSh := ⟨[(.one (.si .i64)), (.one (.sl (.pair (.int .i64) (.int .i64)) false false))], []⟩
def F23_fo : List FO := [⟨[(.one (.si .i64)), (.one .sb)], []⟩]
noncomputable def F23_t : (Int × List ((Int × Int))) → T (Int × Bool) := fun (n, ds) =>
 (.sub (F37 (n, ds)) fun z0 =>
 (.test (! z0)
 (.ret ((0 : Int), false))
 (.sub (F35 n) fun z1 =>
 (.test (! z1)
 (.ret ((0 : Int), false))
 (.sub (F29 n) fun z2 =>
 (.test (decide ((0 + z2.2.length) ≤ z2.2.length))
 (.sub (F1 ((win z2.2 0 z2.2.length), ds)) fun z3 =>
 (.ret (z3, true)))
 .fail))))))
noncomputable def F23 (v) := (F23_t v).run
noncomputable def F23_E : TEnv := ((((E0.add1 n_F37 F37_sh F37_fo F37).add1 n_F35 F35_sh F35_fo F35).add1 n_F29 F29_sh F29_fo F29).add1 n_F10 F1_sh F1_fo F1)
theorem F23_Eok : (F23_E).OK := ((((E0ok.add1 F37_ok).add1 F35_ok).add1 F29_ok).add1 F1_ok)
noncomputable def F23_told : Nat → Option SealT := fun id => none
theorem F23_ok : FOK Tryz.prog n_F23 F23_sh F23_fo F23 :=
 fn_ok (E := F23_E) (F23_Eok) (told := F23_told) (fl := []) (c := bodyOf fn_F23) (s := F23_sh) (l := F23_fo) (tree := F23_t) fnat_F23 (by kernel_rfl) (by kernel_rfl) (by kernel_rfl) (loopsOK_of (ls := []) (by kernel_rfl) trivial) (fun v => by kernel_rfl)
theorem allT_small {n : Nat} (h3 : 3 ≤ n) (h8 : n ≤ 8) : (allT n).length < 4611686018427387904 ∧ ∀ a ∈ allT n, a.length < 4611686018427387904 := by
 refine ⟨by have := allT_len n (by omega); omega, fun a ha => ?_⟩
 have := ((isTri_iff _ _).1 (allT_isTri n h3 h8 a ha)).2.1
 omega
theorem F23_eq (n : Int) (ds : List Dg) (hl : ds.length < 4611686018427387904) : F23 (n, ds) = some (rkR n ds) := by
 rw [F23, F23_t, T.run_sub, F37_eq n ds hl, Option.bind_some, T.run_test, rkR]
 cases h : isTri n ds with
 | false => rfl
 | true =>
  rw [if_neg (by simp), T.run_sub, F35, F35_t, T.run_sub, F90_eq, Option.bind_some, T.run_ret, Option.bind_some, T.run_test]
  cases h8 : inB 3 8 n with
  | false => rfl
  | true =>
   rw [inB_iff] at h8
   obtain ⟨k, rfl⟩ : ∃ k : Nat, n = k := ⟨n.toNat, by omega⟩
   obtain ⟨s1, s2⟩ := allT_small (n := k) (by omega) (by omega)
   rw [if_neg (by simp), T.run_sub, F29_eq k (by omega), Option.bind_some]
   simp only [win_all]
   rw [T.run_test, if_pos (by simp), T.run_sub, F1_eq _ ds s2 s1, Option.bind_some, T.run_ret]
   rfl
def F110_sh : FSh := ⟨[(.one (.si .i64))], []⟩
def F110_fo : List FO := [⟨[(.one .sb)], []⟩]
noncomputable def F110_t : Int → T Bool := fun n =>
 (.sub (F113 (n, ((3 : Int), (8 : Int)))) fun z0 =>
 (.ret z0))
noncomputable def F110 (v) := (F110_t v).run
noncomputable def F110_E : TEnv := (E0.add1 n_F113 F113_sh F113_fo F113)
theorem F110_Eok : (F110_E).OK := (E0ok.add1 F113_ok)
noncomputable def F110_told : Nat → Option SealT := fun id => none
theorem F110_ok : FOK Tryz.prog n_F110 F110_sh F110_fo F110 :=
 fn_ok (E := F110_E) (F110_Eok) (told := F110_told) (fl := []) (c := bodyOf fn_F110) (s := F110_sh) (l := F110_fo) (tree := F110_t) fnat_F110 (by kernel_rfl) (by kernel_rfl) (by kernel_rfl) (loopsOK_of (ls := []) (by kernel_rfl) trivial) (fun v => by kernel_rfl)
end Go.Proofs.W
