import Derived.Test.YtppalpflejcjeaaGreatQCcWk3
set_option linter.unusedVariables false
set_option linter.unusedSimpArgs false
set_option maxRecDepth 100000
set_option maxHeartbeats 4000000
namespace Go.Proofs.W
open Go Go.Gm Go.Proofs
open Go.RowKit Go.Shelf
def F46_sh : FSh := ⟨[(.one (.si .i64)), (.ag [(.si .i64), (.si .i64)])], []⟩
def F46_fo : List FO := [⟨[(.one .sb)], []⟩]
noncomputable def F46_t : (Int × (Int × Int)) → T Bool := fun (n, (d_0, d_1)) =>
 (.sub (F113 n) fun z0 =>
 (.test z0
 (.sub (F112 (d_0, ((0 : Int), (w64 (n - 1))))) fun z1 =>
 (.test z1
 (.sub (F112 (d_1, ((0 : Int), (w64 (n - 1))))) fun z2 =>
 (.test z2
 (.test (decide ((w64 (d_1 - d_0)) ≥ 2))
 (.ret (decide ((w64 (d_1 - d_0)) ≤ (w64 (n - 2)))))
 (.ret false))
 (.ret false)))
 (.ret false)))
 (.ret false)))
noncomputable def F46 (v) := (F46_t v).run
noncomputable def F46_E : TEnv := ((E0.add1 n_F113 F113_sh F113_fo F113).add1 n_F112 F112_sh F112_fo F112)
theorem F46_Eok : (F46_E).OK := ((E0ok.add1 F113_ok).add1 F112_ok)
noncomputable def F46_told : Nat → Option SealT := fun id => none
theorem F46_ok : FOK Tryz.prog n_F46 F46_sh F46_fo F46 :=
 fn_ok (E := F46_E) (F46_Eok) (told := F46_told) (fl := []) (c := bodyOf fn_F46) (s := F46_sh) (l := F46_fo) (tree := F46_t) fnat_F46 (by kernel_rfl) (by kernel_rfl) (by kernel_rfl) (loopsOK_of (ls := []) (by kernel_rfl) trivial) (fun v => by kernel_rfl)
theorem F46_eq (n : Int) (d : Dg) (h1 : 3 ≤ n) (h2 : n ≤ 12) : F46 (n, d) = some (inDg n d) := by
 obtain ⟨a, b⟩ := d
 have hp : inB 3 12 n = true := inB_iff.2 ⟨h1, h2⟩
 simp only [F46, F46_t, T.run, F113, F113_t, F112_eq, Option.bind_some, hp, if_true, w64_id (z := n - 1) (by omega) (by omega), w64_id (z := n - 2) (by omega) (by omega)]
 cases ha : inB 0 (n - 1) a with
 | false => simp [inDg, ha]
 | true =>
  cases hb : inB 0 (n - 1) b with
  | false => simp [inDg, hb]
  | true =>
   have e : inDg n (a, b) = decide (b - a ≥ 2 ∧ b - a ≤ n - 2) := by
    rw [Bool.eq_iff_iff, inDg_iff, decide_eq_true_eq]
    rw [inB_iff] at ha hb
    simp only []
    omega
   rw [inB_iff] at ha hb
   rw [w64_id (z := b - a) (by omega) (by omega), e]
   by_cases g1 : b - a ≥ 2 <;> by_cases g2 : b - a ≤ n - 2 <;> simp [g1, g2]
def F71_sh : FSh := ⟨[(.ag [(.si .i64), (.si .i64)]), (.ag [(.si .i64), (.si .i64)])], []⟩
def F71_fo : List FO := [⟨[(.one .sb)], []⟩]
noncomputable def F71_t : ((Int × Int) × (Int × Int)) → T Bool := fun ((d_0, d_1), (e_0, e_1)) =>
 (.test (decide (d_0 < e_0))
 (.test (decide (e_0 < d_1))
 (.test (decide (d_1 < e_1))
 (.ret true)
 (.test (decide (e_0 < d_0))
 (.test (decide (d_0 < e_1))
 (.ret (decide (e_1 < d_1)))
 (.ret false))
 (.ret false)))
 (.test (decide (e_0 < d_0))
 (.test (decide (d_0 < e_1))
 (.ret (decide (e_1 < d_1)))
 (.ret false))
 (.ret false)))
 (.test (decide (e_0 < d_0))
 (.test (decide (d_0 < e_1))
 (.ret (decide (e_1 < d_1)))
 (.ret false))
 (.ret false)))
noncomputable def F71 (v) := (F71_t v).run
noncomputable def F71_E : TEnv := E0
theorem F71_Eok : (F71_E).OK := E0ok
noncomputable def F71_told : Nat → Option SealT := fun id => none
theorem F71_ok : FOK Tryz.prog n_F71 F71_sh F71_fo F71 :=
 fn_ok (E := F71_E) (F71_Eok) (told := F71_told) (fl := []) (c := bodyOf fn_F71) (s := F71_sh) (l := F71_fo) (tree := F71_t) fnat_F71 (by kernel_rfl) (by kernel_rfl) (by kernel_rfl) (loopsOK_of (ls := []) (by kernel_rfl) trivial) (fun v => by kernel_rfl)
theorem F71_eq (d e : Dg) : F71 (d, e) = some (crossD d e) := by
 obtain ⟨a, b⟩ := d
 obtain ⟨c, f⟩ := e
 simp only [F71, F71_t, T.run, crossD]
 by_cases h1 : a < c <;> by_cases h2 : c < b <;> by_cases h3 : b < f <;> by_cases h4 : c < a <;> by_cases h5 : a < f <;> by_cases h6 : f < b <;> simp [h1, h2, h3, h4, h5, h6]
def F55_sh : FSh := ⟨[(.one (.si .i64)), (.one (.sl (.pair (.int .i64) (.int .i64)) false false)), (.one (.sl (.pair (.int .i64) (.int .i64)) false false)), (.one (.pf 0 0 0))], [(.rcd 0 [(.rw 1 0)]), (.row 0 (.list true (.pair (.int .i64) (.int .i64))))]⟩
def F55_fo : List FO := [⟨[], [(.rcd 0 [(.rw 1 1)]), (.row 1 (.list true (.pair (.int .i64) (.int .i64))))]⟩]
def F55_L7_sh : LSh := ⟨(fun ex => match ex with | .norm => [(0, none), (1, none), (2, none), (3, none), (8, none), (9, none), (10, none), (25, none), (26, none), (27, none), (32, none), (33, none), (34, none)] | .exit i => if i = 2 then [(0, none), (1, none), (2, none), (3, none), (8, none), (9, none), (10, none), (25, none), (26, none), (27, none)] else if i = 1 then [(0, none), (1, none), (2, none), (3, none), (25, none), (26, none), (27, none)] else if i = 0 then [] else [] | .ret => []), [(0, (.one (.si .i64))), (1, (.one (.sl (.pair (.int .i64) (.int .i64)) false false))), (2, (.one (.sl (.pair (.int .i64) (.int .i64)) false false))), (3, (.one (.pf 0 0 0))), (8, (.one (.si .i64))), (9, (.one (.pf 2 0 0))), (10, (.one .sb)), (25, (.one (.sl (.pair (.int .i64) (.int .i64)) false false))), (26, (.one (.si .i64))), (27, (.one (.si .i64))), (32, (.one (.sl (.pair (.int .i64) (.int .i64)) false false))), (33, (.one (.si .i64))), (34, (.one (.si .i64)))], [(.rcd 0 [(.rw 1 1)]), (.row 1 (.list true (.pair (.int .i64) (.int .i64)))), (.rcd 0 [(.si .i64), (.si .i64)])], [⟨(.exit 2), [(0, (.one (.si .i64))), (1, (.one (.sl (.pair (.int .i64) (.int .i64)) false false))), (2, (.one (.sl (.pair (.int .i64) (.int .i64)) false false))), (3, (.one (.pf 0 0 0))), (8, (.one (.si .i64))), (9, (.one (.pf 2 0 0))), (10, (.one .sb)), (25, (.one (.sl (.pair (.int .i64) (.int .i64)) false false))), (26, (.one (.si .i64))), (27, (.one (.si .i64)))], [(.rcd 0 [(.rw 1 1)]), (.row 1 (.list true (.pair (.int .i64) (.int .i64)))), (.rcd 0 [(.si .i64), (.si .i64)])]⟩], [], []⟩
noncomputable def F55_L7_step (recv : ((Int × List ((Int × Int)) × List ((Int × Int)) × Unit) × (Unit × List (List ((Int × Int))))) → Option (Unit × (Unit × List (List ((Int × Int)))))) : ((Int × List ((Int × Int)) × List ((Int × Int)) × Unit × Int × Unit × Bool × List ((Int × Int)) × Int × Int × List ((Int × Int)) × Int × Int) × (Unit × List (List ((Int × Int))) × (Int × Int))) → T (((Int × List ((Int × Int)) × List ((Int × Int)) × Unit × Int × Unit × Bool × List ((Int × Int)) × Int × Int × List ((Int × Int)) × Int × Int) × (Unit × List (List ((Int × Int))) × (Int × Int))) ⊕ ((Int × List ((Int × Int)) × List ((Int × Int)) × Unit × Int × Unit × Bool × List ((Int × Int)) × Int × Int) × (Unit × List (List ((Int × Int))) × (Int × Int)))) := fun ((left, all, begin, (), i, (), free, t25, t26, t27, t32, t33, t34), ((), out_r, (d_0, d_1))) =>
 (.test (decide (t34 < t33))
 (.test (decide ((0 ≤ t34) ∧ (t34 < (t32.length : Int))))
 (.sub (t32[(Int.toNat t34)]?) fun z0 =>
 (.test free
 (.sub (F71 ((d_0, d_1), (z0.1, z0.2))) fun z1 =>
 (.test (decide ((0 = 0) ∧ (out_r.length = out_r.length)))
 (.ret (Sum.inl ((left, (all, (begin, ((), (i, ((), ((! z1), (t25, (t26, (t27, (t32, (t33, (w64 (t34 + 1)))))))))))))), ((), (out_r, (d_0, d_1))))))
 .fail))
 (.test (decide ((0 = 0) ∧ (out_r.length = out_r.length)))
 (.ret (Sum.inl ((left, (all, (begin, ((), (i, ((), (false, (t25, (t26, (t27, (t32, (t33, (w64 (t34 + 1)))))))))))))), ((), (out_r, (d_0, d_1))))))
 .fail)))
 .fail)
 (.test (decide ((0 = 0) ∧ (out_r.length = out_r.length)))
 (.ret (Sum.inr ((left, (all, (begin, ((), (i, ((), (free, (t25, (t26, t27))))))))), ((), (out_r, (d_0, d_1))))))
 .fail))
noncomputable def F55_L7 (recv : ((Int × List ((Int × Int)) × List ((Int × Int)) × Unit) × (Unit × List (List ((Int × Int))))) → Option (Unit × (Unit × List (List ((Int × Int)))))) (v : ((Int × List ((Int × Int)) × List ((Int × Int)) × Unit × Int × Unit × Bool × List ((Int × Int)) × Int × Int × List ((Int × Int)) × Int × Int) × (Unit × List (List ((Int × Int))) × (Int × Int)))) : Option ((Int × List ((Int × Int)) × List ((Int × Int)) × Unit × Int × Unit × Bool × List ((Int × Int)) × Int × Int) × (Unit × List (List ((Int × Int))) × (Int × Int))) := loopO (fun v => (F55_L7_step recv v).run) v
def F55_L3_sh : LSh := ⟨(fun ex => match ex with | .norm => [(0, none), (1, none), (2, none), (3, none), (25, none), (26, none), (27, none)] | .exit i => if i = 0 then [] else [] | .ret => []), [(0, (.one (.si .i64))), (1, (.one (.sl (.pair (.int .i64) (.int .i64)) false false))), (2, (.one (.sl (.pair (.int .i64) (.int .i64)) false false))), (3, (.one (.pf 0 0 0))), (25, (.one (.sl (.pair (.int .i64) (.int .i64)) false false))), (26, (.one (.si .i64))), (27, (.one (.si .i64)))], [(.rcd 0 [(.rw 1 1)]), (.row 1 (.list true (.pair (.int .i64) (.int .i64))))], [⟨(.exit 0), [], [(.rcd 0 [(.rw 1 1)]), (.row 1 (.list true (.pair (.int .i64) (.int .i64))))]⟩], [], [1]⟩
noncomputable def F55_L3_step (recv : ((Int × List ((Int × Int)) × List ((Int × Int)) × Unit) × (Unit × List (List ((Int × Int))))) → Option (Unit × (Unit × List (List ((Int × Int)))))) : ((Int × List ((Int × Int)) × List ((Int × Int)) × Unit × List ((Int × Int)) × Int × Int) × (Unit × List (List ((Int × Int))))) → T (((Int × List ((Int × Int)) × List ((Int × Int)) × Unit × List ((Int × Int)) × Int × Int) × (Unit × List (List ((Int × Int))))) ⊕ (Unit × (Unit × List (List ((Int × Int)))))) := fun ((left, all, begin, (), t25, t26, t27), ((), out_r)) =>
 (.test (decide (t27 < t26))
 (.test (decide ((0 ≤ t27) ∧ (t27 < (t25.length : Int))))
 (.sub (t25[(Int.toNat t27)]?) fun z0 =>
 (.test (decide ((0 = 0) ∧ (out_r.length = out_r.length)))
 (.sub (F55_L7 recv ((left, (all, (begin, ((), (t27, ((), (true, (t25, (t26, (t27, (begin, ((begin.length : Int), (0 : Int))))))))))))), ((), (out_r, (z0.1, z0.2))))) fun z1 =>
 (.test z1.1.2.2.2.2.2.2.1
 (.test (decide (0 ≤ (w64 (z1.1.2.2.2.2.1 + 1))))
 (.test (decide (((Int.toNat (w64 (z1.1.2.2.2.2.1 + 1))) ≤ z1.1.2.1.length) ∧ (z1.1.2.1.length ≤ z1.1.2.1.length)))
 (.test true
 (.test (decide ((2 * ((0 + z1.1.2.2.1.length) * (16 + 1))) ≤ 140737488355328))
 (.test (decide (1 ≤ (List.length (List.set (List.replicate 1 ((0 : Int), (0 : Int))) 0 (z1.2.2.2.1, z1.2.2.2.2)))))
 (.test (decide ((0 + (0 + z1.1.2.2.1.length)) ≤ (List.length ((win (List.replicate 0 ((0 : Int), (0 : Int))) 0 0) ++ z1.1.2.2.1))))
 (.test (decide ((2 * (((0 + z1.1.2.2.1.length) + (List.length (win (List.set (List.replicate 1 ((0 : Int), (0 : Int))) 0 (z1.2.2.2.1, z1.2.2.2.2)) 0 1))) * (16 + 1))) ≤ 140737488355328))
 (.test (decide ((0 + ((0 + z1.1.2.2.1.length) + (List.length (win (List.set (List.replicate 1 ((0 : Int), (0 : Int))) 0 (z1.2.2.2.1, z1.2.2.2.2)) 0 1)))) ≤ (List.length ((win ((win (List.replicate 0 ((0 : Int), (0 : Int))) 0 0) ++ z1.1.2.2.1) 0 (0 + z1.1.2.2.1.length)) ++ (win (List.set (List.replicate 1 ((0 : Int), (0 : Int))) 0 (z1.2.2.2.1, z1.2.2.2.2)) 0 1)))))
 (.test (decide ((0 = 0) ∧ (z1.2.2.1.length = z1.2.2.1.length)))
 (.sub (recv (((w64 (z1.1.1 - 1)), ((win z1.1.2.1 (Int.toNat (w64 (z1.1.2.2.2.2.1 + 1))) (z1.1.2.1.length - (Int.toNat (w64 (z1.1.2.2.2.2.1 + 1))))), ((win ((win ((win (List.replicate 0 ((0 : Int), (0 : Int))) 0 0) ++ z1.1.2.2.1) 0 (0 + z1.1.2.2.1.length)) ++ (win (List.set (List.replicate 1 ((0 : Int), (0 : Int))) 0 (z1.2.2.2.1, z1.2.2.2.2)) 0 1)) 0 ((0 + z1.1.2.2.1.length) + (List.length (win (List.set (List.replicate 1 ((0 : Int), (0 : Int))) 0 (z1.2.2.2.1, z1.2.2.2.2)) 0 1)))), ()))), ((), z1.2.2.1))) fun z2 =>
 (.test (decide ((0 = 0) ∧ (z2.2.2.length = z2.2.2.length)))
 (.ret (Sum.inl ((z1.1.1, (z1.1.2.1, (z1.1.2.2.1, ((), (z1.1.2.2.2.2.2.2.2.1, (z1.1.2.2.2.2.2.2.2.2.1, (w64 (z1.1.2.2.2.2.2.2.2.2.2 + 1)))))))), ((), z2.2.2))))
 .fail))
 .fail)
 .fail)
 .fail)
 .fail)
 .fail)
 .fail)
 .fail)
 .fail)
 .fail)
 (.test (decide ((0 = 0) ∧ (z1.2.2.1.length = z1.2.2.1.length)))
 (.ret (Sum.inl ((z1.1.1, (z1.1.2.1, (z1.1.2.2.1, ((), (z1.1.2.2.2.2.2.2.2.1, (z1.1.2.2.2.2.2.2.2.2.1, (w64 (z1.1.2.2.2.2.2.2.2.2.2 + 1)))))))), ((), z1.2.2.1))))
 .fail)))
 .fail))
 .fail)
 (.test (decide ((0 = 0) ∧ (out_r.length = out_r.length)))
 (.ret (Sum.inr ((), ((), out_r))))
 .fail))
noncomputable def F55_L3 (recv : ((Int × List ((Int × Int)) × List ((Int × Int)) × Unit) × (Unit × List (List ((Int × Int))))) → Option (Unit × (Unit × List (List ((Int × Int)))))) (v : ((Int × List ((Int × Int)) × List ((Int × Int)) × Unit × List ((Int × Int)) × Int × Int) × (Unit × List (List ((Int × Int)))))) : Option (Unit × (Unit × List (List ((Int × Int))))) := loopO (fun v => (F55_L3_step recv v).run) v
noncomputable def F55_t (recv : ((Int × List ((Int × Int)) × List ((Int × Int)) × Unit) × (Unit × List (List ((Int × Int))))) → Option (Unit × (Unit × List (List ((Int × Int)))))) : ((Int × List ((Int × Int)) × List ((Int × Int)) × Unit) × (Unit × List (List ((Int × Int))))) → T (Unit × (Unit × List (List ((Int × Int))))) := fun ((left, all, begin, ()), ((), out_r)) =>
 (.test (left == 0)
 (.test true
 (.test (decide ((2 * ((0 + begin.length) * (16 + 1))) ≤ 140737488355328))
 (.test (decide ((0 + (0 + begin.length)) ≤ (List.length ((win (List.replicate 0 ((0 : Int), (0 : Int))) 0 0) ++ begin))))
 (.test (decide (1 ≤ (List.length (List.set (List.replicate 1 ([] : List (Int × Int))) 0 (win ((win (List.replicate 0 ((0 : Int), (0 : Int))) 0 0) ++ begin) 0 (0 + begin.length))))))
 (.test (decide ((0 + out_r.length) ≤ out_r.length))
 (.test (decide ((2 * ((out_r.length + (List.length (win (List.set (List.replicate 1 ([] : List (Int × Int))) 0 (win ((win (List.replicate 0 ((0 : Int), (0 : Int))) 0 0) ++ begin) 0 (0 + begin.length))) 0 1))) * (24 + 1))) ≤ 140737488355328))
 (.test (decide ((0 = 0) ∧ ((out_r.length + (List.length (win (List.set (List.replicate 1 ([] : List (Int × Int))) 0 (win ((win (List.replicate 0 ((0 : Int), (0 : Int))) 0 0) ++ begin) 0 (0 + begin.length))) 0 1))) = (List.length ((win out_r 0 out_r.length) ++ (win (List.set (List.replicate 1 ([] : List (Int × Int))) 0 (win ((win (List.replicate 0 ((0 : Int), (0 : Int))) 0 0) ++ begin) 0 (0 + begin.length))) 0 1))))))
 (.ret ((), ((), ((win out_r 0 out_r.length) ++ (win (List.set (List.replicate 1 ([] : List (Int × Int))) 0 (win ((win (List.replicate 0 ((0 : Int), (0 : Int))) 0 0) ++ begin) 0 (0 + begin.length))) 0 1)))))
 .fail)
 .fail)
 .fail)
 .fail)
 .fail)
 .fail)
 .fail)
 (.test (decide ((0 = 0) ∧ (out_r.length = out_r.length)))
 (.sub (F55_L3 recv ((left, (all, (begin, ((), (all, ((all.length : Int), (0 : Int))))))), ((), out_r))) fun z0 =>
 (.test (decide ((0 = 0) ∧ (z0.2.2.length = z0.2.2.length)))
 (.ret ((), ((), z0.2.2)))
 .fail))
 .fail))
noncomputable def F55_f (recv : ((Int × List ((Int × Int)) × List ((Int × Int)) × Unit) × (Unit × List (List ((Int × Int))))) → Option (Unit × (Unit × List (List ((Int × Int)))))) (v : ((Int × List ((Int × Int)) × List ((Int × Int)) × Unit) × (Unit × List (List ((Int × Int)))))) : Option (Unit × (Unit × List (List ((Int × Int))))) := (F55_t recv v).run
noncomputable def F55 : ((Int × List ((Int × Int)) × List ((Int × Int)) × Unit) × (Unit × List (List ((Int × Int))))) → Option (Unit × (Unit × List (List ((Int × Int))))) := recF F55_f
noncomputable def F55_E (recv : ((Int × List ((Int × Int)) × List ((Int × Int)) × Unit) × (Unit × List (List ((Int × Int))))) → Option (Unit × (Unit × List (List ((Int × Int)))))) : TEnv := ((E0.add1 n_F71 F71_sh F71_fo F71).add1 n_F81 F55_sh F55_fo recv)
theorem F55_Eok (recv : ((Int × List ((Int × Int)) × List ((Int × Int)) × Unit) × (Unit × List (List ((Int × Int))))) → Option (Unit × (Unit × List (List ((Int × Int)))))) (hrec : FOK Tryz.prog n_F81 F55_sh F55_fo recv) : (F55_E recv).OK := ((E0ok.add1 F71_ok).add1 hrec)
noncomputable def F55_told (recv : ((Int × List ((Int × Int)) × List ((Int × Int)) × Unit) × (Unit × List (List ((Int × Int))))) → Option (Unit × (Unit × List (List ((Int × Int)))))) : Nat → Option SealT := fun id => if id = 7 then some (LSh.told F55_L7_sh 2 (F55_L7_step recv)) else if id = 3 then some (LSh.told F55_L3_sh 2 (F55_L3_step recv)) else none
theorem F55_L7_ok (recv : ((Int × List ((Int × Int)) × List ((Int × Int)) × Unit) × (Unit × List (List ((Int × Int))))) → Option (Unit × (Unit × List (List ((Int × Int)))))) (hrec : FOK Tryz.prog n_F81 F55_sh F55_fo recv) : ToldOK Tryz.prog 2 (loopAt (bodyOf fn_F81) [0, 0]) (LSh.told F55_L7_sh 2 (F55_L7_step recv)) :=
 loop_ok (E := F55_E recv) (F55_Eok recv hrec) (told := F55_told recv) (l := F55_L7_sh) (step := F55_L7_step recv) (loopsOK_of (ls := []) (by kernel_rfl) trivial) (by kernel_rfl) (fun v => by kernel_rfl)
theorem F55_L3_ok (recv : ((Int × List ((Int × Int)) × List ((Int × Int)) × Unit) × (Unit × List (List ((Int × Int))))) → Option (Unit × (Unit × List (List ((Int × Int)))))) (hrec : FOK Tryz.prog n_F81 F55_sh F55_fo recv) : ToldOK Tryz.prog 2 (loopAt (bodyOf fn_F81) [0]) (LSh.told F55_L3_sh 2 (F55_L3_step recv)) :=
 loop_ok (E := F55_E recv) (F55_Eok recv hrec) (told := F55_told recv) (l := F55_L3_sh) (step := F55_L3_step recv) (loopsOK_of (ls := [loopAt (bodyOf fn_F81) [0, 0]]) (by kernel_rfl) ⟨.inr ⟨_, by kernel_rfl, F55_L7_ok recv hrec⟩, trivial⟩) (by kernel_rfl) (fun v => by kernel_rfl)
theorem F55_okr (recv : ((Int × List ((Int × Int)) × List ((Int × Int)) × Unit) × (Unit × List (List ((Int × Int))))) → Option (Unit × (Unit × List (List ((Int × Int)))))) (hrec : FOK Tryz.prog n_F81 F55_sh F55_fo recv) : FOK Tryz.prog n_F81 F55_sh F55_fo (F55_f recv) :=
 fn_ok (E := F55_E recv) (F55_Eok recv hrec) (told := F55_told recv) (fl := []) (c := bodyOf fn_F81) (s := F55_sh) (l := F55_fo) (tree := F55_t recv) fnat_F81 (by kernel_rfl) (by kernel_rfl) (by kernel_rfl) (loopsOK_of (ls := [loopAt (bodyOf fn_F81) [0]]) (by kernel_rfl) ⟨.inr ⟨_, by kernel_rfl, F55_L3_ok recv hrec⟩, trivial⟩) (fun v => by kernel_rfl)
theorem F55_ok : FOK Tryz.prog n_F81 F55_sh F55_fo F55 := FOK.rec (fun F h => F55_okr F h) recLim
theorem F55_free (recv : _ → Option _) (n : Int) (all b : List Dg) (i t29 t30 : Int) (t28 : List Dg) (d : Dg) (out : List (List Dg)) (hb : b.length < 1000000) :
  F55_L7 recv ((n, (all, (b, ((), (i, ((), (true, (t28, (t29, (t30, (b, ((b.length : Int), (0 : Int))))))))))))), ((), (out, d))) = some ((n, (all, (b, ((), (i, ((), (freeD d b, (t28, (t29, t30))))))))), ((), (out, d))) := by
 obtain ⟨d0, d1⟩ := d
 have key : ∀ m k (f : Bool), k + m = b.length → F55_L7 recv ((n, (all, (b, ((), (i, ((), (f, (t28, (t29, (t30, (b, ((b.length : Int), (k : Int))))))))))))), ((), (out, (d0, d1)))) = some ((n, (all, (b, ((), (i, ((), ((f && !(b.drop k).any (crossD (d0, d1))), (t28, (t29, t30))))))))), ((), (out, (d0, d1)))) := by
  intro m
  induction m with
  | zero =>
   intro k f hk
   have : k = b.length := by omega
   subst this
   simp only [F55_L7]
   exact loopO_done (by simp [F55_L7_step, T.run])
  | succ m ih =>
   intro k f hk
   have hlt : k < b.length := by omega
   have c0 : (k : Int) < (b.length : Int) := by omega
   have c1 : (0 : Int) ≤ (k : Int) ∧ (k : Int) < (b.length : Int) := by omega
   have w1 : w64 ((k : Int) + 1) = ((k + 1 : Nat) : Int) := by rw [w64_id (by omega) (by omega)]; omega
   rw [drop_gD hlt, List.any_cons]
   have ih := ih (k + 1) (f && !crossD (d0, d1) (gD b k)) (by omega)
   simp only [F55_L7] at ih ⊢
   have st : (F55_L7_step recv ((n, (all, (b, ((), (i, ((), (f, (t28, (t29, (t30, (b, ((b.length : Int), (k : Int))))))))))))), ((), (out, (d0, d1))))).run =
     some (.inl ((n, (all, (b, ((), (i, ((), ((f && !crossD (d0, d1) (gD b k)), (t28, (t29, (t30, (b, ((b.length : Int), ((k + 1 : Nat) : Int))))))))))))), ((), (out, (d0, d1))))) := by
    cases f with
    | true => simp only [F55_L7_step, T.run, c0, c1, decide_true, if_true, and_self, true_and, Int.toNat_natCast, gD_some hlt, Option.bind_some, F71_eq, w1, Bool.true_and]
    | false => simp only [F55_L7_step, T.run, c0, c1, decide_true, if_true, and_self, true_and, Int.toNat_natCast, gD_some hlt, Option.bind_some, w1, Bool.false_and, Bool.false_eq_true, if_false]
   rw [loopO_next st, ih]
   congr 2
   cases f <;> cases crossD (d0, d1) (gD b k) <;> simp
 have := key b.length 0 true (by omega)
 simpa [freeD] using this
theorem F55_loop (K : Nat) (t b : List Dg) (recv : _ → Option _) (hn : b.length < K ∧ K ≤ 1000) (ht : t.length ≤ 27) (hb : b.length < 1000) :
  ∀ (m i : Nat) (out : List (List Dg)), i + m = t.length → out.length + 2 ^ m ≤ 1000000000 →
  (∀ (j : Nat) (out : List (List Dg)), i ≤ j → j < t.length → out.length + 2 ^ (t.length - (j + 1)) ≤ 1000000000 →
   recv ((((K - (b.length + 1) : Nat) : Int), (t.drop (j + 1), (b ++ [gD t j], ()))), ((), out)) = some ((), ((), out ++ lookL K (t.drop (j + 1)) (b ++ [gD t j])))) →
  F55_L3 recv ((((K - b.length : Nat) : Int), (t, (b, ((), (t, ((t.length : Int), (i : Int))))))), ((), out)) = some ((), ((), out ++ goL K (t.drop i) b))
 | 0, i, out, hi, ho, hr => by
  have : i = t.length := by omega
  subst this
  rw [List.drop_length]
  simp only [F55_L3, goL, List.append_nil]
  exact loopO_done (by simp [F55_L3_step, T.run])
 | m + 1, i, out, hi, ho, hr => by
  have hlt : i < t.length := by omega
  have c0 : (i : Int) < (t.length : Int) := by omega
  have c2 : (0 : Int) ≤ (i : Int) ∧ (i : Int) < (t.length : Int) := by omega
  have w1 : w64 ((i : Int) + 1) = ((i + 1 : Nat) : Int) := by rw [w64_id (by omega) (by omega)]; omega
  have wl : w64 (((K - b.length : Nat) : Int) - 1) = ((K - (b.length + 1) : Nat) : Int) := by rw [w64_id (by omega) (by omega)]; omega
  have hp : 2 ^ (m + 1) = 2 ^ m + 2 ^ m := by rw [Nat.pow_succ]; omega
  have hp0 : 1 ≤ 2 ^ m := Nat.one_le_two_pow
  have hm : m = t.length - (i + 1) := by omega
  have hfree := F55_free recv ((K - b.length : Nat) : Int) t b (i : Int) (t.length : Int) (i : Int) t (gD t i) out (by omega)
  rw [drop_gD hlt, goL_cons]
  cases hf : freeD (gD t i) b with
  | false =>
   have ih := F55_loop K t b recv hn ht hb m (i + 1) out (by omega) (by omega) (fun j o h1 h2 h3 => hr j o (by omega) h2 h3)
   rw [hf] at hfree
   simp only [Bool.false_eq_true, if_false, List.nil_append]
   simp only [F55_L3] at ih ⊢
   rw [← ih]
   refine loopO_next ?_
   simp only [F55_L3_step, T.run, c0, c2, decide_true, if_true, true_and, and_self, Int.toNat_natCast, gD_some hlt, Option.bind_some, hfree, Bool.false_eq_true, if_false, w1]
  | true =>
   have hrec := hr i out (Nat.le_refl _) hlt (by rw [← hm]; omega)
   have hll := look_pow (t := t) (b := b ++ [gD t i]) (i := i) (k := K) hm
   have ih := F55_loop K t b recv hn ht hb m (i + 1) (out ++ lookL K (t.drop (i + 1)) (b ++ [gD t i])) (by omega) (by rw [List.length_append]; omega) (fun j o h1 h2 h3 => hr j o (by omega) h2 h3)
   rw [hf] at hfree
   simp only [if_true]
   rw [← List.append_assoc]
   simp only [F55_L3] at ih ⊢
   rw [← ih]
   refine loopO_next ?_
   have c1 : (0 : Int) ≤ ((i + 1 : Nat) : Int) := by omega
   have c3 : i + 1 ≤ t.length ∧ t.length ≤ t.length := by omega
   have c4 : 2 * ((0 + b.length) * (16 + 1)) ≤ 140737488355328 := by omega
   have c5 : 2 * ((0 + b.length + 1) * (16 + 1)) ≤ 140737488355328 := by omega
   have hw0 : win ([] : List Dg) 0 0 = [] := rfl
   have hw1 : win b 0 (0 + b.length) = b := by rw [Nat.zero_add]; exact win_all _
   have hl1 : (b ++ [gD t i]).length = 0 + b.length + 1 := by simp
   have hw2 : win (b ++ [gD t i]) 0 (0 + b.length + 1) = b ++ [gD t i] := by rw [← hl1]; exact win_all _
   have hw3 : win t (i + 1) (t.length - (i + 1)) = t.drop (i + 1) := by unfold win; rw [List.take_of_length_le (by rw [List.length_drop]; omega)]
   simp only [F55_L3_step, T.run, c0, c1, c2, c3, c4, c5, decide_true, if_true, true_and, and_self, Int.toNat_natCast, gD_some hlt, Option.bind_some, hfree, w1, wl, List.replicate_zero, hw0, List.nil_append, hw1, win_one, List.length_cons, List.length_nil, hw2, hw3, hrec, List.length_set, List.length_replicate, Nat.le_refl, List.length_append]
   simp
theorem F55_eq (K : Nat) (hK : K ≤ 1000) : ∀ (k : Nat) (t b : List Dg) (out : List (List Dg)), t.length ≤ 27 → t.length < k → b.length + t.length < 100 → b.length ≤ K → out.length + 2 ^ t.length ≤ 1000000000 →
  recN F55_f k ((((K - b.length : Nat) : Int), (t, (b, ()))), ((), out)) = some ((), ((), out ++ lookL K t b))
 | 0, t, b, out, ht, hk, hb, hbK, ho => absurd hk (Nat.not_lt_zero _)
 | k + 1, t, b, out, ht, hk, hb, hbK, ho => by
  show F55_f (recN F55_f k) _ = _
  have hp : 1 ≤ 2 ^ t.length := Nat.one_le_two_pow
  simp only [F55_f, F55_t, T.run]
  by_cases hl : b.length = K
  ·have e : (((K - b.length : Nat) : Int) == 0) = true := by simp; omega
   have c1 : 2 * ((out.length + 1) * (24 + 1)) ≤ 140737488355328 := by omega
   have c2 : 2 * (b.length * (16 + 1)) ≤ 140737488355328 := by omega
   have hone : win (List.set (List.replicate 1 ([] : List Dg)) 0 b) 0 1 = [b] := rfl
   have hw0 : win ([] : List Dg) 0 0 = [] := rfl
   have hw1 : win b 0 (0 + b.length) = b := by rw [Nat.zero_add]; exact win_all _
   unfold lookL
   rw [if_pos hl]
   simp only [e, if_true, List.replicate_zero, hw0, List.nil_append, hw1, c2, decide_true, hone, List.length_cons, List.length_nil, c1, win_all, List.length_set, List.length_replicate, Nat.le_refl, List.length_append, true_and, Nat.zero_add]
  ·have e : (((K - b.length : Nat) : Int) == 0) = false := by simp; omega
   unfold lookL
   rw [if_neg hl]
   have h3 := F55_loop K t b (recN F55_f k) ⟨by omega, hK⟩ ht (by omega) t.length 0 out (by omega) ho (fun j o h1 h2 h3 => by
    have := F55_eq K hK k (t.drop (j + 1)) (b ++ [gD t j]) o (by rw [List.length_drop]; omega) (by rw [List.length_drop]; omega) (by rw [List.length_drop, List.length_append, List.length_cons, List.length_nil]; omega) (by rw [List.length_append, List.length_singleton]; omega) (by rw [List.length_drop]; exact h3)
    rwa [List.length_append, List.length_singleton] at this)
   rw [List.drop_zero, Int.natCast_zero] at h3
   simp only [e, Bool.false_eq_true, if_false, true_and, decide_true, if_true, h3, Option.bind_some]
def F81_sh : FSh := ⟨[(.one (.si .i64)), (.one (.sl (.pair (.int .i64) (.int .i64)) false false)), (.one (.sl (.pair (.int .i64) (.int .i64)) false false)), (.one (.pf 0 0 0))], [(.rcd 0 [(.nl true true)])]⟩
def F81_L7_sh : LSh := ⟨(fun ex => match ex with | .norm => [(0, none), (1, none), (2, none), (3, none), (8, none), (9, none), (10, none), (25, none), (26, none), (27, none), (32, none), (33, none), (34, none)] | .exit i => if i = 2 then [(0, none), (1, none), (2, none), (3, none), (8, none), (9, none), (10, none), (25, none), (26, none), (27, none)] else if i = 1 then [(0, none), (1, none), (2, none), (3, none), (25, none), (26, none), (27, none)] else if i = 0 then [] else [] | .ret => []), [(0, (.one (.si .i64))), (1, (.one (.sl (.pair (.int .i64) (.int .i64)) false false))), (2, (.one (.sl (.pair (.int .i64) (.int .i64)) false false))), (3, (.one (.pf 0 0 0))), (8, (.one (.si .i64))), (9, (.one (.pf 2 0 0))), (10, (.one .sb)), (25, (.one (.sl (.pair (.int .i64) (.int .i64)) false false))), (26, (.one (.si .i64))), (27, (.one (.si .i64))), (32, (.one (.sl (.pair (.int .i64) (.int .i64)) false false))), (33, (.one (.si .i64))), (34, (.one (.si .i64)))], [(.rcd 0 [(.rw 1 0)]), (.row 0 (.list true (.pair (.int .i64) (.int .i64)))), (.rcd 0 [(.si .i64), (.si .i64)])], [⟨(.exit 2), [(0, (.one (.si .i64))), (1, (.one (.sl (.pair (.int .i64) (.int .i64)) false false))), (2, (.one (.sl (.pair (.int .i64) (.int .i64)) false false))), (3, (.one (.pf 0 0 0))), (8, (.one (.si .i64))), (9, (.one (.pf 2 0 0))), (10, (.one .sb)), (25, (.one (.sl (.pair (.int .i64) (.int .i64)) false false))), (26, (.one (.si .i64))), (27, (.one (.si .i64)))], [(.rcd 0 [(.rw 1 0)]), (.row 0 (.list true (.pair (.int .i64) (.int .i64)))), (.rcd 0 [(.si .i64), (.si .i64)])]⟩], [], []⟩
noncomputable def F81_L7_step : ((Int × List ((Int × Int)) × List ((Int × Int)) × Unit × Int × Unit × Bool × List ((Int × Int)) × Int × Int × List ((Int × Int)) × Int × Int) × (Unit × List (List ((Int × Int))) × (Int × Int))) → T (((Int × List ((Int × Int)) × List ((Int × Int)) × Unit × Int × Unit × Bool × List ((Int × Int)) × Int × Int × List ((Int × Int)) × Int × Int) × (Unit × List (List ((Int × Int))) × (Int × Int))) ⊕ ((Int × List ((Int × Int)) × List ((Int × Int)) × Unit × Int × Unit × Bool × List ((Int × Int)) × Int × Int) × (Unit × List (List ((Int × Int))) × (Int × Int)))) := fun ((left, all, begin, (), i, (), free, t25, t26, t27, t32, t33, t34), ((), out_r, (d_0, d_1))) =>
 (.test (decide (t34 < t33))
 (.test (decide ((0 ≤ t34) ∧ (t34 < (t32.length : Int))))
 (.sub (t32[(Int.toNat t34)]?) fun z0 =>
 (.test free
 (.sub (F71 ((d_0, d_1), (z0.1, z0.2))) fun z1 =>
 (.test (decide ((0 = 0) ∧ (out_r.length = out_r.length)))
 (.ret (Sum.inl ((left, (all, (begin, ((), (i, ((), ((! z1), (t25, (t26, (t27, (t32, (t33, (w64 (t34 + 1)))))))))))))), ((), (out_r, (d_0, d_1))))))
 .fail))
 (.test (decide ((0 = 0) ∧ (out_r.length = out_r.length)))
 (.ret (Sum.inl ((left, (all, (begin, ((), (i, ((), (false, (t25, (t26, (t27, (t32, (t33, (w64 (t34 + 1)))))))))))))), ((), (out_r, (d_0, d_1))))))
 .fail)))
 .fail)
 (.test (decide ((0 = 0) ∧ (out_r.length = out_r.length)))
 (.ret (Sum.inr ((left, (all, (begin, ((), (i, ((), (free, (t25, (t26, t27))))))))), ((), (out_r, (d_0, d_1))))))
 .fail))
noncomputable def F81_L7 (v) := loopO (fun v => (F81_L7_step v).run) v
def F81_L3_sh : LSh := ⟨(fun ex => match ex with | .norm => [(0, none), (1, none), (2, none), (3, none), (25, none), (26, none), (27, none)] | .exit i => if i = 0 then [] else [] | .ret => []), [(0, (.one (.si .i64))), (1, (.one (.sl (.pair (.int .i64) (.int .i64)) false false))), (2, (.one (.sl (.pair (.int .i64) (.int .i64)) false false))), (3, (.one (.pf 0 0 0))), (25, (.one (.sl (.pair (.int .i64) (.int .i64)) false false))), (26, (.one (.si .i64))), (27, (.one (.si .i64)))], [(.rcd 0 [(.rw 1 0)]), (.row 0 (.list true (.pair (.int .i64) (.int .i64))))], [⟨(.exit 0), [], [(.rcd 0 [(.rw 1 0)]), (.row 0 (.list true (.pair (.int .i64) (.int .i64))))]⟩], [(0, 0, (.list true (.pair (.int .i64) (.int .i64))))], []⟩
noncomputable def F81_L3_step : ((Int × List ((Int × Int)) × List ((Int × Int)) × Unit × List ((Int × Int)) × Int × Int) × (Unit × List (List ((Int × Int))))) → T (((Int × List ((Int × Int)) × List ((Int × Int)) × Unit × List ((Int × Int)) × Int × Int) × (Unit × List (List ((Int × Int))))) ⊕ (Unit × (Unit × List (List ((Int × Int)))))) := fun ((left, all, begin, (), t25, t26, t27), ((), out_r)) =>
 (.test (decide (t27 < t26))
 (.test (decide ((0 ≤ t27) ∧ (t27 < (t25.length : Int))))
 (.sub (t25[(Int.toNat t27)]?) fun z0 =>
 (.test (decide ((0 = 0) ∧ (out_r.length = out_r.length)))
 (.sub (F81_L7 ((left, (all, (begin, ((), (t27, ((), (true, (t25, (t26, (t27, (begin, ((begin.length : Int), (0 : Int))))))))))))), ((), (out_r, (z0.1, z0.2))))) fun z1 =>
 (.test z1.1.2.2.2.2.2.2.1
 (.test (decide (0 ≤ (w64 (z1.1.2.2.2.2.1 + 1))))
 (.test (decide (((Int.toNat (w64 (z1.1.2.2.2.2.1 + 1))) ≤ z1.1.2.1.length) ∧ (z1.1.2.1.length ≤ z1.1.2.1.length)))
 (.test true
 (.test (decide ((2 * ((0 + z1.1.2.2.1.length) * 17)) ≤ 140737488355328))
 (.test (decide (1 ≤ (List.length (List.set (List.replicate 1 ((0 : Int), (0 : Int))) 0 (z1.2.2.2.1, z1.2.2.2.2)))))
 (.test (decide ((0 + (0 + z1.1.2.2.1.length)) ≤ (List.length ((win (List.replicate 0 ((0 : Int), (0 : Int))) 0 0) ++ z1.1.2.2.1))))
 (.test (decide ((2 * (((0 + z1.1.2.2.1.length) + (List.length (win (List.set (List.replicate 1 ((0 : Int), (0 : Int))) 0 (z1.2.2.2.1, z1.2.2.2.2)) 0 1))) * 17)) ≤ 140737488355328))
 (.test (decide ((0 + ((0 + z1.1.2.2.1.length) + (List.length (win (List.set (List.replicate 1 ((0 : Int), (0 : Int))) 0 (z1.2.2.2.1, z1.2.2.2.2)) 0 1)))) ≤ (List.length ((win ((win (List.replicate 0 ((0 : Int), (0 : Int))) 0 0) ++ z1.1.2.2.1) 0 (0 + z1.1.2.2.1.length)) ++ (win (List.set (List.replicate 1 ((0 : Int), (0 : Int))) 0 (z1.2.2.2.1, z1.2.2.2.2)) 0 1)))))
 (.test (decide ((0 = 0) ∧ (z1.2.2.1.length = z1.2.2.1.length)))
 (.sub (F55 (((w64 (z1.1.1 - 1)), ((win z1.1.2.1 (Int.toNat (w64 (z1.1.2.2.2.2.1 + 1))) (z1.1.2.1.length - (Int.toNat (w64 (z1.1.2.2.2.2.1 + 1))))), ((win ((win ((win (List.replicate 0 ((0 : Int), (0 : Int))) 0 0) ++ z1.1.2.2.1) 0 (0 + z1.1.2.2.1.length)) ++ (win (List.set (List.replicate 1 ((0 : Int), (0 : Int))) 0 (z1.2.2.2.1, z1.2.2.2.2)) 0 1)) 0 ((0 + z1.1.2.2.1.length) + (List.length (win (List.set (List.replicate 1 ((0 : Int), (0 : Int))) 0 (z1.2.2.2.1, z1.2.2.2.2)) 0 1)))), ()))), ((), z1.2.2.1))) fun z2 =>
 (.test (decide ((0 = 0) ∧ (z2.2.2.length = z2.2.2.length)))
 (.ret (Sum.inl ((z1.1.1, (z1.1.2.1, (z1.1.2.2.1, ((), (z1.1.2.2.2.2.2.2.2.1, (z1.1.2.2.2.2.2.2.2.2.1, (w64 (z1.1.2.2.2.2.2.2.2.2.2 + 1)))))))), ((), z2.2.2))))
 .fail))
 .fail)
 .fail)
 .fail)
 .fail)
 .fail)
 .fail)
 .fail)
 .fail)
 .fail)
 (.test (decide ((0 = 0) ∧ (z1.2.2.1.length = z1.2.2.1.length)))
 (.ret (Sum.inl ((z1.1.1, (z1.1.2.1, (z1.1.2.2.1, ((), (z1.1.2.2.2.2.2.2.2.1, (z1.1.2.2.2.2.2.2.2.2.1, (w64 (z1.1.2.2.2.2.2.2.2.2.2 + 1)))))))), ((), z1.2.2.1))))
 .fail)))
 .fail))
 .fail)
 (.test (decide ((0 = 0) ∧ (out_r.length = out_r.length)))
 (.ret (Sum.inr ((), ((), out_r))))
 .fail))
noncomputable def F81_L3 (v) := loopO (fun v => (F81_L3_step v).run) v
def F81_fo : List FO := [⟨[], [(.rcd 0 [(.rw 1 0)]), (.row 0 (.list true (.pair (.int .i64) (.int .i64))))]⟩]
noncomputable def F81_t : ((Int × List ((Int × Int)) × List ((Int × Int)) × Unit) × Unit) → T (Unit × (Unit × List (List ((Int × Int))))) := fun ((left, all, begin, ()), ()) =>
 (.test (left == 0)
 (.test true
 (.test (decide ((2 * ((0 + begin.length) * 17)) ≤ 140737488355328))
 (.test (decide ((0 + (0 + begin.length)) ≤ (List.length ((win (List.replicate 0 ((0 : Int), (0 : Int))) 0 0) ++ begin))))
 (.test (decide (1 ≤ (List.length (List.set (List.replicate 1 ([] : List (Int × Int))) 0 (win ((win (List.replicate 0 ((0 : Int), (0 : Int))) 0 0) ++ begin) 0 (0 + begin.length))))))
 (.test (decide (¬ (((List.length (win (List.set (List.replicate 1 ([] : List (Int × Int))) 0 (win ((win (List.replicate 0 ((0 : Int), (0 : Int))) 0 0) ++ begin) 0 (0 + begin.length))) 0 1)) = 0) ∧ (0 ≠ 0))))
 (.test (decide ((2 * ((0 + (List.length (win (List.set (List.replicate 1 ([] : List (Int × Int))) 0 (win ((win (List.replicate 0 ((0 : Int), (0 : Int))) 0 0) ++ begin) 0 (0 + begin.length))) 0 1))) * 25)) ≤ 140737488355328))
 (.test (decide ((0 = 0) ∧ ((0 + (List.length (win (List.set (List.replicate 1 ([] : List (Int × Int))) 0 (win ((win (List.replicate 0 ((0 : Int), (0 : Int))) 0 0) ++ begin) 0 (0 + begin.length))) 0 1))) = (List.length (([] : List (List (Int × Int))) ++ (win (List.set (List.replicate 1 ([] : List (Int × Int))) 0 (win ((win (List.replicate 0 ((0 : Int), (0 : Int))) 0 0) ++ begin) 0 (0 + begin.length))) 0 1))))))
 (.ret ((), ((), (([] : List (List (Int × Int))) ++ (win (List.set (List.replicate 1 ([] : List (Int × Int))) 0 (win ((win (List.replicate 0 ((0 : Int), (0 : Int))) 0 0) ++ begin) 0 (0 + begin.length))) 0 1)))))
 .fail)
 .fail)
 .fail)
 .fail)
 .fail)
 .fail)
 .fail)
 (.test true
 (.sub (F81_L3 ((left, (all, (begin, ((), (all, ((all.length : Int), (0 : Int))))))), ((), ([] : List (List (Int × Int)))))) fun z0 =>
 (.test (decide ((0 = 0) ∧ (z0.2.2.length = z0.2.2.length)))
 (.ret ((), ((), z0.2.2)))
 .fail))
 .fail))
noncomputable def F81 (v) := (F81_t v).run
noncomputable def F81_E : TEnv := ((E0.add1 n_F71 F71_sh F71_fo F71).add1 n_F81 F55_sh F55_fo F55)
theorem F81_Eok : (F81_E).OK := ((E0ok.add1 F71_ok).add1 F55_ok)
noncomputable def F81_told : Nat → Option SealT := fun id => if id = 7 then some (LSh.told F81_L7_sh 1 (F81_L7_step)) else if id = 3 then some (LSh.told F81_L3_sh 1 (F81_L3_step)) else none
theorem F81_L7_ok : ToldOK Tryz.prog 1 (loopAt (bodyOf fn_F81) [0, 0]) (LSh.told F81_L7_sh 1 (F81_L7_step)) :=
 loop_ok (E := F81_E) (F81_Eok) (told := F81_told) (l := F81_L7_sh) (step := F81_L7_step) (loopsOK_of (ls := []) (by kernel_rfl) trivial) (by kernel_rfl) (fun v => by kernel_rfl)
theorem F81_L3_ok : ToldOK Tryz.prog 1 (loopAt (bodyOf fn_F81) [0]) (LSh.told F81_L3_sh 1 (F81_L3_step)) :=
 loop_ok (E := F81_E) (F81_Eok) (told := F81_told) (l := F81_L3_sh) (step := F81_L3_step) (loopsOK_of (ls := [loopAt (bodyOf fn_F81) [0, 0]]) (by kernel_rfl) ⟨.inr ⟨_, by kernel_rfl, F81_L7_ok⟩, trivial⟩) (by kernel_rfl) (fun v => by kernel_rfl)
theorem F81_ok : FOK Tryz.prog n_F81 F81_sh F81_fo F81 :=
 fn_ok (E := F81_E) (F81_Eok) (told := F81_told) (fl := []) (c := bodyOf fn_F81) (s := F81_sh) (l := F81_fo) (tree := F81_t) fnat_F81 (by kernel_rfl) (by kernel_rfl) (by kernel_rfl) (loopsOK_of (ls := [loopAt (bodyOf fn_F81) [0]]) (by kernel_rfl) ⟨.inr ⟨_, by kernel_rfl, F81_L3_ok⟩, trivial⟩) (fun v => by kernel_rfl)
theorem F81_free (n : Int) (all b : List Dg) (i t29 t30 : Int) (t28 : List Dg) (d : Dg) (out : List (List Dg)) (hb : b.length < 1000000) :
  F81_L7 ((n, (all, (b, ((), (i, ((), (true, (t28, (t29, (t30, (b, ((b.length : Int), (0 : Int))))))))))))), ((), (out, d))) = some ((n, (all, (b, ((), (i, ((), (freeD d b, (t28, (t29, t30))))))))), ((), (out, d))) := by
 obtain ⟨d0, d1⟩ := d
 have key : ∀ m k (f : Bool), k + m = b.length → F81_L7 ((n, (all, (b, ((), (i, ((), (f, (t28, (t29, (t30, (b, ((b.length : Int), (k : Int))))))))))))), ((), (out, (d0, d1)))) = some ((n, (all, (b, ((), (i, ((), ((f && !(b.drop k).any (crossD (d0, d1))), (t28, (t29, t30))))))))), ((), (out, (d0, d1)))) := by
  intro m
  induction m with
  | zero =>
   intro k f hk
   have : k = b.length := by omega
   subst this
   simp only [F81_L7]
   exact loopO_done (by simp [F81_L7_step, T.run])
  | succ m ih =>
   intro k f hk
   have hlt : k < b.length := by omega
   have c0 : (k : Int) < (b.length : Int) := by omega
   have c1 : (0 : Int) ≤ (k : Int) ∧ (k : Int) < (b.length : Int) := by omega
   have w1 : w64 ((k : Int) + 1) = ((k + 1 : Nat) : Int) := by rw [w64_id (by omega) (by omega)]; omega
   rw [drop_gD hlt, List.any_cons]
   have ih := ih (k + 1) (f && !crossD (d0, d1) (gD b k)) (by omega)
   simp only [F81_L7] at ih ⊢
   have st : (F81_L7_step ((n, (all, (b, ((), (i, ((), (f, (t28, (t29, (t30, (b, ((b.length : Int), (k : Int))))))))))))), ((), (out, (d0, d1))))).run =
     some (.inl ((n, (all, (b, ((), (i, ((), ((f && !crossD (d0, d1) (gD b k)), (t28, (t29, (t30, (b, ((b.length : Int), ((k + 1 : Nat) : Int))))))))))))), ((), (out, (d0, d1))))) := by
    cases f with
    | true => simp only [F81_L7_step, T.run, c0, c1, decide_true, if_true, and_self, true_and, Int.toNat_natCast, gD_some hlt, Option.bind_some, F71_eq, w1, Bool.true_and]
    | false => simp only [F81_L7_step, T.run, c0, c1, decide_true, if_true, and_self, true_and, Int.toNat_natCast, gD_some hlt, Option.bind_some, w1, Bool.false_and, Bool.false_eq_true, if_false]
   rw [loopO_next st, ih]
   congr 2
   cases f <;> cases crossD (d0, d1) (gD b k) <;> simp
 have := key b.length 0 true (by omega)
 simpa [freeD] using this
theorem F81_loop (K : Nat) (t b : List Dg) (hn : b.length < K ∧ K ≤ 1000) (ht : t.length ≤ 27) (hb : b.length < 50) :
  ∀ (m i : Nat) (out : List (List Dg)), i + m = t.length → out.length + 2 ^ m ≤ 1000000000 →
  F81_L3 ((((K - b.length : Nat) : Int), (t, (b, ((), (t, ((t.length : Int), (i : Int))))))), ((), out)) = some ((), ((), out ++ goL K (t.drop i) b))
 | 0, i, out, hi, ho => by
  have : i = t.length := by omega
  subst this
  rw [List.drop_length]
  simp only [F81_L3, goL, List.append_nil]
  exact loopO_done (by simp [F81_L3_step, T.run])
 | m + 1, i, out, hi, ho => by
  have hlt : i < t.length := by omega
  have c0 : (i : Int) < (t.length : Int) := by omega
  have c2 : (0 : Int) ≤ (i : Int) ∧ (i : Int) < (t.length : Int) := by omega
  have w1 : w64 ((i : Int) + 1) = ((i + 1 : Nat) : Int) := by rw [w64_id (by omega) (by omega)]; omega
  have wl : w64 (((K - b.length : Nat) : Int) - 1) = ((K - (b.length + 1) : Nat) : Int) := by rw [w64_id (by omega) (by omega)]; omega
  have hp : 2 ^ (m + 1) = 2 ^ m + 2 ^ m := by rw [Nat.pow_succ]; omega
  have hp0 : 1 ≤ 2 ^ m := Nat.one_le_two_pow
  have hm : m = t.length - (i + 1) := by omega
  have hfree := F81_free ((K - b.length : Nat) : Int) t b (i : Int) (t.length : Int) (i : Int) t (gD t i) out (by omega)
  rw [drop_gD hlt, goL_cons]
  cases hf : freeD (gD t i) b with
  | false =>
   have ih := F81_loop K t b hn ht hb m (i + 1) out (by omega) (by omega)
   rw [hf] at hfree
   simp only [Bool.false_eq_true, if_false, List.nil_append]
   simp only [F81_L3] at ih ⊢
   rw [← ih]
   refine loopO_next ?_
   simp only [F81_L3_step, T.run, c0, c2, decide_true, if_true, true_and, and_self, Int.toNat_natCast, gD_some hlt, Option.bind_some, hfree, Bool.false_eq_true, if_false, w1]
  | true =>
   have hll := look_pow (t := t) (b := b ++ [gD t i]) (i := i) (k := K) hm
   have hrec : F55 ((((K - (b.length + 1) : Nat) : Int), (t.drop (i + 1), (b ++ [gD t i], ()))), ((), out)) = some ((), ((), out ++ lookL K (t.drop (i + 1)) (b ++ [gD t i]))) :=
    by
     have := F55_eq K hn.2 recLim (t.drop (i + 1)) (b ++ [gD t i]) out (by rw [List.length_drop]; omega) (by rw [List.length_drop]; unfold recLim; omega) (by rw [List.length_drop, List.length_append, List.length_cons, List.length_nil]; omega) (by rw [List.length_append, List.length_singleton]; omega) (by rw [List.length_drop, ← hm]; omega)
     rwa [List.length_append, List.length_singleton] at this
   have ih := F81_loop K t b hn ht hb m (i + 1) (out ++ lookL K (t.drop (i + 1)) (b ++ [gD t i])) (by omega) (by rw [List.length_append]; omega)
   rw [hf] at hfree
   simp only [if_true]
   rw [← List.append_assoc]
   simp only [F81_L3] at ih ⊢
   rw [← ih]
   refine loopO_next ?_
   have c1 : (0 : Int) ≤ ((i + 1 : Nat) : Int) := by omega
   have c3 : i + 1 ≤ t.length ∧ t.length ≤ t.length := by omega
   have c4 : 2 * ((0 + b.length) * 17) ≤ 140737488355328 := by omega
   have c5 : 2 * ((0 + b.length + 1) * 17) ≤ 140737488355328 := by omega
   have hw0 : win ([] : List Dg) 0 0 = [] := rfl
   have hw1 : win b 0 (0 + b.length) = b := by rw [Nat.zero_add]; exact win_all _
   have hl1 : (b ++ [gD t i]).length = 0 + b.length + 1 := by simp
   have hw2 : win (b ++ [gD t i]) 0 (0 + b.length + 1) = b ++ [gD t i] := by rw [← hl1]; exact win_all _
   have hw3 : win t (i + 1) (t.length - (i + 1)) = t.drop (i + 1) := by unfold win; rw [List.take_of_length_le (by rw [List.length_drop]; omega)]
   simp only [F81_L3_step, T.run, c0, c1, c2, c3, c4, c5, decide_true, if_true, true_and, and_self, Int.toNat_natCast, gD_some hlt, Option.bind_some, hfree, w1, wl, List.replicate_zero, hw0, List.nil_append, hw1, win_one, List.length_cons, List.length_nil, hw2, hw3, hrec, List.length_set, List.length_replicate, Nat.le_refl, List.length_append]
   simp
theorem F81_eq (K : Nat) (hK : K ≤ 40) (t : List Dg) (ht : t.length ≤ 27) : F81 (((K : Int), (t, (([] : List Dg), ()))), ()) = some ((), ((), lookL K t [])) := by
 simp only [F81, F81_t, T.run]
 by_cases hl : K = 0
 ·subst hl
  have hw0 : win ([] : List Dg) 0 0 = [] := rfl
  have hone : win (List.set (List.replicate 1 ([] : List Dg)) 0 ([] : List Dg)) 0 1 = [[]] := rfl
  have hw9 : win ([[]] : List (List Dg)) 0 1 = [[]] := rfl
  simp [lookL, hw0, hw9]
 ·have e : ((K : Int) == 0) = false := by simp; omega
  unfold lookL
  have hne : ¬ ([] : List Dg).length = K := by simp; omega
  rw [if_neg hne]
  have hp : 2 ^ t.length ≤ 2 ^ 27 := Nat.pow_le_pow_right (by omega) ht
  have h27 : (2 : Nat) ^ 27 = 134217728 := by decide
  have h3 := F81_loop K t [] ⟨by simp; omega, by omega⟩ ht (by simp) t.length 0 [] (by omega) (by simp only [List.length_nil]; omega)
  rw [List.drop_zero, Int.natCast_zero, List.nil_append, List.length_nil, Nat.sub_zero] at h3
  simp only [e, Bool.false_eq_true, if_false, decide_true, if_true, h3, Option.bind_some, true_and]
def F95_sh : FSh := ⟨[(.one (.si .i64)), (.one (.si .i64))], []⟩
def F95_L6_sh : LSh := ⟨(fun ex => match ex with | .norm => [(0, none), (1, none), (5, none), (6, none), (7, none)] | .exit i => if i = 2 then [(0, none), (1, none), (5, none), (6, none)] else if i = 1 then [(0, none), (1, none), (5, none), (6, none)] else if i = 0 then [(1, none), (5, none)] else [] | .ret => [(4, none)]), [(0, (.one (.si .i64))), (1, (.one (.si .i64))), (5, (.one (.rw 0 0))), (6, (.one (.si .i64))), (7, (.one (.si .i64)))], [(.row 0 (.pair (.int .i64) (.int .i64)))], [⟨(.exit 2), [(0, (.one (.si .i64))), (1, (.one (.si .i64))), (5, (.one (.rw 0 0))), (6, (.one (.si .i64)))], [(.row 0 (.pair (.int .i64) (.int .i64)))]⟩], [], []⟩
noncomputable def F95_L6_step : ((Int × Int × Unit × Int × Int) × List ((Int × Int))) → T (((Int × Int × Unit × Int × Int) × List ((Int × Int))) ⊕ ((Int × Int × Unit × Int) × List ((Int × Int)))) := fun ((n, diagonals, (), a, b), all) =>
 (.test (decide (b < n))
 (.sub (F46 (n, (a, b))) fun z0 =>
 (.test z0
 (.test (decide (1 ≤ (List.length (List.set (List.replicate 1 ((0 : Int), (0 : Int))) 0 (a, b)))))
 (.test (decide ((0 + all.length) ≤ all.length))
 (.test (decide ((2 * ((all.length + (List.length (win (List.set (List.replicate 1 ((0 : Int), (0 : Int))) 0 (a, b)) 0 1))) * 17)) ≤ 140737488355328))
 (.test (decide ((0 = 0) ∧ ((all.length + (List.length (win (List.set (List.replicate 1 ((0 : Int), (0 : Int))) 0 (a, b)) 0 1))) = (List.length ((win all 0 all.length) ++ (win (List.set (List.replicate 1 ((0 : Int), (0 : Int))) 0 (a, b)) 0 1))))))
 (.ret (Sum.inl ((n, (diagonals, ((), (a, (w64 (b + 1)))))), ((win all 0 all.length) ++ (win (List.set (List.replicate 1 ((0 : Int), (0 : Int))) 0 (a, b)) 0 1)))))
 .fail)
 .fail)
 .fail)
 .fail)
 (.test (decide ((0 = 0) ∧ (all.length = all.length)))
 (.ret (Sum.inl ((n, (diagonals, ((), (a, (w64 (b + 1)))))), all)))
 .fail)))
 (.test (decide ((0 = 0) ∧ (all.length = all.length)))
 (.ret (Sum.inr ((n, (diagonals, ((), a))), all)))
 .fail))
noncomputable def F95_L6 (v) := loopO (fun v => (F95_L6_step v).run) v
def F95_L3_sh : LSh := ⟨(fun ex => match ex with | .norm => [(0, none), (1, none), (5, none), (6, none)] | .exit i => if i = 0 then [(1, none), (5, none)] else [] | .ret => [(4, none)]), [(0, (.one (.si .i64))), (1, (.one (.si .i64))), (5, (.one (.rw 0 0))), (6, (.one (.si .i64)))], [(.row 0 (.pair (.int .i64) (.int .i64)))], [⟨(.exit 0), [(1, (.one (.si .i64))), (5, (.one (.rw 0 0)))], [(.row 0 (.pair (.int .i64) (.int .i64)))]⟩], [], []⟩
noncomputable def F95_L3_step : ((Int × Int × Unit × Int) × List ((Int × Int))) → T (((Int × Int × Unit × Int) × List ((Int × Int))) ⊕ ((Int × Unit) × List ((Int × Int)))) := fun ((n, diagonals, (), a), all) =>
 (.test (decide (a < n))
 (.test (decide ((0 = 0) ∧ (all.length = all.length)))
 (.sub (F95_L6 ((n, (diagonals, ((), (a, (w64 (a + 2)))))), all)) fun z0 =>
 (.test (decide ((0 = 0) ∧ (z0.2.length = z0.2.length)))
 (.ret (Sum.inl ((z0.1.1, (z0.1.2.1, ((), (w64 (z0.1.2.2.2 + 1))))), z0.2)))
 .fail))
 .fail)
 (.test (decide ((0 = 0) ∧ (all.length = all.length)))
 (.ret (Sum.inr ((diagonals, ()), all)))
 .fail))
noncomputable def F95_L3 (v) := loopO (fun v => (F95_L3_step v).run) v
def F95_fo : List FO := [⟨[(.one (.rw 0 0))], [(.row 0 (.list true (.pair (.int .i64) (.int .i64))))]⟩]
noncomputable def F95_t : (Int × Int) → T (Unit × List (List ((Int × Int)))) := fun (n, diagonals) =>
 (.test true
 (.sub (F95_L3 ((n, (diagonals, ((), (0 : Int)))), ([] : List (Int × Int)))) fun z0 =>
 (.test (decide ((0 + z0.2.length) ≤ z0.2.length))
 (.sub (F81 ((z0.1.1, ((win z0.2 0 z0.2.length), (([] : List (Int × Int)), ()))), ())) fun z1 =>
 (.test (decide ((0 = 0) ∧ (z1.2.2.length = z1.2.2.length)))
 (.ret ((), z1.2.2))
 .fail))
 .fail))
 .fail)
noncomputable def F95 (v) := (F95_t v).run
noncomputable def F95_E : TEnv := ((E0.add1 n_F46 F46_sh F46_fo F46).add1 n_F81 F81_sh F81_fo F81)
theorem F95_Eok : (F95_E).OK := ((E0ok.add1 F46_ok).add1 F81_ok)
noncomputable def F95_told : Nat → Option SealT := fun id => if id = 6 then some (LSh.told F95_L6_sh 0 (F95_L6_step)) else if id = 3 then some (LSh.told F95_L3_sh 0 (F95_L3_step)) else none
theorem F95_L6_ok : ToldOK Tryz.prog 0 (loopAt (bodyOf fn_F95) [0, 0]) (LSh.told F95_L6_sh 0 (F95_L6_step)) :=
 loop_ok (E := F95_E) (F95_Eok) (told := F95_told) (l := F95_L6_sh) (step := F95_L6_step) (loopsOK_of (ls := []) (by kernel_rfl) trivial) (by kernel_rfl) (fun v => by kernel_rfl)
theorem F95_L3_ok : ToldOK Tryz.prog 0 (loopAt (bodyOf fn_F95) [0]) (LSh.told F95_L3_sh 0 (F95_L3_step)) :=
 loop_ok (E := F95_E) (F95_Eok) (told := F95_told) (l := F95_L3_sh) (step := F95_L3_step) (loopsOK_of (ls := [loopAt (bodyOf fn_F95) [0, 0]]) (by kernel_rfl) ⟨.inr ⟨_, by kernel_rfl, F95_L6_ok⟩, trivial⟩) (by kernel_rfl) (fun v => by kernel_rfl)
theorem F95_ok : FOK Tryz.prog n_F95 F95_sh F95_fo F95 :=
 fn_ok (E := F95_E) (F95_Eok) (told := F95_told) (fl := []) (c := bodyOf fn_F95) (s := F95_sh) (l := F95_fo) (tree := F95_t) fnat_F95 (by kernel_rfl) (by kernel_rfl) (by kernel_rfl) (loopsOK_of (ls := [loopAt (bodyOf fn_F95) [0]]) (by kernel_rfl) ⟨.inr ⟨_, by kernel_rfl, F95_L3_ok⟩, trivial⟩) (fun v => by kernel_rfl)
theorem F95_row (n a : Nat) (K : Int) (hn : 3 ≤ n ∧ n ≤ 9) : ∀ (m b : Nat) (out : List Dg), b + m = n → out.length + m ≤ 1000000 →
  F95_L6 (((n : Int), (K, ((), ((a : Int), (b : Int))))), out) = some (((n : Int), (K, ((), (a : Int)))), out ++ rowD n a b)
 | 0, b, out, hb, ho => by
  have : b = n := by omega
  subst this
  rw [rowD_end, List.append_nil]
  simp only [F95_L6]
  exact loopO_done (by simp [F95_L6_step, T.run])
 | m + 1, b, out, hb, ho => by
  have c0 : (b : Int) < (n : Int) := by omega
  have w1 : w64 ((b : Int) + 1) = ((b + 1 : Nat) : Int) := by rw [w64_id (by omega) (by omega)]; omega
  have c1 : 2 * ((out.length + 1) * 17) ≤ 140737488355328 := by omega
  have hd := F46_eq (n : Int) ((a : Int), (b : Int)) (by omega) (by omega)
  rw [rowD_step (by omega : b < n)]
  cases hg : inDg n ((a : Int), (b : Int)) with
  | true =>
   have ih := F95_row n a K hn m (b + 1) (out ++ [((a : Int), (b : Int))]) (by omega) (by simp; omega)
   simp only [F95_L6] at ih ⊢
   rw [hg] at hd
   have st : (F95_L6_step (((n : Int), (K, ((), ((a : Int), (b : Int))))), out)).run = some (.inl (((n : Int), (K, ((), ((a : Int), ((b + 1 : Nat) : Int))))), out ++ [((a : Int), (b : Int))])) := by
    simp only [F95_L6_step, T.run, c0, hd, decide_true, if_true, Option.bind_some, win_one, win_all, List.length_cons, List.length_nil, Nat.zero_add, c1, w1, List.length_set, List.length_replicate, Nat.le_refl, List.length_append, true_and]
   rw [loopO_next st, ih]
   simp
  | false =>
   have ih := F95_row n a K hn m (b + 1) out (by omega) (by omega)
   simp only [F95_L6] at ih ⊢
   rw [hg] at hd
   have st : (F95_L6_step (((n : Int), (K, ((), ((a : Int), (b : Int))))), out)).run = some (.inl (((n : Int), (K, ((), ((a : Int), ((b + 1 : Nat) : Int))))), out)) := by
    simp only [F95_L6_step, T.run, c0, hd, decide_true, if_true, Option.bind_some, Bool.false_eq_true, if_false, w1, true_and]
   rw [loopO_next st, ih]
   simp
theorem F95_rows (n : Nat) (K : Int) (hn : 3 ≤ n ∧ n ≤ 9) : ∀ (m a : Nat) (out : List Dg), a + m = n → out.length ≤ 1000 * a →
  F95_L3 (((n : Int), (K, ((), (a : Int)))), out) = some ((K, ()), out ++ rowsD n a)
 | 0, a, out, ha, ho => by
  have : a = n := by omega
  subst this
  rw [rowsD_end, List.append_nil]
  simp only [F95_L3]
  exact loopO_done (by simp [F95_L3_step, T.run])
 | m + 1, a, out, ha, ho => by
  have c0 : (a : Int) < (n : Int) := by omega
  have w1 : w64 ((a : Int) + 1) = ((a + 1 : Nat) : Int) := by rw [w64_id (by omega) (by omega)]; omega
  have w2 : w64 ((a : Int) + 2) = ((a + 2 : Nat) : Int) := by rw [w64_id (by omega) (by omega)]; omega
  have hr : F95_L6 (((n : Int), (K, ((), ((a : Int), ((a + 2 : Nat) : Int))))), out) = some (((n : Int), (K, ((), (a : Int)))), out ++ rowD n a 0) := by
   by_cases h : a + 2 ≤ n
   ·have hr := F95_row n a K hn (n - (a + 2)) (a + 2) out (by omega) (by omega)
    rwa [← rowD_front n a (a + 2) (by omega)] at hr
   ·rw [rowD_front n a (a + 1) (by omega), show a + 1 = n by omega, rowD_end, List.append_nil]
    simp only [F95_L6]
    have : ¬ (((a + 2 : Nat) : Int) < (n : Int)) := by omega
    exact loopO_done (by simp only [F95_L6_step, T.run, this]; simp)
  have hl := rowD_len n a 0
  have ih := F95_rows n K hn m (a + 1) (out ++ rowD n a 0) (by omega) (by rw [List.length_append]; omega)
  rw [rowsD_step (by omega : a < n), ← List.append_assoc]
  simp only [F95_L3] at ih ⊢
  rw [← ih]
  refine loopO_next ?_
  simp only [F95_L3_step, T.run, c0, decide_true, if_true, true_and, w1, w2, hr, Option.bind_some]
theorem F95_eq (n K : Nat) (hn : 3 ≤ n ∧ n ≤ 9) (hK : K ≤ 40) : F95 ((n : Int), (K : Int)) = some ((), lookL K (dgL n) []) := by
 have h := F95_rows n (K : Int) hn n 0 [] (by omega) (by simp)
 have e : rowsD n 0 = dgL n := by unfold rowsD; rw [List.drop_zero, dgL_rows]
 rw [e, List.nil_append, Int.natCast_zero] at h
 simp only [F95, F95_t, T.run, decide_true, if_true, h, Option.bind_some, Nat.zero_add, Nat.le_refl, win_all, F81_eq K hK (dgL n) (dgL_len n hn.2)]
 rfl
def F72_sh : FSh := ⟨[(.one (.si .i64)), (.one (.si .i64))], []⟩
def F72_fo : List FO := [⟨[(.one (.rw 0 0)), (.one .sb)], [(.row 0 (.list true (.pair (.int .i64) (.int .i64))))]⟩]
noncomputable def F72_t : (Int × Int) → T ((Unit × Bool) × List (List ((Int × Int)))) := fun (n, diagonals) =>
 (.sub (F112 (n, ((3 : Int), (8 : Int)))) fun z0 =>
 (.test (! z0)
 (.test true
 (.ret (((), false), ([] : List (List (Int × Int)))))
 .fail)
 (.sub (F112 (diagonals, ((0 : Int), (w64 (n - 3))))) fun z1 =>
 (.test (! z1)
 (.test true
 (.ret (((), false), ([] : List (List (Int × Int)))))
 .fail)
 (.sub (F95 (n, diagonals)) fun z2 =>
 (.test (decide ((0 = 0) ∧ (z2.2.length = z2.2.length)))
 (.ret (((), true), z2.2))
 .fail))))))
noncomputable def F72 (v) := (F72_t v).run
noncomputable def F72_E : TEnv := ((E0.add1 n_F112 F112_sh F112_fo F112).add1 n_F95 F95_sh F95_fo F95)
theorem F72_Eok : (F72_E).OK := ((E0ok.add1 F112_ok).add1 F95_ok)
noncomputable def F72_told : Nat → Option SealT := fun id => none
theorem F72_ok : FOK Tryz.prog n_F72 F72_sh F72_fo F72 :=
 fn_ok (E := F72_E) (F72_Eok) (told := F72_told) (fl := []) (c := bodyOf fn_F72) (s := F72_sh) (l := F72_fo) (tree := F72_t) fnat_F72 (by kernel_rfl) (by kernel_rfl) (by kernel_rfl) (loopsOK_of (ls := []) (by kernel_rfl) trivial) (fun v => by kernel_rfl)
theorem F72_eq (n k : Int) : F72 (n, k) = some (acR n k) := by
 unfold acR
 rw [F72, F72_t, T.run_sub, F112_eq, Option.bind_some, T.run_test]
 cases hn : inB 3 8 n with
 | false => rw [if_pos (by rfl), T.run_test, if_pos (by rfl), T.run_ret, if_neg (by simp)]
 | true =>
  have hn' := inB_iff.1 hn
  obtain ⟨N, rfl⟩ := Int.eq_ofNat_of_zero_le (show 0 ≤ n by omega)
  have w : w64 ((N : Int) - 3) = (N : Int) - 3 := w64_id (by omega) (by omega)
  rw [if_neg (by simp), T.run_sub, F112_eq, w, Option.bind_some, T.run_test]
  cases hk : inB 0 ((N : Int) - 3) k with
  | false => rw [if_pos (by rfl), T.run_test, if_pos (by rfl), T.run_ret, if_neg (by simp)]
  | true =>
   have hk' := inB_iff.1 hk
   obtain ⟨K, rfl⟩ := Int.eq_ofNat_of_zero_le (show 0 ≤ k by omega)
   rw [if_neg (by simp), T.run_sub, F95_eq N K (by omega) (by omega), Option.bind_some, T.run_test, if_pos (by simp), T.run_ret, if_pos (by simp), Int.toNat_natCast, Int.toNat_natCast]
   rfl
def F56_sh : FSh := ⟨[(.one (.si .i64))], []⟩
def F56_fo : List FO := [⟨[(.one .sb)], []⟩]
noncomputable def F56_t : Int → T Bool := fun n =>
 (.sub (F77 (n, ((3 : Int), (12 : Int)))) fun z0 =>
 (.ret z0))
noncomputable def F56 (v) := (F56_t v).run
noncomputable def F56_E : TEnv := (E0.add1 n_F77 F77_sh F77_fo F77)
theorem F56_Eok : (F56_E).OK := (E0ok.add1 F77_ok)
noncomputable def F56_told : Nat → Option SealT := fun id => none
theorem F56_ok : FOK Tryz.prog n_F56 F56_sh F56_fo F56 :=
 fn_ok (E := F56_E) (F56_Eok) (told := F56_told) (fl := []) (c := bodyOf fn_F56) (s := F56_sh) (l := F56_fo) (tree := F56_t) fnat_F56 (by kernel_rfl) (by kernel_rfl) (by kernel_rfl) (loopsOK_of (ls := []) (by kernel_rfl) trivial) (fun v => by kernel_rfl)
def F82_sh : FSh := ⟨[(.one (.si .i64)), (.one (.si .i64))], []⟩
def F82_L5_sh : LSh := ⟨(fun ex => match ex with | .norm => [(0, none), (5, none), (11, none), (12, none)] | .exit i => if i = 0 then [(5, none)] else [] | .ret => [(4, none)]), [(0, (.one (.si .i64))), (5, (.one (.si .i64))), (11, (.one (.si .i64))), (12, (.one (.si .i64)))], [], [⟨(.exit 0), [(5, (.one (.si .i64)))], []⟩], [], []⟩
noncomputable def F82_L5_step : (Int × Int × Int × Int) → T ((Int × Int × Int × Int) ⊕ Int) := fun (n, out, t11, t12) =>
 (.test (decide (t12 < t11))
 (.test (decide ((w64 (t12 + 1)) ≠ 0))
 (.ret (Sum.inl (n, ((w64 (Int.tdiv (w64 (out * (w64 (n - t12)))) (w64 (t12 + 1)))), (t11, (w64 (t12 + 1)))))))
 .fail)
 (.ret (Sum.inr out)))
noncomputable def F82_L5 (v) := loopO (fun v => (F82_L5_step v).run) v
def F82_fo : List FO := [⟨[(.one (.si .i64))], []⟩]
noncomputable def F82_t : (Int × Int) → T Int := fun (n, k) =>
 (.sub (F77 (k, ((0 : Int), n))) fun z0 =>
 (.test (! z0)
 (.ret (0 : Int))
 (.sub (F82_L5 (n, ((1 : Int), (k, (0 : Int))))) fun z1 =>
 (.ret z1))))
noncomputable def F82 (v) := (F82_t v).run
noncomputable def F82_E : TEnv := (E0.add1 n_F77 F77_sh F77_fo F77)
theorem F82_Eok : (F82_E).OK := (E0ok.add1 F77_ok)
noncomputable def F82_told : Nat → Option SealT := fun id => if id = 5 then some (LSh.told F82_L5_sh 0 (F82_L5_step)) else none
theorem F82_L5_ok : ToldOK Tryz.prog 0 (loopAt (bodyOf fn_F82) [0]) (LSh.told F82_L5_sh 0 (F82_L5_step)) :=
 loop_ok (E := F82_E) (F82_Eok) (told := F82_told) (l := F82_L5_sh) (step := F82_L5_step) (loopsOK_of (ls := []) (by kernel_rfl) trivial) (by kernel_rfl) (fun v => by kernel_rfl)
theorem F82_ok : FOK Tryz.prog n_F82 F82_sh F82_fo F82 :=
 fn_ok (E := F82_E) (F82_Eok) (told := F82_told) (fl := []) (c := bodyOf fn_F82) (s := F82_sh) (l := F82_fo) (tree := F82_t) fnat_F82 (by kernel_rfl) (by kernel_rfl) (by kernel_rfl) (loopsOK_of (ls := [loopAt (bodyOf fn_F82) [0]]) (by kernel_rfl) ⟨.inr ⟨_, by kernel_rfl, F82_L5_ok⟩, trivial⟩) (fun v => by kernel_rfl)
theorem F82_L5_eq (n k : Int) (hk : k ≤ 1000) : ∀ (m i : Nat) (out : Int), (i : Int) + (m : Int) = k → F82_L5 (n, (out, (k, (i : Int)))) = some (chA n m i out) := by
 intro m
 induction m with
 | zero =>
  intro i out h
  simp only [F82_L5]
  refine loopO_done ?_
  rw [F82_L5_step, T.run_test, if_neg (by rw [decide_eq_true_eq]; omega), T.run_ret]
  rfl
 | succ m ih =>
  intro i out h
  have w1 : w64 ((i : Int) + 1) = ((i + 1 : Nat) : Int) := by rw [w64_id (by omega) (by omega)]; omega
  have := ih (i + 1) (w64 (Int.tdiv (w64 (out * (w64 (n - (i : Int))))) ((i + 1 : Nat) : Int))) (by omega)
  simp only [F82_L5] at this ⊢
  rw [chA, ← this]
  refine loopO_next ?_
  rw [F82_L5_step, T.run_test, if_pos (decide_eq_true (by omega)), T.run_test, w1, if_pos (by exact decide_eq_true (by omega)), T.run_ret]
theorem choose_I (n k : Int) (hk : k ≤ 1000) : F82 (n, k) = some (chI n k) := by
 rw [F82, F82_t, T.run_sub, F77_eq, Option.bind_some, T.run_test]
 unfold chI
 by_cases h : 0 ≤ k ∧ k ≤ n
 ·have hc := F82_L5_eq n k hk k.toNat 0 1 (by omega)
  rw [Int.natCast_zero] at hc
  rw [if_neg (by rw [inB_iff.2 h]; simp), if_pos h, T.run_sub, hc, Option.bind_some, T.run_ret]
 ·rw [if_pos (by
   cases hi : inB 0 n k with
   | true => exact absurd (inB_iff.1 hi) h
   | false => rfl), if_neg h, T.run_ret]
def F57_sh : FSh := ⟨[(.one (.si .i64)), (.one (.si .i64))], []⟩
def F57_fo : List FO := [⟨[(.one (.si .i64))], []⟩]
noncomputable def F57_t : (Int × Int) → T Int := fun (n, k) =>
 (.sub (F82 ((w64 (n - 3)), k)) fun z0 =>
 (.sub (F82 ((w64 ((w64 (n + k)) - 1)), k)) fun z1 =>
 (.test (decide ((w64 (k + 1)) ≠ 0))
 (.ret (w64 (Int.tdiv (w64 (z0 * z1)) (w64 (k + 1)))))
 .fail)))
noncomputable def F57 (v) := (F57_t v).run
noncomputable def F57_E : TEnv := (E0.add1 n_F82 F82_sh F82_fo F82)
theorem F57_Eok : (F57_E).OK := (E0ok.add1 F82_ok)
noncomputable def F57_told : Nat → Option SealT := fun id => none
theorem F57_ok : FOK Tryz.prog n_F57 F57_sh F57_fo F57 :=
 fn_ok (E := F57_E) (F57_Eok) (told := F57_told) (fl := []) (c := bodyOf fn_F57) (s := F57_sh) (l := F57_fo) (tree := F57_t) fnat_F57 (by kernel_rfl) (by kernel_rfl) (by kernel_rfl) (loopsOK_of (ls := []) (by kernel_rfl) trivial) (fun v => by kernel_rfl)
def ccV (n k : Int) : Int := w64 (Int.tdiv (w64 (chI (w64 (n - 3)) k * chI (w64 (w64 (n + k) - 1)) k)) (w64 (k + 1)))
theorem F57_eq (n k : Int) (hk : 0 ≤ k ∧ k ≤ 1000) : F57 (n, k) = some (ccV n k) := by
 have w : w64 (k + 1) = k + 1 := w64_id (by omega) (by omega)
 rw [F57, F57_t, T.run_sub, choose_I _ _ (by omega), Option.bind_some, T.run_sub, choose_I _ _ (by omega), Option.bind_some, T.run_test, if_pos (decide_eq_true (by rw [w]; omega)), T.run_ret]
 rfl
def F58_sh : FSh := ⟨[(.one (.si .i64)), (.one (.si .i64))], []⟩
def F58_fo : List FO := [⟨[(.one (.si .i64)), (.one .sb)], []⟩]
noncomputable def F58_t : (Int × Int) → T (Int × Bool) := fun (n, diagonals) =>
 (.sub (F56 n) fun z0 =>
 (.test (! z0)
 (.ret ((0 : Int), false))
 (.sub (F77 (diagonals, ((0 : Int), (w64 (n - 3))))) fun z1 =>
 (.test (! z1)
 (.ret ((0 : Int), false))
 (.sub (F57 (n, diagonals)) fun z2 =>
 (.ret (z2, true)))))))
noncomputable def F58 (v) := (F58_t v).run
noncomputable def F58_E : TEnv := (((E0.add1 n_F56 F56_sh F56_fo F56).add1 n_F77 F77_sh F77_fo F77).add1 n_F57 F57_sh F57_fo F57)
theorem F58_Eok : (F58_E).OK := (((E0ok.add1 F56_ok).add1 F77_ok).add1 F57_ok)
noncomputable def F58_told : Nat → Option SealT := fun id => none
theorem F58_ok : FOK Tryz.prog n_F58 F58_sh F58_fo F58 :=
 fn_ok (E := F58_E) (F58_Eok) (told := F58_told) (fl := []) (c := bodyOf fn_F58) (s := F58_sh) (l := F58_fo) (tree := F58_t) fnat_F58 (by kernel_rfl) (by kernel_rfl) (by kernel_rfl) (loopsOK_of (ls := []) (by kernel_rfl) trivial) (fun v => by kernel_rfl)
def ccR (n k : Int) : Int × Bool := if (inB 3 12 n && inB 0 (n - 3) k) = true then (ccV n k, true) else (0, false)
theorem F58_eq (n k : Int) : F58 (n, k) = some (ccR n k) := by
 unfold ccR
 rw [F58, F58_t, T.run_sub, F56, F56_t, T.run_sub, F77_eq, Option.bind_some, T.run_ret, Option.bind_some, T.run_test]
 cases hn : inB 3 12 n with
 | false => rw [if_pos (by rfl), T.run_ret, if_neg (by simp)]
 | true =>
  have hn' := inB_iff.1 hn
  have w : w64 (n - 3) = n - 3 := w64_id (by omega) (by omega)
  rw [if_neg (by simp), T.run_sub, F77_eq, w, Option.bind_some, T.run_test]
  cases hk : inB 0 (n - 3) k with
  | false => rw [if_pos (by rfl), T.run_ret, if_neg (by simp)]
  | true =>
   have hk' := inB_iff.1 hk
   rw [if_neg (by simp), T.run_sub, F57_eq n k (by omega), Option.bind_some, T.run_ret, if_pos (by simp)]
theorem cmp_loop {X A : Type} [DecidableEq X] {step : A → Option (A ⊕ (Bool ⊕ Unit))} (a b : List X) (emb : Nat → A) (hab : a.length = b.length)
  (h : ∀ k x y, a[k]? = some x → b[k]? = some y → step (emb k) = if x = y then some (.inl (emb (k + 1))) else some (.inr (.inl false))) (hend : step (emb a.length) = some (.inr (.inr ()))) :
  loopO step (emb 0) = some (if a = b then .inr () else .inl false) := by
 have key : ∀ m k, k + m = a.length → loopO step (emb k) = some (if a.drop k = b.drop k then .inr () else .inl false) := by
  intro m
  induction m with
  | zero =>
   intro k hk
   rw [List.drop_of_length_le (by omega), List.drop_of_length_le (by omega), if_pos rfl, show k = a.length by omega]
   exact loopO_done hend
  | succ m ih =>
   intro k hk
   have h1 : k < a.length := by omega
   have h2 : k < b.length := by omega
   have hs := h k a[k] b[k] (List.getElem?_eq_getElem h1) (List.getElem?_eq_getElem h2)
   rw [List.drop_eq_getElem_cons h1, List.drop_eq_getElem_cons h2]
   by_cases e : a[k] = b[k]
   ·rw [if_pos e] at hs
    rw [loopO_next hs, ih (k + 1) (by omega), e]
    by_cases e2 : a.drop (k + 1) = b.drop (k + 1)
    ·rw [if_pos e2, e2, if_pos rfl]
    ·rw [if_neg e2, if_neg fun x => e2 (List.cons.inj x).2]
   ·rw [if_neg e] at hs
    rw [loopO_done hs, if_neg fun x => e (List.cons.inj x).1]
 have := key a.length 0 (by omega)
 rwa [List.drop_zero, List.drop_zero] at this
def F97_sh : FSh := ⟨[(.one (.sl (.pair (.int .i64) (.int .i64)) false false)), (.one (.sl (.pair (.int .i64) (.int .i64)) false false))], []⟩
def F97_L4_sh : LSh := ⟨(fun ex => match ex with | .norm => [(0, none), (1, none), (12, none), (13, none)] | .exit i => if i = 0 then [] else [] | .ret => [(4, none)]), [(0, (.one (.sl (.pair (.int .i64) (.int .i64)) false false))), (1, (.one (.sl (.pair (.int .i64) (.int .i64)) false false))), (12, (.one (.si .i64))), (13, (.one (.si .i64)))], [], [⟨.ret, [(4, (.one .sb))], []⟩, ⟨(.exit 0), [], []⟩], [], []⟩
noncomputable def F97_L4_step : (List ((Int × Int)) × List ((Int × Int)) × Int × Int) → T ((List ((Int × Int)) × List ((Int × Int)) × Int × Int) ⊕ (Bool ⊕ Unit)) := fun (a, b, t12, t13) =>
 (.test (decide (t13 < t12))
 (.test (decide ((0 ≤ t13) ∧ (t13 < (a.length : Int))))
 (.sub (a[(Int.toNat t13)]?) fun z0 =>
 (.test (decide ((0 ≤ t13) ∧ (t13 < (b.length : Int))))
 (.sub (b[(Int.toNat t13)]?) fun z1 =>
 (.test (! ((z0.1 == z1.1) && ((z0.2 == z1.2) && true)))
 (.ret (Sum.inr (Sum.inl false)))
 (.ret (Sum.inl (a, (b, (t12, (w64 (t13 + 1)))))))))
 .fail))
 .fail)
 (.ret (Sum.inr (Sum.inr ()))))
noncomputable def F97_L4 (v) := loopO (fun v => (F97_L4_step v).run) v
def F97_fo : List FO := [⟨[(.one .sb)], []⟩]
noncomputable def F97_t : (List ((Int × Int)) × List ((Int × Int))) → T Bool := fun (a, b) =>
 (.test ((a.length : Int) != (b.length : Int))
 (.ret false)
 (.sub (F97_L4 (a, (b, ((a.length : Int), (0 : Int))))) fun z0 =>
 (.test (Sum.isLeft z0)
 (.sub (Sum.getLeft? z0) fun z1 =>
 (.ret z1))
 (.sub (Sum.getRight? z0) fun z2 =>
 (.ret true)))))
noncomputable def F97 (v) := (F97_t v).run
noncomputable def F97_E : TEnv := E0
theorem F97_Eok : (F97_E).OK := E0ok
noncomputable def F97_told : Nat → Option SealT := fun id => if id = 4 then some (LSh.told F97_L4_sh 0 (F97_L4_step)) else none
theorem F97_L4_ok : ToldOK Tryz.prog 0 (loopAt (bodyOf fn_F97) [0]) (LSh.told F97_L4_sh 0 (F97_L4_step)) :=
 loop_ok (E := F97_E) (F97_Eok) (told := F97_told) (l := F97_L4_sh) (step := F97_L4_step) (loopsOK_of (ls := []) (by kernel_rfl) trivial) (by kernel_rfl) (fun v => by kernel_rfl)
theorem F97_ok : FOK Tryz.prog n_F97 F97_sh F97_fo F97 :=
 fn_ok (E := F97_E) (F97_Eok) (told := F97_told) (fl := []) (c := bodyOf fn_F97) (s := F97_sh) (l := F97_fo) (tree := F97_t) fnat_F97 (by kernel_rfl) (by kernel_rfl) (by kernel_rfl) (loopsOK_of (ls := [loopAt (bodyOf fn_F97) [0]]) (by kernel_rfl) ⟨.inr ⟨_, by kernel_rfl, F97_L4_ok⟩, trivial⟩) (fun v => by kernel_rfl)
theorem uCuts_val (a b : List (Int × Int)) (hl : a.length < 4611686018427387904) : F97 (a, b) = some (decide (a = b)) := by
 rw [F97, F97_t, T.run_test]
 by_cases he : a.length = b.length
 ·have h := cmp_loop (step := fun v => (F97_L4_step v).run) a b (fun k => (a, (b, ((a.length : Int), (k : Int))))) he
   (fun k x y hx hy => by
    have k1 := getElem?_lt hx
    have k2 := getElem?_lt hy
    have w1 : w64 ((k : Int) + 1) = ((k + 1 : Nat) : Int) := by rw [w64_id (by omega) (by omega)]; omega
    rw [F97_L4_step, T.run_test, if_pos (decide_eq_true (by omega)), T.run_test, if_pos (decide_eq_true (by omega)), T.run_sub, Int.toNat_natCast, hx, Option.bind_some, T.run_test, if_pos (decide_eq_true (by omega)), T.run_sub, hy, Option.bind_some, T.run_test]
    by_cases e : x = y
    ·rw [if_neg (by simp [e]), if_pos e, T.run_ret, w1]
    ·rw [if_pos (by
      obtain ⟨x1, x2⟩ := x
      obtain ⟨y1, y2⟩ := y
      simp only [Prod.mk.injEq] at e
      by_cases e1 : x1 = y1
      ·have e2 : x2 ≠ y2 := fun h => e ⟨e1, h⟩
       simp [e2]
      ·simp [e1]), if_neg e, T.run_ret])
   (by rw [F97_L4_step, T.run_test, if_neg (by simp), T.run_ret])
  have h' : F97_L4 (a, (b, ((a.length : Int), (0 : Int)))) = _ := h
  rw [if_neg (by simp [he]), T.run_sub, h', Option.bind_some]
  by_cases e : a = b
  ·rw [if_pos e, decide_eq_true e]; rfl
  ·rw [if_neg e, decide_eq_false e]; rfl
 ·rw [if_pos (by simp; omega), T.run_ret, decide_eq_false fun e => he (by rw [e])]
def F83_sh : FSh := ⟨[(.one (.sl (.list true (.pair (.int .i64) (.int .i64))) false false)), (.one (.sl (.list true (.pair (.int .i64) (.int .i64))) false false))], []⟩
def F83_L4_sh : LSh := ⟨(fun ex => match ex with | .norm => [(0, none), (1, none), (12, none), (13, none)] | .exit i => if i = 0 then [] else [] | .ret => [(4, none)]), [(0, (.one (.sl (.list true (.pair (.int .i64) (.int .i64))) false false))), (1, (.one (.sl (.list true (.pair (.int .i64) (.int .i64))) false false))), (12, (.one (.si .i64))), (13, (.one (.si .i64)))], [], [⟨.ret, [(4, (.one .sb))], []⟩, ⟨(.exit 0), [], []⟩], [], []⟩
noncomputable def F83_L4_step : (List (List ((Int × Int))) × List (List ((Int × Int))) × Int × Int) → T ((List (List ((Int × Int))) × List (List ((Int × Int))) × Int × Int) ⊕ (Bool ⊕ Unit)) := fun (a, b, t12, t13) =>
 (.test (decide (t13 < t12))
 (.test (decide ((0 ≤ t13) ∧ (t13 < (a.length : Int))))
 (.sub (a[(Int.toNat t13)]?) fun z0 =>
 (.test (decide ((0 ≤ t13) ∧ (t13 < (b.length : Int))))
 (.sub (b[(Int.toNat t13)]?) fun z1 =>
 (.sub (F97 (z0, z1)) fun z2 =>
 (.test (! z2)
 (.ret (Sum.inr (Sum.inl false)))
 (.ret (Sum.inl (a, (b, (t12, (w64 (t13 + 1))))))))))
 .fail))
 .fail)
 (.ret (Sum.inr (Sum.inr ()))))
noncomputable def F83_L4 (v) := loopO (fun v => (F83_L4_step v).run) v
def F83_fo : List FO := [⟨[(.one .sb)], []⟩]
noncomputable def F83_t : (List (List ((Int × Int))) × List (List ((Int × Int)))) → T Bool := fun (a, b) =>
 (.test ((a.length : Int) != (b.length : Int))
 (.ret false)
 (.sub (F83_L4 (a, (b, ((a.length : Int), (0 : Int))))) fun z0 =>
 (.test (Sum.isLeft z0)
 (.sub (Sum.getLeft? z0) fun z1 =>
 (.ret z1))
 (.sub (Sum.getRight? z0) fun z2 =>
 (.ret true)))))
noncomputable def F83 (v) := (F83_t v).run
noncomputable def F83_E : TEnv := (E0.add1 n_F97 F97_sh F97_fo F97)
theorem F83_Eok : (F83_E).OK := (E0ok.add1 F97_ok)
noncomputable def F83_told : Nat → Option SealT := fun id => if id = 4 then some (LSh.told F83_L4_sh 0 (F83_L4_step)) else none
theorem F83_L4_ok : ToldOK Tryz.prog 0 (loopAt (bodyOf fn_F83) [0]) (LSh.told F83_L4_sh 0 (F83_L4_step)) :=
 loop_ok (E := F83_E) (F83_Eok) (told := F83_told) (l := F83_L4_sh) (step := F83_L4_step) (loopsOK_of (ls := []) (by kernel_rfl) trivial) (by kernel_rfl) (fun v => by kernel_rfl)
theorem F83_ok : FOK Tryz.prog n_F83 F83_sh F83_fo F83 :=
 fn_ok (E := F83_E) (F83_Eok) (told := F83_told) (fl := []) (c := bodyOf fn_F83) (s := F83_sh) (l := F83_fo) (tree := F83_t) fnat_F83 (by kernel_rfl) (by kernel_rfl) (by kernel_rfl) (loopsOK_of (ls := [loopAt (bodyOf fn_F83) [0]]) (by kernel_rfl) ⟨.inr ⟨_, by kernel_rfl, F83_L4_ok⟩, trivial⟩) (fun v => by kernel_rfl)
theorem uLists_val (a b : List (List Dg)) (hl : a.length < 4611686018427387904) (hr : ∀ x ∈ a, x.length < 4611686018427387904) : F83 (a, b) = some (decide (a = b)) := by
 rw [F83, F83_t, T.run_test]
 by_cases he : a.length = b.length
 ·have h := cmp_loop (step := fun v => (F83_L4_step v).run) a b (fun k => (a, (b, ((a.length : Int), (k : Int))))) he
   (fun k x y hx hy => by
    have k1 := getElem?_lt hx
    have k2 := getElem?_lt hy
    have w1 : w64 ((k : Int) + 1) = ((k + 1 : Nat) : Int) := by rw [w64_id (by omega) (by omega)]; omega
    rw [F83_L4_step, T.run_test, if_pos (decide_eq_true (by omega)), T.run_test, if_pos (decide_eq_true (by omega)), T.run_sub, Int.toNat_natCast, hx, Option.bind_some, T.run_test, if_pos (decide_eq_true (by omega)), T.run_sub, hy, Option.bind_some, T.run_sub, uCuts_val x y (hr x (List.mem_of_getElem? hx)), Option.bind_some, T.run_test]
    by_cases e : x = y
    ·rw [if_neg (by simp [e]), if_pos e, T.run_ret, w1]
    ·rw [if_pos (by simp [e]), if_neg e, T.run_ret])
   (by rw [F83_L4_step, T.run_test, if_neg (by simp), T.run_ret])
  have h' : F83_L4 (a, (b, ((a.length : Int), (0 : Int)))) = _ := h
  rw [if_neg (by simp [he]), T.run_sub, h', Option.bind_some]
  by_cases e : a = b
  ·rw [if_pos e, decide_eq_true e]; rfl
  ·rw [if_neg e, decide_eq_false e]; rfl
 ·rw [if_pos (by simp; omega), T.run_ret, decide_eq_false fun e => he (by rw [e])]
def F29_sh : FSh := ⟨[(.one (.si .i64)), (.one (.si .i64))], []⟩
def F29_fo : List FO := [⟨[(.one (.si .i64))], []⟩]
noncomputable def F29_t : (Int × Int) → T Int := fun (x, y) =>
 (.sub (F41 x) fun z0 =>
 (.sub (F41 y) fun z1 =>
 (.test z0
 (.test z1
 (.ret (0 : Int))
 (.ret (-1)))
 (.test z1
 (.ret (1 : Int))
 (.test (decide (x < y))
 (.ret (-1))
 (.test (decide (x > y))
 (.ret (1 : Int))
 (.ret (0 : Int))))))))
noncomputable def F29 (v) := (F29_t v).run
noncomputable def F29_E : TEnv := (E0.add1 n_F41 F41_sh F41_fo F41)
theorem F29_Eok : (F29_E).OK := (E0ok.add1 F41_ok)
noncomputable def F29_told : Nat → Option SealT := fun id => none
theorem F29_ok : FOK Tryz.prog n_F29 F29_sh F29_fo F29 :=
 fn_ok (E := F29_E) (F29_Eok) (told := F29_told) (fl := []) (c := bodyOf fn_F29) (s := F29_sh) (l := F29_fo) (tree := F29_t) fnat_F29 (by kernel_rfl) (by kernel_rfl) (by kernel_rfl) (loopsOK_of (ls := []) (by kernel_rfl) trivial) (fun v => by kernel_rfl)
theorem F29_eq (a b : Int) : F29 (a, b) = some (if a < b then -1 else if b < a then 1 else 0) := by
 have h : ∀ x, F41 x = some false := fun x => by simp [F41, F41_t, T.run]
 simp only [F29, F29_t, T.run, h, Option.bind_some]
 by_cases h1 : a < b
 ·simp [h1]
 ·by_cases h2 : b < a <;> simp [h1, h2]
def F64_sh : FSh := ⟨[(.one (.sl (.int .i64) false false))], []⟩
def F64_L3_sh : LSh := ⟨(fun ex => match ex with | .norm => [(3, none), (6, none), (7, none), (8, none)] | .exit i => if i = 0 then [(3, none)] else [] | .ret => [(2, none)]), [(3, (.one (.si .i64))), (6, (.one (.sl (.int .i64) false false))), (7, (.one (.si .i64))), (8, (.one (.si .i64)))], [], [⟨.ret, [(2, (.one (.si .i64)))], []⟩, ⟨(.exit 0), [(3, (.one (.si .i64)))], []⟩], [], []⟩
noncomputable def F64_L3_step : (Int × List (Int) × Int × Int) → T ((Int × List (Int) × Int × Int) ⊕ (Int ⊕ Int)) := fun (zero, t6, t7, t8) =>
 (.test (decide (t8 < t7))
 (.test (decide ((0 ≤ t8) ∧ (t8 < (t6.length : Int))))
 (.sub (t6[(Int.toNat t8)]?) fun z0 =>
 (.test (z0 != zero)
 (.ret (Sum.inr (Sum.inl z0)))
 (.ret (Sum.inl (zero, (t6, (t7, (w64 (t8 + 1)))))))))
 .fail)
 (.ret (Sum.inr (Sum.inr zero))))
noncomputable def F64_L3 (v) := loopO (fun v => (F64_L3_step v).run) v
def F64_fo : List FO := [⟨[(.one (.si .i64))], []⟩]
noncomputable def F64_t : List (Int) → T Int := fun vals =>
 (.sub (F64_L3 ((0 : Int), (vals, ((vals.length : Int), (0 : Int))))) fun z0 =>
 (.test (Sum.isLeft z0)
 (.sub (Sum.getLeft? z0) fun z1 =>
 (.ret z1))
 (.sub (Sum.getRight? z0) fun z2 =>
 (.ret z2))))
noncomputable def F64 (v) := (F64_t v).run
noncomputable def F64_E : TEnv := E0
theorem F64_Eok : (F64_E).OK := E0ok
noncomputable def F64_told : Nat → Option SealT := fun id => if id = 3 then some (LSh.told F64_L3_sh 0 (F64_L3_step)) else none
theorem F64_L3_ok : ToldOK Tryz.prog 0 (loopAt (bodyOf fn_F64) [0]) (LSh.told F64_L3_sh 0 (F64_L3_step)) :=
 loop_ok (E := F64_E) (F64_Eok) (told := F64_told) (l := F64_L3_sh) (step := F64_L3_step) (loopsOK_of (ls := []) (by kernel_rfl) trivial) (by kernel_rfl) (fun v => by kernel_rfl)
theorem F64_ok : FOK Tryz.prog n_F64 F64_sh F64_fo F64 :=
 fn_ok (E := F64_E) (F64_Eok) (told := F64_told) (fl := []) (c := bodyOf fn_F64) (s := F64_sh) (l := F64_fo) (tree := F64_t) fnat_F64 (by kernel_rfl) (by kernel_rfl) (by kernel_rfl) (loopsOK_of (ls := [loopAt (bodyOf fn_F64) [0]]) (by kernel_rfl) ⟨.inr ⟨_, by kernel_rfl, F64_L3_ok⟩, trivial⟩) (fun v => by kernel_rfl)
theorem F64_two (a b : Int) : F64 [a, b] = some (if a = 0 then b else a) := by
 simp only [F64, F64_t, T.run, F64_L3]
 rw [loopO_step]
 simp only [F64_L3_step, T.run]
 by_cases ha : a = 0
 ·subst ha
  simp [w64_id (z := 1)]
  rw [loopO_step]
  simp only [F64_L3_step, T.run]
  by_cases hb : b = 0
  ·subst hb
   simp [w64_id (z := 2)]
   rw [loopO_step]
   simp [F64_L3_step, T.run]
  ·simp [hb]
 ·simp [ha]
def F16_sh : FSh := ⟨[(.ag [(.si .i64), (.si .i64)]), (.ag [(.si .i64), (.si .i64)])], []⟩
def F16_fo : List FO := [⟨[(.one (.si .i64))], []⟩]
noncomputable def F16_t : ((Int × Int) × (Int × Int)) → T Int := fun ((a_0, a_1), (b_0, b_1)) =>
 (.sub (F29 (a_0, b_0)) fun z0 =>
 (.sub (F29 (a_1, b_1)) fun z1 =>
 (.test (decide (2 ≤ (List.length (List.set (List.set (List.replicate 2 (0 : Int)) 0 z0) 1 z1))))
 (.sub (F64 (win (List.set (List.set (List.replicate 2 (0 : Int)) 0 z0) 1 z1) 0 2)) fun z2 =>
 (.ret z2))
 .fail)))
noncomputable def F16 (v) := (F16_t v).run
noncomputable def F16_E : TEnv := ((E0.add1 n_F29 F29_sh F29_fo F29).add1 n_F64 F64_sh F64_fo F64)
theorem F16_Eok : (F16_E).OK := ((E0ok.add1 F29_ok).add1 F64_ok)
noncomputable def F16_told : Nat → Option SealT := fun id => none
theorem F16_ok : FOK Tryz.prog n_F16 F16_sh F16_fo F16 :=
 fn_ok (E := F16_E) (F16_Eok) (told := F16_told) (fl := []) (c := bodyOf fn_F16) (s := F16_sh) (l := F16_fo) (tree := F16_t) fnat_F16 (by kernel_rfl) (by kernel_rfl) (by kernel_rfl) (loopsOK_of (ls := []) (by kernel_rfl) trivial) (fun v => by kernel_rfl)
theorem F16_eq (d e : Dg) : F16 (d, e) = some (cmpD d e) := by
 obtain ⟨a, b⟩ := d
 obtain ⟨c, f⟩ := e
 have h2 : win (List.set (List.set (List.replicate 2 (0 : Int)) 0 (if a < c then -1 else if c < a then 1 else 0)) 1 (if b < f then -1 else if f < b then 1 else 0)) 0 2 = [if a < c then -1 else if c < a then 1 else 0, if b < f then -1 else if f < b then 1 else 0] := rfl
 simp only [F16, F16_t, T.run, F29_eq, Option.bind_some, h2, F64_two]
 simp only [List.length_set, List.length_replicate, Nat.le_refl, decide_true, if_true]
 congr 1
 unfold cmpD ltD
 simp only [decide_eq_true_eq]
 split <;> split <;> (try split) <;> (try split) <;> omega
theorem cmpD_ge (d e : Dg) : decide (cmpD d e ≥ 0) = !ltD d e := by
 unfold cmpD
 cases ltD d e <;> simp
 split <;> omega
def F98_sh : FSh := ⟨[(.one (.si .i64)), (.one (.sl (.pair (.int .i64) (.int .i64)) false false))], []⟩
def F98_L4_sh : LSh := ⟨(fun ex => match ex with | .norm => [(0, none), (1, none), (17, none), (18, none), (19, none)] | .exit i => if i = 0 then [] else [] | .ret => [(4, none)]), [(0, (.one (.si .i64))), (1, (.one (.sl (.pair (.int .i64) (.int .i64)) false false))), (17, (.one (.sl (.pair (.int .i64) (.int .i64)) false false))), (18, (.one (.si .i64))), (19, (.one (.si .i64)))], [], [⟨.ret, [(4, (.one .sb))], []⟩, ⟨(.exit 0), [], []⟩], [], []⟩
noncomputable def F98_L4_step : (Int × List ((Int × Int)) × List ((Int × Int)) × Int × Int) → T ((Int × List ((Int × Int)) × List ((Int × Int)) × Int × Int) ⊕ (Bool ⊕ Unit)) := fun (n, ds, t17, t18, t19) =>
 (.test (decide (t19 < t18))
 (.test (decide ((0 ≤ t19) ∧ (t19 < (t17.length : Int))))
 (.sub (t17[(Int.toNat t19)]?) fun z0 =>
 (.sub (F44 (n, (z0.1, z0.2))) fun z1 =>
 (.test (! z1)
 (.ret (Sum.inr (Sum.inl false)))
 (.test (decide (t19 > 0))
 (.test (decide ((0 ≤ (w64 (t19 - 1))) ∧ ((w64 (t19 - 1)) < (ds.length : Int))))
 (.sub (ds[(Int.toNat (w64 (t19 - 1)))]?) fun z2 =>
 (.sub (F16 ((z2.1, z2.2), (z0.1, z0.2))) fun z3 =>
 (.test (decide (z3 ≥ 0))
 (.ret (Sum.inr (Sum.inl false)))
 (.test (decide (0 ≤ t19))
 (.test (decide ((0 ≤ (Int.toNat t19)) ∧ ((Int.toNat t19) ≤ ds.length)))
 (.sub (F69 ((win ds 0 ((Int.toNat t19) - 0)), (z0.1, z0.2))) fun z4 =>
 (.test z4
 (.ret (Sum.inr (Sum.inl false)))
 (.ret (Sum.inl (n, (ds, (t17, (t18, (w64 (t19 + 1))))))))))
 .fail)
 .fail))))
 .fail)
 (.test (decide (0 ≤ t19))
 (.test (decide ((0 ≤ (Int.toNat t19)) ∧ ((Int.toNat t19) ≤ ds.length)))
 (.sub (F69 ((win ds 0 ((Int.toNat t19) - 0)), (z0.1, z0.2))) fun z5 =>
 (.test z5
 (.ret (Sum.inr (Sum.inl false)))
 (.ret (Sum.inl (n, (ds, (t17, (t18, (w64 (t19 + 1))))))))))
 .fail)
 .fail)))))
 .fail)
 (.ret (Sum.inr (Sum.inr ()))))
noncomputable def F98_L4 (v) := loopO (fun v => (F98_L4_step v).run) v
def F98_fo : List FO := [⟨[(.one .sb)], []⟩]
noncomputable def F98_t : (Int × List ((Int × Int))) → T Bool := fun (n, ds) =>
 (.sub (F56 n) fun z0 =>
 (.test (! z0)
 (.ret false)
 (.test (decide ((ds.length : Int) > (w64 (n - 3))))
 (.ret false)
 (.sub (F98_L4 (n, (ds, (ds, ((ds.length : Int), (0 : Int)))))) fun z1 =>
 (.test (Sum.isLeft z1)
 (.sub (Sum.getLeft? z1) fun z2 =>
 (.ret z2))
 (.sub (Sum.getRight? z1) fun z3 =>
 (.ret true)))))))
noncomputable def F98 (v) := (F98_t v).run
noncomputable def F98_E : TEnv := ((((E0.add1 n_F56 F56_sh F56_fo F56).add1 n_F44 F44_sh F44_fo F44).add1 n_F16 F16_sh F16_fo F16).add1 n_F69 F69_sh F69_fo F69)
theorem F98_Eok : (F98_E).OK := ((((E0ok.add1 F56_ok).add1 F44_ok).add1 F16_ok).add1 F69_ok)
noncomputable def F98_told : Nat → Option SealT := fun id => if id = 4 then some (LSh.told F98_L4_sh 0 (F98_L4_step)) else none
theorem F98_L4_ok : ToldOK Tryz.prog 0 (loopAt (bodyOf fn_F98) [0]) (LSh.told F98_L4_sh 0 (F98_L4_step)) :=
 loop_ok (E := F98_E) (F98_Eok) (told := F98_told) (l := F98_L4_sh) (step := F98_L4_step) (loopsOK_of (ls := []) (by kernel_rfl) trivial) (by kernel_rfl) (fun v => by kernel_rfl)
theorem F98_ok : FOK Tryz.prog n_F98 F98_sh F98_fo F98 :=
 fn_ok (E := F98_E) (F98_Eok) (told := F98_told) (fl := []) (c := bodyOf fn_F98) (s := F98_sh) (l := F98_fo) (tree := F98_t) fnat_F98 (by kernel_rfl) (by kernel_rfl) (by kernel_rfl) (loopsOK_of (ls := [loopAt (bodyOf fn_F98) [0]]) (by kernel_rfl) ⟨.inr ⟨_, by kernel_rfl, F98_L4_ok⟩, trivial⟩) (fun v => by kernel_rfl)
theorem F98_eq (n : Int) (ds : List Dg) (hl : ds.length < 4611686018427387904) : F98 (n, ds) = some (isCut n ds) := by
 simp only [F98, F98_t, T.run, F56, F56_t, F77_eq, Option.bind_some, isCut]
 cases hn : inB 3 12 n with
 | false => simp
 | true =>
  rw [inB_iff] at hn
  rw [w64_id (z := n - 3) (by omega) (by omega)]
  by_cases he : (ds.length : Int) ≤ n - 3
  ·have h := loop_any (step := fun v => (F98_L4_step v).run) (xs := List.range ds.length) (badT n ds) (fun k => (n, (ds, (ds, ((ds.length : Int), (k : Int)))))) (.inl false) (.inr ())
    (fun k x hx => by
     obtain ⟨hk, e⟩ := List.getElem?_eq_some_iff.1 hx
     simp only [List.getElem_range] at e
     subst e
     rw [List.length_range] at hk
     have g0 := gD_some hk
     have c0 : (k : Int) < (ds.length : Int) := by omega
     have c1 : (0 : Int) ≤ (k : Int) ∧ (k : Int) < (ds.length : Int) := by omega
     have w1 : w64 ((k : Int) + 1) = ((k + 1 : Nat) : Int) := by rw [w64_id (by omega) (by omega)]; omega
     have c2 : 0 ≤ k ∧ k ≤ ds.length := by omega
     have c3 : (0 : Int) ≤ (k : Int) := by omega
     have tw : win ds 0 (k - 0) = ds.take k := win_take _ _
     have hlt : (ds.take k).length < 4611686018427387904 := by simp; omega
     have hcr : F69 (ds.take k, ((gD ds k).1, (gD ds k).2)) = some ((ds.take k).any (crossD (gD ds k))) := F69_eq _ _ hlt
     simp only [F98_L4_step, T.run, c0, c1, c2, c3, decide_true, if_true, and_self, Int.toNat_natCast, g0, Option.bind_some, F44_eq n (gD ds k) (by omega) (by omega), tw, hcr, w1, badT]
     rcases Bool.eq_false_or_eq_true (inDg n (gD ds k)) with hd | hd
     rotate_left
     ·simp [hd]
     ·simp only [hd]
      by_cases hk0 : 0 < k
      ·have w2 : w64 ((k : Int) - 1) = ((k - 1 : Nat) : Int) := by rw [w64_id (by omega) (by omega)]; omega
       have c4 : (0 : Int) ≤ ((k - 1 : Nat) : Int) ∧ ((k - 1 : Nat) : Int) < (ds.length : Int) := by omega
       have g1 := gD_some (show k - 1 < ds.length by omega)
       have c5 : (k : Int) > 0 := by omega
       simp only [w2, c4, c5, decide_true, if_true, and_self, Int.toNat_natCast, g1, Option.bind_some, F16_eq, cmpD_ge, hk0]
       cases ltD (gD ds (k - 1)) (gD ds k) <;> simp
       cases (ds.take k).any (crossD (gD ds k)) <;> simp
      ·have c5 : ¬ (k : Int) > 0 := by omega
       simp only [c5, decide_false, hk0, if_false]
       cases (ds.take k).any (crossD (gD ds k)) <;> simp)
    (by simp [F98_L4_step, T.run])
   rw [show ((0 : Nat) : Int) = 0 from rfl] at h
   have he' : ¬ ((ds.length : Int) > n - 3) := by omega
   simp only [F98_L4, h, he', decide_eq_true he, decide_eq_false he']
   cases (List.range ds.length).any (badT n ds) <;> simp
  ·have he' : (ds.length : Int) > n - 3 := by omega
   simp [he, he']
def F99_sh : FSh := ⟨[(.one (.sl (.pair (.int .i64) (.int .i64)) false false)), (.one (.sl (.pair (.int .i64) (.int .i64)) false false))], []⟩
def F99_L2_sh : LSh := ⟨(fun ex => match ex with | .norm => [(0, none), (1, none), (5, none)] | .exit i => if i = 0 then [(0, none), (1, none)] else [] | .ret => [(4, none)]), [(0, (.one (.sl (.pair (.int .i64) (.int .i64)) false false))), (1, (.one (.sl (.pair (.int .i64) (.int .i64)) false false))), (5, (.one (.si .i64)))], [], [⟨.ret, [(4, (.one .sb))], []⟩, ⟨(.exit 0), [(0, (.one (.sl (.pair (.int .i64) (.int .i64)) false false))), (1, (.one (.sl (.pair (.int .i64) (.int .i64)) false false)))], []⟩], [], []⟩
noncomputable def F99_L2_step : (List ((Int × Int)) × List ((Int × Int)) × Int) → T ((List ((Int × Int)) × List ((Int × Int)) × Int) ⊕ (Bool ⊕ (List ((Int × Int)) × List ((Int × Int))))) := fun (a, b, i) =>
 (.test (decide (i < (a.length : Int)))
 (.test (decide (i < (b.length : Int)))
 (.test (decide ((0 ≤ i) ∧ (i < (a.length : Int))))
 (.sub (a[(Int.toNat i)]?) fun z0 =>
 (.test (decide ((0 ≤ i) ∧ (i < (b.length : Int))))
 (.sub (b[(Int.toNat i)]?) fun z1 =>
 (.test (! ((z0.1 == z1.1) && ((z0.2 == z1.2) && true)))
 (.test (decide ((0 ≤ i) ∧ (i < (a.length : Int))))
 (.sub (a[(Int.toNat i)]?) fun z2 =>
 (.test (decide ((0 ≤ i) ∧ (i < (b.length : Int))))
 (.sub (b[(Int.toNat i)]?) fun z3 =>
 (.test (decide (z2.1 < z3.1))
 (.ret (Sum.inr (Sum.inl true)))
 (.test (decide ((0 ≤ i) ∧ (i < (a.length : Int))))
 (.sub (a[(Int.toNat i)]?) fun z4 =>
 (.test (decide ((0 ≤ i) ∧ (i < (b.length : Int))))
 (.sub (b[(Int.toNat i)]?) fun z5 =>
 (.test (z4.1 == z5.1)
 (.test (decide ((0 ≤ i) ∧ (i < (a.length : Int))))
 (.sub (a[(Int.toNat i)]?) fun z6 =>
 (.test (decide ((0 ≤ i) ∧ (i < (b.length : Int))))
 (.sub (b[(Int.toNat i)]?) fun z7 =>
 (.ret (Sum.inr (Sum.inl (decide (z6.2 < z7.2))))))
 .fail))
 .fail)
 (.ret (Sum.inr (Sum.inl false)))))
 .fail))
 .fail)))
 .fail))
 .fail)
 (.ret (Sum.inl (a, (b, (w64 (i + 1))))))))
 .fail))
 .fail)
 (.ret (Sum.inr (Sum.inr (a, b)))))
 (.ret (Sum.inr (Sum.inr (a, b)))))
noncomputable def F99_L2 (v) := loopO (fun v => (F99_L2_step v).run) v
def F99_fo : List FO := [⟨[(.one .sb)], []⟩]
noncomputable def F99_t : (List ((Int × Int)) × List ((Int × Int))) → T Bool := fun (a, b) =>
 (.sub (F99_L2 (a, (b, (0 : Int)))) fun z0 =>
 (.test (Sum.isLeft z0)
 (.sub (Sum.getLeft? z0) fun z1 =>
 (.ret z1))
 (.sub (Sum.getRight? z0) fun z2 =>
 (.ret (decide ((z2.1.length : Int) < (z2.2.length : Int)))))))
noncomputable def F99 (v) := (F99_t v).run
noncomputable def F99_E : TEnv := E0
theorem F99_Eok : (F99_E).OK := E0ok
noncomputable def F99_told : Nat → Option SealT := fun id => if id = 2 then some (LSh.told F99_L2_sh 0 (F99_L2_step)) else none
theorem F99_L2_ok : ToldOK Tryz.prog 0 (loopAt (bodyOf fn_F99) [0]) (LSh.told F99_L2_sh 0 (F99_L2_step)) :=
 loop_ok (E := F99_E) (F99_Eok) (told := F99_told) (l := F99_L2_sh) (step := F99_L2_step) (loopsOK_of (ls := []) (by kernel_rfl) trivial) (by kernel_rfl) (fun v => by kernel_rfl)
theorem F99_ok : FOK Tryz.prog n_F99 F99_sh F99_fo F99 :=
 fn_ok (E := F99_E) (F99_Eok) (told := F99_told) (fl := []) (c := bodyOf fn_F99) (s := F99_sh) (l := F99_fo) (tree := F99_t) fnat_F99 (by kernel_rfl) (by kernel_rfl) (by kernel_rfl) (loopsOK_of (ls := [loopAt (bodyOf fn_F99) [0]]) (by kernel_rfl) ⟨.inr ⟨_, by kernel_rfl, F99_L2_ok⟩, trivial⟩) (fun v => by kernel_rfl)
def lexS : List Dg → List Dg → Option Bool
 | a :: s, b :: t => if a = b then lexS s t else some (ltD a b)
 | _, _ => none
theorem lexS_D : ∀ a b : List Dg, lexD a b = match lexS a b with | some r => r | none => decide ((a.length : Int) < (b.length : Int))
 | [], [] => rfl
 | [], b :: t => by simp [lexD, lexS] <;> omega
 | a :: s, [] => by simp [lexD, lexS] <;> omega
 | a :: s, b :: t => by
  unfold lexD lexS
  by_cases e : a = b
  ·rw [if_pos e, if_pos e, lexS_D s t]
   have : decide (((a :: s).length : Int) < ((b :: t).length : Int)) = decide ((s.length : Int) < (t.length : Int)) := by
    rw [List.length_cons, List.length_cons, decide_eq_decide]; omega
   rw [this]
  ·rw [if_neg e, if_neg e]
theorem F99_loop (a b : List Dg) (ha : a.length < 4611686018427387904) : ∀ (m i : Nat), i + m = a.length → F99_L2 (a, (b, (i : Int))) = some (match lexS (a.drop i) (b.drop i) with | some r => .inl r | none => .inr (a, b)) := by
 intro m
 induction m with
 | zero =>
  intro i hi
  rw [List.drop_of_length_le (show a.length ≤ i by omega)]
  refine loopO_done ?_
  rw [F99_L2_step, T.run_test, if_neg (by rw [decide_eq_true_eq]; omega), T.run_ret]
  cases b.drop i <;> rfl
 | succ m ih =>
  intro i hi
  have h1 : i < a.length := by omega
  by_cases h2 : i < b.length
  ·have w1 : w64 ((i : Int) + 1) = ((i + 1 : Nat) : Int) := by rw [w64_id (by omega) (by omega)]; omega
   rw [List.drop_eq_getElem_cons h1, List.drop_eq_getElem_cons h2]
   generalize hx : a[i] = x
   generalize hy : b[i] = y
   have ga : a[i]? = some x := by rw [List.getElem?_eq_getElem h1, hx]
   have gb : b[i]? = some y := by rw [List.getElem?_eq_getElem h2, hy]
   obtain ⟨x1, x2⟩ := x
   obtain ⟨y1, y2⟩ := y
   unfold lexS
   by_cases e : ((x1, x2) : Dg) = (y1, y2)
   ·rw [if_pos e, ← ih (i + 1) (by omega)]
    obtain ⟨rfl, rfl⟩ := Prod.mk.inj e
    refine loopO_next ?_
    rw [F99_L2_step, T.run_test, if_pos (decide_eq_true (by omega)), T.run_test, if_pos (decide_eq_true (by omega)), T.run_test, if_pos (decide_eq_true (by omega)), T.run_sub, Int.toNat_natCast, ga, Option.bind_some, T.run_test, if_pos (decide_eq_true (by omega)), T.run_sub, gb, Option.bind_some, T.run_test, if_neg (by simp), T.run_ret, w1]
   ·rw [if_neg e]
    have e' : ¬ (x1 = y1 ∧ x2 = y2) := fun h => e (by rw [h.1, h.2])
    refine loopO_done ?_
    rw [F99_L2_step, T.run_test, if_pos (decide_eq_true (by omega)), T.run_test, if_pos (decide_eq_true (by omega)), T.run_test, if_pos (decide_eq_true (by omega)), T.run_sub, Int.toNat_natCast, ga, Option.bind_some, T.run_test, if_pos (decide_eq_true (by omega)), T.run_sub, gb, Option.bind_some, T.run_test, if_pos (by
     rw [Bool.not_eq_true', Bool.eq_false_iff, ne_eq]
     simpa using e'), T.run_test, if_pos (decide_eq_true (by omega)), T.run_sub, Option.bind_some, T.run_test, if_pos (decide_eq_true (by omega)), T.run_sub, Option.bind_some, T.run_test]
    dsimp only
    by_cases c : x1 < y1
    ·rw [if_pos (decide_eq_true c), T.run_ret]
     have : ltD (x1, x2) (y1, y2) = true := ltD_iff.2 (.inl c)
     rw [this]
    ·rw [if_neg (by rw [decide_eq_true_eq]; exact c), T.run_test, if_pos (decide_eq_true (by omega)), T.run_sub, Option.bind_some, T.run_test, if_pos (decide_eq_true (by omega)), T.run_sub, Option.bind_some, T.run_test]
     dsimp only
     by_cases c2 : x1 = y1
     ·subst c2
      rw [if_pos (by simp), T.run_test, if_pos (decide_eq_true (by omega)), T.run_sub, Option.bind_some, T.run_test, if_pos (decide_eq_true (by omega)), T.run_sub, Option.bind_some, T.run_ret]
      have : ltD (x1, x2) (x1, y2) = decide (x2 < y2) := by
       rw [Bool.eq_iff_iff, ltD_iff, decide_eq_true_eq]; dsimp only; omega
      rw [this]
     ·rw [if_neg (by simpa using c2), T.run_ret]
      have : ltD (x1, x2) (y1, y2) = false := by
       rw [Bool.eq_false_iff, ne_eq, ltD_iff]; dsimp only; omega
      rw [this]
  ·rw [List.drop_of_length_le (show b.length ≤ i by omega)]
   have hn : lexS (a.drop i) [] = none := by cases a.drop i <;> rfl
   rw [hn]
   refine loopO_done ?_
   rw [F99_L2_step, T.run_test, if_pos (decide_eq_true (by omega)), T.run_test, if_neg (by rw [decide_eq_true_eq]; omega), T.run_ret]
theorem F99_eq (a b : List Dg) (ha : a.length < 4611686018427387904) : F99 (a, b) = some (lexD a b) := by
 have h := F99_loop a b ha a.length 0 (by omega)
 rw [List.drop_zero, List.drop_zero] at h
 have h' : F99_L2 (a, (b, (0 : Int))) = _ := h
 rw [F99, F99_t, T.run_sub, h', Option.bind_some, lexS_D]
 cases lexS a b <;> rfl
def F73_sh : FSh := ⟨[(.one (.si .i64)), (.one (.sl (.pair (.int .i64) (.int .i64)) false false)), (.one (.si .i64))], []⟩
def F73_fo : List FO := [⟨[(.one .sb)], []⟩]
noncomputable def F73_t : (Int × List ((Int × Int)) × Int) → T Bool := fun (n, ds, size) =>
 (.sub (F92 (n, ds)) fun z0 =>
 (.test (decide (((0 : Int) ≤ (0 : Int)) ∧ (0 < (z0.2.length : Int))))
 (.sub (z0.2[0]?) fun z1 =>
 (.test (z1 == size)
 (.test (decide ((0 ≤ (w64 ((z0.2.length : Int) - 1))) ∧ ((w64 ((z0.2.length : Int) - 1)) < (z0.2.length : Int))))
 (.sub (z0.2[(0 + (Int.toNat (w64 ((z0.2.length : Int) - 1))))]?) fun z2 =>
 (.ret (z2 == size)))
 .fail)
 (.ret false)))
 .fail))
noncomputable def F73 (v) := (F73_t v).run
noncomputable def F73_E : TEnv := (E0.add1 n_F92 F92_sh F92_fo F92)
theorem F73_Eok : (F73_E).OK := (E0ok.add1 F92_ok)
noncomputable def F73_told : Nat → Option SealT := fun id => none
theorem F73_ok : FOK Tryz.prog n_F73 F73_sh F73_fo F73 :=
 fn_ok (E := F73_E) (F73_Eok) (told := F73_told) (fl := []) (c := bodyOf fn_F73) (s := F73_sh) (l := F73_fo) (tree := F73_t) fnat_F73 (by kernel_rfl) (by kernel_rfl) (by kernel_rfl) (loopsOK_of (ls := []) (by kernel_rfl) trivial) (fun v => by kernel_rfl)
theorem F73_eq {N : Nat} {ds : List Dg} (size : Int) (h3 : 3 ≤ N) (hN : N ≤ 12) (hl : ds.length + 3 ≤ N) (hc : CutD N ds) : F73 ((N : Int), (ds, size)) = some ((szL N ds).all fun s => s == size) := by
 have hperm := sortI_perm (szL N ds)
 have hup := sortI_up (szL N ds)
 have hlen := hperm.length_eq
 rw [szL_len hc h3] at hlen
 have e : ((szL N ds).all fun s => s == size) = ((sortI (szL N ds)).all fun s => s == size) := by
  rw [Bool.eq_iff_iff, List.all_eq_true, List.all_eq_true]
  exact ⟨fun h x hx => h x (hperm.mem_iff.1 hx), fun h x hx => h x (hperm.mem_iff.2 hx)⟩
 rw [F73, F73_t, T.run_sub, F92_eq h3 hN hl hc, Option.bind_some, e]
 obtain ⟨L, hL⟩ : ∃ L, L = sortI (szL N ds) := ⟨_, rfl⟩
 rw [← hL] at hlen hup ⊢
 have hup := List.pairwise_iff_getElem.1 hup
 have w1 : w64 ((L.length : Int) - 1) = ((L.length - 1 : Nat) : Int) := by rw [w64_id (by omega) (by omega)]; omega
 have h0 : 0 < L.length := by omega
 have hll : L.length - 1 < L.length := by omega
 dsimp only
 rw [T.run_test, if_pos (decide_eq_true (by omega)), T.run_sub, List.getElem?_eq_getElem h0, Option.bind_some, T.run_test]
 cases c : (L[0] == size) with
 | false =>
  rw [if_neg (by simp), T.run_ret]
  congr 1
  symm
  rw [List.all_eq_false]
  exact ⟨L[0], List.getElem_mem h0, by simpa using c⟩
 | true =>
  rw [if_pos rfl, T.run_test, w1, if_pos (decide_eq_true (by omega)), T.run_sub, Nat.zero_add, Int.toNat_natCast, List.getElem?_eq_getElem hll, Option.bind_some, T.run_ret]
  congr 1
  have c := eq_of_beq c
  cases c2 : (L[L.length - 1] == size) with
  | false =>
   symm
   rw [List.all_eq_false]
   exact ⟨_, List.getElem_mem hll, by simpa using c2⟩
  | true =>
   symm
   have c2 := eq_of_beq c2
   rw [List.all_eq_true]
   intro x hx
   obtain ⟨i, hi, rfl⟩ := List.getElem_of_mem hx
   have g1 : L[0] ≤ L[i] := by
    by_cases g : i = 0
    ·subst g; exact Int.le_refl _
    ·exact hup 0 i h0 hi (by omega)
   have g2 : L[i] ≤ L[L.length - 1] := by
    by_cases g : i = L.length - 1
    ·have : ∀ (j : Nat) (hj : j < L.length), i = j → L[i] ≤ L[j] := fun j hj e => by subst e; exact Int.le_refl _
     exact this _ hll g
    ·exact hup i (L.length - 1) hi hll (by omega)
   rw [beq_iff_eq]; omega
def F47_sh : FSh := ⟨[(.one (.si .i64)), (.one (.sl (.pair (.int .i64) (.int .i64)) false false)), (.one (.si .i64))], []⟩
def F47_fo : List FO := [⟨[(.one .sb), (.one .sb)], []⟩]
noncomputable def F47_t : (Int × List ((Int × Int)) × Int) → T (Bool × Bool) := fun (n, ds, size) =>
 (.sub (F98 (n, ds)) fun z0 =>
 (.test (! z0)
 (.ret (false, false))
 (.test (decide (size < 3))
 (.ret (false, false))
 (.sub (F73 (n, (ds, size))) fun z1 =>
 (.ret (z1, true))))))
noncomputable def F47 (v) := (F47_t v).run
noncomputable def F47_E : TEnv := ((E0.add1 n_F98 F98_sh F98_fo F98).add1 n_F73 F73_sh F73_fo F73)
theorem F47_Eok : (F47_E).OK := ((E0ok.add1 F98_ok).add1 F73_ok)
noncomputable def F47_told : Nat → Option SealT := fun id => none
theorem F47_ok : FOK Tryz.prog n_F47 F47_sh F47_fo F47 :=
 fn_ok (E := F47_E) (F47_Eok) (told := F47_told) (fl := []) (c := bodyOf fn_F47) (s := F47_sh) (l := F47_fo) (tree := F47_t) fnat_F47 (by kernel_rfl) (by kernel_rfl) (by kernel_rfl) (loopsOK_of (ls := []) (by kernel_rfl) trivial) (fun v => by kernel_rfl)
def ieR (n : Int) (ds : List Dg) (size : Int) : Bool × Bool := if isCut n ds = true ∧ 3 ≤ size then ((szL n.toNat ds).all fun s => s == size, true) else (false, false)
theorem F47_eq (n : Int) (ds : List Dg) (size : Int) (hl : ds.length < 4611686018427387904) : F47 (n, (ds, size)) = some (ieR n ds size) := by
 unfold ieR
 rw [F47, F47_t, T.run_sub, F98_eq n ds hl, Option.bind_some, T.run_test]
 by_cases c : isCut n ds = true
 ·obtain ⟨N, rfl, h3, h12, hlen, hc⟩ := isCut_cut c
  rw [if_neg (by rw [c]; decide), T.run_test]
  by_cases hs : size < 3
  ·rw [if_pos (decide_eq_true hs), T.run_ret, if_neg (by omega)]
  ·rw [if_neg (by rw [decide_eq_true_eq]; exact hs), T.run_sub, F73_eq size h3 h12 hlen hc, Option.bind_some, T.run_ret, if_pos ⟨c, by omega⟩, Int.toNat_natCast]
 ·rw [if_pos (by simp at c ⊢; exact c), T.run_ret, if_neg fun h => c h.1]
def F23_sh : FSh := ⟨[(.one (.si .i64)), (.one (.si .i64))], []⟩
def F23_fo : List FO := [⟨[(.one (.si .i64)), (.one .sb)], []⟩]
noncomputable def F23_t : (Int × Int) → T (Int × Bool) := fun (n, size) =>
 (.sub (F56 n) fun z0 =>
 (.test (! z0)
 (.ret ((0 : Int), false))
 (.test (decide (size < 3))
 (.ret ((0 : Int), false))
 (.test (decide ((w64 (size - 2)) ≠ 0))
 (.test ((Int.tmod (w64 (n - 2)) (w64 (size - 2))) != 0)
 (.ret ((0 : Int), true))
 (.test (decide ((w64 (size - 2)) ≠ 0))
 (.sub (F82 ((w64 ((w64 (Int.tdiv (w64 (n - 2)) (w64 (size - 2)))) * (w64 (size - 1)))), (w64 ((w64 (Int.tdiv (w64 (n - 2)) (w64 (size - 2)))) - 1)))) fun z1 =>
 (.test (decide ((w64 (Int.tdiv (w64 (n - 2)) (w64 (size - 2)))) ≠ 0))
 (.ret ((w64 (Int.tdiv z1 (w64 (Int.tdiv (w64 (n - 2)) (w64 (size - 2)))))), true))
 .fail))
 .fail))
 .fail))))
noncomputable def F23 (v) := (F23_t v).run
noncomputable def F23_E : TEnv := ((E0.add1 n_F56 F56_sh F56_fo F56).add1 n_F82 F82_sh F82_fo F82)
theorem F23_Eok : (F23_E).OK := ((E0ok.add1 F56_ok).add1 F82_ok)
noncomputable def F23_told : Nat → Option SealT := fun id => none
theorem F23_ok : FOK Tryz.prog n_F23 F23_sh F23_fo F23 :=
 fn_ok (E := F23_E) (F23_Eok) (told := F23_told) (fl := []) (c := bodyOf fn_F23) (s := F23_sh) (l := F23_fo) (tree := F23_t) fnat_F23 (by kernel_rfl) (by kernel_rfl) (by kernel_rfl) (loopsOK_of (ls := []) (by kernel_rfl) trivial) (fun v => by kernel_rfl)
def ceV (n size : Int) : Int := w64 (Int.tdiv (chI (w64 (w64 (Int.tdiv (n - 2) (size - 2)) * w64 (size - 1))) (w64 (w64 (Int.tdiv (n - 2) (size - 2)) - 1))) (w64 (Int.tdiv (n - 2) (size - 2))))
def ceR (n size : Int) : Int × Bool := if (inB 3 12 n && decide (3 ≤ size)) = true then (if (n - 2) % (size - 2) = 0 then ceV n size else 0, true) else (0, false)
theorem ce_facts {n size : Int} (hn : 3 ≤ n ∧ n ≤ 12) (h2 : 3 ≤ size) (h3 : (n - 2) % (size - 2) = 0) : size ≤ n ∧ w64 (Int.tdiv (n - 2) (size - 2)) = (n - 2) / (size - 2) ∧ 1 ≤ (n - 2) / (size - 2) ∧ (n - 2) / (size - 2) ≤ n - 2 ∧ w64 (w64 (Int.tdiv (n - 2) (size - 2)) - 1) ≤ 1000 := by
 have hle : size ≤ n := by
  rcases Int.lt_or_le n size with c | c
  ·rw [Int.emod_eq_of_lt (by omega) (by omega)] at h3; omega
  ·exact c
 have hd : Int.tdiv (n - 2) (size - 2) = (n - 2) / (size - 2) := Int.tdiv_eq_ediv_of_nonneg (by omega)
 have hdm := Int.mul_ediv_add_emod (n - 2) (size - 2)
 have hq1 : 1 ≤ (n - 2) / (size - 2) := by
  rcases Int.lt_or_le ((n - 2) / (size - 2)) 1 with c | c
  ·have := Int.ediv_nonneg (show 0 ≤ n - 2 by omega) (show 0 ≤ size - 2 by omega)
   have e : (n - 2) / (size - 2) = 0 := by omega
   rw [e, h3] at hdm
   omega
  ·exact c
 have hq2 : (n - 2) / (size - 2) ≤ n - 2 := Int.ediv_le_self _ (by omega)
 have hw : w64 (Int.tdiv (n - 2) (size - 2)) = (n - 2) / (size - 2) := by rw [hd, w64_id (by omega) (by omega)]
 exact ⟨hle, hw, hq1, hq2, by rw [hw, w64_id (by omega) (by omega)]; omega⟩
theorem F23_eq (n size : Int) (hs : size ≤ 9223372036854775807) : F23 (n, size) = some (ceR n size) := by
 unfold ceR
 rw [F23, F23_t, T.run_sub, F56, F56_t, T.run_sub, F77_eq, Option.bind_some, T.run_ret, Option.bind_some, T.run_test]
 cases hn : inB 3 12 n with
 | false => rw [if_pos (by rfl), T.run_ret, if_neg (by simp)]
 | true =>
  have hn' := inB_iff.1 hn
  rw [if_neg (by simp), T.run_test]
  by_cases h3 : size < 3
  ·rw [if_pos (decide_eq_true h3), T.run_ret, if_neg (by simp; omega)]
  ·have w1 : w64 (size - 2) = size - 2 := w64_id (by omega) (by omega)
   have w2 : w64 (n - 2) = n - 2 := w64_id (by omega) (by omega)
   rw [if_neg (by rw [decide_eq_true_eq]; exact h3), w1, w2, T.run_test, if_pos (decide_eq_true (by omega)), T.run_test, Int.tmod_eq_emod_of_nonneg (by omega), if_pos (show (true && decide (3 ≤ size)) = true by simp; omega)]
   by_cases hm : (n - 2) % (size - 2) = 0
   ·obtain ⟨c1, c2, c3, c4, c5⟩ := ce_facts hn' (by omega) hm
    rw [if_neg (by simp [hm]), T.run_test, if_pos (decide_eq_true (by omega)), T.run_sub, choose_I _ _ c5, Option.bind_some, T.run_test, if_pos (decide_eq_true (by omega)), T.run_ret, if_pos hm]
    rfl
   ·rw [if_pos (by simp [hm]), T.run_ret, if_neg hm]
def F30_sh : FSh := ⟨[(.one (.sl (.int .u8) false true))], []⟩
def F30_fo : List FO := [⟨[(.one (.si .i64)), (.one (.si .i64))], []⟩]
noncomputable def F30_t : List (Int) → T (Int × Int) := fun code =>
 (.sub (F43 (((), (12 : Int)), (code, ((0 : Int), (0 : Int))))) fun z0 =>
 (.sub (F43 (((), (w64 ((w64 (2 + z0.1)) - 1))), z0.2)) fun z1 =>
 (.sub (F43 (((), (9 : Int)), z1.2)) fun z2 =>
 (.test true
 (.ret ((w64 (2 + z0.1)), (w64 (z1.1 - (w64 (Int.tdiv z2.1 (8 : Int)))))))
 .fail))))
noncomputable def F30 (v) := (F30_t v).run
noncomputable def F30_E : TEnv := (E0.add1 n_F43 F43_sh F43_fo F43)
theorem F30_Eok : (F30_E).OK := (E0ok.add1 F43_ok)
noncomputable def F30_told : Nat → Option SealT := fun id => none
theorem F30_ok : FOK Tryz.prog n_F30 F30_sh F30_fo F30 :=
 fn_ok (E := F30_E) (F30_Eok) (told := F30_told) (fl := []) (c := bodyOf fn_F30) (s := F30_sh) (l := F30_fo) (tree := F30_t) fnat_F30 (by kernel_rfl) (by kernel_rfl) (by kernel_rfl) (loopsOK_of (ls := []) (by kernel_rfl) trivial) (fun v => by kernel_rfl)
theorem F30_some {code : List Int} (h : bytesOK code) : ∃ n k, F30 code = some (n, k) := by
 obtain ⟨x, c1, e1, _, _, _, hc1⟩ := pick_ok 12 (cur0 h) (by omega)
 obtain ⟨y, c2, e2, _, _, _, hc2⟩ := pick_ok (w64 (w64 (2 + x) - 1)) hc1 (by omega)
 obtain ⟨z, c3, e3, _, _, _, hc3⟩ := pick_ok 9 hc2 (by omega)
 rw [F30, F30_t, T.run_sub, e1, Option.bind_some, T.run_sub, e2, Option.bind_some, T.run_sub, e3, Option.bind_some, T.run_test, if_pos (by rfl), T.run_ret]
 exact ⟨_, _, rfl⟩
def F65_sh : FSh := ⟨[(.one (.si .i64)), (.one (.si .i64))], []⟩
def F65_L5_sh : LSh := ⟨(fun ex => match ex with | .norm => [(0, none), (1, none), (5, none), (6, none)] | .exit i => if i = 0 then [(5, none)] else [] | .ret => [(4, none)]), [(0, (.one (.si .i64))), (1, (.one (.si .i64))), (5, (.one (.si .i64))), (6, (.one (.si .i64)))], [], [⟨(.exit 0), [(5, (.one (.si .i64)))], []⟩], [], []⟩
noncomputable def F65_L5_step : (Int × Int × Int × Int) → T ((Int × Int × Int × Int) ⊕ Int) := fun (n, k, out, i) =>
 (.test (decide (i < k))
 (.test (decide ((w64 (i + 1)) ≠ 0))
 (.ret (Sum.inl (n, (k, ((w64 (Int.tdiv (w64 (out * (w64 (n - i)))) (w64 (i + 1)))), (w64 (i + 1)))))))
 .fail)
 (.ret (Sum.inr out)))
noncomputable def F65_L5 (v) := loopO (fun v => (F65_L5_step v).run) v
def F65_fo : List FO := [⟨[(.one (.si .i64))], []⟩]
noncomputable def F65_t : (Int × Int) → T Int := fun (n, k) =>
 (.test (decide (k < 0))
 (.ret (0 : Int))
 (.test (decide (k > n))
 (.ret (0 : Int))
 (.sub (F65_L5 (n, (k, ((1 : Int), (0 : Int))))) fun z0 =>
 (.ret z0))))
noncomputable def F65 (v) := (F65_t v).run
noncomputable def F65_E : TEnv := E0
theorem F65_Eok : (F65_E).OK := E0ok
noncomputable def F65_told : Nat → Option SealT := fun id => if id = 5 then some (LSh.told F65_L5_sh 0 (F65_L5_step)) else none
theorem F65_L5_ok : ToldOK Tryz.prog 0 (loopAt (bodyOf fn_F65) [0]) (LSh.told F65_L5_sh 0 (F65_L5_step)) :=
 loop_ok (E := F65_E) (F65_Eok) (told := F65_told) (l := F65_L5_sh) (step := F65_L5_step) (loopsOK_of (ls := []) (by kernel_rfl) trivial) (by kernel_rfl) (fun v => by kernel_rfl)
theorem F65_ok : FOK Tryz.prog n_F65 F65_sh F65_fo F65 :=
 fn_ok (E := F65_E) (F65_Eok) (told := F65_told) (fl := []) (c := bodyOf fn_F65) (s := F65_sh) (l := F65_fo) (tree := F65_t) fnat_F65 (by kernel_rfl) (by kernel_rfl) (by kernel_rfl) (loopsOK_of (ls := [loopAt (bodyOf fn_F65) [0]]) (by kernel_rfl) ⟨.inr ⟨_, by kernel_rfl, F65_L5_ok⟩, trivial⟩) (fun v => by kernel_rfl)
theorem F65_L5_eq (n k : Int) (hk : k ≤ 1000) : ∀ (m i : Nat) (out : Int), (i : Int) + (m : Int) = k → F65_L5 (n, (k, (out, (i : Int)))) = some (chA n m i out) := by
 intro m
 induction m with
 | zero =>
  intro i out h
  simp only [F65_L5]
  refine loopO_done ?_
  rw [F65_L5_step, T.run_test, if_neg (by rw [decide_eq_true_eq]; omega), T.run_ret]
  rfl
 | succ m ih =>
  intro i out h
  have w1 : w64 ((i : Int) + 1) = ((i + 1 : Nat) : Int) := by rw [w64_id (by omega) (by omega)]; omega
  have := ih (i + 1) (w64 (Int.tdiv (w64 (out * (w64 (n - (i : Int))))) ((i + 1 : Nat) : Int))) (by omega)
  simp only [F65_L5] at this ⊢
  rw [chA, ← this]
  refine loopO_next ?_
  rw [F65_L5_step, T.run_test, if_pos (decide_eq_true (by omega)), T.run_test, w1, if_pos (by exact decide_eq_true (by omega)), T.run_ret]
def F74_sh : FSh := ⟨[(.one (.si .i64)), (.one (.si .i64))], []⟩
def F74_fo : List FO := [⟨[(.one (.si .i64))], []⟩]
noncomputable def F74_t : (Int × Int) → T Int := fun (n, k) =>
 (.sub (F65 ((w64 (n - 3)), k)) fun z0 =>
 (.sub (F65 ((w64 ((w64 (n + k)) - 1)), k)) fun z1 =>
 (.test (decide ((w64 (k + 1)) ≠ 0))
 (.ret (w64 (Int.tdiv (w64 (z0 * z1)) (w64 (k + 1)))))
 .fail)))
noncomputable def F74 (v) := (F74_t v).run
noncomputable def F74_E : TEnv := (E0.add1 n_F65 F65_sh F65_fo F65)
theorem F74_Eok : (F74_E).OK := (E0ok.add1 F65_ok)
noncomputable def F74_told : Nat → Option SealT := fun id => none
theorem F74_ok : FOK Tryz.prog n_F74 F74_sh F74_fo F74 :=
 fn_ok (E := F74_E) (F74_Eok) (told := F74_told) (fl := []) (c := bodyOf fn_F74) (s := F74_sh) (l := F74_fo) (tree := F74_t) fnat_F74 (by kernel_rfl) (by kernel_rfl) (by kernel_rfl) (loopsOK_of (ls := []) (by kernel_rfl) trivial) (fun v => by kernel_rfl)
theorem cuChoose_gen (n k : Int) (hk : k ≤ 1000) : F65 (n, k) = some (chI n k) := by
 unfold chI
 rw [F65, F65_t, T.run_test]
 by_cases h : k < 0
 ·rw [if_pos (decide_eq_true h), T.run_ret, if_neg (by omega)]
 ·rw [if_neg (by rw [decide_eq_true_eq]; exact h), T.run_test]
  by_cases h2 : k > n
  ·rw [if_pos (decide_eq_true h2), T.run_ret, if_neg (by omega)]
  ·have hc := F65_L5_eq n k hk k.toNat 0 1 (by omega)
   rw [Int.natCast_zero] at hc
   rw [if_neg (by rw [decide_eq_true_eq]; exact h2), T.run_sub, hc, Option.bind_some, T.run_ret, if_pos (by omega)]
theorem F74_eq (n k : Int) (hk : 0 ≤ k ∧ k ≤ 1000) : F74 (n, k) = some (ccV n k) := by
 have w : w64 (k + 1) = k + 1 := w64_id (by omega) (by omega)
 rw [F74, F74_t, T.run_sub, cuChoose_gen _ _ (by omega), Option.bind_some, T.run_sub, cuChoose_gen _ _ (by omega), Option.bind_some, T.run_test, if_pos (decide_eq_true (by rw [w]; omega)), T.run_ret]
 rfl
def F59_sh : FSh := ⟨[(.one (.si .i64)), (.one (.si .i64))], []⟩
def F59_fo : List FO := [⟨[(.one (.si .i64)), (.one .sb)], []⟩]
noncomputable def F59_t : (Int × Int) → T (Int × Bool) := fun (n, diagonals) =>
 (.sub (F113 n) fun z0 =>
 (.test (! z0)
 (.ret ((0 : Int), false))
 (.sub (F112 (diagonals, ((0 : Int), (w64 (n - 3))))) fun z1 =>
 (.test (! z1)
 (.ret ((0 : Int), false))
 (.sub (F74 (n, diagonals)) fun z2 =>
 (.ret (z2, true)))))))
noncomputable def F59 (v) := (F59_t v).run
noncomputable def F59_E : TEnv := (((E0.add1 n_F113 F113_sh F113_fo F113).add1 n_F112 F112_sh F112_fo F112).add1 n_F74 F74_sh F74_fo F74)
theorem F59_Eok : (F59_E).OK := (((E0ok.add1 F113_ok).add1 F112_ok).add1 F74_ok)
noncomputable def F59_told : Nat → Option SealT := fun id => none
theorem F59_ok : FOK Tryz.prog n_F59 F59_sh F59_fo F59 :=
 fn_ok (E := F59_E) (F59_Eok) (told := F59_told) (fl := []) (c := bodyOf fn_F59) (s := F59_sh) (l := F59_fo) (tree := F59_t) fnat_F59 (by kernel_rfl) (by kernel_rfl) (by kernel_rfl) (loopsOK_of (ls := []) (by kernel_rfl) trivial) (fun v => by kernel_rfl)
theorem F59_eq (n k : Int) : F59 (n, k) = some (ccR n k) := by
 unfold ccR
 rw [F59, F59_t, T.run_sub, F113, F113_t, T.run_sub, F112_eq, Option.bind_some, T.run_ret, Option.bind_some, T.run_test]
 cases hn : inB 3 12 n with
 | false => rw [if_pos (by rfl), T.run_ret, if_neg (by simp)]
 | true =>
  have hn' := inB_iff.1 hn
  have w : w64 (n - 3) = n - 3 := w64_id (by omega) (by omega)
  rw [if_neg (by simp), T.run_sub, F112_eq, w, Option.bind_some, T.run_test]
  cases hk : inB 0 (n - 3) k with
  | false => rw [if_pos (by rfl), T.run_ret, if_neg (by simp)]
  | true =>
   have hk' := inB_iff.1 hk
   rw [if_neg (by simp), T.run_sub, F74_eq n k (by omega), Option.bind_some, T.run_ret, if_pos (by simp)]
def F17_sh : FSh := ⟨[(.one (.sl (.int .u8) false true))], []⟩
def F17_fo : List FO := [⟨[(.one (.si .i64))], []⟩]
noncomputable def F17_t : List (Int) → T Int := fun code =>
 (.sub (F43 (((), (12 : Int)), (code, ((0 : Int), (0 : Int))))) fun z0 =>
 (.ret (w64 (2 + z0.1))))
noncomputable def F17 (v) := (F17_t v).run
noncomputable def F17_E : TEnv := (E0.add1 n_F43 F43_sh F43_fo F43)
theorem F17_Eok : (F17_E).OK := (E0ok.add1 F43_ok)
noncomputable def F17_told : Nat → Option SealT := fun id => none
theorem F17_ok : FOK Tryz.prog n_F17 F17_sh F17_fo F17 :=
 fn_ok (E := F17_E) (F17_Eok) (told := F17_told) (fl := []) (c := bodyOf fn_F17) (s := F17_sh) (l := F17_fo) (tree := F17_t) fnat_F17 (by kernel_rfl) (by kernel_rfl) (by kernel_rfl) (loopsOK_of (ls := []) (by kernel_rfl) trivial) (fun v => by kernel_rfl)
theorem F17_some {code : List Int} (h : bytesOK code) : ∃ n, F17 code = some n := by
 obtain ⟨x, c1, e1, _, _, _, hc1⟩ := pick_ok 12 (cur0 h) (by omega)
 rw [F17, F17_t, T.run_sub, e1, Option.bind_some, T.run_ret]
 exact ⟨_, rfl⟩
def F35_sh : FSh := ⟨[(.one (.si .i64))], []⟩
def F35_L5_sh : LSh := ⟨(fun ex => match ex with | .norm => [(0, none), (4, none), (10, none), (11, none)] | .exit i => if i = 0 then [(4, none)] else [] | .ret => [(2, none), (3, none)]), [(0, (.one (.si .i64))), (4, (.one (.si .i64))), (10, (.one (.si .i64))), (11, (.one (.si .i64)))], [], [⟨(.exit 0), [(4, (.one (.si .i64)))], []⟩], [], []⟩
noncomputable def F35_L5_step : (Int × Int × Int × Int) → T ((Int × Int × Int × Int) ⊕ Int) := fun (n, sum, t10, t11) =>
 (.test (decide (t11 < t10))
 (.sub (F57 (n, t11)) fun z0 =>
 (.ret (Sum.inl (n, ((w64 (sum + z0)), (t10, (w64 (t11 + 1))))))))
 (.ret (Sum.inr sum)))
noncomputable def F35_L5 (v) := loopO (fun v => (F35_L5_step v).run) v
def F35_fo : List FO := [⟨[(.one (.si .i64)), (.one .sb)], []⟩]
noncomputable def F35_t : Int → T (Int × Bool) := fun n =>
 (.sub (F56 n) fun z0 =>
 (.test (! z0)
 (.ret ((0 : Int), false))
 (.sub (F35_L5 (n, ((0 : Int), ((w64 (n - 2)), (0 : Int))))) fun z1 =>
 (.ret (z1, true)))))
noncomputable def F35 (v) := (F35_t v).run
noncomputable def F35_E : TEnv := ((E0.add1 n_F56 F56_sh F56_fo F56).add1 n_F57 F57_sh F57_fo F57)
theorem F35_Eok : (F35_E).OK := ((E0ok.add1 F56_ok).add1 F57_ok)
noncomputable def F35_told : Nat → Option SealT := fun id => if id = 5 then some (LSh.told F35_L5_sh 0 (F35_L5_step)) else none
theorem F35_L5_ok : ToldOK Tryz.prog 0 (loopAt (bodyOf fn_F35) [0]) (LSh.told F35_L5_sh 0 (F35_L5_step)) :=
 loop_ok (E := F35_E) (F35_Eok) (told := F35_told) (l := F35_L5_sh) (step := F35_L5_step) (loopsOK_of (ls := []) (by kernel_rfl) trivial) (by kernel_rfl) (fun v => by kernel_rfl)
theorem F35_ok : FOK Tryz.prog n_F35 F35_sh F35_fo F35 :=
 fn_ok (E := F35_E) (F35_Eok) (told := F35_told) (fl := []) (c := bodyOf fn_F35) (s := F35_sh) (l := F35_fo) (tree := F35_t) fnat_F35 (by kernel_rfl) (by kernel_rfl) (by kernel_rfl) (loopsOK_of (ls := [loopAt (bodyOf fn_F35) [0]]) (by kernel_rfl) ⟨.inr ⟨_, by kernel_rfl, F35_L5_ok⟩, trivial⟩) (fun v => by kernel_rfl)
def caS (n : Int) : Nat → Nat → Int → Int
 | 0, _, s => s
 | m + 1, k, s => caS n m (k + 1) (w64 (s + ccV n (k : Int)))
theorem F35_loop (n : Int) (N : Nat) (hN : N ≤ 1000) : ∀ (m k : Nat) (s : Int), k + m = N → F35_L5 (n, (s, ((N : Int), (k : Int)))) = some (caS n m k s)
 | 0, k, s, hk => by
  refine loopO_done ?_
  rw [F35_L5_step, T.run_test, if_neg (by rw [decide_eq_true_eq]; omega), T.run_ret]
  rfl
 | m + 1, k, s, hk => by
  have w1 : w64 ((k : Int) + 1) = ((k + 1 : Nat) : Int) := by rw [w64_id (by omega) (by omega)]; omega
  have ih := F35_loop n N hN m (k + 1) (w64 (s + ccV n (k : Int))) (by omega)
  unfold caS
  rw [← ih]
  refine loopO_next ?_
  rw [F35_L5_step, T.run_test, if_pos (decide_eq_true (by omega)), T.run_sub, F57_eq n (k : Int) (by omega), Option.bind_some, T.run_ret, w1]
def caR (n : Int) : Int × Bool := if inB 3 12 n = true then (caS n (n - 2).toNat 0 0, true) else (0, false)
theorem F35_eq (n : Int) : F35 n = some (caR n) := by
 unfold caR
 rw [F35, F35_t, T.run_sub, F56, F56_t, T.run_sub, F77_eq, Option.bind_some, T.run_ret, Option.bind_some, T.run_test]
 cases hn : inB 3 12 n with
 | false => rw [if_pos (by rfl), T.run_ret, if_neg (by simp)]
 | true =>
  have hn' := inB_iff.1 hn
  have w : w64 (n - 2) = (((n - 2).toNat : Nat) : Int) := by rw [w64_id (by omega) (by omega)]; omega
  have h := F35_loop n (n - 2).toNat (by omega) (n - 2).toNat 0 0 (by omega)
  have h' : F35_L5 (n, ((0 : Int), ((((n - 2).toNat : Nat) : Int), (0 : Int)))) = _ := h
  rw [if_neg (by simp), T.run_sub, w, h', Option.bind_some, T.run_ret, if_pos rfl]
def F36_sh : FSh := ⟨[(.one (.si .i64))], []⟩
def F36_L5_sh : LSh := ⟨(fun ex => match ex with | .norm => [(0, none), (4, none), (5, none)] | .exit i => if i = 0 then [(4, none)] else [] | .ret => [(2, none), (3, none)]), [(0, (.one (.si .i64))), (4, (.one (.si .i64))), (5, (.one (.si .i64)))], [], [⟨(.exit 0), [(4, (.one (.si .i64)))], []⟩], [], []⟩
noncomputable def F36_L5_step : (Int × Int × Int) → T ((Int × Int × Int) ⊕ Int) := fun (n, sum, k) =>
 (.test (decide (k ≤ (w64 (n - 3))))
 (.sub (F74 (n, k)) fun z0 =>
 (.ret (Sum.inl (n, ((w64 (sum + z0)), (w64 (k + 1)))))))
 (.ret (Sum.inr sum)))
noncomputable def F36_L5 (v) := loopO (fun v => (F36_L5_step v).run) v
def F36_fo : List FO := [⟨[(.one (.si .i64)), (.one .sb)], []⟩]
noncomputable def F36_t : Int → T (Int × Bool) := fun n =>
 (.sub (F113 n) fun z0 =>
 (.test (! z0)
 (.ret ((0 : Int), false))
 (.sub (F36_L5 (n, ((0 : Int), (0 : Int)))) fun z1 =>
 (.ret (z1, true)))))
noncomputable def F36 (v) := (F36_t v).run
noncomputable def F36_E : TEnv := ((E0.add1 n_F113 F113_sh F113_fo F113).add1 n_F74 F74_sh F74_fo F74)
theorem F36_Eok : (F36_E).OK := ((E0ok.add1 F113_ok).add1 F74_ok)
noncomputable def F36_told : Nat → Option SealT := fun id => if id = 5 then some (LSh.told F36_L5_sh 0 (F36_L5_step)) else none
theorem F36_L5_ok : ToldOK Tryz.prog 0 (loopAt (bodyOf fn_F36) [0]) (LSh.told F36_L5_sh 0 (F36_L5_step)) :=
 loop_ok (E := F36_E) (F36_Eok) (told := F36_told) (l := F36_L5_sh) (step := F36_L5_step) (loopsOK_of (ls := []) (by kernel_rfl) trivial) (by kernel_rfl) (fun v => by kernel_rfl)
theorem F36_ok : FOK Tryz.prog n_F36 F36_sh F36_fo F36 :=
 fn_ok (E := F36_E) (F36_Eok) (told := F36_told) (fl := []) (c := bodyOf fn_F36) (s := F36_sh) (l := F36_fo) (tree := F36_t) fnat_F36 (by kernel_rfl) (by kernel_rfl) (by kernel_rfl) (loopsOK_of (ls := [loopAt (bodyOf fn_F36) [0]]) (by kernel_rfl) ⟨.inr ⟨_, by kernel_rfl, F36_L5_ok⟩, trivial⟩) (fun v => by kernel_rfl)
theorem F36_loop (n : Int) (hn : 3 ≤ n ∧ n ≤ 12) : ∀ (m k : Nat) (s : Int), (k : Int) + (m : Int) = n - 2 → F36_L5 (n, (s, (k : Int))) = some (caS n m k s)
 | 0, k, s, hk => by
  have w : w64 (n - 3) = n - 3 := w64_id (by omega) (by omega)
  refine loopO_done ?_
  rw [F36_L5_step, T.run_test, w, if_neg (by rw [decide_eq_true_eq]; omega), T.run_ret]
  rfl
 | m + 1, k, s, hk => by
  have w : w64 (n - 3) = n - 3 := w64_id (by omega) (by omega)
  have w1 : w64 ((k : Int) + 1) = ((k + 1 : Nat) : Int) := by rw [w64_id (by omega) (by omega)]; omega
  have ih := F36_loop n hn m (k + 1) (w64 (s + ccV n (k : Int))) (by omega)
  unfold caS
  rw [← ih]
  refine loopO_next ?_
  rw [F36_L5_step, T.run_test, w, if_pos (decide_eq_true (by omega)), T.run_sub, F74_eq n (k : Int) (by omega), Option.bind_some, T.run_ret, w1]
theorem F36_eq (n : Int) : F36 n = some (caR n) := by
 unfold caR
 rw [F36, F36_t, T.run_sub, F113, F113_t, T.run_sub, F112_eq, Option.bind_some, T.run_ret, Option.bind_some, T.run_test]
 cases hn : inB 3 12 n with
 | false => rw [if_pos (by rfl), T.run_ret, if_neg (by simp)]
 | true =>
  have hn' := inB_iff.1 hn
  have h := F36_loop n hn' (n - 2).toNat 0 0 (by omega)
  have h' : F36_L5 (n, ((0 : Int), (0 : Int))) = _ := h
  rw [if_neg (by simp), T.run_sub, h', Option.bind_some, T.run_ret, if_pos rfl]
def F66_sh : FSh := ⟨[(.one (.si .i64))], []⟩
def F66_L3_sh : LSh := ⟨(fun ex => match ex with | .norm => [(0, none), (3, none), (4, none)] | .exit i => if i = 0 then [(3, none)] else [] | .ret => [(2, none)]), [(0, (.one (.si .i64))), (3, (.one (.si .i64))), (4, (.one (.si .i64)))], [], [⟨(.exit 0), [(3, (.one (.si .i64)))], []⟩], [], []⟩
noncomputable def F66_L3_step : (Int × Int × Int) → T ((Int × Int × Int) ⊕ Int) := fun (n, out, k) =>
 (.test (decide (k ≤ (w64 (n - 2))))
 (.test (decide ((w64 (k + 1)) ≠ 0))
 (.ret (Sum.inl (n, ((w64 (Int.tdiv (w64 (out * (w64 ((w64 (4 * k)) - 2)))) (w64 (k + 1)))), (w64 (k + 1))))))
 .fail)
 (.ret (Sum.inr out)))
noncomputable def F66_L3 (v) := loopO (fun v => (F66_L3_step v).run) v
def F66_fo : List FO := [⟨[(.one (.si .i64))], []⟩]
noncomputable def F66_t : Int → T Int := fun n =>
 (.sub (F66_L3 (n, ((1 : Int), (1 : Int)))) fun z0 =>
 (.ret z0))
noncomputable def F66 (v) := (F66_t v).run
noncomputable def F66_E : TEnv := E0
theorem F66_Eok : (F66_E).OK := E0ok
noncomputable def F66_told : Nat → Option SealT := fun id => if id = 3 then some (LSh.told F66_L3_sh 0 (F66_L3_step)) else none
theorem F66_L3_ok : ToldOK Tryz.prog 0 (loopAt (bodyOf fn_F66) [0]) (LSh.told F66_L3_sh 0 (F66_L3_step)) :=
 loop_ok (E := F66_E) (F66_Eok) (told := F66_told) (l := F66_L3_sh) (step := F66_L3_step) (loopsOK_of (ls := []) (by kernel_rfl) trivial) (by kernel_rfl) (fun v => by kernel_rfl)
theorem F66_ok : FOK Tryz.prog n_F66 F66_sh F66_fo F66 :=
 fn_ok (E := F66_E) (F66_Eok) (told := F66_told) (fl := []) (c := bodyOf fn_F66) (s := F66_sh) (l := F66_fo) (tree := F66_t) fnat_F66 (by kernel_rfl) (by kernel_rfl) (by kernel_rfl) (loopsOK_of (ls := [loopAt (bodyOf fn_F66) [0]]) (by kernel_rfl) ⟨.inr ⟨_, by kernel_rfl, F66_L3_ok⟩, trivial⟩) (fun v => by kernel_rfl)
def ucV : Nat → Nat → Int → Int
 | 0, _, out => out
 | m + 1, k, out => ucV m (k + 1) (w64 (Int.tdiv (w64 (out * (w64 ((w64 (4 * (k : Int))) - 2)))) ((k : Int) + 1)))
theorem F66_loop (n : Int) (hn : 3 ≤ n ∧ n ≤ 12) : ∀ (m k : Nat) (out : Int), (k : Int) + (m : Int) = n - 1 → 1 ≤ k → F66_L3 (n, (out, (k : Int))) = some (ucV m k out)
 | 0, k, out, hk, h1 => by
  have w : w64 (n - 2) = n - 2 := w64_id (by omega) (by omega)
  refine loopO_done ?_
  rw [F66_L3_step, T.run_test, w, if_neg (by rw [decide_eq_true_eq]; omega), T.run_ret]
  rfl
 | m + 1, k, out, hk, h1 => by
  have w : w64 (n - 2) = n - 2 := w64_id (by omega) (by omega)
  have w1 : w64 ((k : Int) + 1) = (k : Int) + 1 := w64_id (by omega) (by omega)
  have ih := F66_loop n hn m (k + 1) (w64 (Int.tdiv (w64 (out * (w64 ((w64 (4 * (k : Int))) - 2)))) ((k : Int) + 1))) (by omega) (by omega)
  unfold ucV
  rw [← ih]
  refine loopO_next ?_
  rw [F66_L3_step, T.run_test, w, if_pos (decide_eq_true (by omega)), T.run_test, w1, if_pos (decide_eq_true (by omega)), T.run_ret]
  rfl
theorem uc_cat : ∀ n : Nat, n ≤ 12 → 3 ≤ n → ucV (n - 2) 1 1 = catV (n : Int) := by decide +kernel
theorem F66_eq (n : Nat) (hn : 3 ≤ n ∧ n ≤ 12) : F66 (n : Int) = some (catV (n : Int)) := by
 have h := F66_loop (n : Int) (by omega) (n - 2) 1 1 (by omega) (by omega)
 rw [uc_cat n hn.2 hn.1] at h
 have h' : F66_L3 ((n : Int), ((1 : Int), (1 : Int))) = _ := h
 rw [F66, F66_t, T.run_sub, h', Option.bind_some, T.run_ret]
def F10_sh : FSh := ⟨[(.one (.sl (.int .u8) false true))], []⟩
def F10_fo : List FO := [⟨[(.one (.si .i64)), (.one (.si .i64))], []⟩]
noncomputable def F10_t : List (Int) → T (Int × Int) := fun code =>
 (.sub (F43 (((), (12 : Int)), (code, ((0 : Int), (0 : Int))))) fun z0 =>
 (.test true
 (.sub (F37 (((), [(3 : Int), (4 : Int), (5 : Int), (6 : Int), (4 : Int), (2 : Int), (12 : Int), (4611686018427387904 : Int)]), z0.2)) fun z1 =>
 (.ret ((w64 (2 + z0.1)), z1.1)))
 .fail))
noncomputable def F10 (v) := (F10_t v).run
noncomputable def F10_E : TEnv := ((E0.add1 n_F43 F43_sh F43_fo F43).add1 n_F37 F37_sh F37_fo F37)
theorem F10_Eok : (F10_E).OK := ((E0ok.add1 F43_ok).add1 F37_ok)
noncomputable def F10_told : Nat → Option SealT := fun id => none
theorem F10_ok : FOK Tryz.prog n_F10 F10_sh F10_fo F10 :=
 fn_ok (E := F10_E) (F10_Eok) (told := F10_told) (fl := []) (c := bodyOf fn_F10) (s := F10_sh) (l := F10_fo) (tree := F10_t) fnat_F10 (by kernel_rfl) (by kernel_rfl) (by kernel_rfl) (loopsOK_of (ls := []) (by kernel_rfl) trivial) (fun v => by kernel_rfl)
theorem F10_some {code : List Int} (h : bytesOK code) : ∃ n k, F10 code = some (n, k) ∧ k ≤ 9223372036854775807 := by
 obtain ⟨x, c1, e1, _, _, _, hc1⟩ := pick_ok 12 (cur0 h) (by omega)
 obtain ⟨y, c2, e2, hy, hc2⟩ := among_ok [3, 4, 5, 6, 4, 2, 12, 4611686018427387904] hc1 (by omega) (by simp)
 rw [F10, F10_t, T.run_sub, e1, Option.bind_some, T.run_test, if_pos (by rfl), T.run_sub, e2, Option.bind_some, T.run_ret]
 refine ⟨_, _, rfl, ?_⟩
 simp only [List.mem_cons, List.not_mem_nil, or_false] at hy
 dsimp only
 omega
def F24_sh : FSh := ⟨[(.one (.si .i64)), (.one (.si .i64))], []⟩
def F24_fo : List FO := [⟨[(.one (.si .i64)), (.one .sb)], []⟩]
noncomputable def F24_t : (Int × Int) → T (Int × Bool) := fun (n, size) =>
 (.sub (F113 n) fun z0 =>
 (.test (! z0)
 (.ret ((0 : Int), false))
 (.test (decide (size < 3))
 (.ret ((0 : Int), false))
 (.test (decide (size > n))
 (.ret ((0 : Int), true))
 (.test (decide ((w64 (size - 2)) ≠ 0))
 (.test ((Int.tmod (w64 (n - 2)) (w64 (size - 2))) != 0)
 (.ret ((0 : Int), true))
 (.test (decide ((w64 (size - 2)) ≠ 0))
 (.sub (F65 ((w64 ((w64 (Int.tdiv (w64 (n - 2)) (w64 (size - 2)))) * (w64 (size - 1)))), (w64 ((w64 (Int.tdiv (w64 (n - 2)) (w64 (size - 2)))) - 1)))) fun z1 =>
 (.test (decide ((w64 (Int.tdiv (w64 (n - 2)) (w64 (size - 2)))) ≠ 0))
 (.ret ((w64 (Int.tdiv z1 (w64 (Int.tdiv (w64 (n - 2)) (w64 (size - 2)))))), true))
 .fail))
 .fail))
 .fail)))))
noncomputable def F24 (v) := (F24_t v).run
noncomputable def F24_E : TEnv := ((E0.add1 n_F113 F113_sh F113_fo F113).add1 n_F65 F65_sh F65_fo F65)
theorem F24_Eok : (F24_E).OK := ((E0ok.add1 F113_ok).add1 F65_ok)
noncomputable def F24_told : Nat → Option SealT := fun id => none
theorem F24_ok : FOK Tryz.prog n_F24 F24_sh F24_fo F24 :=
 fn_ok (E := F24_E) (F24_Eok) (told := F24_told) (fl := []) (c := bodyOf fn_F24) (s := F24_sh) (l := F24_fo) (tree := F24_t) fnat_F24 (by kernel_rfl) (by kernel_rfl) (by kernel_rfl) (loopsOK_of (ls := []) (by kernel_rfl) trivial) (fun v => by kernel_rfl)
theorem F24_eq (n size : Int) (hs : size ≤ 9223372036854775807) : F24 (n, size) = some (ceR n size) := by
 unfold ceR
 rw [F24, F24_t, T.run_sub, F113, F113_t, T.run_sub, F112_eq, Option.bind_some, T.run_ret, Option.bind_some, T.run_test]
 cases hn : inB 3 12 n with
 | false => rw [if_pos (by rfl), T.run_ret, if_neg (by simp)]
 | true =>
  have hn' := inB_iff.1 hn
  rw [if_neg (by simp), T.run_test]
  by_cases h3 : size < 3
  ·rw [if_pos (decide_eq_true h3), T.run_ret, if_neg (by simp; omega)]
  ·have w1 : w64 (size - 2) = size - 2 := w64_id (by omega) (by omega)
   have w2 : w64 (n - 2) = n - 2 := w64_id (by omega) (by omega)
   rw [if_neg (by rw [decide_eq_true_eq]; exact h3), T.run_test, if_pos (show (true && decide (3 ≤ size)) = true by simp; omega)]
   by_cases hgt : size > n
   ·have hm : ¬ (n - 2) % (size - 2) = 0 := fun h => by
     have := (ce_facts hn' (by omega) h).1
     omega
    rw [if_pos (decide_eq_true hgt), T.run_ret, if_neg hm]
   ·rw [if_neg (by rw [decide_eq_true_eq]; exact hgt), w1, w2, T.run_test, if_pos (decide_eq_true (by omega)), T.run_test, Int.tmod_eq_emod_of_nonneg (by omega)]
    by_cases hm : (n - 2) % (size - 2) = 0
    ·obtain ⟨c1, c2, c3, c4, c5⟩ := ce_facts hn' (by omega) hm
     rw [if_neg (by simp [hm]), T.run_test, if_pos (decide_eq_true (by omega)), T.run_sub, cuChoose_gen _ _ c5, Option.bind_some, T.run_test, if_pos (decide_eq_true (by omega)), T.run_ret, if_pos hm]
     rfl
    ·rw [if_pos (by simp [hm]), T.run_ret, if_neg hm]
def F15_sh : FSh := ⟨[(.one (.sl (.int .u8) false true))], []⟩
def F15_fo : List FO := [⟨[(.one (.si .i64)), (.one (.si .i64))], []⟩]
noncomputable def F15_t : List (Int) → T (Int × Int) := fun code =>
 (.sub (F43 (((), (7 : Int)), (code, ((0 : Int), (0 : Int))))) fun z0 =>
 (.test true
 (.sub (F37 (((), [(3 : Int), (4 : Int), (5 : Int), (4 : Int), (6 : Int), (2 : Int), (4611686018427387904 : Int)]), z0.2)) fun z1 =>
 (.ret ((w64 (3 + z0.1)), z1.1)))
 .fail))
noncomputable def F15 (v) := (F15_t v).run
noncomputable def F15_E : TEnv := ((E0.add1 n_F43 F43_sh F43_fo F43).add1 n_F37 F37_sh F37_fo F37)
theorem F15_Eok : (F15_E).OK := ((E0ok.add1 F43_ok).add1 F37_ok)
noncomputable def F15_told : Nat → Option SealT := fun id => none
theorem F15_ok : FOK Tryz.prog n_F15 F15_sh F15_fo F15 :=
 fn_ok (E := F15_E) (F15_Eok) (told := F15_told) (fl := []) (c := bodyOf fn_F15) (s := F15_sh) (l := F15_fo) (tree := F15_t) fnat_F15 (by kernel_rfl) (by kernel_rfl) (by kernel_rfl) (loopsOK_of (ls := []) (by kernel_rfl) trivial) (fun v => by kernel_rfl)
theorem F15_some {code : List Int} (h : bytesOK code) : ∃ n k, F15 code = some (n, k) ∧ k ≤ 9223372036854775807 := by
 obtain ⟨x, c1, e1, _, _, _, hc1⟩ := pick_ok 7 (cur0 h) (by omega)
 obtain ⟨y, c2, e2, hy, hc2⟩ := among_ok [3, 4, 5, 4, 6, 2, 4611686018427387904] hc1 (by omega) (by simp)
 rw [F15, F15_t, T.run_sub, e1, Option.bind_some, T.run_test, if_pos (by rfl), T.run_sub, e2, Option.bind_some, T.run_ret]
 refine ⟨_, _, rfl, ?_⟩
 simp only [List.mem_cons, List.not_mem_nil, or_false] at hy
 dsimp only
 omega
def F20_sh : FSh := ⟨[(.one (.sl (.pair (.int .i64) (.int .i64)) false false)), (.one (.pf 0 0 0)), (.one (.pf 1 0 0)), (.one (.pf 2 0 0)), (.one (.pf 3 0 0))], [(.rcd 0 [.sb]), (.rcd 0 [(.si .i64)]), (.rcd 0 [(.si .i64)]), (.rcd 0 [(.nl true true)])]⟩
def F20_fo : List FO := [⟨[], [(.rcd 0 [.sb]), (.rcd 0 [(.si .i64)]), (.rcd 0 [(.si .i64)]), (.rcd 0 [(.rw 4 0)]), (.row 0 (.pair (.int .i64) (.int .i64)))]⟩, ⟨[], [(.rcd 0 [.sb]), (.rcd 0 [(.si .i64)]), (.rcd 0 [(.si .i64)]), (.rcd 0 [(.nl true true)])]⟩]
noncomputable def F20_t : ((List ((Int × Int)) × Unit × Unit × Unit × Unit) × (Bool × Int × Int × Unit)) → T ((Unit × (Bool × Int × Int × Unit × List ((Int × Int)))) ⊕ (Unit × (Bool × Int × Int × Unit))) := fun ((ds, (), (), (), ()), (t1_0, t2_0, t3_0, ())) =>
 (.test (! t1_0)
 (.sub (F73 (t2_0, (ds, t3_0))) fun z0 =>
 (.test z0
 (.sub (F9 ds) fun z1 =>
 (.test (decide ((0 = 0) ∧ (z1.2.length = z1.2.length)))
 (.ret (Sum.inl ((), (true, (t2_0, (t3_0, ((), z1.2)))))))
 .fail))
 (.ret (Sum.inr ((), (t1_0, (t2_0, (t3_0, ()))))))))
 (.ret (Sum.inr ((), (t1_0, (t2_0, (t3_0, ())))))))
noncomputable def F20 (v) := (F20_t v).run
noncomputable def F20_E : TEnv := ((E0.add1 n_F73 F73_sh F73_fo F73).add1 n_F9 F9_sh F9_fo F9)
theorem F20_Eok : (F20_E).OK := ((E0ok.add1 F73_ok).add1 F9_ok)
noncomputable def F20_told : Nat → Option SealT := fun id => none
theorem F20_ok : FOK Tryz.prog n_F20 F20_sh F20_fo F20 :=
 fn_ok (E := F20_E) (F20_Eok) (told := F20_told) (fl := []) (c := bodyOf fn_F20) (s := F20_sh) (l := F20_fo) (tree := F20_t) fnat_F20 (by kernel_rfl) (by kernel_rfl) (by kernel_rfl) (loopsOK_of (ls := []) (by kernel_rfl) trivial) (fun v => by kernel_rfl)
def vis (N : Nat) (size : Int) (s : Bool × List Dg) (ds : List Dg) : Bool × List Dg := if (!s.1 && (szL N ds).all fun x => x == size) = true then (true, ds) else s
def visO (N : Nat) (size : Int) (s : Bool × List Dg) : Bool × Int × Int × Unit × List Dg := (s.1, ((N : Int), (size, ((), s.2))))
theorem isEq_cut {N : Nat} {ds : List Dg} (size : Int) (h : isCut N ds = true) : F73 ((N : Int), (ds, size)) = some ((szL N ds).all fun s => s == size) := by
 obtain ⟨k, e, h3, h12, hl, hc⟩ := isCut_cut h
 obtain rfl : k = N := by omega
 exact F73_eq size h3 h12 hl hc
theorem cut_short {N : Nat} {ds : List Dg} (h : isCut N ds = true) : ds.length ≤ 1000 := by
 obtain ⟨k, e, h3, h12, hl, hc⟩ := isCut_cut h
 omega
theorem F20_eq {N : Nat} {ds : List Dg} (size : Int) (h : isCut N ds = true) : F20 ((ds, ((), ((), ((), ())))), (false, ((N : Int), (size, ())))) = some (if ((szL N ds).all fun x => x == size) = true then .inl ((), (true, ((N : Int), (size, ((), ds))))) else .inr ((), (false, ((N : Int), (size, ()))))) := by
 rw [F20, F20_t, T.run_test, if_pos (by rfl), T.run_sub, isEq_cut size h, Option.bind_some, T.run_test]
 cases (szL N ds).all fun x => x == size with
 | true => rw [if_pos rfl, T.run_sub, clone_D (cut_short h), Option.bind_some, T.run_test, if_pos (by simp), T.run_ret]; rfl
 | false => rw [if_neg (by simp), T.run_ret]; rfl
def F11_sh : FSh := ⟨[(.one (.sl (.pair (.int .i64) (.int .i64)) false false)), (.one (.pf 0 0 0)), (.one (.pf 1 0 0)), (.one (.pf 2 0 0)), (.one (.pf 3 0 0))], [(.rcd 0 [.sb]), (.rcd 0 [(.si .i64)]), (.rcd 0 [(.si .i64)]), (.rcd 0 [(.rw 4 0)]), (.row 0 (.pair (.int .i64) (.int .i64)))]⟩
def F11_w_fo : List FO := [⟨[], [(.rcd 0 [.sb]), (.rcd 0 [(.si .i64)]), (.rcd 0 [(.si .i64)]), (.rcd 0 [(.rw 5 0)]), (.row 0 (.pair (.int .i64) (.int .i64))), (.row 0 (.pair (.int .i64) (.int .i64)))]⟩, ⟨[], [(.rcd 0 [.sb]), (.rcd 0 [(.si .i64)]), (.rcd 0 [(.si .i64)]), (.rcd 0 [(.rw 4 0)]), (.row 0 (.pair (.int .i64) (.int .i64)))]⟩]
noncomputable def F11_t : ((List ((Int × Int)) × Unit × Unit × Unit × Unit) × (Bool × Int × Int × Unit × List ((Int × Int)))) → T ((Unit × (Bool × Int × Int × Unit × List ((Int × Int)) × List ((Int × Int)))) ⊕ (Unit × (Bool × Int × Int × Unit × List ((Int × Int))))) := fun ((ds, (), (), (), ()), (t1_0, t2_0, t3_0, (), t4_r)) =>
 (.test (! t1_0)
 (.sub (F73 (t2_0, (ds, t3_0))) fun z0 =>
 (.test z0
 (.sub (F9 ds) fun z1 =>
 (.test (decide ((0 = 0) ∧ (z1.2.length = z1.2.length)))
 (.ret (Sum.inl ((), (true, (t2_0, (t3_0, ((), (t4_r, z1.2))))))))
 .fail))
 (.test (decide ((0 = 0) ∧ (t4_r.length = t4_r.length)))
 (.ret (Sum.inr ((), (t1_0, (t2_0, (t3_0, ((), t4_r)))))))
 .fail)))
 (.test (decide ((0 = 0) ∧ (t4_r.length = t4_r.length)))
 (.ret (Sum.inr ((), (t1_0, (t2_0, (t3_0, ((), t4_r)))))))
 .fail))
noncomputable def F11_w (v) := (F11_t v).run
noncomputable def F11_E : TEnv := ((E0.add1 n_F73 F73_sh F73_fo F73).add1 n_F9 F9_sh F9_fo F9)
theorem F11_Eok : (F11_E).OK := ((E0ok.add1 F73_ok).add1 F9_ok)
noncomputable def F11_told : Nat → Option SealT := fun id => none
theorem F11_w_ok : FOK Tryz.prog n_F20 F11_sh F11_w_fo F11_w :=
 fn_ok (E := F11_E) (F11_Eok) (told := F11_told) (fl := []) (c := bodyOf fn_F20) (s := F11_sh) (l := F11_w_fo) (tree := F11_t) fnat_F20 (by kernel_rfl) (by kernel_rfl) (by kernel_rfl) (loopsOK_of (ls := []) (by kernel_rfl) trivial) (fun v => by kernel_rfl)
def F11_fo : List FO := [⟨[], [(.rcd 0 [.sb]), (.rcd 0 [(.si .i64)]), (.rcd 0 [(.si .i64)]), (.rcd 0 [(.rw 4 1)]), (.row 1 (.pair (.int .i64) (.int .i64)))]⟩]
def F11_m : ((Unit × (Bool × Int × Int × Unit × List ((Int × Int)) × List ((Int × Int)))) ⊕ (Unit × (Bool × Int × Int × Unit × List ((Int × Int))))) → (Unit × (Bool × Int × Int × Unit × List ((Int × Int)))) := fun o => match o with | (.inl (a, (r0, r1, r2, r3, r4, r5))) => (a, (r0, r1, r2, r3, r5)) | (.inr (a, (r0, r1, r2, r3, r4))) => (a, (r0, r1, r2, r3, r4))
noncomputable def F11 (v : ((List ((Int × Int)) × Unit × Unit × Unit × Unit) × (Bool × Int × Int × Unit × List ((Int × Int))))) : Option (Unit × (Bool × Int × Int × Unit × List ((Int × Int)))) := (F11_w v).map F11_m
theorem F11_ok : FOK Tryz.prog n_F20 F11_sh F11_fo F11 :=
 FOK.take (l' := F11_fo) F11_w_ok 4 F11_m (fun o => match o with | (.inl (a, (r0, r1, r2, r3, r4, r5))) => .inr (by kernel_rfl) | (.inr (a, (r0, r1, r2, r3, r4))) => .inl (by kernel_rfl))
theorem F11_eq {N : Nat} {ds : List Dg} (size : Int) (h : isCut N ds = true) (fd : Bool) (r : List Dg) : F11 ((ds, ((), ((), ((), ())))), (fd, ((N : Int), (size, ((), r))))) = some ((), visO N size (vis N size (fd, r) ds)) := by
 rw [F11, F11_w, F11_t, T.run_test]
 cases fd with
 | true => rw [if_neg (by simp), T.run_test, if_pos (by simp), T.run_ret]; rfl
 | false =>
  rw [if_pos (by rfl), T.run_sub, isEq_cut size h, Option.bind_some, T.run_test]
  unfold vis
  cases (szL N ds).all fun x => x == size with
  | true => rw [if_pos rfl, T.run_sub, clone_D (cut_short h), Option.bind_some, T.run_test, if_pos (by simp), T.run_ret]; rfl
  | false => rw [if_neg (by simp), T.run_test, if_pos (by simp), T.run_ret]; rfl
end Go.Proofs.W
