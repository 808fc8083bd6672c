import Derived.Test.YtaoeghfoifhhcaaGreatMCxWk1
set_option linter.unusedVariables false
set_option linter.unusedSimpArgs false
set_option maxRecDepth 100000
set_option maxHeartbeats 4000000
namespace Go.Proofs.W
open Go Go.Gm Go.Proofs
open Go.RowKit Go.Shelf
def F116_sh : FSh := ⟨[(.one (.sl (.int .i64) false false))], []⟩
def F116_L5_sh : LSh := ⟨(fun ex => match ex with | .norm => [(4, none), (5, none), (26, none), (27, none)] | .exit i => if i = 0 then [(4, none), (5, none)] else [] | .ret => [(2, none), (3, none)]), [(4, (.one (.rw 0 0))), (5, (.one (.rw 1 0))), (26, (.one (.si .i64))), (27, (.one (.si .i64)))], [(.row 0 (.int .i64)), (.row 0 (.int .i64))], [⟨(.exit 0), [(4, (.one (.rw 0 0))), (5, (.one (.rw 1 0)))], [(.row 0 (.int .i64)), (.row 0 (.int .i64))]⟩], [], []⟩
noncomputable def F116_L5_step : ((Unit × Unit × Int × Int) × (List (Int) × List (Int))) → T (((Unit × Unit × Int × Int) × (List (Int) × List (Int))) ⊕ ((Unit × Unit) × (List (Int) × List (Int)))) := fun (((), (), t26, t27), (left, corners)) =>
 (.test (decide (t27 < t26))
 (.test (decide (1 ≤ (List.length (List.set (List.replicate 1 (0 : Int)) 0 t27))))
 (.test (decide ((0 + corners.length) ≤ corners.length))
 (.test (decide ((2 * ((corners.length + (List.length (win (List.set (List.replicate 1 (0 : Int)) 0 t27) 0 1))) * 9)) ≤ 140737488355328))
 (.test (decide ((0 = 0) ∧ (left.length = left.length)))
 (.test (decide ((0 = 0) ∧ ((corners.length + (List.length (win (List.set (List.replicate 1 (0 : Int)) 0 t27) 0 1))) = (List.length ((win corners 0 corners.length) ++ (win (List.set (List.replicate 1 (0 : Int)) 0 t27) 0 1))))))
 (.ret (Sum.inl (((), ((), (t26, (w64 (t27 + 1))))), (left, ((win corners 0 corners.length) ++ (win (List.set (List.replicate 1 (0 : Int)) 0 t27) 0 1))))))
 .fail)
 .fail)
 .fail)
 .fail)
 .fail)
 (.test (decide ((0 = 0) ∧ (left.length = left.length)))
 (.test (decide ((0 = 0) ∧ (corners.length = corners.length)))
 (.ret (Sum.inr (((), ()), (left, corners))))
 .fail)
 .fail))
noncomputable def F116_L5 (v) := loopO (fun v => (F116_L5_step v).run) v
def F116_L13_sh : LSh := ⟨(fun ex => match ex with | .norm => [(4, none), (5, none), (7, none), (8, none), (38, none), (39, none), (40, none)] | .exit i => if i = 4 then [(4, none), (5, none), (7, none), (8, none)] else if i = 3 then [(4, none), (5, none), (7, none)] else if i = 2 then [(4, none), (7, none)] else [] | .ret => [(2, none), (3, none)]), [(4, (.one (.rw 0 0))), (5, (.one (.rw 1 0))), (7, (.one (.rw 2 0))), (8, (.one (.si .i64))), (38, (.one (.rw 0 0))), (39, (.one (.si .i64))), (40, (.one (.si .i64)))], [(.row 0 (.int .i64)), (.row 0 (.int .i64)), (.row 0 (.pair (.int .i64) (.int .i64)))], [⟨(.exit 4), [(4, (.one (.rw 0 0))), (5, (.one (.rw 1 0))), (7, (.one (.rw 2 0))), (8, (.one (.si .i64)))], [(.row 0 (.int .i64)), (.row 0 (.int .i64)), (.row 0 (.pair (.int .i64) (.int .i64)))]⟩], [], []⟩
noncomputable def F116_L13_step : ((Unit × Unit × Unit × Int × Unit × Int × Int) × (List (Int) × List (Int) × List ((Int × Int)))) → T (((Unit × Unit × Unit × Int × Unit × Int × Int) × (List (Int) × List (Int) × List ((Int × Int)))) ⊕ ((Unit × Unit × Unit × Int) × (List (Int) × List (Int) × List ((Int × Int))))) := fun (((), (), (), at', (), t39, t40), (left, corners, out)) =>
 (.test (decide (t40 < t39))
 (.test (decide ((0 ≤ t40) ∧ (t40 < (left.length : Int))))
 (.sub (left[(0 + (Int.toNat t40))]?) fun z0 =>
 (.test (z0 == 1)
 (.test (decide (at' < 0))
 (.test (decide ((0 = 0) ∧ (left.length = left.length)))
 (.test (decide ((0 = 0) ∧ (corners.length = corners.length)))
 (.test (decide ((0 = 0) ∧ (out.length = out.length)))
 (.test (decide ((0 = 0) ∧ (left.length = left.length)))
 (.ret (Sum.inl (((), ((), ((), (t40, ((), (t39, (w64 (t40 + 1)))))))), (left, (corners, out)))))
 .fail)
 .fail)
 .fail)
 .fail)
 (.test (decide ((0 = 0) ∧ (left.length = left.length)))
 (.test (decide ((0 = 0) ∧ (corners.length = corners.length)))
 (.test (decide ((0 = 0) ∧ (out.length = out.length)))
 (.test (decide ((0 = 0) ∧ (left.length = left.length)))
 (.ret (Sum.inl (((), ((), ((), (at', ((), (t39, (w64 (t40 + 1)))))))), (left, (corners, out)))))
 .fail)
 .fail)
 .fail)
 .fail))
 (.test (decide ((0 = 0) ∧ (left.length = left.length)))
 (.test (decide ((0 = 0) ∧ (corners.length = corners.length)))
 (.test (decide ((0 = 0) ∧ (out.length = out.length)))
 (.test (decide ((0 = 0) ∧ (left.length = left.length)))
 (.ret (Sum.inl (((), ((), ((), (at', ((), (t39, (w64 (t40 + 1)))))))), (left, (corners, out)))))
 .fail)
 .fail)
 .fail)
 .fail)))
 .fail)
 (.test (decide ((0 = 0) ∧ (left.length = left.length)))
 (.test (decide ((0 = 0) ∧ (corners.length = corners.length)))
 (.test (decide ((0 = 0) ∧ (out.length = out.length)))
 (.ret (Sum.inr (((), ((), ((), at'))), (left, (corners, out)))))
 .fail)
 .fail)
 .fail))
noncomputable def F116_L13 (v) := loopO (fun v => (F116_L13_step v).run) v
def F116_L10_sh : LSh := ⟨(fun ex => match ex with | .norm => [(4, none), (5, none), (7, none)] | .exit i => if i = 2 then [(4, none), (7, none)] else [] | .ret => [(2, none), (3, none)]), [(4, (.one (.rw 0 0))), (5, (.one (.rw 1 0))), (7, (.one (.rw 2 0)))], [(.row 0 (.int .i64)), (.row 0 (.int .i64)), (.row 0 (.pair (.int .i64) (.int .i64)))], [⟨.ret, [(2, (.one (.rw 0 0))), (3, (.one .sb))], [(.row 0 (.pair (.int .i64) (.int .i64)))]⟩, ⟨(.exit 2), [(4, (.one (.rw 0 0))), (7, (.one (.rw 1 0)))], [(.row 0 (.int .i64)), (.row 0 (.pair (.int .i64) (.int .i64)))]⟩], [], []⟩
noncomputable def F116_L10_step : ((Unit × Unit × Unit) × (List (Int) × List (Int) × List ((Int × Int)))) → T (((Unit × Unit × Unit) × (List (Int) × List (Int) × List ((Int × Int)))) ⊕ (((Unit × Bool) × List ((Int × Int))) ⊕ ((Unit × Unit) × (List (Int) × List ((Int × Int)))))) := fun (((), (), ()), (left, corners, out)) =>
 (.test (decide ((left.length : Int) > 3))
 (.test (decide ((0 = 0) ∧ (left.length = left.length)))
 (.test (decide ((0 = 0) ∧ (corners.length = corners.length)))
 (.test (decide ((0 = 0) ∧ (out.length = out.length)))
 (.test (decide ((0 = 0) ∧ (left.length = left.length)))
 (.sub (F116_L13 (((), ((), ((), ((-1), ((), ((left.length : Int), (0 : Int))))))), (left, (corners, out)))) fun z0 =>
 (.test (decide (z0.1.2.2.2 < 0))
 (.test true
 (.ret (Sum.inr (Sum.inl (((), false), ([] : List (Int × Int))))))
 .fail)
 (.test (decide ((z0.2.1.length : Int) ≠ 0))
 (.test (decide ((z0.2.1.length : Int) ≠ 0))
 (.test (decide ((0 ≤ (Int.tmod (w64 ((w64 (z0.1.2.2.2 + (z0.2.1.length : Int))) - 1)) (z0.2.1.length : Int))) ∧ ((Int.tmod (w64 ((w64 (z0.1.2.2.2 + (z0.2.1.length : Int))) - 1)) (z0.2.1.length : Int)) < (z0.2.1.length : Int))))
 (.sub (z0.2.1[(0 + (Int.toNat (Int.tmod (w64 ((w64 (z0.1.2.2.2 + (z0.2.1.length : Int))) - 1)) (z0.2.1.length : Int))))]?) fun z1 =>
 (.test (decide ((0 ≤ (Int.tmod (w64 ((w64 (z0.1.2.2.2 + (z0.2.1.length : Int))) - 1)) (z0.2.1.length : Int))) ∧ ((Int.tmod (w64 ((w64 (z0.1.2.2.2 + (z0.2.1.length : Int))) - 1)) (z0.2.1.length : Int)) < (z0.2.1.length : Int))))
 (.sub (z0.2.1[(0 + (Int.toNat (Int.tmod (w64 ((w64 (z0.1.2.2.2 + (z0.2.1.length : Int))) - 1)) (z0.2.1.length : Int))))]?) fun z2 =>
 (.test (decide ((0 ≤ (Int.tmod (w64 (z0.1.2.2.2 + 1)) (z0.2.1.length : Int))) ∧ ((Int.tmod (w64 (z0.1.2.2.2 + 1)) (z0.2.1.length : Int)) < (z0.2.1.length : Int))))
 (.sub ((List.set z0.2.1 (0 + (Int.toNat (Int.tmod (w64 ((w64 (z0.1.2.2.2 + (z0.2.1.length : Int))) - 1)) (z0.2.1.length : Int)))) (w64 (z1 - 1)))[(0 + (Int.toNat (Int.tmod (w64 (z0.1.2.2.2 + 1)) (z0.2.1.length : Int))))]?) fun z3 =>
 (.test (decide ((0 ≤ (Int.tmod (w64 (z0.1.2.2.2 + 1)) (z0.2.1.length : Int))) ∧ ((Int.tmod (w64 (z0.1.2.2.2 + 1)) (z0.2.1.length : Int)) < (z0.2.1.length : Int))))
 (.sub ((List.set z0.2.1 (0 + (Int.toNat (Int.tmod (w64 ((w64 (z0.1.2.2.2 + (z0.2.1.length : Int))) - 1)) (z0.2.1.length : Int)))) (w64 (z1 - 1)))[(0 + (Int.toNat (Int.tmod (w64 (z0.1.2.2.2 + 1)) (z0.2.1.length : Int))))]?) fun z4 =>
 (.test (decide ((0 ≤ (Int.tmod (w64 ((w64 (z0.1.2.2.2 + (z0.2.1.length : Int))) - 1)) (z0.2.1.length : Int))) ∧ ((Int.tmod (w64 ((w64 (z0.1.2.2.2 + (z0.2.1.length : Int))) - 1)) (z0.2.1.length : Int)) < (z0.2.1.length : Int))))
 (.sub ((List.set (List.set z0.2.1 (0 + (Int.toNat (Int.tmod (w64 ((w64 (z0.1.2.2.2 + (z0.2.1.length : Int))) - 1)) (z0.2.1.length : Int)))) (w64 (z1 - 1))) (0 + (Int.toNat (Int.tmod (w64 (z0.1.2.2.2 + 1)) (z0.2.1.length : Int)))) (w64 (z3 - 1)))[(0 + (Int.toNat (Int.tmod (w64 ((w64 (z0.1.2.2.2 + (z0.2.1.length : Int))) - 1)) (z0.2.1.length : Int))))]?) fun z5 =>
 (.test (decide (z5 < 1))
 (.test true
 (.ret (Sum.inr (Sum.inl (((), false), ([] : List (Int × Int))))))
 .fail)
 (.test (decide ((0 ≤ (Int.tmod (w64 (z0.1.2.2.2 + 1)) (z0.2.1.length : Int))) ∧ ((Int.tmod (w64 (z0.1.2.2.2 + 1)) (z0.2.1.length : Int)) < (z0.2.1.length : Int))))
 (.sub ((List.set (List.set z0.2.1 (0 + (Int.toNat (Int.tmod (w64 ((w64 (z0.1.2.2.2 + (z0.2.1.length : Int))) - 1)) (z0.2.1.length : Int)))) (w64 (z1 - 1))) (0 + (Int.toNat (Int.tmod (w64 (z0.1.2.2.2 + 1)) (z0.2.1.length : Int)))) (w64 (z3 - 1)))[(0 + (Int.toNat (Int.tmod (w64 (z0.1.2.2.2 + 1)) (z0.2.1.length : Int))))]?) fun z6 =>
 (.test (decide (z6 < 1))
 (.test true
 (.ret (Sum.inr (Sum.inl (((), false), ([] : List (Int × Int))))))
 .fail)
 (.test (decide ((0 ≤ (Int.tmod (w64 ((w64 (z0.1.2.2.2 + (z0.2.1.length : Int))) - 1)) (z0.2.1.length : Int))) ∧ ((Int.tmod (w64 ((w64 (z0.1.2.2.2 + (z0.2.1.length : Int))) - 1)) (z0.2.1.length : Int)) < (z0.2.2.1.length : Int))))
 (.sub (z0.2.2.1[(0 + (Int.toNat (Int.tmod (w64 ((w64 (z0.1.2.2.2 + (z0.2.1.length : Int))) - 1)) (z0.2.1.length : Int))))]?) fun z7 =>
 (.test (decide ((0 ≤ (Int.tmod (w64 (z0.1.2.2.2 + 1)) (z0.2.1.length : Int))) ∧ ((Int.tmod (w64 (z0.1.2.2.2 + 1)) (z0.2.1.length : Int)) < (z0.2.2.1.length : Int))))
 (.sub (z0.2.2.1[(0 + (Int.toNat (Int.tmod (w64 (z0.1.2.2.2 + 1)) (z0.2.1.length : Int))))]?) fun z8 =>
 (.sub (F78 (z7, z8)) fun z9 =>
 (.test (decide ((0 ≤ (Int.tmod (w64 ((w64 (z0.1.2.2.2 + (z0.2.1.length : Int))) - 1)) (z0.2.1.length : Int))) ∧ ((Int.tmod (w64 ((w64 (z0.1.2.2.2 + (z0.2.1.length : Int))) - 1)) (z0.2.1.length : Int)) < (z0.2.2.1.length : Int))))
 (.sub (z0.2.2.1[(0 + (Int.toNat (Int.tmod (w64 ((w64 (z0.1.2.2.2 + (z0.2.1.length : Int))) - 1)) (z0.2.1.length : Int))))]?) fun z10 =>
 (.test (decide ((0 ≤ (Int.tmod (w64 (z0.1.2.2.2 + 1)) (z0.2.1.length : Int))) ∧ ((Int.tmod (w64 (z0.1.2.2.2 + 1)) (z0.2.1.length : Int)) < (z0.2.2.1.length : Int))))
 (.sub (z0.2.2.1[(0 + (Int.toNat (Int.tmod (w64 (z0.1.2.2.2 + 1)) (z0.2.1.length : Int))))]?) fun z11 =>
 (.sub (F85 (z10, z11)) fun z12 =>
 (.test (decide (1 ≤ (List.length (List.set (List.replicate 1 ((0 : Int), (0 : Int))) 0 (z9, z12)))))
 (.test (decide ((0 + z0.2.2.2.length) ≤ z0.2.2.2.length))
 (.test (decide ((2 * ((z0.2.2.2.length + (List.length (win (List.set (List.replicate 1 ((0 : Int), (0 : Int))) 0 (z9, z12)) 0 1))) * 17)) ≤ 140737488355328))
 (.test (decide (0 ≤ z0.1.2.2.2))
 (.test (decide ((0 ≤ (Int.toNat z0.1.2.2.2)) ∧ ((Int.toNat z0.1.2.2.2) ≤ z0.2.1.length)))
 (.test (decide ((0 + ((Int.toNat z0.1.2.2.2) - 0)) ≤ (List.length (List.set (List.set z0.2.1 (0 + (Int.toNat (Int.tmod (w64 ((w64 (z0.1.2.2.2 + (z0.2.1.length : Int))) - 1)) (z0.2.1.length : Int)))) (w64 (z1 - 1))) (0 + (Int.toNat (Int.tmod (w64 (z0.1.2.2.2 + 1)) (z0.2.1.length : Int)))) (w64 (z3 - 1))))))
 (.sub (F97 (win (List.set (List.set z0.2.1 (0 + (Int.toNat (Int.tmod (w64 ((w64 (z0.1.2.2.2 + (z0.2.1.length : Int))) - 1)) (z0.2.1.length : Int)))) (w64 (z1 - 1))) (0 + (Int.toNat (Int.tmod (w64 (z0.1.2.2.2 + 1)) (z0.2.1.length : Int)))) (w64 (z3 - 1))) 0 ((Int.toNat z0.1.2.2.2) - 0))) fun z13 =>
 (.test (decide (0 ≤ (w64 (z0.1.2.2.2 + 1))))
 (.test (decide (((Int.toNat (w64 (z0.1.2.2.2 + 1))) ≤ z0.2.1.length) ∧ (z0.2.1.length ≤ z0.2.1.length)))
 (.test (decide (((0 + (Int.toNat (w64 (z0.1.2.2.2 + 1)))) + (z0.2.1.length - (Int.toNat (w64 (z0.1.2.2.2 + 1))))) ≤ (List.length (List.set (List.set z0.2.1 (0 + (Int.toNat (Int.tmod (w64 ((w64 (z0.1.2.2.2 + (z0.2.1.length : Int))) - 1)) (z0.2.1.length : Int)))) (w64 (z1 - 1))) (0 + (Int.toNat (Int.tmod (w64 (z0.1.2.2.2 + 1)) (z0.2.1.length : Int)))) (w64 (z3 - 1))))))
 (.test (decide ((0 + z13.2.length) ≤ z13.2.length))
 (.test (decide ((2 * ((z13.2.length + (List.length (win (List.set (List.set z0.2.1 (0 + (Int.toNat (Int.tmod (w64 ((w64 (z0.1.2.2.2 + (z0.2.1.length : Int))) - 1)) (z0.2.1.length : Int)))) (w64 (z1 - 1))) (0 + (Int.toNat (Int.tmod (w64 (z0.1.2.2.2 + 1)) (z0.2.1.length : Int)))) (w64 (z3 - 1))) (0 + (Int.toNat (w64 (z0.1.2.2.2 + 1)))) (z0.2.1.length - (Int.toNat (w64 (z0.1.2.2.2 + 1))))))) * 9)) ≤ 140737488355328))
 (.test (decide (0 ≤ z0.1.2.2.2))
 (.test (decide ((0 ≤ (Int.toNat z0.1.2.2.2)) ∧ ((Int.toNat z0.1.2.2.2) ≤ z0.2.2.1.length)))
 (.test (decide ((0 + ((Int.toNat z0.1.2.2.2) - 0)) ≤ z0.2.2.1.length))
 (.sub (F97 (win z0.2.2.1 0 ((Int.toNat z0.1.2.2.2) - 0))) fun z14 =>
 (.test (decide (0 ≤ (w64 (z0.1.2.2.2 + 1))))
 (.test (decide (((Int.toNat (w64 (z0.1.2.2.2 + 1))) ≤ z0.2.2.1.length) ∧ (z0.2.2.1.length ≤ z0.2.2.1.length)))
 (.test (decide (((0 + (Int.toNat (w64 (z0.1.2.2.2 + 1)))) + (z0.2.2.1.length - (Int.toNat (w64 (z0.1.2.2.2 + 1))))) ≤ z0.2.2.1.length))
 (.test (decide ((0 + z14.2.length) ≤ z14.2.length))
 (.test (decide ((2 * ((z14.2.length + (List.length (win z0.2.2.1 (0 + (Int.toNat (w64 (z0.1.2.2.2 + 1)))) (z0.2.2.1.length - (Int.toNat (w64 (z0.1.2.2.2 + 1))))))) * 9)) ≤ 140737488355328))
 (.test (decide ((0 = 0) ∧ ((z13.2.length + (List.length (win (List.set (List.set z0.2.1 (0 + (Int.toNat (Int.tmod (w64 ((w64 (z0.1.2.2.2 + (z0.2.1.length : Int))) - 1)) (z0.2.1.length : Int)))) (w64 (z1 - 1))) (0 + (Int.toNat (Int.tmod (w64 (z0.1.2.2.2 + 1)) (z0.2.1.length : Int)))) (w64 (z3 - 1))) (0 + (Int.toNat (w64 (z0.1.2.2.2 + 1)))) (z0.2.1.length - (Int.toNat (w64 (z0.1.2.2.2 + 1))))))) = (List.length ((win z13.2 0 z13.2.length) ++ (win (List.set (List.set z0.2.1 (0 + (Int.toNat (Int.tmod (w64 ((w64 (z0.1.2.2.2 + (z0.2.1.length : Int))) - 1)) (z0.2.1.length : Int)))) (w64 (z1 - 1))) (0 + (Int.toNat (Int.tmod (w64 (z0.1.2.2.2 + 1)) (z0.2.1.length : Int)))) (w64 (z3 - 1))) (0 + (Int.toNat (w64 (z0.1.2.2.2 + 1)))) (z0.2.1.length - (Int.toNat (w64 (z0.1.2.2.2 + 1))))))))))
 (.test (decide ((0 = 0) ∧ ((z14.2.length + (List.length (win z0.2.2.1 (0 + (Int.toNat (w64 (z0.1.2.2.2 + 1)))) (z0.2.2.1.length - (Int.toNat (w64 (z0.1.2.2.2 + 1))))))) = (List.length ((win z14.2 0 z14.2.length) ++ (win z0.2.2.1 (0 + (Int.toNat (w64 (z0.1.2.2.2 + 1)))) (z0.2.2.1.length - (Int.toNat (w64 (z0.1.2.2.2 + 1))))))))))
 (.test (decide ((0 = 0) ∧ ((z0.2.2.2.length + (List.length (win (List.set (List.replicate 1 ((0 : Int), (0 : Int))) 0 (z9, z12)) 0 1))) = (List.length ((win z0.2.2.2 0 z0.2.2.2.length) ++ (win (List.set (List.replicate 1 ((0 : Int), (0 : Int))) 0 (z9, z12)) 0 1))))))
 (.ret (Sum.inl (((), ((), ())), (((win z13.2 0 z13.2.length) ++ (win (List.set (List.set z0.2.1 (0 + (Int.toNat (Int.tmod (w64 ((w64 (z0.1.2.2.2 + (z0.2.1.length : Int))) - 1)) (z0.2.1.length : Int)))) (w64 (z1 - 1))) (0 + (Int.toNat (Int.tmod (w64 (z0.1.2.2.2 + 1)) (z0.2.1.length : Int)))) (w64 (z3 - 1))) (0 + (Int.toNat (w64 (z0.1.2.2.2 + 1)))) (z0.2.1.length - (Int.toNat (w64 (z0.1.2.2.2 + 1)))))), (((win z14.2 0 z14.2.length) ++ (win z0.2.2.1 (0 + (Int.toNat (w64 (z0.1.2.2.2 + 1)))) (z0.2.2.1.length - (Int.toNat (w64 (z0.1.2.2.2 + 1)))))), ((win z0.2.2.2 0 z0.2.2.2.length) ++ (win (List.set (List.replicate 1 ((0 : Int), (0 : Int))) 0 (z9, z12)) 0 1)))))))
 .fail)
 .fail)
 .fail)
 .fail)
 .fail)
 .fail)
 .fail)
 .fail))
 .fail)
 .fail)
 .fail)
 .fail)
 .fail)
 .fail)
 .fail)
 .fail))
 .fail)
 .fail)
 .fail)
 .fail)
 .fail)
 .fail)))
 .fail))
 .fail)))
 .fail))
 .fail)))
 .fail)))
 .fail))
 .fail))
 .fail))
 .fail))
 .fail)
 .fail)
 .fail)))
 .fail)
 .fail)
 .fail)
 .fail)
 (.test (decide ((0 = 0) ∧ (left.length = left.length)))
 (.test (decide ((0 = 0) ∧ (out.length = out.length)))
 (.ret (Sum.inr (Sum.inr (((), ()), (left, out)))))
 .fail)
 .fail))
noncomputable def F116_L10 (v) := loopO (fun v => (F116_L10_step v).run) v
def F116_fo : List FO := [⟨[(.one (.rw 0 0)), (.one .sb)], [(.row 0 (.pair (.int .i64) (.int .i64)))]⟩]
noncomputable def F116_t : List (Int) → T ((Unit × Bool) × List ((Int × Int))) := fun quiddity =>
 (.sub (F114 (quiddity.length : Int)) fun z0 =>
 (.test (! z0)
 (.test true
 (.ret (((), false), ([] : List (Int × Int))))
 .fail)
 (.sub (F99 (quiddity, ((1 : Int), (12 : Int)))) fun z1 =>
 (.test (! z1)
 (.test true
 (.ret (((), false), ([] : List (Int × Int))))
 .fail)
 (.sub (F97 quiddity) fun z2 =>
 (.test (decide ((0 = 0) ∧ (z2.2.length = z2.2.length)))
 (.test (decide ((0 = 0) ∧ (0 = (List.length (List.replicate 0 (0 : Int))))))
 (.sub (F116_L5 (((), ((), ((z2.2.length : Int), (0 : Int)))), (z2.2, (List.replicate 0 (0 : Int))))) fun z3 =>
 (.test (decide ((0 = 0) ∧ (z3.2.1.length = z3.2.1.length)))
 (.test (decide ((0 = 0) ∧ (z3.2.2.length = z3.2.2.length)))
 (.test (decide ((0 = 0) ∧ (0 = (List.length ([] : List (Int × Int))))))
 (.sub (F116_L10 (((), ((), ())), (z3.2.1, (z3.2.2, ([] : List (Int × Int)))))) fun z4 =>
 (.test (Sum.isLeft z4)
 (.sub (Sum.getLeft? z4) fun z5 =>
 (.test (decide ((0 = 0) ∧ (z5.2.length = z5.2.length)))
 (.ret (((), z5.1.2), z5.2))
 .fail))
 (.sub (Sum.getRight? z4) fun z6 =>
 (.test (decide ((0 + z6.2.2.length) ≤ z6.2.2.length))
 (.sub (F71 (win z6.2.2 0 z6.2.2.length)) fun z7 =>
 (.test (decide (((0 : Int) ≤ (0 : Int)) ∧ (0 < (z6.2.1.length : Int))))
 (.sub (z6.2.1[0]?) fun z8 =>
 (.test (z8 == 1)
 (.test (decide (((0 : Int) ≤ (1 : Int)) ∧ (1 < (z6.2.1.length : Int))))
 (.sub (z6.2.1[1]?) fun z9 =>
 (.test (z9 == 1)
 (.test (decide (((0 : Int) ≤ (2 : Int)) ∧ (2 < (z6.2.1.length : Int))))
 (.sub (z6.2.1[2]?) fun z10 =>
 (.test (decide ((0 = 0) ∧ (z7.2.length = z7.2.length)))
 (.ret (((), (z10 == 1)), z7.2))
 .fail))
 .fail)
 (.test (decide ((0 = 0) ∧ (z7.2.length = z7.2.length)))
 (.ret (((), false), z7.2))
 .fail)))
 .fail)
 (.test (decide ((0 = 0) ∧ (z7.2.length = z7.2.length)))
 (.ret (((), false), z7.2))
 .fail)))
 .fail))
 .fail))))
 .fail)
 .fail)
 .fail))
 .fail)
 .fail))))))
noncomputable def F116 (v) := (F116_t v).run
noncomputable def F116_E : TEnv := ((((((E0.add1 n_F114 F114_sh F114_fo F114).add1 n_F99 F99_sh F99_fo F99).add1 n_F97 F97_sh F97_fo F97).add1 n_F78 F78_sh F78_fo F78).add1 n_F85 F85_sh F85_fo F85).add1 n_F71 F71_sh F71_fo F71)
theorem F116_Eok : (F116_E).OK := ((((((E0ok.add1 F114_ok).add1 F99_ok).add1 F97_ok).add1 F78_ok).add1 F85_ok).add1 F71_ok)
noncomputable def F116_told : Nat → Option SealT := fun id => if id = 5 then some (LSh.told F116_L5_sh 0 (F116_L5_step)) else if id = 13 then some (LSh.told F116_L13_sh 0 (F116_L13_step)) else if id = 10 then some (LSh.told F116_L10_sh 0 (F116_L10_step)) else none
theorem F116_L5_ok : ToldOK Tryz.prog 0 (loopAt (bodyOf fn_F116) [0]) (LSh.told F116_L5_sh 0 (F116_L5_step)) :=
 loop_ok (E := F116_E) (F116_Eok) (told := F116_told) (l := F116_L5_sh) (step := F116_L5_step) (loopsOK_of (ls := []) (by kernel_rfl) trivial) (by kernel_rfl) (fun v => by kernel_rfl)
theorem F116_L13_ok : ToldOK Tryz.prog 0 (loopAt (bodyOf fn_F116) [1, 0]) (LSh.told F116_L13_sh 0 (F116_L13_step)) :=
 loop_ok (E := F116_E) (F116_Eok) (told := F116_told) (l := F116_L13_sh) (step := F116_L13_step) (loopsOK_of (ls := []) (by kernel_rfl) trivial) (by kernel_rfl) (fun v => by kernel_rfl)
theorem F116_L10_ok : ToldOK Tryz.prog 0 (loopAt (bodyOf fn_F116) [1]) (LSh.told F116_L10_sh 0 (F116_L10_step)) :=
 loop_ok (E := F116_E) (F116_Eok) (told := F116_told) (l := F116_L10_sh) (step := F116_L10_step) (loopsOK_of (ls := [loopAt (bodyOf fn_F116) [1, 0]]) (by kernel_rfl) ⟨.inr ⟨_, by kernel_rfl, F116_L13_ok⟩, trivial⟩) (by kernel_rfl) (fun v => by kernel_rfl)
theorem F116_ok : FOK Tryz.prog n_F116 F116_sh F116_fo F116 :=
 fn_ok (E := F116_E) (F116_Eok) (told := F116_told) (fl := []) (c := bodyOf fn_F116) (s := F116_sh) (l := F116_fo) (tree := F116_t) fnat_F116 (by kernel_rfl) (by kernel_rfl) (by kernel_rfl) (loopsOK_of (ls := [loopAt (bodyOf fn_F116) [0], loopAt (bodyOf fn_F116) [1]]) (by kernel_rfl) ⟨.inr ⟨_, by kernel_rfl, F116_L5_ok⟩, ⟨.inr ⟨_, by kernel_rfl, F116_L10_ok⟩, trivial⟩⟩) (fun v => by kernel_rfl)
theorem F116_names (left : List Int) (hl : left.length < 1000000) : F116_L5 (((), ((), ((left.length : Int), (0 : Int)))), (left, [])) = some (((), ()), (left, nameL left.length)) := by
 have key : ∀ m k, k + m = left.length → F116_L5 (((), ((), ((left.length : Int), (k : Int)))), (left, nameL k)) = some (((), ()), (left, nameL left.length)) := by
  intro m
  induction m with
  | zero =>
   intro k hk
   have : k = left.length := by omega
   subst this
   simp only [F116_L5]
   exact loopO_done (by simp [F116_L5_step, T.run])
  | succ m ih =>
   intro k hk
   have ih := ih (k + 1) (by omega)
   simp only [F116_L5] at ih ⊢
   rw [← ih]
   refine loopO_next ?_
   have c0 : (k : Int) < (left.length : Int) := by omega
   have w1 : w64 ((k : Int) + 1) = ((k + 1 : Nat) : Int) := by rw [w64_id (by omega) (by omega)]; omega
   have hw : win (nameL k) 0 k = nameL k := by have := win_all (nameL k); rwa [nameL_length] at this
   have c1 : 2 * ((k + 1) * 9) ≤ 140737488355328 := by omega
   have hs : nameL k ++ [(k : Int)] = nameL (k + 1) := (nameL_succ k).symm
   simp only [F116_L5_step, T.run, c0, decide_true, if_true, win_one, nameL_length, hw, w1, List.length_cons, List.length_nil, c1, hs, Nat.zero_add]
   simp [c1]
 simpa [nameL] using key left.length 0 (by omega)
theorem F116_first (left corners : List Int) (out : List Dg) (hl : left.length < 1000000) :
  F116_L13 (((), ((), ((), ((-1), ((), ((left.length : Int), (0 : Int))))))), (left, (corners, out))) = some (((), ((), ((), idxI (fun x => (1 : Int) == x) left))), (left, (corners, out))) := by
 have key : ∀ m k (at' : Int), k + m = left.length → (at' < 0 → at' = -1) → F116_L13 (((), ((), ((), (at', ((), ((left.length : Int), (k : Int))))))), (left, (corners, out))) =
   some (((), ((), ((), if at' < 0 then (match (left.drop k).findIdx? (fun x => (1 : Int) == x) with | some i => ((k + i : Nat) : Int) | none => -1) else at'))), (left, (corners, out))) := by
  intro m
  induction m with
  | zero =>
   intro k at' hk ha
   have : k = left.length := by omega
   subst this
   rw [List.drop_length]
   simp only [F116_L13]
   refine loopO_done ?_
   by_cases h : at' < 0
   ·have := ha h; subst this; simp [F116_L13_step, T.run]
   ·simp [F116_L13_step, T.run, h]
  | succ m ih =>
   intro k at' hk ha
   have hlt : k < left.length := by omega
   have g0 := List.getElem?_eq_getElem hlt
   have c0 : (k : Int) < (left.length : Int) := by omega
   have c1 : (0 : Int) ≤ (k : Int) ∧ (k : Int) < (left.length : Int) := by omega
   have w1 : w64 ((k : Int) + 1) = ((k + 1 : Nat) : Int) := by rw [w64_id (by omega) (by omega)]; omega
   rw [List.drop_eq_getElem_cons hlt, List.findIdx?_cons]
   have st : (F116_L13_step (((), ((), ((), (at', ((), ((left.length : Int), (k : Int))))))), (left, (corners, out)))).run =
     some (.inl (((), ((), ((), ((if (left[k] == 1) = true ∧ at' < 0 then (k : Int) else at'), ((), ((left.length : Int), ((k + 1 : Nat) : Int))))))), (left, (corners, out)))) := by
    simp only [F116_L13_step, T.run, c0, c1, decide_true, if_true, and_self, Int.toNat_natCast, Nat.zero_add, g0, Option.bind_some, w1]
    cases hb : left[k] == 1 <;> by_cases h : at' < 0 <;> simp [h]
   have ih' := ih (k + 1) (if (left[k] == 1) = true ∧ at' < 0 then (k : Int) else at') (by omega) (by split <;> omega)
   simp only [F116_L13] at ih' ⊢
   rw [loopO_next st, ih']
   have hsym : ((1 : Int) == left[k]) = (left[k] == 1) := by rw [beq_int, beq_int]; congr 1; exact propext eq_comm
   rw [hsym]
   cases hb : left[k] == 1 with
   | true =>
    by_cases h : at' < 0
    ·have : ¬ ((k : Int) < 0) := by omega
     simp [h, this]
    ·simp [h]
   | false =>
    by_cases h : at' < 0
    ·simp only [Bool.false_eq_true, false_and, if_false, h, if_true]
     cases (left.drop (k + 1)).findIdx? (fun x => (1 : Int) == x) with
     | none => rfl
     | some i => simp only [Option.map_some]; rw [show k + 1 + i = k + (i + 1) by omega]
    ·simp [h]
 have := key left.length 0 (-1) (by omega) (fun _ => rfl)
 rw [Int.natCast_zero, List.drop_zero] at this
 rw [this]
 simp only [idxI]
 simp
 rfl
theorem F116_cut (left names : List Int) (out : List Dg) (k i : Nat) (hk : k < 100000) (hl : left.length = k + 4) (hn : names.length = k + 4) (ho : out.length < 100000) (he : ear left = some i) :
  (F116_L10_step (((), ((), ())), (left, (names, out)))).run = some (if okC left i then .inl (((), ((), ())), (cutL left i, (names.eraseIdx i, out ++ [cutD names i]))) else .inr (.inl (((), false), []))) := by
 obtain ⟨hi, _⟩ := ear_lt he
 obtain ⟨n1, n2, n3, n4, n5, n6⟩ := nb_facts (by omega : 3 ≤ left.length) hi
 obtain ⟨t1, t2⟩ := nb_tmod (by omega : 3 ≤ left.length) (by omega) hi
 have hf := F116_first left names out (by omega)
 have hii : idxI (fun x => (1 : Int) == x) left = (i : Int) := by unfold idxI; unfold ear at he; rw [he]
 rw [hii] at hf
 have c0 : (left.length : Int) > 3 := by omega
 have c1 : ¬ ((i : Int) < 0) := by omega
 have c2 : (left.length : Int) ≠ 0 := by omega
 have c3 : (0 : Int) ≤ (nbB left.length i : Int) ∧ (nbB left.length i : Int) < (left.length : Int) := by omega
 have c4 : (0 : Int) ≤ (nbC left.length i : Int) ∧ (nbC left.length i : Int) < (left.length : Int) := by omega
 have c5 : (0 : Int) ≤ (nbB left.length i : Int) ∧ (nbB left.length i : Int) < (names.length : Int) := by omega
 have c6 : (0 : Int) ≤ (nbC left.length i : Int) ∧ (nbC left.length i : Int) < (names.length : Int) := by omega
 have g1 := set_getD n1
 have g2 : (left.set (nbB left.length i) (w64 (left.getD (nbB left.length i) 0 - 1)))[nbC left.length i]? = some ((decAt left (nbB left.length i)).getD (nbC left.length i) 0) := set_getD (by simpa using n2)
 have g2' : (decAt left (nbB left.length i)).getD (nbC left.length i) 0 = left.getD (nbC left.length i) 0 := by
  unfold decAt
  simp only [List.getD_eq_getElem?_getD]
  rw [List.getElem?_set_ne n5]
 have g3 := set_getD (l := names) (p := nbB left.length i) (by omega)
 have g4 := set_getD (l := names) (p := nbC left.length i) (by omega)
 have w1 : w64 ((i : Int) + 1) = ((i + 1 : Nat) : Int) := by rw [w64_id (by omega) (by omega)]; omega
 rw [w1] at t2
 have hD' : (min (names.getD (nbB left.length i) 0) (names.getD (nbC left.length i) 0), max (names.getD (nbB left.length i) 0) (names.getD (nbC left.length i) 0)) = cutD names i := by unfold cutD; rw [hl, hn]
 have hmin : ∀ a b, F78 (a, b) = some (min a b) := by
  intro a b
  simp only [F78, F78_t, T.run]
  by_cases h : a < b <;> simp [h] <;> omega
 have hmax : ∀ a b, F85 (a, b) = some (max a b) := by
  intro a b
  simp only [F85, F85_t, T.run]
  by_cases h : a > b <;> simp [h] <;> omega
 have c7 : 2 * ((out.length + 1) * 17) ≤ 140737488355328 := by omega
 have l1 : (decAt (decAt left (nbB left.length i)) (nbC left.length i)).length = left.length := by rw [decAt_length, decAt_length]
 have e1 : left.set (nbB left.length i) (w64 (left.getD (nbB left.length i) 0 - 1)) = decAt left (nbB left.length i) := rfl
 have e2 : (decAt left (nbB left.length i)).set (nbC left.length i) (w64 (left.getD (nbC left.length i) 0 - 1)) = decAt (decAt left (nbB left.length i)) (nbC left.length i) := by unfold decAt; rw [← decAt, g2']
 have g5 : (decAt (decAt left (nbB left.length i)) (nbC left.length i))[nbB left.length i]? = some (w64 (left.getD (nbB left.length i) 0 - 1)) := by
  conv => lhs; unfold decAt
  rw [List.getElem?_set_ne (Ne.symm n5), List.getElem?_set_self n1]
 have g6 : (decAt (decAt left (nbB left.length i)) (nbC left.length i))[nbC left.length i]? = some (w64 (left.getD (nbC left.length i) 0 - 1)) := by
  rw [← e2, List.getElem?_set_self (by rw [decAt_length]; exact n2)]
 rw [e1, g2'] at g2
 have htl : ((decAt (decAt left (nbB left.length i)) (nbC left.length i)).take i).length = i := by rw [List.length_take, l1]; omega
 have htn : (names.take i).length = i := by rw [List.length_take]; omega
 have own1 := F97_eq ((decAt (decAt left (nbB left.length i)) (nbC left.length i)).take i) (by rw [htl]; omega)
 have own2 := F97_eq (names.take i) (by rw [htn]; omega)
 have d1 : win (decAt (decAt left (nbB left.length i)) (nbC left.length i)) (i + 1) (left.length - (i + 1)) = (decAt (decAt left (nbB left.length i)) (nbC left.length i)).drop (i + 1) := by
  unfold win; rw [List.take_of_length_le (by rw [List.length_drop, l1]; omega)]
 have d2 : win names (i + 1) (names.length - (i + 1)) = names.drop (i + 1) := by
  unfold win; rw [List.take_of_length_le (by rw [List.length_drop]; omega)]
 have x1 : (decAt (decAt left (nbB left.length i)) (nbC left.length i)).take i ++ (decAt (decAt left (nbB left.length i)) (nbC left.length i)).drop (i + 1) = cutL left i := take_drop_erase _ _
 have x2 : names.take i ++ names.drop (i + 1) = names.eraseIdx i := take_drop_erase _ _
 have f1 : (0 : Int) ≤ (i : Int) := by omega
 have f2 : 0 ≤ i ∧ i ≤ left.length := by omega
 have f3 : i ≤ left.length := by omega
 have f4 : (0 : Int) ≤ ((i + 1 : Nat) : Int) := by omega
 have f5 : i + 1 ≤ left.length ∧ left.length ≤ left.length := by omega
 have f6 : i + 1 + (left.length - (i + 1)) ≤ left.length := by omega
 have f7 : 2 * ((i + (left.length - (i + 1))) * 9) ≤ 140737488355328 := by omega
 have f8 : 0 ≤ i ∧ i ≤ names.length := by omega
 have f9 : i ≤ names.length := by omega
 have f10 : i + 1 ≤ names.length ∧ names.length ≤ names.length := by omega
 have f11 : i + 1 + (names.length - (i + 1)) ≤ names.length := by omega
 have f12 : 2 * ((i + (names.length - (i + 1))) * 9) ≤ 140737488355328 := by omega
 have f13 : i + (left.length - (i + 1)) = (cutL left i).length := by rw [cutL_length hi]; omega
 have f14 : i + (names.length - (i + 1)) = (names.eraseIdx i).length := by rw [List.length_eraseIdx, if_pos (by omega)]; omega
 have x1' := x1
 have x2' := x2
 simp only [F116_L10_step, T.run, c0, decide_true, if_true, Nat.zero_add, Nat.le_refl, hf, Option.bind_some, c1, decide_false, Bool.false_eq_true, if_false, c2, ne_eq, not_false_eq_true, t1, t2, c3, c4, c5, c6, and_self, Int.toNat_natCast, g1, e1, g2, e2, g3, g4, g5, g6, hmin, hmax, hD', win_one, w1, l1, true_and, win_take, Nat.sub_zero, f1, f2, f3, f4, own1, own2, htl, htn, d1, d2]
 have tk : ∀ {X : Type} (l : List X), (l.take i).take i = l.take i := fun l => by rw [List.take_take, Nat.min_self]
 have dl1 : ((decAt (decAt left (nbB left.length i)) (nbC left.length i)).drop (i + 1)).length = left.length - (i + 1) := by rw [List.length_drop, l1]
 have dl2 : (names.drop (i + 1)).length = names.length - (i + 1) := by rw [List.length_drop]
 have t1' : List.take 1 ((List.replicate 1 ((0 : Int), (0 : Int))).set 0 (cutD names i)) = [cutD names i] := rfl
 have t2' : ((List.replicate 1 ((0 : Int), (0 : Int))).set 0 (cutD names i)).length = 1 := rfl
 have f5' : i + 1 ≤ left.length := by omega
 have f7' : 2 * ((cutL left i).length * 9) ≤ 140737488355328 := by rw [← f13]; exact f7
 have f12' : 2 * ((names.eraseIdx i).length * 9) ≤ 140737488355328 := by rw [← f14]; exact f12
 have f10' : i + 1 ≤ names.length := by omega
 simp only [tk, dl1, dl2, t1', t2', List.take_length, x1, x2, f5', f6, f7, f7', f9, f10', f11, f12, f12', f13, f14, and_true, decide_true, if_true, List.length_cons, List.length_nil, Nat.zero_add, c7, List.length_append, Nat.le_refl]
 unfold okC
 by_cases h1 : w64 (left.getD (nbB left.length i) 0 - 1) < 1
 ·have h1' : ¬ (1 ≤ w64 (left.getD (nbB left.length i) 0 - 1)) := by omega
  simp only [h1, h1', decide_true, if_true, false_and, decide_false, Bool.false_eq_true, if_false]
 ·have h1' : 1 ≤ w64 (left.getD (nbB left.length i) 0 - 1) := by omega
  by_cases h2 : w64 (left.getD (nbC left.length i) 0 - 1) < 1
  ·have h2' : ¬ (1 ≤ w64 (left.getD (nbC left.length i) 0 - 1)) := by omega
   simp only [h1, h1', h2, h2', decide_true, if_true, and_false, decide_false, Bool.false_eq_true, if_false]
  ·have h2' : 1 ≤ w64 (left.getD (nbC left.length i) 0 - 1) := by omega
   simp only [h1, h1', h2, h2', decide_true, if_true, and_self, decide_false, Bool.false_eq_true, if_false]
theorem F116_cuts : ∀ (k : Nat) (left names : List Int) (out : List Dg), k < 1000 → left.length = k + 3 → names.length = k + 3 → out.length + k < 10000 →
  F116_L10 (((), ((), ())), (left, (names, out))) = some (match triSW k left names with
   | none => .inl (((), false), [])
   | some r => .inr (((), ()), (r.1, out ++ r.2)))
 | 0, left, names, out, hk, hl, hn, ho => by
  simp only [F116_L10, triSW]
  refine loopO_done ?_
  have c0 : ¬ ((left.length : Int) > 3) := by omega
  simp [F116_L10_step, T.run, c0]
 | k + 1, left, names, out, hk, hl, hn, ho => by
  cases he : ear left with
  | none =>
   have hf := F116_first left names out (by omega)
   have hii : idxI (fun x => (1 : Int) == x) left = -1 := by unfold idxI; unfold ear at he; rw [he]
   rw [hii] at hf
   have c0 : (left.length : Int) > 3 := by omega
   simp only [F116_L10, triSW, he]
   refine loopO_done ?_
   simp only [F116_L10_step, T.run, c0, decide_true, if_true, hf, Option.bind_some, true_and]
   simp
  | some i =>
   have st := F116_cut left names out k i (by omega) (by omega) (by omega) (by omega) he
   simp only [F116_L10, triSW, he] at st ⊢
   cases hok : okC left i with
   | false =>
    rw [hok] at st
    rw [loopO_done st]
    rfl
   | true =>
    rw [hok] at st
    have hlc := cutL_length (ear_lt he).1
    have ih := F116_cuts k (cutL left i) (names.eraseIdx i) (out ++ [cutD names i]) (by omega) (by omega) (by rw [List.length_eraseIdx, if_pos (by have := (ear_lt he).1; omega)]; omega) (by simp; omega)
    simp only [F116_L10] at ih
    rw [loopO_next st, ih]
    cases triSW k (cutL left i) (names.eraseIdx i) with
    | none => rfl
    | some r => simp
theorem F116_eq (l : List Int) (hl : l.length < 4611686018427387904) : ∃ r, r.length ≤ 9 ∧ F116 l = some (match trOf l with | some ds => (((), true), ds) | none => (((), false), r)) ∧ ((trOf l).isSome → ∀ ds, trOf l = some ds → ds.length ≤ 9) := by
 have hdl : ∀ ds, trOf l = some ds → ds.length ≤ 9 := by
  intro ds h
  unfold trOf at h
  split at h
  ·rename_i hn
   rw [inB_iff] at hn
   split at h
   ·rename_i es hT
    split at h
    ·cases h
     rw [sortD_length, (tri_good _ _ _ _ (nameL_sorted _) (by omega) (by rw [nameL_length]; omega) hT).1]
     omega
    ·cases h
   ·cases h
  ·cases h
 simp only [F116, F116_t, T.run, F114, F114_t, F113_eq, Option.bind_some]
 cases hn : inB 3 12 (l.length : Int) with
 | false => exact ⟨[], by simp, by simp [trOf, hn], fun _ => hdl⟩
 | true =>
  have hn' := inB_iff.1 hn
  rw [F99_eq l 1 12 hl]
  cases ha : l.all (inB 1 12) with
  | false => exact ⟨[], by simp, by simp [trOf_bad l ha], fun _ => hdl⟩
  | true =>
   have hown := F97_eq l (by omega)
   have h5 := F116_names l (by omega)
   have h10 := F116_cuts (l.length - 3) l (nameL l.length) [] (by omega) (by omega) (by rw [nameL_length]; omega) (by simp; omega)
   have htri := triS_W (l.length - 3) l (nameL l.length)
   have hsp := trOf_spec l ha hn
   simp only [Bool.not_true, Bool.false_eq_true, if_false, Option.bind_some, hown, List.replicate_zero, List.length_nil, true_and, decide_true, if_true, h5, h10]
   cases hW : triSW (l.length - 3) l (nameL l.length) with
   | none =>
    rw [htri, hW] at hsp
    exact ⟨[], by simp, by rw [← hsp]; simp, fun _ => hdl⟩
   | some r =>
    obtain ⟨l3, ds⟩ := r
    obtain ⟨g1, g2⟩ := triSW_len _ _ _ _ (by omega) hW
    simp only at g1 g2
    rw [htri, hW] at hsp
    have hs := F71_eq ds (by omega)
    have hls := sortD_length ds
    match l3, g1 with
    | [a, b, c], _ =>
     refine ⟨sortD ds, by omega, ?_, fun _ => hdl⟩
     rw [← hsp]
     simp only [Sum.isLeft, Sum.getRight?, Option.bind_some, Bool.false_eq_true, if_false, List.nil_append, Nat.zero_add, Nat.le_refl, decide_true, if_true, win_all, hs]
     by_cases ea : a = 1 <;> by_cases eb : b = 1 <;> by_cases ec : c = 1 <;> simp [ea, eb, ec]
def F42_sh : FSh := ⟨[(.one (.pf 0 0 0)), (.one (.si .i64))], [(.rcd 0 [(.sl (.int .u8) false true), (.si .i64), (.si .u64)])]⟩
def F42_fo : List FO := [⟨[(.one (.si .i64)), (.one (.rw 1 0))], [(.rcd 0 [(.sl (.int .u8) false true), (.si .i64), (.si .u64)]), (.row 0 (.pair (.int .i64) (.int .i64)))]⟩]
noncomputable def F42_t : ((Unit × Int) × (List (Int) × Int × Int)) → T ((Int × Unit) × ((List (Int) × Int × Int) × List ((Int × Int)))) := fun (((), most), (c_0, c_1, c_2)) =>
 (.sub (F59 (((), (w64 (most - 2))), (c_0, (c_1, c_2)))) fun z0 =>
 (.sub (F27 (((), (w64 (3 + z0.1))), z0.2)) fun z1 =>
 (.test (decide ((0 + z1.2.2.length) ≤ z1.2.2.length))
 (.sub (F116 (win z1.2.2 0 z1.2.2.length)) fun z2 =>
 (.sub (F59 (((), (16 : Int)), z1.2.1)) fun z3 =>
 (.test (z3.1 == 0)
 (.test (decide ((z2.2.length : Int) > 0))
 (.sub (F59 (((), (z2.2.length : Int)), z3.2)) fun z4 =>
 (.test true
 (.sub (F52 (((), [(-1), (0 : Int), (1 : Int)]), z4.2)) fun z5 =>
 (.test (decide (5 ≤ 5))
 (.sub (F52 (((), [(1 : Int), (2 : Int), (3 : Int), (w64 (3 + z0.1)), (4611686018427387904 : Int)]), z5.2)) fun z6 =>
 (.test (decide ((0 ≤ z4.1) ∧ (z4.1 < (z2.2.length : Int))))
 (.sub (z2.2[(0 + (Int.toNat z4.1))]?) fun z7 =>
 (.test (decide ((0 = 0) ∧ (z2.2.length = (List.length (List.set z2.2 (0 + (Int.toNat z4.1)) (z5.1, z6.1))))))
 (.ret (((w64 (3 + z0.1)), ()), (z6.2, (List.set z2.2 (0 + (Int.toNat z4.1)) (z5.1, z6.1)))))
 .fail))
 .fail))
 .fail))
 .fail))
 (.test (decide ((0 = 0) ∧ (z2.2.length = z2.2.length)))
 (.ret (((w64 (3 + z0.1)), ()), (z3.2, z2.2)))
 .fail))
 (.test (z3.1 == 1)
 (.test (decide (4 ≤ 4))
 (.sub (F52 (((), [(-1), (2 : Int), (w64 ((w64 (3 + z0.1)) + 1)), (4611686018427387904 : Int)]), z3.2)) fun z8 =>
 (.test (decide ((0 = 0) ∧ (z2.2.length = z2.2.length)))
 (.ret ((z8.1, ()), (z8.2, z2.2)))
 .fail))
 .fail)
 (.test (z3.1 == 2)
 (.test true
 (.test (decide ((0 + z2.2.length) ≤ z2.2.length))
 (.test (decide ((2 * ((z2.2.length + 1) * 17)) ≤ 140737488355328))
 (.test (decide ((0 = 0) ∧ ((z2.2.length + 1) = (List.length ((win z2.2 0 z2.2.length) ++ [((0 : Int), (2 : Int))])))))
 (.ret (((w64 (3 + z0.1)), ()), (z3.2, ((win z2.2 0 z2.2.length) ++ [((0 : Int), (2 : Int))]))))
 .fail)
 .fail)
 .fail)
 .fail)
 (.test (decide ((0 = 0) ∧ (z2.2.length = z2.2.length)))
 (.ret (((w64 (3 + z0.1)), ()), (z3.2, z2.2)))
 .fail))))))
 .fail)))
noncomputable def F42 (v) := (F42_t v).run
noncomputable def F42_E : TEnv := ((((E0.add1 n_F59 F59_sh F59_fo F59).add1 n_F27 F27_sh F27_fo F27).add1 n_F116 F116_sh F116_fo F116).add1 n_F52 F52_sh F52_fo F52)
theorem F42_Eok : (F42_E).OK := ((((E0ok.add1 F59_ok).add1 F27_ok).add1 F116_ok).add1 F52_ok)
noncomputable def F42_told : Nat → Option SealT := fun id => none
theorem F42_ok : FOK Tryz.prog n_F42 F42_sh F42_fo F42 :=
 fn_ok (E := F42_E) (F42_Eok) (told := F42_told) (fl := []) (c := bodyOf fn_F42) (s := F42_sh) (l := F42_fo) (tree := F42_t) fnat_F42 (by kernel_rfl) (by kernel_rfl) (by kernel_rfl) (loopsOK_of (ls := []) (by kernel_rfl) trivial) (fun v => by kernel_rfl)
theorem polygon_ok {K : Int} {c : List Int × Int × Int} (N : Int) (hN : 3 ≤ N ∧ N ≤ 12) (h : curOK K c) (hK : K < 100000000) :
  ∃ n ds c', F42 (((), N), c) = some ((n, ()), (c', ds)) ∧ ds.length ≤ 20 ∧ curOK (K + 60) c' := by
 obtain ⟨c0, c1, c2⟩ := c
 obtain ⟨v, d, e, h0, h1, _, hc⟩ := pick_ok (N - 2) h (by omega)
 have h1 := h1 (by omega)
 have w0 : w64 (N - 2) = N - 2 := w64_id (by omega) (by omega)
 have w1 : w64 (3 + v) = 3 + v := w64_id (by omega) (by omega)
 have w2 : w64 (3 + v + 1) = 3 + v + 1 := w64_id (by omega) (by omega)
 obtain ⟨a, out, e2, g1, g2, hc2⟩ := sureQ_ok (3 + v) (by omega) hc (by omega)
 obtain ⟨r, hr, ep, hds⟩ := F116_eq out (by omega)
 obtain ⟨u, b, e3, u0, u1, _, hc3⟩ := pick_ok 16 hc2 (by omega)
 obtain ⟨z, hz, hzl⟩ : ∃ z : (Unit × Bool) × List Dg, F116 out = some z ∧ z.2.length ≤ 9 := by
  refine ⟨_, ep, ?_⟩
  cases ht : trOf out with
  | none => exact hr
  | some ds => exact hds (by rw [ht]; rfl) ds ht
 obtain ⟨zb, ds⟩ := z
 simp only at hzl
 rw [F42, F42_t, T.run_sub, w0, e, Option.bind_some, T.run_sub, w1, e2, Option.bind_some]
 simp only [win_all]
 rw [T.run_test, if_pos (by simp), T.run_sub, hz, Option.bind_some, T.run_sub, e3, Option.bind_some, T.run_test]
 dsimp only
 by_cases c0 : (u == 0) = true
 ·rw [if_pos c0, T.run_test]
  by_cases hd : (ds.length : Int) > 0
  ·obtain ⟨x, f, e4, x0, x1, _, hc4⟩ := pick_ok (ds.length : Int) hc3 (by omega)
   have x1 := x1 (by omega)
   obtain ⟨y, g, e5, _, hc5⟩ := among_ok [-1, 0, 1] hc4 (by omega) (by simp)
   obtain ⟨y2, g2, e6, _, hc6⟩ := among_ok [1, 2, 3, 3 + v, 4611686018427387904] hc5 (by omega) (by simp)
   have hlt : x.toNat < ds.length := by omega
   rw [if_pos (decide_eq_true hd), T.run_sub, e4, Option.bind_some, T.run_test, if_pos rfl, T.run_sub, e5, Option.bind_some, T.run_test, if_pos (by simp), T.run_sub, e6, Option.bind_some, T.run_test, if_pos (decide_eq_true ⟨x0, x1⟩), T.run_sub, Nat.zero_add, List.getElem?_eq_getElem hlt, Option.bind_some, T.run_test, if_pos (by simp), T.run_ret]
   exact ⟨_, _, _, rfl, by rw [List.length_set]; omega, hc6.mono (by omega)⟩
  ·rw [if_neg (by rw [decide_eq_true_eq]; exact hd), T.run_test, if_pos (by simp), T.run_ret]
   exact ⟨_, _, _, rfl, by omega, hc3.mono (by omega)⟩
 rw [if_neg c0, T.run_test]
 by_cases c1 : (u == 1) = true
 ·obtain ⟨y, g, e5, _, hc5⟩ := among_ok [-1, 2, 3 + v + 1, 4611686018427387904] hc3 (by omega) (by simp)
  rw [if_pos c1, T.run_test, if_pos (by simp), T.run_sub, w2, e5, Option.bind_some, T.run_test, if_pos (by simp), T.run_ret]
  exact ⟨_, _, _, rfl, by omega, hc5.mono (by omega)⟩
 rw [if_neg c1, T.run_test]
 by_cases c2 : (u == 2) = true
 ·rw [if_pos c2, T.run_test, if_pos rfl, T.run_test, if_pos (by simp), T.run_test, if_pos (decide_eq_true (by omega)), T.run_test, if_pos (by simp), T.run_ret]
  exact ⟨_, _, _, rfl, by rw [List.length_append, List.length_singleton]; omega, hc3.mono (by omega)⟩
 rw [if_neg c2, T.run_test, if_pos (by simp), T.run_ret]
 exact ⟨_, _, _, rfl, by omega, hc3.mono (by omega)⟩
def F117_sh : FSh := ⟨[(.one (.sl (.int .i64) false false))], []⟩
def F117_L3_sh : LSh := ⟨(fun ex => match ex with | .norm => [(3, none), (6, none), (7, none), (8, none)] | .exit i => if i = 0 then [(3, none)] else [] | .ret => [(2, none)]), [(3, (.one (.si .i64))), (6, (.one (.sl (.int .i64) false false))), (7, (.one (.si .i64))), (8, (.one (.si .i64)))], [], [⟨(.exit 0), [(3, (.one (.si .i64)))], []⟩], [], []⟩
noncomputable def F117_L3_step : (Int × List (Int) × Int × Int) → T ((Int × List (Int) × Int × Int) ⊕ Int) := fun (sum, t6, t7, t8) =>
 (.test (decide (t8 < t7))
 (.test (decide ((0 ≤ t8) ∧ (t8 < (t6.length : Int))))
 (.sub (t6[(Int.toNat t8)]?) fun z0 =>
 (.ret (Sum.inl ((w64 (sum + z0)), (t6, (t7, (w64 (t8 + 1))))))))
 .fail)
 (.ret (Sum.inr sum)))
noncomputable def F117_L3 (v) := loopO (fun v => (F117_L3_step v).run) v
def F117_fo : List FO := [⟨[(.one (.si .i64))], []⟩]
noncomputable def F117_t : List (Int) → T Int := fun list =>
 (.sub (F117_L3 ((0 : Int), (list, ((list.length : Int), (0 : Int))))) fun z0 =>
 (.ret z0))
noncomputable def F117 (v) := (F117_t v).run
noncomputable def F117_E : TEnv := E0
theorem F117_Eok : (F117_E).OK := E0ok
noncomputable def F117_told : Nat → Option SealT := fun id => if id = 3 then some (LSh.told F117_L3_sh 0 (F117_L3_step)) else none
theorem F117_L3_ok : ToldOK Tryz.prog 0 (loopAt (bodyOf fn_F117) [0]) (LSh.told F117_L3_sh 0 (F117_L3_step)) :=
 loop_ok (E := F117_E) (F117_Eok) (told := F117_told) (l := F117_L3_sh) (step := F117_L3_step) (loopsOK_of (ls := []) (by kernel_rfl) trivial) (by kernel_rfl) (fun v => by kernel_rfl)
theorem F117_ok : FOK Tryz.prog n_F117 F117_sh F117_fo F117 :=
 fn_ok (E := F117_E) (F117_Eok) (told := F117_told) (fl := []) (c := bodyOf fn_F117) (s := F117_sh) (l := F117_fo) (tree := F117_t) fnat_F117 (by kernel_rfl) (by kernel_rfl) (by kernel_rfl) (loopsOK_of (ls := [loopAt (bodyOf fn_F117) [0]]) (by kernel_rfl) ⟨.inr ⟨_, by kernel_rfl, F117_L3_ok⟩, trivial⟩) (fun v => by kernel_rfl)
theorem F117_fold : ∀ (l : List Int) (a : Int), l.foldl (fun p x => p + x) a = a + l.sum
 | [], a => by simp
 | x :: l, a => by rw [List.foldl_cons, F117_fold l, List.sum_cons, Int.add_assoc]
theorem dSumG (l : List Int) (hl : l.length ≤ 1000) (hb : ∀ x ∈ l, 0 ≤ x ∧ x ≤ 1000000) : F117 l = some l.sum := by
 have h := loop_fold (step := fun v => (F117_L3_step v).run) (xs := l) (fun k (p : Int) => 0 ≤ p ∧ p ≤ 1000000 * (k : Int)) (fun k p => (p, (l, ((l.length : Int), (k : Int))))) (fun p x => p + x) (fun p => p)
  (fun k p x hP hx => by
   have hk := getElem?_lt hx
   have hb := hb x (List.mem_of_getElem? hx)
   have w1 : w64 (p + x) = p + x := w64_id (by omega) (by omega)
   have w2 : w64 ((k : Int) + 1) = ((k + 1 : Nat) : Int) := by rw [w64_id (by omega) (by omega)]; omega
   refine ⟨?_, by omega, by omega⟩
   rw [F117_L3_step, T.run_test, if_pos (decide_eq_true (by omega)), T.run_test, if_pos (decide_eq_true (by omega)), T.run_sub, Int.toNat_natCast, hx, Option.bind_some, T.run_ret, w1, w2])
  (fun s hP => by rw [F117_L3_step, T.run_test, if_neg (by simp), T.run_ret]) 0 (by omega)
 simp only [Int.natCast_zero] at h
 rw [F117, F117_t, T.run_sub, F117_L3, h.1, Option.bind_some, T.run_ret, F117_fold, Int.zero_add]
def chA (n : Int) : Nat → Nat → Int → Int
 | 0, _, out => out
 | m + 1, i, out => chA n m (i + 1) (w64 (Int.tdiv (w64 (out * (w64 (n - (i : Int))))) ((i + 1 : Nat) : Int)))
def chB (n k : Int) : Nat → Nat → Int → Int
 | 0, _, out => out
 | m + 1, i, out => chB n k m (i + 1) (w64 (Int.tdiv (w64 (out * (w64 ((w64 (n - k)) + (i : Int))))) (i : Int)))
def catV (s : Int) : Int := w64 (Int.tdiv (chA (2 * s - 4) (s - 2).toNat 0 1) (s - 1))
def catW (s : Int) : Int := w64 (Int.tdiv (chB (2 * s - 4) (s - 2) (s - 2).toNat 1 1) (s - 1))
theorem cat_same : ∀ s : Int, 3 ≤ s → s ≤ 12 → catW s = catV s := by
 intro s h1 h2
 have : s = 3 ∨ s = 4 ∨ s = 5 ∨ s = 6 ∨ s = 7 ∨ s = 8 ∨ s = 9 ∨ s = 10 ∨ s = 11 ∨ s = 12 := by omega
 rcases this with rfl | rfl | rfl | rfl | rfl | rfl | rfl | rfl | rfl | rfl <;> decide
def kr (s : Int) : List Int → Int
 | [] => 1
 | [a] => a
 | a :: b :: l => a * kr s (b :: l) + s * kr s l
def kt (s : Int) : List Int → Int
 | [] => 0
 | _ :: l => kr s l
theorem kr_cons (s a : Int) (l : List Int) : kr s (a :: l) = a * kr s l + s * kt s l := by
 cases l with
 | nil => simp [kr, kt]
 | cons b l => rfl
theorem kt_cons (s a : Int) (l : List Int) : kt s (a :: l) = kr s l := rfl
structure MinusOf (num den : Int) (l : List Int) : Prop where
 ne : l ≠ []
 k : kr (-1) l = num
 t : kt (-1) l = den
 two : ∀ x ∈ l.tail, 2 ≤ x
 one : ∀ x ∈ l.head?, 1 ≤ x
 far : den < num → ∀ x ∈ l.head?, 2 ≤ x
theorem upQ_two {num den : Int} (h1 : 1 ≤ den) (h : den < num) : 2 ≤ upQ num den := by
 unfold upQ
 exact Int.le_ediv_of_mul_le (by omega) (by omega)
theorem upQ_one {num den : Int} (h1 : 1 ≤ den) (h : 1 ≤ num) : 1 ≤ upQ num den := by
 unfold upQ
 exact Int.le_ediv_of_mul_le (by omega) (by omega)
theorem MinusOf.cons {num den : Int} {l : List Int} (h1 : 1 ≤ num) (h2 : 1 ≤ den) (hr : upQ num den * den - num < den) (h : MinusOf den (upQ num den * den - num) l) : MinusOf num den (upQ num den :: l) := by
 refine ⟨by simp, by rw [kr_cons, h.k, h.t]; omega, by rw [kt_cons, h.k], fun x hx => ?_, fun x hx => ?_, fun hl x hx => ?_⟩
 ·cases l with
  | nil => exact absurd rfl h.ne
  | cons b l =>
   simp only [List.tail_cons, List.mem_cons] at hx
   rcases hx with rfl | hx
   ·exact h.far hr x rfl
   ·exact h.two x hx
 ·simp at hx; subst hx; exact upQ_one h2 h1
 ·simp at hx; subst hx; exact upQ_two h2 hl
structure PlusOf (num den : Int) (l : List Int) : Prop where
 ne : l ≠ []
 k : kr 1 l = num
 t : kt 1 l = den
 pos : den ≤ num → ∀ x ∈ l, 1 ≤ x
 far : den < num → ∀ x ∈ l.getLast?, 2 ≤ x
theorem PlusOf.cons {num den q r : Int} {l : List Int} (h2 : 1 ≤ den) (hr0 : 0 < r) (hr : r < den) (e : q * den + r = num) (h : PlusOf den r l) : PlusOf num den (q :: l) := by
 refine ⟨by simp, by rw [kr_cons, h.k, h.t]; omega, by rw [kt_cons, h.k], fun hl x hx => ?_, fun hl x hx => ?_⟩
 ·simp only [List.mem_cons] at hx
  rcases hx with rfl | hx
  ·refine Int.not_lt.1 fun hq => ?_
   have : x * den ≤ 0 * den := Int.mul_le_mul_of_nonneg_right (by omega) (by omega)
   omega
  ·exact h.pos (by omega) x hx
 ·cases l with
  | nil => exact absurd rfl h.ne
  | cons b l =>
   rw [List.getLast?_cons_cons] at hx
   exact h.far hr x hx
def A4 (a : Int) : M4 := (a, -1, 1, 0)
def MM : List Int → M4
 | [] => one4
 | a :: l => mul4 (A4 a) (MM l)
theorem mul4_assoc (a b c : M4) : mul4 (mul4 a b) c = mul4 a (mul4 b c) := by
 obtain ⟨a1, a2, a3, a4⟩ := a
 obtain ⟨b1, b2, b3, b4⟩ := b
 obtain ⟨c1, c2, c3, c4⟩ := c
 simp only [mul4, Prod.mk.injEq]
 refine ⟨?_, ?_, ?_, ?_⟩ <;> grind
theorem mul4_one (a : M4) : mul4 one4 a = a := by
 obtain ⟨a1, a2, a3, a4⟩ := a
 simp [mul4, one4]
theorem mul4_one' (a : M4) : mul4 a one4 = a := by
 obtain ⟨a1, a2, a3, a4⟩ := a
 simp [mul4, one4]
theorem MM_append : ∀ l m : List Int, MM (l ++ m) = mul4 (MM l) (MM m)
 | [], m => by rw [List.nil_append]; exact (mul4_one _).symm
 | a :: l, m => by rw [List.cons_append, MM, MM, MM_append l m, mul4_assoc]
def clo (e : Int) (l : List Int) : Prop := MM l = (e, 0, 0, e)
theorem clo_rot1 {e a : Int} {t : List Int} : clo e (a :: t) ↔ clo e (t ++ [a]) := by
 unfold clo
 rw [MM_append, MM]
 show _ ↔ mul4 (MM t) (mul4 (A4 a) one4) = _
 rw [mul4_one']
 obtain ⟨p, q, r, s⟩ := MM t
 simp only [mul4, A4, Prod.mk.injEq]
 constructor
 ·rintro ⟨h1, h2, h3, h4⟩
  refine ⟨?_, ?_, ?_, ?_⟩ <;> grind
 ·rintro ⟨h1, h2, h3, h4⟩
  refine ⟨?_, ?_, ?_, ?_⟩ <;> grind
theorem clo_rot {e : Int} : ∀ p q : List Int, clo e (p ++ q) ↔ clo e (q ++ p)
 | [], q => by simp
 | a :: p, q => by
  rw [List.cons_append, clo_rot1, List.append_assoc, clo_rot p (q ++ [a]), List.append_assoc]
  rfl
def Rot (p q : List Int) : Prop := ∃ a b, p = a ++ b ∧ q = b ++ a
theorem Rot.clo {p q : List Int} {e : Int} (h : Rot p q) : clo e p ↔ clo e q := by
 obtain ⟨a, b, rfl, rfl⟩ := h
 exact clo_rot a b
theorem Rot.sum {p q : List Int} (h : Rot p q) : p.sum = q.sum := by
 obtain ⟨a, b, rfl, rfl⟩ := h
 simp only [List.sum_append]; omega
theorem Rot.length {p q : List Int} (h : Rot p q) : p.length = q.length := by
 obtain ⟨a, b, rfl, rfl⟩ := h
 simp only [List.length_append]; omega
def ltL : List Int → List Int → Bool
 | [], [] => false
 | [], _ :: _ => true
 | _ :: _, [] => false
 | x :: a, y :: b => if x < y then true else if y < x then false else ltL a b
def leL (a b : List Int) : Bool := !ltL b a
theorem ltL_irr : ∀ a : List Int, ltL a a = false
 | [] => rfl
 | x :: a => by simp [ltL, ltL_irr a]
theorem ltL_trans : ∀ {a b c : List Int}, ltL a b = true → ltL b c = true → ltL a c = true
 | [], [], c, h, _ => by simp [ltL] at h
 | [], y :: b, [], _, h => by simp [ltL] at h
 | [], y :: b, z :: c, _, _ => rfl
 | x :: a, [], c, h, _ => by simp [ltL] at h
 | x :: a, y :: b, [], _, h => by simp [ltL] at h
 | x :: a, y :: b, z :: c, h1, h2 => by
  unfold ltL at h1 h2 ⊢
  by_cases g1 : x < y
  ·by_cases g2 : y < z
   ·rw [if_pos (by omega)]
   ·rw [if_neg g2] at h2
    by_cases g3 : z < y
    ·rw [if_pos g3] at h2; cases h2
    ·rw [if_pos (by omega)]
  ·rw [if_neg g1] at h1
   by_cases g4 : y < x
   ·rw [if_pos g4] at h1; cases h1
   ·rw [if_neg g4] at h1
    have e : x = y := by omega
    subst e
    by_cases g2 : x < z
    ·rw [if_pos g2]
    ·rw [if_neg g2] at h2 ⊢
     by_cases g3 : z < x
     ·rw [if_pos g3] at h2; cases h2
     ·rw [if_neg g3] at h2 ⊢
      exact ltL_trans h1 h2
theorem ltL_tot : ∀ {a b : List Int}, ltL a b = false → ltL b a = false → a = b
 | [], [], _, _ => rfl
 | [], y :: b, h, _ => by simp [ltL] at h
 | x :: a, [], _, h => by simp [ltL] at h
 | x :: a, y :: b, h1, h2 => by
  unfold ltL at h1 h2
  by_cases g1 : x < y
  ·rw [if_pos g1] at h1; cases h1
  ·rw [if_neg g1] at h1
   by_cases g2 : y < x
   ·rw [if_pos g2] at h2; cases h2
   ·rw [if_neg g2] at h1 h2
    rw [if_neg g1] at h2
    rw [show x = y by omega, ltL_tot h1 h2]
theorem leL_tot (a b : List Int) : (leL a b || leL b a) = true := by
 unfold leL
 cases h1 : ltL b a with
 | false => rfl
 | true =>
  cases h2 : ltL a b with
  | false => rfl
  | true =>
   have := ltL_trans h1 h2
   rw [ltL_irr] at this
   cases this
theorem leL_trans {a b c : List Int} (h1 : leL a b = true) (h2 : leL b c = true) : leL a c = true := by
 unfold leL at h1 h2 ⊢
 simp only [Bool.not_eq_true'] at h1 h2 ⊢
 cases h : ltL c a with
 | false => rfl
 | true =>
  exfalso
  cases h3 : ltL a b with
  | true => have := ltL_trans h h3; rw [this] at h2; cases h2
  | false =>
   have := ltL_tot h3 h1
   subst this
   rw [h] at h2; cases h2
def sortL (l : List (List Int)) : List (List Int) := l.mergeSort leL
theorem sortL_perm (l : List (List Int)) : (sortL l).Perm l := List.mergeSort_perm l leL
theorem sortL_up (l : List (List Int)) : (sortL l).Pairwise fun a b => leL a b = true := List.pairwise_mergeSort (le := leL) (fun _ _ _ => leL_trans) leL_tot l
theorem sortL_unique {l m : List (List Int)} (h : m.Pairwise fun a b => leL a b = true) (hp : m.Perm l) : m = sortL l :=
 List.Perm.eq_of_pairwise (fun a b _ _ h1 h2 => ltL_tot (by simpa [leL] using h2) (by simpa [leL] using h1)) h (sortL_up l) (hp.trans (sortL_perm l).symm)
def freeD (d : Dg) (b : List Dg) : Bool := !b.any (crossD d)
def goL (m : Nat) : List Dg → List Dg → List (List Dg)
 | [], _ => []
 | d :: rest, b => (if freeD d b then (if b.length + 1 = m then [b ++ [d]] else goL m rest (b ++ [d])) else []) ++ goL m rest b
def lookL (m : Nat) (rest b : List Dg) : List (List Dg) := if b.length = m then [b] else goL m rest b
theorem goL_cons (m : Nat) (d : Dg) (rest b : List Dg) : goL m (d :: rest) b = (if freeD d b then lookL m rest (b ++ [d]) else []) ++ goL m rest b := by
 conv => lhs; unfold goL
 unfold lookL
 simp only [List.length_append, List.length_cons, List.length_nil, Nat.zero_add]
def dgL (n : Nat) : List Dg := (List.range n).flatMap fun (a : Nat) => (((List.range n).map fun (b : Nat) => ((a : Int), (b : Int))).filter fun d => inDg n d)
theorem goL_len (m : Nat) : ∀ (rest b : List Dg), (goL m rest b).length ≤ 2 ^ rest.length
 | [], b => by simp [goL]
 | d :: rest, b => by
  have h1 := goL_len m rest b
  have h2 := goL_len m rest (b ++ [d])
  have h3 : 1 ≤ 2 ^ rest.length := Nat.one_le_two_pow
  rw [goL_cons, List.length_append, List.length_cons, Nat.pow_succ]
  unfold lookL
  by_cases hf : freeD d b = true
  ·rw [if_pos hf]
   by_cases hb : (b ++ [d]).length = m
   ·rw [if_pos hb]; simp only [List.length_cons, List.length_nil]; omega
   ·rw [if_neg hb]; omega
  ·rw [if_neg hf]; simp only [List.length_nil]; omega
theorem goL_mem (m : Nat) : ∀ (rest b ds : List Dg), ds ∈ goL m rest b → ds.length = m ∧ ∀ d ∈ ds, d ∈ b ∨ d ∈ rest
 | [], b, ds, h => by simp [goL] at h
 | d :: rest, b, ds, h => by
  rw [goL_cons, List.mem_append] at h
  rcases h with h | h
  ·split at h
   ·unfold lookL at h
    split at h
    ·rename_i hl
     simp only [List.mem_singleton] at h
     subst h
     refine ⟨hl, fun e he => ?_⟩
     rcases List.mem_append.1 he with he | he
     ·exact .inl he
     ·simp only [List.mem_singleton] at he; subst he; exact .inr (by simp)
    ·obtain ⟨h1, h2⟩ := goL_mem m rest (b ++ [d]) ds h
     refine ⟨h1, fun e he => ?_⟩
     rcases h2 e he with h | h
     ·rcases List.mem_append.1 h with h | h
      ·exact .inl h
      ·simp only [List.mem_singleton] at h; subst h; exact .inr (by simp)
     ·exact .inr (by simp [h])
   ·cases h
  ·obtain ⟨h1, h2⟩ := goL_mem m rest b ds h
   exact ⟨h1, fun e he => (h2 e he).imp id fun h => by simp [h]⟩
def allT (n : Nat) : List (List Dg) := lookL (n - 3) (dgL n) []
theorem dgL_len (n : Nat) (h : n ≤ 9) : (dgL n).length ≤ 27 := by
 have : ∀ k, k ≤ 9 → (dgL k).length ≤ 27 := by decide +kernel
 exact this n h
theorem allT_len (n : Nat) (h : n ≤ 9) : (allT n).length ≤ 134217728 := by
 unfold allT lookL
 split
 ·simp
 ·have h1 := goL_len (n - 3) (dgL n) []
  have h2 : 2 ^ (dgL n).length ≤ 2 ^ 27 := Nat.pow_le_pow_right (by omega) (dgL_len n h)
  have : (2 : Nat) ^ 27 = 134217728 := by decide
  omega
def rowD (n a b : Nat) : List Dg := (((List.range n).drop b).map fun (b : Nat) => ((a : Int), (b : Int))).filter fun d => inDg n d
theorem rowD_end (n a : Nat) : rowD n a n = [] := by
 unfold rowD
 rw [List.drop_of_length_le (by simp)]
 rfl
theorem rowD_step {n a b : Nat} (h : b < n) : rowD n a b = (if inDg n ((a : Int), (b : Int)) then [((a : Int), (b : Int))] else []) ++ rowD n a (b + 1) := by
 unfold rowD
 rw [List.drop_eq_getElem_cons (by simpa using h), List.map_cons, List.filter_cons, List.getElem_range]
 split <;> rfl
theorem inDg_iff {n : Int} {d : Dg} : inDg n d = true ↔ (0 ≤ d.1 ∧ d.1 ≤ n - 1) ∧ (0 ≤ d.2 ∧ d.2 ≤ n - 1) ∧ d.2 - d.1 > 1 ∧ ¬ (d.1 = 0 ∧ d.2 = n - 1) := by
 unfold inDg
 simp [inB_iff, and_assoc]
 intros
 omega
theorem rowD_front (n a : Nat) : ∀ k, k ≤ a + 2 → rowD n a 0 = rowD n a k
 | 0, _ => rfl
 | k + 1, h => by
  rw [rowD_front n a k (by omega)]
  by_cases hk : k < n
  ·rw [rowD_step hk, if_neg, List.nil_append]
   rw [inDg_iff]
   simp only []
   omega
  ·unfold rowD
   rw [List.drop_of_length_le (by simp; omega), List.drop_of_length_le (by simp; omega)]
theorem dgL_rows (n : Nat) : dgL n = (List.range n).flatMap fun a => rowD n a 0 := rfl
theorem rowD_len (n a b : Nat) : (rowD n a b).length ≤ n := by
 unfold rowD
 exact Nat.le_trans (List.length_filter_le ..) (by simp)
def rowsD (n a : Nat) : List Dg := ((List.range n).drop a).flatMap fun a => rowD n a 0
theorem rowsD_end (n : Nat) : rowsD n n = [] := by unfold rowsD; rw [List.drop_of_length_le (by simp)]; rfl
theorem rowsD_step {n a : Nat} (h : a < n) : rowsD n a = rowD n a 0 ++ rowsD n (a + 1) := by
 unfold rowsD
 rw [List.drop_eq_getElem_cons (by simpa using h), List.flatMap_cons, List.getElem_range]
theorem drop_gD {t : List Dg} {i : Nat} (h : i < t.length) : t.drop i = gD t i :: t.drop (i + 1) := by rw [gD_eq h, List.drop_eq_getElem_cons h]
theorem look_pow {m : Nat} {t b : List Dg} {i k : Nat} (hm : m = t.length - (i + 1)) : (lookL k (t.drop (i + 1)) b).length ≤ 2 ^ m := by
 unfold lookL
 split
 ·simp only [List.length_cons, List.length_nil]; exact Nat.one_le_two_pow
 ·have := goL_len k (t.drop (i + 1)) b
  rwa [List.length_drop, ← hm] at this
def allQ (n : Nat) : List (List Int) := sortL ((allT n).map (quid n))
theorem allT_in {n : Nat} {ds : List Dg} (hn : 3 ≤ n ∧ n ≤ 9) (h : ds ∈ allT n) : ds.length = n - 3 ∧ ∀ d ∈ ds, 0 ≤ d.1 ∧ d.1 < d.2 ∧ d.2 < (n : Int) := by
 have hg : ds.length = n - 3 ∧ ∀ d ∈ ds, d ∈ dgL n := by
  unfold allT lookL at h
  split at h
  ·rename_i hl
   simp only [List.mem_singleton] at h
   subst h
   exact ⟨hl, by simp⟩
  ·obtain ⟨h1, h2⟩ := goL_mem _ _ _ _ h
   exact ⟨h1, fun d hd => (h2 d hd).resolve_left (by simp)⟩
 refine ⟨hg.1, fun d hd => ?_⟩
 have := hg.2 d hd
 unfold dgL at this
 obtain ⟨a, _, ha⟩ := List.mem_flatMap.1 this
 have := (List.mem_filter.1 ha).2
 rw [inDg_iff] at this
 omega
theorem quid_length (n : Nat) (ds : List Dg) : (quid n ds).length = n := by simp [quid]
end Go.Proofs.W
