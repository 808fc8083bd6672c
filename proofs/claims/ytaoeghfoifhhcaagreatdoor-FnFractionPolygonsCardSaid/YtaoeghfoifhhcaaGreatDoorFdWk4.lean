/- Functions of the program, walked, and what they compute. -/
import Derived.Test.YtaoeghfoifhhcaaGreatDoorFdWk3
set_option linter.unusedVariables false
set_option linter.unusedSimpArgs false
set_option maxRecDepth 100000
set_option maxHeartbeats 4000000
namespace Go.Proofs.W
open Go Go.Gm Go.Proofs
open Go.RowKit Go.Shelf
def F108_sh : FSh := ⟨[(.one (.sl (.int .i64) false false))], []⟩

def F108_L5_sh : LSh := ⟨(fun ex => match ex with | .norm => [(4, none), (5, none), (26, none), (27, none)] | .exit i => if i = 0 then [(4, none), (5, none)] else [] | .ret => [(2, none), (3, none)]), [(4, (.one (.rw 0 0))), (5, (.one (.rw 1 0))), (26, (.one (.si .i64))), (27, (.one (.si .i64)))], [(.row 0 (.int .i64)), (.row 0 (.int .i64))], [⟨(.exit 0), [(4, (.one (.rw 0 0))), (5, (.one (.rw 1 0)))], [(.row 0 (.int .i64)), (.row 0 (.int .i64))]⟩], [], []⟩
noncomputable def F108_L5_step : ((Unit × Unit × Int × Int) × (List (Int) × List (Int))) → T (((Unit × Unit × Int × Int) × (List (Int) × List (Int))) ⊕ ((Unit × Unit) × (List (Int) × List (Int)))) := fun (((), (), t26, t27), (left, corners)) =>
 (.test (decide (t27 < t26))
 (.test (decide (1 ≤ (List.length (List.set (List.replicate 1 (0 : Int)) 0 t27))))
 (.test (decide ((0 + (List.length corners)) ≤ (List.length corners)))
 (.test (decide ((2 * (((List.length corners) + (List.length (win (List.set (List.replicate 1 (0 : Int)) 0 t27) 0 1))) * 9)) ≤ 140737488355328))
 (.test (decide ((0 = 0) ∧ ((List.length left) = (List.length left))))
 (.test (decide ((0 = 0) ∧ (((List.length corners) + (List.length (win (List.set (List.replicate 1 (0 : Int)) 0 t27) 0 1))) = (List.length ((win corners 0 (List.length corners)) ++ (win (List.set (List.replicate 1 (0 : Int)) 0 t27) 0 1))))))
 (.ret (Sum.inl (((), ((), (t26, (w64 (t27 + 1))))), (left, ((win corners 0 (List.length corners)) ++ (win (List.set (List.replicate 1 (0 : Int)) 0 t27) 0 1))))))
 .fail)
 .fail)
 .fail)
 .fail)
 .fail)
 (.test (decide ((0 = 0) ∧ ((List.length left) = (List.length left))))
 (.test (decide ((0 = 0) ∧ ((List.length corners) = (List.length corners))))
 (.ret (Sum.inr (((), ()), (left, corners))))
 .fail)
 .fail))
noncomputable def F108_L5 (v : ((Unit × Unit × Int × Int) × (List (Int) × List (Int)))) : Option ((Unit × Unit) × (List (Int) × List (Int))) := loopO (fun v => (F108_L5_step v).run) v

def F108_L13_sh : LSh := ⟨(fun ex => match ex with | .norm => [(4, none), (5, none), (7, none), (8, none), (38, none), (39, none), (40, none)] | .exit i => if i = 4 then [(4, none), (5, none), (7, none), (8, none)] else if i = 3 then [(4, none), (5, none), (7, none)] else if i = 2 then [(4, none), (7, none)] else [] | .ret => [(2, none), (3, none)]), [(4, (.one (.rw 0 0))), (5, (.one (.rw 1 0))), (7, (.one (.rw 2 0))), (8, (.one (.si .i64))), (38, (.one (.rw 0 0))), (39, (.one (.si .i64))), (40, (.one (.si .i64)))], [(.row 0 (.int .i64)), (.row 0 (.int .i64)), (.row 0 (.pair (.int .i64) (.int .i64)))], [⟨(.exit 4), [(4, (.one (.rw 0 0))), (5, (.one (.rw 1 0))), (7, (.one (.rw 2 0))), (8, (.one (.si .i64)))], [(.row 0 (.int .i64)), (.row 0 (.int .i64)), (.row 0 (.pair (.int .i64) (.int .i64)))]⟩], [], []⟩
noncomputable def F108_L13_step : ((Unit × Unit × Unit × Int × Unit × Int × Int) × (List (Int) × List (Int) × List ((Int × Int)))) → T (((Unit × Unit × Unit × Int × Unit × Int × Int) × (List (Int) × List (Int) × List ((Int × Int)))) ⊕ ((Unit × Unit × Unit × Int) × (List (Int) × List (Int) × List ((Int × Int))))) := fun (((), (), (), at', (), t39, t40), (left, corners, out)) =>
 (.test (decide (t40 < t39))
 (.test (decide ((0 ≤ t40) ∧ (t40 < ((List.length left) : Int))))
 (.sub (left[(0 + (Int.toNat t40))]?) fun z0 =>
 (.test (z0 == 1)
 (.test (decide (at' < 0))
 (.test (decide ((0 = 0) ∧ ((List.length left) = (List.length left))))
 (.test (decide ((0 = 0) ∧ ((List.length corners) = (List.length corners))))
 (.test (decide ((0 = 0) ∧ ((List.length out) = (List.length out))))
 (.test (decide ((0 = 0) ∧ ((List.length left) = (List.length left))))
 (.ret (Sum.inl (((), ((), ((), (t40, ((), (t39, (w64 (t40 + 1)))))))), (left, (corners, out)))))
 .fail)
 .fail)
 .fail)
 .fail)
 (.test (decide ((0 = 0) ∧ ((List.length left) = (List.length left))))
 (.test (decide ((0 = 0) ∧ ((List.length corners) = (List.length corners))))
 (.test (decide ((0 = 0) ∧ ((List.length out) = (List.length out))))
 (.test (decide ((0 = 0) ∧ ((List.length left) = (List.length left))))
 (.ret (Sum.inl (((), ((), ((), (at', ((), (t39, (w64 (t40 + 1)))))))), (left, (corners, out)))))
 .fail)
 .fail)
 .fail)
 .fail))
 (.test (decide ((0 = 0) ∧ ((List.length left) = (List.length left))))
 (.test (decide ((0 = 0) ∧ ((List.length corners) = (List.length corners))))
 (.test (decide ((0 = 0) ∧ ((List.length out) = (List.length out))))
 (.test (decide ((0 = 0) ∧ ((List.length left) = (List.length left))))
 (.ret (Sum.inl (((), ((), ((), (at', ((), (t39, (w64 (t40 + 1)))))))), (left, (corners, out)))))
 .fail)
 .fail)
 .fail)
 .fail)))
 .fail)
 (.test (decide ((0 = 0) ∧ ((List.length left) = (List.length left))))
 (.test (decide ((0 = 0) ∧ ((List.length corners) = (List.length corners))))
 (.test (decide ((0 = 0) ∧ ((List.length out) = (List.length out))))
 (.ret (Sum.inr (((), ((), ((), at'))), (left, (corners, out)))))
 .fail)
 .fail)
 .fail))
noncomputable def F108_L13 (v : ((Unit × Unit × Unit × Int × Unit × Int × Int) × (List (Int) × List (Int) × List ((Int × Int))))) : Option ((Unit × Unit × Unit × Int) × (List (Int) × List (Int) × List ((Int × Int)))) := loopO (fun v => (F108_L13_step v).run) v

def F108_L10_sh : LSh := ⟨(fun ex => match ex with | .norm => [(4, none), (5, none), (7, none)] | .exit i => if i = 2 then [(4, none), (7, none)] else [] | .ret => [(2, none), (3, none)]), [(4, (.one (.rw 0 0))), (5, (.one (.rw 1 0))), (7, (.one (.rw 2 0)))], [(.row 0 (.int .i64)), (.row 0 (.int .i64)), (.row 0 (.pair (.int .i64) (.int .i64)))], [⟨.ret, [(2, (.one (.rw 0 0))), (3, (.one .sb))], [(.row 0 (.pair (.int .i64) (.int .i64)))]⟩, ⟨(.exit 2), [(4, (.one (.rw 0 0))), (7, (.one (.rw 1 0)))], [(.row 0 (.int .i64)), (.row 0 (.pair (.int .i64) (.int .i64)))]⟩], [], []⟩
noncomputable def F108_L10_step : ((Unit × Unit × Unit) × (List (Int) × List (Int) × List ((Int × Int)))) → T (((Unit × Unit × Unit) × (List (Int) × List (Int) × List ((Int × Int)))) ⊕ (((Unit × Bool) × List ((Int × Int))) ⊕ ((Unit × Unit) × (List (Int) × List ((Int × Int)))))) := fun (((), (), ()), (left, corners, out)) =>
 (.test (decide (((List.length left) : Int) > 3))
 (.test (decide ((0 = 0) ∧ ((List.length left) = (List.length left))))
 (.test (decide ((0 = 0) ∧ ((List.length corners) = (List.length corners))))
 (.test (decide ((0 = 0) ∧ ((List.length out) = (List.length out))))
 (.test (decide ((0 = 0) ∧ ((List.length left) = (List.length left))))
 (.sub (F108_L13 (((), ((), ((), ((-1), ((), (((List.length left) : Int), (0 : Int))))))), (left, (corners, out)))) fun z0 =>
 (.test (decide (z0.1.2.2.2 < 0))
 (.test true
 (.ret (Sum.inr (Sum.inl (((), false), ([] : List (Int × Int))))))
 .fail)
 (.test (decide (((List.length z0.2.1) : Int) ≠ 0))
 (.test (decide (((List.length z0.2.1) : Int) ≠ 0))
 (.test (decide ((0 ≤ (Int.tmod (w64 ((w64 (z0.1.2.2.2 + ((List.length z0.2.1) : Int))) - 1)) ((List.length z0.2.1) : Int))) ∧ ((Int.tmod (w64 ((w64 (z0.1.2.2.2 + ((List.length z0.2.1) : Int))) - 1)) ((List.length z0.2.1) : Int)) < ((List.length z0.2.1) : Int))))
 (.sub (z0.2.1[(0 + (Int.toNat (Int.tmod (w64 ((w64 (z0.1.2.2.2 + ((List.length z0.2.1) : Int))) - 1)) ((List.length z0.2.1) : Int))))]?) fun z1 =>
 (.test (decide ((0 ≤ (Int.tmod (w64 ((w64 (z0.1.2.2.2 + ((List.length z0.2.1) : Int))) - 1)) ((List.length z0.2.1) : Int))) ∧ ((Int.tmod (w64 ((w64 (z0.1.2.2.2 + ((List.length z0.2.1) : Int))) - 1)) ((List.length z0.2.1) : Int)) < ((List.length z0.2.1) : Int))))
 (.sub (z0.2.1[(0 + (Int.toNat (Int.tmod (w64 ((w64 (z0.1.2.2.2 + ((List.length z0.2.1) : Int))) - 1)) ((List.length z0.2.1) : Int))))]?) fun z2 =>
 (.test (decide ((0 ≤ (Int.tmod (w64 (z0.1.2.2.2 + 1)) ((List.length z0.2.1) : Int))) ∧ ((Int.tmod (w64 (z0.1.2.2.2 + 1)) ((List.length z0.2.1) : Int)) < ((List.length z0.2.1) : Int))))
 (.sub ((List.set z0.2.1 (0 + (Int.toNat (Int.tmod (w64 ((w64 (z0.1.2.2.2 + ((List.length z0.2.1) : Int))) - 1)) ((List.length z0.2.1) : Int)))) (w64 (z1 - 1)))[(0 + (Int.toNat (Int.tmod (w64 (z0.1.2.2.2 + 1)) ((List.length z0.2.1) : Int))))]?) fun z3 =>
 (.test (decide ((0 ≤ (Int.tmod (w64 (z0.1.2.2.2 + 1)) ((List.length z0.2.1) : Int))) ∧ ((Int.tmod (w64 (z0.1.2.2.2 + 1)) ((List.length z0.2.1) : Int)) < ((List.length z0.2.1) : Int))))
 (.sub ((List.set z0.2.1 (0 + (Int.toNat (Int.tmod (w64 ((w64 (z0.1.2.2.2 + ((List.length z0.2.1) : Int))) - 1)) ((List.length z0.2.1) : Int)))) (w64 (z1 - 1)))[(0 + (Int.toNat (Int.tmod (w64 (z0.1.2.2.2 + 1)) ((List.length z0.2.1) : Int))))]?) fun z4 =>
 (.test (decide ((0 ≤ (Int.tmod (w64 ((w64 (z0.1.2.2.2 + ((List.length z0.2.1) : Int))) - 1)) ((List.length z0.2.1) : Int))) ∧ ((Int.tmod (w64 ((w64 (z0.1.2.2.2 + ((List.length z0.2.1) : Int))) - 1)) ((List.length z0.2.1) : Int)) < ((List.length z0.2.1) : Int))))
 (.sub ((List.set (List.set z0.2.1 (0 + (Int.toNat (Int.tmod (w64 ((w64 (z0.1.2.2.2 + ((List.length z0.2.1) : Int))) - 1)) ((List.length z0.2.1) : Int)))) (w64 (z1 - 1))) (0 + (Int.toNat (Int.tmod (w64 (z0.1.2.2.2 + 1)) ((List.length z0.2.1) : Int)))) (w64 (z3 - 1)))[(0 + (Int.toNat (Int.tmod (w64 ((w64 (z0.1.2.2.2 + ((List.length z0.2.1) : Int))) - 1)) ((List.length z0.2.1) : Int))))]?) fun z5 =>
 (.test (decide (z5 < 1))
 (.test true
 (.ret (Sum.inr (Sum.inl (((), false), ([] : List (Int × Int))))))
 .fail)
 (.test (decide ((0 ≤ (Int.tmod (w64 (z0.1.2.2.2 + 1)) ((List.length z0.2.1) : Int))) ∧ ((Int.tmod (w64 (z0.1.2.2.2 + 1)) ((List.length z0.2.1) : Int)) < ((List.length z0.2.1) : Int))))
 (.sub ((List.set (List.set z0.2.1 (0 + (Int.toNat (Int.tmod (w64 ((w64 (z0.1.2.2.2 + ((List.length z0.2.1) : Int))) - 1)) ((List.length z0.2.1) : Int)))) (w64 (z1 - 1))) (0 + (Int.toNat (Int.tmod (w64 (z0.1.2.2.2 + 1)) ((List.length z0.2.1) : Int)))) (w64 (z3 - 1)))[(0 + (Int.toNat (Int.tmod (w64 (z0.1.2.2.2 + 1)) ((List.length z0.2.1) : Int))))]?) fun z6 =>
 (.test (decide (z6 < 1))
 (.test true
 (.ret (Sum.inr (Sum.inl (((), false), ([] : List (Int × Int))))))
 .fail)
 (.test (decide ((0 ≤ (Int.tmod (w64 ((w64 (z0.1.2.2.2 + ((List.length z0.2.1) : Int))) - 1)) ((List.length z0.2.1) : Int))) ∧ ((Int.tmod (w64 ((w64 (z0.1.2.2.2 + ((List.length z0.2.1) : Int))) - 1)) ((List.length z0.2.1) : Int)) < ((List.length z0.2.2.1) : Int))))
 (.sub (z0.2.2.1[(0 + (Int.toNat (Int.tmod (w64 ((w64 (z0.1.2.2.2 + ((List.length z0.2.1) : Int))) - 1)) ((List.length z0.2.1) : Int))))]?) fun z7 =>
 (.test (decide ((0 ≤ (Int.tmod (w64 (z0.1.2.2.2 + 1)) ((List.length z0.2.1) : Int))) ∧ ((Int.tmod (w64 (z0.1.2.2.2 + 1)) ((List.length z0.2.1) : Int)) < ((List.length z0.2.2.1) : Int))))
 (.sub (z0.2.2.1[(0 + (Int.toNat (Int.tmod (w64 (z0.1.2.2.2 + 1)) ((List.length z0.2.1) : Int))))]?) fun z8 =>
 (.sub (F71 (z7, z8)) fun z9 =>
 (.test (decide ((0 ≤ (Int.tmod (w64 ((w64 (z0.1.2.2.2 + ((List.length z0.2.1) : Int))) - 1)) ((List.length z0.2.1) : Int))) ∧ ((Int.tmod (w64 ((w64 (z0.1.2.2.2 + ((List.length z0.2.1) : Int))) - 1)) ((List.length z0.2.1) : Int)) < ((List.length z0.2.2.1) : Int))))
 (.sub (z0.2.2.1[(0 + (Int.toNat (Int.tmod (w64 ((w64 (z0.1.2.2.2 + ((List.length z0.2.1) : Int))) - 1)) ((List.length z0.2.1) : Int))))]?) fun z10 =>
 (.test (decide ((0 ≤ (Int.tmod (w64 (z0.1.2.2.2 + 1)) ((List.length z0.2.1) : Int))) ∧ ((Int.tmod (w64 (z0.1.2.2.2 + 1)) ((List.length z0.2.1) : Int)) < ((List.length z0.2.2.1) : Int))))
 (.sub (z0.2.2.1[(0 + (Int.toNat (Int.tmod (w64 (z0.1.2.2.2 + 1)) ((List.length z0.2.1) : Int))))]?) fun z11 =>
 (.sub (F82 (z10, z11)) fun z12 =>
 (.test (decide (1 ≤ (List.length (List.set (List.replicate 1 ((0 : Int), (0 : Int))) 0 (z9, z12)))))
 (.test (decide ((0 + (List.length z0.2.2.2)) ≤ (List.length z0.2.2.2)))
 (.test (decide ((2 * (((List.length z0.2.2.2) + (List.length (win (List.set (List.replicate 1 ((0 : Int), (0 : Int))) 0 (z9, z12)) 0 1))) * 17)) ≤ 140737488355328))
 (.test (decide (0 ≤ z0.1.2.2.2))
 (.test (decide ((0 ≤ (Int.toNat z0.1.2.2.2)) ∧ ((Int.toNat z0.1.2.2.2) ≤ (List.length z0.2.1))))
 (.test (decide ((0 + ((Int.toNat z0.1.2.2.2) - 0)) ≤ (List.length (List.set (List.set z0.2.1 (0 + (Int.toNat (Int.tmod (w64 ((w64 (z0.1.2.2.2 + ((List.length z0.2.1) : Int))) - 1)) ((List.length z0.2.1) : Int)))) (w64 (z1 - 1))) (0 + (Int.toNat (Int.tmod (w64 (z0.1.2.2.2 + 1)) ((List.length z0.2.1) : Int)))) (w64 (z3 - 1))))))
 (.sub (F86 (win (List.set (List.set z0.2.1 (0 + (Int.toNat (Int.tmod (w64 ((w64 (z0.1.2.2.2 + ((List.length z0.2.1) : Int))) - 1)) ((List.length z0.2.1) : Int)))) (w64 (z1 - 1))) (0 + (Int.toNat (Int.tmod (w64 (z0.1.2.2.2 + 1)) ((List.length z0.2.1) : Int)))) (w64 (z3 - 1))) 0 ((Int.toNat z0.1.2.2.2) - 0))) fun z13 =>
 (.test (decide (0 ≤ (w64 (z0.1.2.2.2 + 1))))
 (.test (decide (((Int.toNat (w64 (z0.1.2.2.2 + 1))) ≤ (List.length z0.2.1)) ∧ ((List.length z0.2.1) ≤ (List.length z0.2.1))))
 (.test (decide (((0 + (Int.toNat (w64 (z0.1.2.2.2 + 1)))) + ((List.length z0.2.1) - (Int.toNat (w64 (z0.1.2.2.2 + 1))))) ≤ (List.length (List.set (List.set z0.2.1 (0 + (Int.toNat (Int.tmod (w64 ((w64 (z0.1.2.2.2 + ((List.length z0.2.1) : Int))) - 1)) ((List.length z0.2.1) : Int)))) (w64 (z1 - 1))) (0 + (Int.toNat (Int.tmod (w64 (z0.1.2.2.2 + 1)) ((List.length z0.2.1) : Int)))) (w64 (z3 - 1))))))
 (.test (decide ((0 + (List.length z13.2)) ≤ (List.length z13.2)))
 (.test (decide ((2 * (((List.length z13.2) + (List.length (win (List.set (List.set z0.2.1 (0 + (Int.toNat (Int.tmod (w64 ((w64 (z0.1.2.2.2 + ((List.length z0.2.1) : Int))) - 1)) ((List.length z0.2.1) : Int)))) (w64 (z1 - 1))) (0 + (Int.toNat (Int.tmod (w64 (z0.1.2.2.2 + 1)) ((List.length z0.2.1) : Int)))) (w64 (z3 - 1))) (0 + (Int.toNat (w64 (z0.1.2.2.2 + 1)))) ((List.length z0.2.1) - (Int.toNat (w64 (z0.1.2.2.2 + 1))))))) * 9)) ≤ 140737488355328))
 (.test (decide (0 ≤ z0.1.2.2.2))
 (.test (decide ((0 ≤ (Int.toNat z0.1.2.2.2)) ∧ ((Int.toNat z0.1.2.2.2) ≤ (List.length z0.2.2.1))))
 (.test (decide ((0 + ((Int.toNat z0.1.2.2.2) - 0)) ≤ (List.length z0.2.2.1)))
 (.sub (F86 (win z0.2.2.1 0 ((Int.toNat z0.1.2.2.2) - 0))) fun z14 =>
 (.test (decide (0 ≤ (w64 (z0.1.2.2.2 + 1))))
 (.test (decide (((Int.toNat (w64 (z0.1.2.2.2 + 1))) ≤ (List.length z0.2.2.1)) ∧ ((List.length z0.2.2.1) ≤ (List.length z0.2.2.1))))
 (.test (decide (((0 + (Int.toNat (w64 (z0.1.2.2.2 + 1)))) + ((List.length z0.2.2.1) - (Int.toNat (w64 (z0.1.2.2.2 + 1))))) ≤ (List.length z0.2.2.1)))
 (.test (decide ((0 + (List.length z14.2)) ≤ (List.length z14.2)))
 (.test (decide ((2 * (((List.length z14.2) + (List.length (win z0.2.2.1 (0 + (Int.toNat (w64 (z0.1.2.2.2 + 1)))) ((List.length z0.2.2.1) - (Int.toNat (w64 (z0.1.2.2.2 + 1))))))) * 9)) ≤ 140737488355328))
 (.test (decide ((0 = 0) ∧ (((List.length z13.2) + (List.length (win (List.set (List.set z0.2.1 (0 + (Int.toNat (Int.tmod (w64 ((w64 (z0.1.2.2.2 + ((List.length z0.2.1) : Int))) - 1)) ((List.length z0.2.1) : Int)))) (w64 (z1 - 1))) (0 + (Int.toNat (Int.tmod (w64 (z0.1.2.2.2 + 1)) ((List.length z0.2.1) : Int)))) (w64 (z3 - 1))) (0 + (Int.toNat (w64 (z0.1.2.2.2 + 1)))) ((List.length z0.2.1) - (Int.toNat (w64 (z0.1.2.2.2 + 1))))))) = (List.length ((win z13.2 0 (List.length z13.2)) ++ (win (List.set (List.set z0.2.1 (0 + (Int.toNat (Int.tmod (w64 ((w64 (z0.1.2.2.2 + ((List.length z0.2.1) : Int))) - 1)) ((List.length z0.2.1) : Int)))) (w64 (z1 - 1))) (0 + (Int.toNat (Int.tmod (w64 (z0.1.2.2.2 + 1)) ((List.length z0.2.1) : Int)))) (w64 (z3 - 1))) (0 + (Int.toNat (w64 (z0.1.2.2.2 + 1)))) ((List.length z0.2.1) - (Int.toNat (w64 (z0.1.2.2.2 + 1))))))))))
 (.test (decide ((0 = 0) ∧ (((List.length z14.2) + (List.length (win z0.2.2.1 (0 + (Int.toNat (w64 (z0.1.2.2.2 + 1)))) ((List.length z0.2.2.1) - (Int.toNat (w64 (z0.1.2.2.2 + 1))))))) = (List.length ((win z14.2 0 (List.length z14.2)) ++ (win z0.2.2.1 (0 + (Int.toNat (w64 (z0.1.2.2.2 + 1)))) ((List.length z0.2.2.1) - (Int.toNat (w64 (z0.1.2.2.2 + 1))))))))))
 (.test (decide ((0 = 0) ∧ (((List.length z0.2.2.2) + (List.length (win (List.set (List.replicate 1 ((0 : Int), (0 : Int))) 0 (z9, z12)) 0 1))) = (List.length ((win z0.2.2.2 0 (List.length z0.2.2.2)) ++ (win (List.set (List.replicate 1 ((0 : Int), (0 : Int))) 0 (z9, z12)) 0 1))))))
 (.ret (Sum.inl (((), ((), ())), (((win z13.2 0 (List.length z13.2)) ++ (win (List.set (List.set z0.2.1 (0 + (Int.toNat (Int.tmod (w64 ((w64 (z0.1.2.2.2 + ((List.length z0.2.1) : Int))) - 1)) ((List.length z0.2.1) : Int)))) (w64 (z1 - 1))) (0 + (Int.toNat (Int.tmod (w64 (z0.1.2.2.2 + 1)) ((List.length z0.2.1) : Int)))) (w64 (z3 - 1))) (0 + (Int.toNat (w64 (z0.1.2.2.2 + 1)))) ((List.length z0.2.1) - (Int.toNat (w64 (z0.1.2.2.2 + 1)))))), (((win z14.2 0 (List.length z14.2)) ++ (win z0.2.2.1 (0 + (Int.toNat (w64 (z0.1.2.2.2 + 1)))) ((List.length z0.2.2.1) - (Int.toNat (w64 (z0.1.2.2.2 + 1)))))), ((win z0.2.2.2 0 (List.length z0.2.2.2)) ++ (win (List.set (List.replicate 1 ((0 : Int), (0 : Int))) 0 (z9, z12)) 0 1)))))))
 .fail)
 .fail)
 .fail)
 .fail)
 .fail)
 .fail)
 .fail)
 .fail))
 .fail)
 .fail)
 .fail)
 .fail)
 .fail)
 .fail)
 .fail)
 .fail))
 .fail)
 .fail)
 .fail)
 .fail)
 .fail)
 .fail)))
 .fail))
 .fail)))
 .fail))
 .fail)))
 .fail)))
 .fail))
 .fail))
 .fail))
 .fail))
 .fail)
 .fail)
 .fail)))
 .fail)
 .fail)
 .fail)
 .fail)
 (.test (decide ((0 = 0) ∧ ((List.length left) = (List.length left))))
 (.test (decide ((0 = 0) ∧ ((List.length out) = (List.length out))))
 (.ret (Sum.inr (Sum.inr (((), ()), (left, out)))))
 .fail)
 .fail))
noncomputable def F108_L10 (v : ((Unit × Unit × Unit) × (List (Int) × List (Int) × List ((Int × Int))))) : Option (((Unit × Bool) × List ((Int × Int))) ⊕ ((Unit × Unit) × (List (Int) × List ((Int × Int))))) := loopO (fun v => (F108_L10_step v).run) v

def F108_fo : List FO := [⟨[(.one (.rw 0 0)), (.one .sb)], [(.row 0 (.pair (.int .i64) (.int .i64)))]⟩]
noncomputable def F108_t : List (Int) → T ((Unit × Bool) × List ((Int × Int))) := fun quiddity =>
 (.sub (F107 ((List.length quiddity) : Int)) fun z0 =>
 (.test (! z0)
 (.test true
 (.ret (((), false), ([] : List (Int × Int))))
 .fail)
 (.sub (F90 (quiddity, ((1 : Int), (12 : Int)))) fun z1 =>
 (.test (! z1)
 (.test true
 (.ret (((), false), ([] : List (Int × Int))))
 .fail)
 (.sub (F86 quiddity) fun z2 =>
 (.test (decide ((0 = 0) ∧ ((List.length z2.2) = (List.length z2.2))))
 (.test (decide ((0 = 0) ∧ (0 = (List.length (List.replicate 0 (0 : Int))))))
 (.sub (F108_L5 (((), ((), (((List.length z2.2) : Int), (0 : Int)))), (z2.2, (List.replicate 0 (0 : Int))))) fun z3 =>
 (.test (decide ((0 = 0) ∧ ((List.length z3.2.1) = (List.length z3.2.1))))
 (.test (decide ((0 = 0) ∧ ((List.length z3.2.2) = (List.length z3.2.2))))
 (.test (decide ((0 = 0) ∧ (0 = (List.length ([] : List (Int × Int))))))
 (.sub (F108_L10 (((), ((), ())), (z3.2.1, (z3.2.2, ([] : List (Int × Int)))))) fun z4 =>
 (.test (Sum.isLeft z4)
 (.sub (Sum.getLeft? z4) fun z5 =>
 (.test (decide ((0 = 0) ∧ ((List.length z5.2) = (List.length z5.2))))
 (.ret (((), z5.1.2), z5.2))
 .fail))
 (.sub (Sum.getRight? z4) fun z6 =>
 (.test (decide ((0 + (List.length z6.2.2)) ≤ (List.length z6.2.2)))
 (.sub (F68 (win z6.2.2 0 (List.length z6.2.2))) fun z7 =>
 (.test (decide (((0 : Int) ≤ (0 : Int)) ∧ (0 < ((List.length z6.2.1) : Int))))
 (.sub (z6.2.1[0]?) fun z8 =>
 (.test (z8 == 1)
 (.test (decide (((0 : Int) ≤ (1 : Int)) ∧ (1 < ((List.length z6.2.1) : Int))))
 (.sub (z6.2.1[1]?) fun z9 =>
 (.test (z9 == 1)
 (.test (decide (((0 : Int) ≤ (2 : Int)) ∧ (2 < ((List.length z6.2.1) : Int))))
 (.sub (z6.2.1[2]?) fun z10 =>
 (.test (decide ((0 = 0) ∧ ((List.length z7.2) = (List.length z7.2))))
 (.ret (((), (z10 == 1)), z7.2))
 .fail))
 .fail)
 (.test (decide ((0 = 0) ∧ ((List.length z7.2) = (List.length z7.2))))
 (.ret (((), false), z7.2))
 .fail)))
 .fail)
 (.test (decide ((0 = 0) ∧ ((List.length z7.2) = (List.length z7.2))))
 (.ret (((), false), z7.2))
 .fail)))
 .fail))
 .fail))))
 .fail)
 .fail)
 .fail))
 .fail)
 .fail))))))
noncomputable def F108 (v : List (Int)) : Option ((Unit × Bool) × List ((Int × Int))) := (F108_t v).run
noncomputable def F108_E : TEnv := ((((((E0.add1 n_F107 F107_sh F107_fo F107).add1 n_F90 F90_sh F90_fo F90).add1 n_F86 F86_sh F86_fo F86).add1 n_F71 F71_sh F71_fo F71).add1 n_F82 F82_sh F82_fo F82).add1 n_F68 F68_sh F68_fo F68)
theorem F108_Eok : (F108_E).OK := ((((((E0ok.add1 F107_ok).add1 F90_ok).add1 F86_ok).add1 F71_ok).add1 F82_ok).add1 F68_ok)
noncomputable def F108_told : Nat → Option SealT := fun id => if id = 5 then some (LSh.told F108_L5_sh 0 (F108_L5_step)) else if id = 13 then some (LSh.told F108_L13_sh 0 (F108_L13_step)) else if id = 10 then some (LSh.told F108_L10_sh 0 (F108_L10_step)) else none
theorem F108_L5_ok : ToldOK Tryz.prog 0 (loopAt (bodyOf fn_F108) [0]) (LSh.told F108_L5_sh 0 (F108_L5_step)) :=
  loop_ok (E := F108_E) (F108_Eok) (told := F108_told) (l := F108_L5_sh) (step := F108_L5_step) (loopsOK_of (ls := []) (by kernel_rfl) trivial) (by kernel_rfl) (fun v => by kernel_rfl)
theorem F108_L13_ok : ToldOK Tryz.prog 0 (loopAt (bodyOf fn_F108) [1, 0]) (LSh.told F108_L13_sh 0 (F108_L13_step)) :=
  loop_ok (E := F108_E) (F108_Eok) (told := F108_told) (l := F108_L13_sh) (step := F108_L13_step) (loopsOK_of (ls := []) (by kernel_rfl) trivial) (by kernel_rfl) (fun v => by kernel_rfl)
theorem F108_L10_ok : ToldOK Tryz.prog 0 (loopAt (bodyOf fn_F108) [1]) (LSh.told F108_L10_sh 0 (F108_L10_step)) :=
  loop_ok (E := F108_E) (F108_Eok) (told := F108_told) (l := F108_L10_sh) (step := F108_L10_step) (loopsOK_of (ls := [loopAt (bodyOf fn_F108) [1, 0]]) (by kernel_rfl) ⟨.inr ⟨_, by kernel_rfl, F108_L13_ok⟩, trivial⟩) (by kernel_rfl) (fun v => by kernel_rfl)
theorem F108_ok : FOK Tryz.prog n_F108 F108_sh F108_fo F108 :=
  fn_ok (E := F108_E) (F108_Eok) (told := F108_told) (fl := []) (c := bodyOf fn_F108) (s := F108_sh) (l := F108_fo) (tree := F108_t) fnat_F108 (by kernel_rfl) (by kernel_rfl) (by kernel_rfl) (loopsOK_of (ls := [loopAt (bodyOf fn_F108) [0], loopAt (bodyOf fn_F108) [1]]) (by kernel_rfl) ⟨.inr ⟨_, by kernel_rfl, F108_L5_ok⟩, ⟨.inr ⟨_, by kernel_rfl, F108_L10_ok⟩, trivial⟩⟩) (fun v => by kernel_rfl)

theorem F108_names (left : List Int) (hl : left.length < 1000000) : F108_L5 (((), ((), ((left.length : Int), (0 : Int)))), (left, [])) = some (((), ()), (left, nameL left.length)) := by
  have key : ∀ m k, k + m = left.length → F108_L5 (((), ((), ((left.length : Int), (k : Int)))), (left, nameL k)) = some (((), ()), (left, nameL left.length)) := by
    intro m
    induction m with
    | zero =>
      intro k hk
      have : k = left.length := by omega
      subst this
      simp only [F108_L5]
      exact loopO_done (by simp [F108_L5_step, T.run])
    | succ m ih =>
      intro k hk
      have ih := ih (k + 1) (by omega)
      simp only [F108_L5] at ih ⊢
      rw [← ih]
      refine loopO_next ?_
      have c0 : (k : Int) < (left.length : Int) := by omega
      have w1 : w64 ((k : Int) + 1) = ((k + 1 : Nat) : Int) := by rw [w64_id (by omega) (by omega)]; omega
      have hw : win (nameL k) 0 k = nameL k := by have := win_all (nameL k); rwa [nameL_length] at this
      have c1 : 2 * ((k + 1) * 9) ≤ 140737488355328 := by omega
      have hs : nameL k ++ [(k : Int)] = nameL (k + 1) := (nameL_succ k).symm
      simp only [F108_L5_step, T.run, c0, decide_true, if_true, win_one, nameL_length, hw, w1, List.length_cons, List.length_nil, c1, hs, Nat.zero_add]
      simp [c1]
  simpa [nameL] using key left.length 0 (by omega)
theorem F108_first (left corners : List Int) (out : List Dg) (hl : left.length < 1000000) :
    F108_L13 (((), ((), ((), ((-1), ((), ((left.length : Int), (0 : Int))))))), (left, (corners, out))) = some (((), ((), ((), idxI (fun x => (1 : Int) == x) left))), (left, (corners, out))) := by
  have key : ∀ m k (at' : Int), k + m = left.length → (at' < 0 → at' = -1) → F108_L13 (((), ((), ((), (at', ((), ((left.length : Int), (k : Int))))))), (left, (corners, out))) =
      some (((), ((), ((), if at' < 0 then (match (left.drop k).findIdx? (fun x => (1 : Int) == x) with | some i => ((k + i : Nat) : Int) | none => -1) else at'))), (left, (corners, out))) := by
    intro m
    induction m with
    | zero =>
      intro k at' hk ha
      have : k = left.length := by omega
      subst this
      rw [List.drop_length]
      simp only [F108_L13]
      refine loopO_done ?_
      by_cases h : at' < 0
      · have := ha h; subst this; simp [F108_L13_step, T.run]
      · simp [F108_L13_step, T.run, h]
    | succ m ih =>
      intro k at' hk ha
      have hlt : k < left.length := by omega
      have g0 := List.getElem?_eq_getElem hlt
      have c0 : (k : Int) < (left.length : Int) := by omega
      have c1 : (0 : Int) ≤ (k : Int) ∧ (k : Int) < (left.length : Int) := by omega
      have w1 : w64 ((k : Int) + 1) = ((k + 1 : Nat) : Int) := by rw [w64_id (by omega) (by omega)]; omega
      rw [List.drop_eq_getElem_cons hlt, List.findIdx?_cons]
      have st : (F108_L13_step (((), ((), ((), (at', ((), ((left.length : Int), (k : Int))))))), (left, (corners, out)))).run =
          some (.inl (((), ((), ((), ((if (left[k] == 1) = true ∧ at' < 0 then (k : Int) else at'), ((), ((left.length : Int), ((k + 1 : Nat) : Int))))))), (left, (corners, out)))) := by
        simp only [F108_L13_step, T.run, c0, c1, decide_true, if_true, and_self, Int.toNat_natCast, Nat.zero_add, g0, Option.bind_some, w1]
        cases hb : left[k] == 1 <;> by_cases h : at' < 0 <;> simp [h]
      have ih' := ih (k + 1) (if (left[k] == 1) = true ∧ at' < 0 then (k : Int) else at') (by omega) (by split <;> omega)
      simp only [F108_L13] at ih' ⊢
      rw [loopO_next st, ih']
      have hsym : ((1 : Int) == left[k]) = (left[k] == 1) := by rw [beq_int, beq_int]; congr 1; exact propext eq_comm
      rw [hsym]
      cases hb : left[k] == 1 with
      | true =>
        by_cases h : at' < 0
        · have : ¬ ((k : Int) < 0) := by omega
          simp [h, this]
        · simp [h]
      | false =>
        by_cases h : at' < 0
        · simp only [Bool.false_eq_true, false_and, if_false, h, if_true]
          cases (left.drop (k + 1)).findIdx? (fun x => (1 : Int) == x) with
          | none => rfl
          | some i => simp only [Option.map_some]; rw [show k + 1 + i = k + (i + 1) by omega]
        · simp [h]
  have := key left.length 0 (-1) (by omega) (fun _ => rfl)
  rw [Int.natCast_zero, List.drop_zero] at this
  rw [this]
  simp only [idxI]
  simp
  rfl
theorem F108_cut (left names : List Int) (out : List Dg) (k i : Nat) (hk : k < 100000) (hl : left.length = k + 4) (hn : names.length = k + 4) (ho : out.length < 100000) (he : ear left = some i) :
    (F108_L10_step (((), ((), ())), (left, (names, out)))).run = some (if okC left i then .inl (((), ((), ())), (cutL left i, (names.eraseIdx i, out ++ [cutD names i]))) else .inr (.inl (((), false), []))) := by
  obtain ⟨hi, _⟩ := ear_lt he
  obtain ⟨n1, n2, n3, n4, n5, n6⟩ := nb_facts (by omega : 3 ≤ left.length) hi
  obtain ⟨t1, t2⟩ := nb_tmod (by omega : 3 ≤ left.length) (by omega) hi
  have hf := F108_first left names out (by omega)
  have hii : idxI (fun x => (1 : Int) == x) left = (i : Int) := by unfold idxI; unfold ear at he; rw [he]
  rw [hii] at hf
  have c0 : (left.length : Int) > 3 := by omega
  have c1 : ¬ ((i : Int) < 0) := by omega
  have c2 : (left.length : Int) ≠ 0 := by omega
  have c3 : (0 : Int) ≤ (nbB left.length i : Int) ∧ (nbB left.length i : Int) < (left.length : Int) := by omega
  have c4 : (0 : Int) ≤ (nbC left.length i : Int) ∧ (nbC left.length i : Int) < (left.length : Int) := by omega
  have c5 : (0 : Int) ≤ (nbB left.length i : Int) ∧ (nbB left.length i : Int) < (names.length : Int) := by omega
  have c6 : (0 : Int) ≤ (nbC left.length i : Int) ∧ (nbC left.length i : Int) < (names.length : Int) := by omega
  have g1 := set_getD n1
  have g2 : (left.set (nbB left.length i) (w64 (left.getD (nbB left.length i) 0 - 1)))[nbC left.length i]? = some ((decAt left (nbB left.length i)).getD (nbC left.length i) 0) := set_getD (by simpa using n2)
  have g2' : (decAt left (nbB left.length i)).getD (nbC left.length i) 0 = left.getD (nbC left.length i) 0 := by
    unfold decAt
    simp only [List.getD_eq_getElem?_getD]
    rw [List.getElem?_set_ne n5]
  have g3 := set_getD (l := names) (p := nbB left.length i) (by omega)
  have g4 := set_getD (l := names) (p := nbC left.length i) (by omega)
  have w1 : w64 ((i : Int) + 1) = ((i + 1 : Nat) : Int) := by rw [w64_id (by omega) (by omega)]; omega
  rw [w1] at t2
  have hD' : (min (names.getD (nbB left.length i) 0) (names.getD (nbC left.length i) 0), max (names.getD (nbB left.length i) 0) (names.getD (nbC left.length i) 0)) = cutD names i := by unfold cutD; rw [hl, hn]
  have hmin : ∀ a b, F71 (a, b) = some (min a b) := by
    intro a b
    simp only [F71, F71_t, T.run]
    by_cases h : a < b <;> simp [h] <;> omega
  have hmax : ∀ a b, F82 (a, b) = some (max a b) := by
    intro a b
    simp only [F82, F82_t, T.run]
    by_cases h : a > b <;> simp [h] <;> omega
  have c7 : 2 * ((out.length + 1) * 17) ≤ 140737488355328 := by omega
  have l1 : (decAt (decAt left (nbB left.length i)) (nbC left.length i)).length = left.length := by rw [decAt_length, decAt_length]
  have e1 : left.set (nbB left.length i) (w64 (left.getD (nbB left.length i) 0 - 1)) = decAt left (nbB left.length i) := rfl
  have e2 : (decAt left (nbB left.length i)).set (nbC left.length i) (w64 (left.getD (nbC left.length i) 0 - 1)) = decAt (decAt left (nbB left.length i)) (nbC left.length i) := by unfold decAt; rw [← decAt, g2']
  have g5 : (decAt (decAt left (nbB left.length i)) (nbC left.length i))[nbB left.length i]? = some (w64 (left.getD (nbB left.length i) 0 - 1)) := by
    conv => lhs; unfold decAt
    rw [List.getElem?_set_ne (Ne.symm n5), List.getElem?_set_self n1]
  have g6 : (decAt (decAt left (nbB left.length i)) (nbC left.length i))[nbC left.length i]? = some (w64 (left.getD (nbC left.length i) 0 - 1)) := by
    rw [← e2, List.getElem?_set_self (by rw [decAt_length]; exact n2)]
  rw [e1, g2'] at g2
  have htl : ((decAt (decAt left (nbB left.length i)) (nbC left.length i)).take i).length = i := by rw [List.length_take, l1]; omega
  have htn : (names.take i).length = i := by rw [List.length_take]; omega
  have own1 := F86_eq ((decAt (decAt left (nbB left.length i)) (nbC left.length i)).take i) (by rw [htl]; omega)
  have own2 := F86_eq (names.take i) (by rw [htn]; omega)
  have d1 : win (decAt (decAt left (nbB left.length i)) (nbC left.length i)) (i + 1) (left.length - (i + 1)) = (decAt (decAt left (nbB left.length i)) (nbC left.length i)).drop (i + 1) := by
    unfold win; rw [List.take_of_length_le (by rw [List.length_drop, l1]; omega)]
  have d2 : win names (i + 1) (names.length - (i + 1)) = names.drop (i + 1) := by
    unfold win; rw [List.take_of_length_le (by rw [List.length_drop]; omega)]
  have x1 : (decAt (decAt left (nbB left.length i)) (nbC left.length i)).take i ++ (decAt (decAt left (nbB left.length i)) (nbC left.length i)).drop (i + 1) = cutL left i := take_drop_erase _ _
  have x2 : names.take i ++ names.drop (i + 1) = names.eraseIdx i := take_drop_erase _ _
  have f1 : (0 : Int) ≤ (i : Int) := by omega
  have f2 : 0 ≤ i ∧ i ≤ left.length := by omega
  have f3 : i ≤ left.length := by omega
  have f4 : (0 : Int) ≤ ((i + 1 : Nat) : Int) := by omega
  have f5 : i + 1 ≤ left.length ∧ left.length ≤ left.length := by omega
  have f6 : i + 1 + (left.length - (i + 1)) ≤ left.length := by omega
  have f7 : 2 * ((i + (left.length - (i + 1))) * 9) ≤ 140737488355328 := by omega
  have f8 : 0 ≤ i ∧ i ≤ names.length := by omega
  have f9 : i ≤ names.length := by omega
  have f10 : i + 1 ≤ names.length ∧ names.length ≤ names.length := by omega
  have f11 : i + 1 + (names.length - (i + 1)) ≤ names.length := by omega
  have f12 : 2 * ((i + (names.length - (i + 1))) * 9) ≤ 140737488355328 := by omega
  have f13 : i + (left.length - (i + 1)) = (cutL left i).length := by rw [cutL_length hi]; omega
  have f14 : i + (names.length - (i + 1)) = (names.eraseIdx i).length := by rw [List.length_eraseIdx, if_pos (by omega)]; omega
  have x1' := x1
  have x2' := x2
  simp only [F108_L10_step, T.run, c0, decide_true, if_true, Nat.zero_add, Nat.le_refl, hf, Option.bind_some, c1, decide_false, Bool.false_eq_true, if_false, c2, ne_eq, not_false_eq_true, t1, t2, c3, c4, c5, c6, and_self, Int.toNat_natCast, g1, e1, g2, e2, g3, g4, g5, g6, hmin, hmax, hD', win_one, w1, l1, true_and, win_take, Nat.sub_zero, f1, f2, f3, f4, own1, own2, htl, htn, d1, d2]
  have tk : ∀ {X : Type} (l : List X), (l.take i).take i = l.take i := fun l => by rw [List.take_take, Nat.min_self]
  have dl1 : ((decAt (decAt left (nbB left.length i)) (nbC left.length i)).drop (i + 1)).length = left.length - (i + 1) := by rw [List.length_drop, l1]
  have dl2 : (names.drop (i + 1)).length = names.length - (i + 1) := by rw [List.length_drop]
  have t1' : List.take 1 ((List.replicate 1 ((0 : Int), (0 : Int))).set 0 (cutD names i)) = [cutD names i] := rfl
  have t2' : ((List.replicate 1 ((0 : Int), (0 : Int))).set 0 (cutD names i)).length = 1 := rfl
  have f5' : i + 1 ≤ left.length := by omega
  have f7' : 2 * ((cutL left i).length * 9) ≤ 140737488355328 := by rw [← f13]; exact f7
  have f12' : 2 * ((names.eraseIdx i).length * 9) ≤ 140737488355328 := by rw [← f14]; exact f12
  have f10' : i + 1 ≤ names.length := by omega
  simp only [tk, dl1, dl2, t1', t2', List.take_length, x1, x2, f5', f6, f7, f7', f9, f10', f11, f12, f12', f13, f14, and_true, decide_true, if_true, List.length_cons, List.length_nil, Nat.zero_add, c7, List.length_append, Nat.le_refl]
  unfold okC
  by_cases h1 : w64 (left.getD (nbB left.length i) 0 - 1) < 1
  · have h1' : ¬ (1 ≤ w64 (left.getD (nbB left.length i) 0 - 1)) := by omega
    simp only [h1, h1', decide_true, if_true, false_and, decide_false, Bool.false_eq_true, if_false]
  · have h1' : 1 ≤ w64 (left.getD (nbB left.length i) 0 - 1) := by omega
    by_cases h2 : w64 (left.getD (nbC left.length i) 0 - 1) < 1
    · have h2' : ¬ (1 ≤ w64 (left.getD (nbC left.length i) 0 - 1)) := by omega
      simp only [h1, h1', h2, h2', decide_true, if_true, and_false, decide_false, Bool.false_eq_true, if_false]
    · have h2' : 1 ≤ w64 (left.getD (nbC left.length i) 0 - 1) := by omega
      simp only [h1, h1', h2, h2', decide_true, if_true, and_self, decide_false, Bool.false_eq_true, if_false]
theorem F108_cuts : ∀ (k : Nat) (left names : List Int) (out : List Dg), k < 1000 → left.length = k + 3 → names.length = k + 3 → out.length + k < 10000 →
    F108_L10 (((), ((), ())), (left, (names, out))) = some (match triSW k left names with
      | none => .inl (((), false), [])
      | some r => .inr (((), ()), (r.1, out ++ r.2)))
  | 0, left, names, out, hk, hl, hn, ho => by
    simp only [F108_L10, triSW]
    refine loopO_done ?_
    have c0 : ¬ ((left.length : Int) > 3) := by omega
    simp [F108_L10_step, T.run, c0]
  | k + 1, left, names, out, hk, hl, hn, ho => by
    cases he : ear left with
    | none =>
      have hf := F108_first left names out (by omega)
      have hii : idxI (fun x => (1 : Int) == x) left = -1 := by unfold idxI; unfold ear at he; rw [he]
      rw [hii] at hf
      have c0 : (left.length : Int) > 3 := by omega
      simp only [F108_L10, triSW, he]
      refine loopO_done ?_
      simp only [F108_L10_step, T.run, c0, decide_true, if_true, hf, Option.bind_some, true_and]
      simp
    | some i =>
      have st := F108_cut left names out k i (by omega) (by omega) (by omega) (by omega) he
      simp only [F108_L10, triSW, he] at st ⊢
      cases hok : okC left i with
      | false =>
        rw [hok] at st
        rw [loopO_done st]
        rfl
      | true =>
        rw [hok] at st
        have hlc := cutL_length (ear_lt he).1
        have ih := F108_cuts k (cutL left i) (names.eraseIdx i) (out ++ [cutD names i]) (by omega) (by omega) (by rw [List.length_eraseIdx, if_pos (by have := (ear_lt he).1; omega)]; omega) (by simp; omega)
        simp only [F108_L10] at ih
        rw [loopO_next st, ih]
        cases triSW k (cutL left i) (names.eraseIdx i) with
        | none => rfl
        | some r => simp
theorem F108_eq (l : List Int) (hl : l.length < 4611686018427387904) : ∃ r, r.length ≤ 9 ∧ F108 l = some (match trOf l with | some ds => (((), true), ds) | none => (((), false), r)) ∧ ((trOf l).isSome → ∀ ds, trOf l = some ds → ds.length ≤ 9) := by
  have hdl : ∀ ds, trOf l = some ds → ds.length ≤ 9 := by
    intro ds h
    unfold trOf at h
    split at h
    · rename_i hn
      rw [inB_iff] at hn
      split at h
      · rename_i es hT
        split at h
        · cases h
          rw [sortD_length, (tri_good _ _ _ _ (nameL_sorted _) (by omega) (by rw [nameL_length]; omega) hT).1]
          omega
        · cases h
      · cases h
    · cases h
  simp only [F108, F108_t, T.run, F107, F107_t, F106_eq, Option.bind_some]
  cases hn : inB 3 12 (l.length : Int) with
  | false => exact ⟨[], by simp, by simp [trOf, hn], fun _ => hdl⟩
  | true =>
    have hn' := inB_iff.1 hn
    rw [F90_eq l 1 12 hl]
    cases ha : l.all (inB 1 12) with
    | false => exact ⟨[], by simp, by simp [trOf_bad l ha], fun _ => hdl⟩
    | true =>
      have hown := F86_eq l (by omega)
      have h5 := F108_names l (by omega)
      have h10 := F108_cuts (l.length - 3) l (nameL l.length) [] (by omega) (by omega) (by rw [nameL_length]; omega) (by simp; omega)
      have htri := triS_W (l.length - 3) l (nameL l.length)
      have hsp := trOf_spec l ha hn
      simp only [Bool.not_true, Bool.false_eq_true, if_false, Option.bind_some, hown, List.replicate_zero, List.length_nil, true_and, decide_true, if_true, h5, h10]
      cases hW : triSW (l.length - 3) l (nameL l.length) with
      | none =>
        rw [htri, hW] at hsp
        exact ⟨[], by simp, by rw [← hsp]; simp, fun _ => hdl⟩
      | some r =>
        obtain ⟨l3, ds⟩ := r
        obtain ⟨g1, g2⟩ := triSW_len _ _ _ _ (by omega) hW
        simp only at g1 g2
        rw [htri, hW] at hsp
        have hs := F68_eq ds (by omega)
        have hls := sortD_length ds
        match l3, g1 with
        | [a, b, c], _ =>
          refine ⟨sortD ds, by omega, ?_, fun _ => hdl⟩
          rw [← hsp]
          simp only [Sum.isLeft, Sum.getRight?, Option.bind_some, Bool.false_eq_true, if_false, List.nil_append, Nat.zero_add, Nat.le_refl, decide_true, if_true, win_all, hs]
          by_cases ea : a = 1 <;> by_cases eb : b = 1 <;> by_cases ec : c = 1 <;> simp [ea, eb, ec]


def F53_sh : FSh := ⟨[(.one (.sl (.int .i64) false false))], []⟩

def F53_fo : List FO := [⟨[(.one .sb)], []⟩]
noncomputable def F53_t : List (Int) → T Bool := fun quiddity =>
 (.sub (F108 quiddity) fun z0 =>
 (.ret z0.1.2))
noncomputable def F53 (v : List (Int)) : Option Bool := (F53_t v).run
noncomputable def F53_E : TEnv := (E0.add1 n_F108 F108_sh F108_fo F108)
theorem F53_Eok : (F53_E).OK := (E0ok.add1 F108_ok)
noncomputable def F53_told : Nat → Option SealT := fun id => none
theorem F53_ok : FOK Tryz.prog n_F53 F53_sh F53_fo F53 :=
  fn_ok (E := F53_E) (F53_Eok) (told := F53_told) (fl := []) (c := bodyOf fn_F53) (s := F53_sh) (l := F53_fo) (tree := F53_t) fnat_F53 (by kernel_rfl) (by kernel_rfl) (by kernel_rfl) (loopsOK_of (ls := []) (by kernel_rfl) trivial) (fun v => by kernel_rfl)

theorem F53_eq (l : List Int) (hl : l.length < 4611686018427387904) : F53 l = some (trOf l).isSome := by
  obtain ⟨r, _, h, _⟩ := F108_eq l hl
  simp only [F53, F53_t, T.run, h, Option.bind_some]
  cases trOf l <;> rfl


def F72_sh : FSh := ⟨[(.one (.sl (.int .i64) false false)), (.one (.si .i64)), (.one (.si .i64))], []⟩

def F72_L4_sh : LSh := ⟨(fun ex => match ex with | .norm => [(0, none), (2, none), (7, none), (8, none), (9, none), (10, none)] | .exit i => if i = 0 then [(9, none)] else [] | .ret => [(6, none)]), [(0, (.one (.sl (.int .i64) false false))), (2, (.one (.si .i64))), (7, (.one (.si .i64))), (8, (.one (.si .i64))), (9, (.one (.si .i64))), (10, (.one (.si .i64)))], [], [⟨(.exit 0), [(9, (.one (.si .i64)))], []⟩], [], []⟩
noncomputable def F72_L4_step : (List (Int) × Int × Int × Int × Int × Int) → T ((List (Int) × Int × Int × Int × Int × Int) ⊕ Int) := fun (quiddity, j, n, before, at', k) =>
 (.test (decide (k < j))
 (.test (decide (n ≠ 0))
 (.test (decide (n ≠ 0))
 (.test (decide ((0 ≤ (Int.tmod (w64 ((Int.tmod k n) + n)) n)) ∧ ((Int.tmod (w64 ((Int.tmod k n) + n)) n) < ((List.length quiddity) : Int))))
 (.sub (quiddity[(Int.toNat (Int.tmod (w64 ((Int.tmod k n) + n)) n))]?) fun z0 =>
 (.ret (Sum.inl (quiddity, (j, (n, (at', ((w64 ((w64 (z0 * at')) - before)), (w64 (k + 1))))))))))
 .fail)
 .fail)
 .fail)
 (.ret (Sum.inr at')))
noncomputable def F72_L4 (v : (List (Int) × Int × Int × Int × Int × Int)) : Option Int := loopO (fun v => (F72_L4_step v).run) v

def F72_fo : List FO := [⟨[(.one (.si .i64))], []⟩]
noncomputable def F72_t : (List (Int) × Int × Int) → T Int := fun (quiddity, i, j) =>
 (.sub (F72_L4 (quiddity, (j, (((List.length quiddity) : Int), ((-1), ((0 : Int), i)))))) fun z0 =>
 (.ret z0))
noncomputable def F72 (v : (List (Int) × Int × Int)) : Option Int := (F72_t v).run
noncomputable def F72_E : TEnv := E0
theorem F72_Eok : (F72_E).OK := E0ok
noncomputable def F72_told : Nat → Option SealT := fun id => if id = 4 then some (LSh.told F72_L4_sh 0 (F72_L4_step)) else none
theorem F72_L4_ok : ToldOK Tryz.prog 0 (loopAt (bodyOf fn_F72) [0]) (LSh.told F72_L4_sh 0 (F72_L4_step)) :=
  loop_ok (E := F72_E) (F72_Eok) (told := F72_told) (l := F72_L4_sh) (step := F72_L4_step) (loopsOK_of (ls := []) (by kernel_rfl) trivial) (by kernel_rfl) (fun v => by kernel_rfl)
theorem F72_ok : FOK Tryz.prog n_F72 F72_sh F72_fo F72 :=
  fn_ok (E := F72_E) (F72_Eok) (told := F72_told) (fl := []) (c := bodyOf fn_F72) (s := F72_sh) (l := F72_fo) (tree := F72_t) fnat_F72 (by kernel_rfl) (by kernel_rfl) (by kernel_rfl) (loopsOK_of (ls := [loopAt (bodyOf fn_F72) [0]]) (by kernel_rfl) ⟨.inr ⟨_, by kernel_rfl, F72_L4_ok⟩, trivial⟩) (fun v => by kernel_rfl)

theorem F72_eq {q : List Int} {ds : List Dg} (h : trOf q = some ds) (i : Int) (hi : -100000 ≤ i ∧ i ≤ 100000) (k : Nat) (hk : k ≤ q.length) : F72 (q, (i, i + (k : Int))) = some (en (qa q) i k) := by
  have hb := (trOf_bounds (l := q) (by rw [h]; rfl)).1
  have key : ∀ m j : Nat, j + m = k → F72_L4 (q, (i + (k : Int), ((q.length : Int), ((if j = 0 then -1 else en (qa q) i (j - 1)), (en (qa q) i j, i + (j : Int)))))) = some (en (qa q) i k) := by
    intro m
    induction m with
    | zero =>
      intro j hj
      rw [show j = k by omega]
      simp only [F72_L4]
      refine loopO_done ?_
      rw [F72_L4_step, T.run_test, if_neg (by simp), T.run_ret]
    | succ m ih =>
      intro j hj
      have w1 : w64 (i + (j : Int) + 1) = i + ((j + 1 : Nat) : Int) := by rw [w64_id (by omega) (by omega)]; omega
      obtain ⟨q1, q2, q3⟩ := qa_some (q := q) (by omega) (i + j)
      have tw := tmod_w (i + j) (q.length : Int) (by omega) (by omega)
      have te := tmod_emod (i + j) (q.length : Int) (by omega)
      have b1 := en_small h i (k := j) (by omega)
      have b2 := en_small h i (k := j - 1) (by omega)
      have b3 := qa_small h (i + j)
      have hm := mul_le (a := qa q (i + j)) (b := en (qa q) i j) (A := 12) (B := 512) (by omega) (by omega) (by omega) (by omega)
      have hen : w64 (w64 (qa q (i + j) * en (qa q) i j) - (if j = 0 then -1 else en (qa q) i (j - 1))) = en (qa q) i (j + 1) := by
        rw [w64_id (z := qa q (i + j) * en (qa q) i j) (by omega) (by omega)]
        by_cases hj0 : j = 0
        · subst hj0
          rw [if_pos rfl]
          show w64 (qa q (i + ((0 : Nat) : Int)) * 0 - (-1)) = 1
          rw [Int.mul_zero]
          decide
        · rw [if_neg hj0, w64_id (by omega) (by omega)]
          have := en_two (qa q) i (j - 1)
          rw [show j - 1 + 2 = j + 1 by omega, show j - 1 + 1 = j by omega, show i + (((j - 1 : Nat) : Int) + 1) = i + j by omega] at this
          exact this.symm
      have ih := ih (j + 1) (by omega)
      rw [if_neg (by omega), Nat.add_sub_cancel] at ih
      rw [← ih]
      simp only [F72_L4]
      refine loopO_next ?_
      rw [F72_L4_step, T.run_test, if_pos (decide_eq_true (by omega)), T.run_test, if_pos (decide_eq_true (by omega)), T.run_test, if_pos (decide_eq_true (by omega)), tw, te, T.run_test, if_pos (decide_eq_true ⟨q1, q2⟩), T.run_sub, q3, Option.bind_some, T.run_ret, hen, w1]
  have := key k 0 (by omega)
  rw [if_pos rfl, Int.natCast_zero, Int.add_zero] at this
  rw [F72, F72_t, T.run_sub, show (0 : Int) = en (qa q) i 0 from rfl, this, Option.bind_some, T.run_ret]


def F48_sh : FSh := ⟨[(.one (.sl (.int .i64) false false))], []⟩

def F48_L5_sh : LSh := ⟨(fun ex => match ex with | .norm => [(0, none), (4, none), (5, none)] | .exit i => if i = 0 then [(4, none)] else [] | .ret => [(2, none), (3, none)]), [(0, (.one (.sl (.int .i64) false false))), (4, (.one (.rw 0 0))), (5, (.one (.si .i64)))], [(.row 0 (.pair (.int .i64) (.int .i64)))], [⟨(.exit 0), [(4, (.one (.rw 0 0)))], [(.row 0 (.pair (.int .i64) (.int .i64)))]⟩], [], []⟩
noncomputable def F48_L5_step : ((List (Int) × Unit × Int) × List ((Int × Int))) → T (((List (Int) × Unit × Int) × List ((Int × Int))) ⊕ (Unit × List ((Int × Int)))) := fun ((quiddity, (), i), out) =>
 (.test (decide (i < ((List.length quiddity) : Int)))
 (.sub (F72 (quiddity, ((1 : Int), i))) fun z0 =>
 (.sub (F72 (quiddity, ((0 : Int), i))) fun z1 =>
 (.test (decide (1 ≤ 1))
 (.test (decide ((0 + (List.length out)) ≤ (List.length out)))
 (.test (decide ((2 * (((List.length out) + 1) * 17)) ≤ 140737488355328))
 (.test (decide ((0 = 0) ∧ (((List.length out) + 1) = (List.length ((win out 0 (List.length out)) ++ [(z0, z1)])))))
 (.ret (Sum.inl ((quiddity, ((), (w64 (i + 1)))), ((win out 0 (List.length out)) ++ [(z0, z1)]))))
 .fail)
 .fail)
 .fail)
 .fail)))
 (.test (decide ((0 = 0) ∧ ((List.length out) = (List.length out))))
 (.ret (Sum.inr ((), out)))
 .fail))
noncomputable def F48_L5 (v : ((List (Int) × Unit × Int) × List ((Int × Int)))) : Option (Unit × List ((Int × Int))) := loopO (fun v => (F48_L5_step v).run) v

def F48_fo : List FO := [⟨[(.one (.rw 0 0)), (.one .sb)], [(.row 0 (.pair (.int .i64) (.int .i64)))]⟩]
noncomputable def F48_t : List (Int) → T ((Unit × Bool) × List ((Int × Int))) := fun quiddity =>
 (.sub (F53 quiddity) fun z0 =>
 (.test (! z0)
 (.test true
 (.ret (((), false), ([] : List (Int × Int))))
 .fail)
 (.test true
 (.sub (F48_L5 ((quiddity, ((), (1 : Int))), ([] : List (Int × Int)))) fun z1 =>
 (.test true
 (.test (decide ((0 + (List.length z1.2)) ≤ (List.length z1.2)))
 (.test (decide ((2 * (((List.length z1.2) + 1) * 17)) ≤ 140737488355328))
 (.test (decide ((0 = 0) ∧ (((List.length z1.2) + 1) = (List.length ((win z1.2 0 (List.length z1.2)) ++ [((1 : Int), (0 : Int))])))))
 (.ret (((), true), ((win z1.2 0 (List.length z1.2)) ++ [((1 : Int), (0 : Int))])))
 .fail)
 .fail)
 .fail)
 .fail))
 .fail)))
noncomputable def F48 (v : List (Int)) : Option ((Unit × Bool) × List ((Int × Int))) := (F48_t v).run
noncomputable def F48_E : TEnv := ((E0.add1 n_F53 F53_sh F53_fo F53).add1 n_F72 F72_sh F72_fo F72)
theorem F48_Eok : (F48_E).OK := ((E0ok.add1 F53_ok).add1 F72_ok)
noncomputable def F48_told : Nat → Option SealT := fun id => if id = 5 then some (LSh.told F48_L5_sh 0 (F48_L5_step)) else none
theorem F48_L5_ok : ToldOK Tryz.prog 0 (loopAt (bodyOf fn_F48) [0]) (LSh.told F48_L5_sh 0 (F48_L5_step)) :=
  loop_ok (E := F48_E) (F48_Eok) (told := F48_told) (l := F48_L5_sh) (step := F48_L5_step) (loopsOK_of (ls := []) (by kernel_rfl) trivial) (by kernel_rfl) (fun v => by kernel_rfl)
theorem F48_ok : FOK Tryz.prog n_F48 F48_sh F48_fo F48 :=
  fn_ok (E := F48_E) (F48_Eok) (told := F48_told) (fl := []) (c := bodyOf fn_F48) (s := F48_sh) (l := F48_fo) (tree := F48_t) fnat_F48 (by kernel_rfl) (by kernel_rfl) (by kernel_rfl) (loopsOK_of (ls := [loopAt (bodyOf fn_F48) [0]]) (by kernel_rfl) ⟨.inr ⟨_, by kernel_rfl, F48_L5_ok⟩, trivial⟩) (fun v => by kernel_rfl)

theorem F48_eq (q : List Int) (hl : q.length < 4611686018427387904) : F48 q = some (if (trOf q).isSome = true then (((), true), frsF q) else (((), false), [])) := by
  rw [F48, F48_t, T.run_sub, F53_eq q hl, Option.bind_some, T.run_test]
  cases h : trOf q with
  | none => rw [if_pos (by rfl), T.run_test, if_pos rfl, T.run_ret]; rfl
  | some ds =>
    have hb := (trOf_bounds (l := q) (by rw [h]; rfl)).1
    have hL := app_loop (step := fun v => (F48_L5_step v).run) (fun k o => ((q, ((), (k : Int))), o)) (fun k => [(en (qa q) 1 (k - 1), en (qa q) 0 k)]) (fun o => ((), o)) q.length 1 0 1 (fun j => by simp)
      (fun o j hj => by rw [F48_L5_step, T.run_test, if_neg (by simp; omega), T.run_test, if_pos (by simp), T.run_ret])
      (fun k o k1 hk ho => by
        have v2 : w64 ((k : Int) + 1) = ((k + 1 : Nat) : Int) := by rw [w64_id (by omega) (by omega)]; omega
        have e1 := F72_eq h 1 (by omega) (k - 1) (by omega)
        have e2 := F72_eq h 0 (by omega) k (by omega)
        rw [show (1 : Int) + ((k - 1 : Nat) : Int) = (k : Int) by omega] at e1
        rw [Int.zero_add] at e2
        rw [F48_L5_step, T.run_test, if_pos (decide_eq_true (by omega)), T.run_sub, e1, Option.bind_some, T.run_sub, e2, Option.bind_some, T.run_test, if_pos (by simp), T.run_test, if_pos (by simp), T.run_test, if_pos (decide_eq_true (by omega)), win_all, T.run_test, if_pos (by simp), T.run_ret, v2])
      (q.length - 1) 1 [] (Nat.le_refl 1) rfl (by simp)
    have hL' : F48_L5 ((q, ((), (1 : Int))), []) = some ((), (List.range (q.length - 1)).map fun (i : Nat) => (en (qa q) 1 i, en (qa q) 0 (i + 1))) := by
      refine hL.trans ?_
      rw [List.nil_append]
      congr 2
      rw [List.range_eq_range', show List.range' 1 (q.length - 1) = (List.range' 0 (q.length - 1)).map (1 + ·) by rw [List.map_add_range'], List.flatMap_map]
      generalize List.range' 0 (q.length - 1) = R
      induction R with
      | nil => rfl
      | cons a t ih =>
        rw [List.flatMap_cons, List.map_cons, ih, show 1 + a - 1 = a by omega, Nat.add_comm 1 a]; rfl
    rw [if_neg (by simp), T.run_test, if_pos rfl, T.run_sub, hL', Option.bind_some, T.run_test, if_pos rfl, T.run_test, if_pos (by simp), T.run_test, if_pos (by simp; omega), win_all, T.run_test, if_pos (by simp), T.run_ret]
    rfl



theorem cmp_loop {X A : Type} [DecidableEq X] {step : A → Option (A ⊕ (Bool ⊕ Unit))} (a b : List X) (emb : Nat → A) (hab : a.length = b.length)
    (h : ∀ k x y, a[k]? = some x → b[k]? = some y → step (emb k) = if x = y then some (.inl (emb (k + 1))) else some (.inr (.inl false))) (hend : step (emb a.length) = some (.inr (.inr ()))) :
    loopO step (emb 0) = some (if a = b then .inr () else .inl false) := by
  have key : ∀ m k, k + m = a.length → loopO step (emb k) = some (if a.drop k = b.drop k then .inr () else .inl false) := by
    intro m
    induction m with
    | zero =>
      intro k hk
      rw [List.drop_of_length_le (by omega), List.drop_of_length_le (by omega), if_pos rfl, show k = a.length by omega]
      exact loopO_done hend
    | succ m ih =>
      intro k hk
      have h1 : k < a.length := by omega
      have h2 : k < b.length := by omega
      have hs := h k a[k] b[k] (List.getElem?_eq_getElem h1) (List.getElem?_eq_getElem h2)
      rw [List.drop_eq_getElem_cons h1, List.drop_eq_getElem_cons h2]
      by_cases e : a[k] = b[k]
      · rw [if_pos e] at hs
        rw [loopO_next hs, ih (k + 1) (by omega), e]
        by_cases e2 : a.drop (k + 1) = b.drop (k + 1)
        · rw [if_pos e2, e2, if_pos rfl]
        · rw [if_neg e2, if_neg fun x => e2 (List.cons.inj x).2]
      · rw [if_neg e] at hs
        rw [loopO_done hs, if_neg fun x => e (List.cons.inj x).1]
  have := key a.length 0 (by omega)
  rwa [List.drop_zero, List.drop_zero] at this
def F54_sh : FSh := ⟨[(.one (.sl (.pair (.int .i64) (.int .i64)) false false)), (.one (.sl (.pair (.int .i64) (.int .i64)) false false))], []⟩

def F54_L4_sh : LSh := ⟨(fun ex => match ex with | .norm => [(0, none), (1, none), (12, none), (13, none)] | .exit i => if i = 0 then [] else [] | .ret => [(4, none)]), [(0, (.one (.sl (.pair (.int .i64) (.int .i64)) false false))), (1, (.one (.sl (.pair (.int .i64) (.int .i64)) false false))), (12, (.one (.si .i64))), (13, (.one (.si .i64)))], [], [⟨.ret, [(4, (.one .sb))], []⟩, ⟨(.exit 0), [], []⟩], [], []⟩
noncomputable def F54_L4_step : (List ((Int × Int)) × List ((Int × Int)) × Int × Int) → T ((List ((Int × Int)) × List ((Int × Int)) × Int × Int) ⊕ (Bool ⊕ Unit)) := fun (a, b, t12, t13) =>
 (.test (decide (t13 < t12))
 (.test (decide ((0 ≤ t13) ∧ (t13 < ((List.length a) : Int))))
 (.sub (a[(Int.toNat t13)]?) fun z0 =>
 (.test (decide ((0 ≤ t13) ∧ (t13 < ((List.length b) : Int))))
 (.sub (b[(Int.toNat t13)]?) fun z1 =>
 (.test (! ((z0.1 == z1.1) && ((z0.2 == z1.2) && true)))
 (.ret (Sum.inr (Sum.inl false)))
 (.ret (Sum.inl (a, (b, (t12, (w64 (t13 + 1)))))))))
 .fail))
 .fail)
 (.ret (Sum.inr (Sum.inr ()))))
noncomputable def F54_L4 (v : (List ((Int × Int)) × List ((Int × Int)) × Int × Int)) : Option (Bool ⊕ Unit) := loopO (fun v => (F54_L4_step v).run) v

def F54_fo : List FO := [⟨[(.one .sb)], []⟩]
noncomputable def F54_t : (List ((Int × Int)) × List ((Int × Int))) → T Bool := fun (a, b) =>
 (.test (((List.length a) : Int) != ((List.length b) : Int))
 (.ret false)
 (.sub (F54_L4 (a, (b, (((List.length a) : Int), (0 : Int))))) fun z0 =>
 (.test (Sum.isLeft z0)
 (.sub (Sum.getLeft? z0) fun z1 =>
 (.ret z1))
 (.sub (Sum.getRight? z0) fun z2 =>
 (.ret true)))))
noncomputable def F54 (v : (List ((Int × Int)) × List ((Int × Int)))) : Option Bool := (F54_t v).run
noncomputable def F54_E : TEnv := E0
theorem F54_Eok : (F54_E).OK := E0ok
noncomputable def F54_told : Nat → Option SealT := fun id => if id = 4 then some (LSh.told F54_L4_sh 0 (F54_L4_step)) else none
theorem F54_L4_ok : ToldOK Tryz.prog 0 (loopAt (bodyOf fn_F54) [0]) (LSh.told F54_L4_sh 0 (F54_L4_step)) :=
  loop_ok (E := F54_E) (F54_Eok) (told := F54_told) (l := F54_L4_sh) (step := F54_L4_step) (loopsOK_of (ls := []) (by kernel_rfl) trivial) (by kernel_rfl) (fun v => by kernel_rfl)
theorem F54_ok : FOK Tryz.prog n_F54 F54_sh F54_fo F54 :=
  fn_ok (E := F54_E) (F54_Eok) (told := F54_told) (fl := []) (c := bodyOf fn_F54) (s := F54_sh) (l := F54_fo) (tree := F54_t) fnat_F54 (by kernel_rfl) (by kernel_rfl) (by kernel_rfl) (loopsOK_of (ls := [loopAt (bodyOf fn_F54) [0]]) (by kernel_rfl) ⟨.inr ⟨_, by kernel_rfl, F54_L4_ok⟩, trivial⟩) (fun v => by kernel_rfl)

theorem uFractions_val (a b : List Fr) (hl : a.length < 4611686018427387904) : F54 (a, b) = some (decide (a = b)) := by
  rw [F54, F54_t, T.run_test]
  by_cases he : a.length = b.length
  · have h := cmp_loop (step := fun v => (F54_L4_step v).run) a b (fun k => (a, (b, ((a.length : Int), (k : Int))))) he
      (fun k x y hx hy => by
        have k1 := getElem?_lt hx
        have k2 := getElem?_lt hy
        have w1 : w64 ((k : Int) + 1) = ((k + 1 : Nat) : Int) := by rw [w64_id (by omega) (by omega)]; omega
        rw [F54_L4_step, T.run_test, if_pos (decide_eq_true (by omega)), T.run_test, if_pos (decide_eq_true (by omega)), T.run_sub, Int.toNat_natCast, hx, Option.bind_some, T.run_test, if_pos (decide_eq_true (by omega)), T.run_sub, hy, Option.bind_some, T.run_test, frEq]
        by_cases e : x = y
        · rw [if_neg (by simp [e]), if_pos e, T.run_ret, w1]
        · rw [if_pos (by simp; exact e), if_neg e, T.run_ret])
      (by rw [F54_L4_step, T.run_test, if_neg (by simp), T.run_ret])
    have h' : F54_L4 (a, (b, ((a.length : Int), (0 : Int)))) = _ := h
    rw [if_neg (by simp [he]), T.run_sub, h', Option.bind_some]
    by_cases e : a = b
    · rw [if_pos e, decide_eq_true e]; rfl
    · rw [if_neg e, decide_eq_false e]; rfl
  · rw [if_pos (by simp; omega), T.run_ret, decide_eq_false fun e => he (by rw [e])]


def F73_sh : FSh := ⟨[(.one (.si .i64)), (.one (.si .i64))], []⟩

def F73_L1_sh : LSh := ⟨(fun ex => match ex with | .norm => [(0, none), (1, none)] | .exit i => if i = 0 then [(0, none)] else [] | .ret => [(4, none)]), [(0, (.one (.si .i64))), (1, (.one (.si .i64)))], [], [⟨(.exit 0), [(0, (.one (.si .i64)))], []⟩], [], []⟩
noncomputable def F73_L1_step : (Int × Int) → T ((Int × Int) ⊕ Int) := fun (a, b) =>
 (.test (b != 0)
 (.test (decide (b ≠ 0))
 (.ret (Sum.inl (b, (Int.tmod a b))))
 .fail)
 (.ret (Sum.inr a)))
noncomputable def F73_L1 (v : (Int × Int)) : Option Int := loopO (fun v => (F73_L1_step v).run) v

def F73_fo : List FO := [⟨[(.one (.si .i64))], []⟩]
noncomputable def F73_t : (Int × Int) → T Int := fun (a, b) =>
 (.sub (F73_L1 (a, b)) fun z0 =>
 (.ret z0))
noncomputable def F73 (v : (Int × Int)) : Option Int := (F73_t v).run
noncomputable def F73_E : TEnv := E0
theorem F73_Eok : (F73_E).OK := E0ok
noncomputable def F73_told : Nat → Option SealT := fun id => if id = 1 then some (LSh.told F73_L1_sh 0 (F73_L1_step)) else none
theorem F73_L1_ok : ToldOK Tryz.prog 0 (loopAt (bodyOf fn_F73) [0]) (LSh.told F73_L1_sh 0 (F73_L1_step)) :=
  loop_ok (E := F73_E) (F73_Eok) (told := F73_told) (l := F73_L1_sh) (step := F73_L1_step) (loopsOK_of (ls := []) (by kernel_rfl) trivial) (by kernel_rfl) (fun v => by kernel_rfl)
theorem F73_ok : FOK Tryz.prog n_F73 F73_sh F73_fo F73 :=
  fn_ok (E := F73_E) (F73_Eok) (told := F73_told) (fl := []) (c := bodyOf fn_F73) (s := F73_sh) (l := F73_fo) (tree := F73_t) fnat_F73 (by kernel_rfl) (by kernel_rfl) (by kernel_rfl) (loopsOK_of (ls := [loopAt (bodyOf fn_F73) [0]]) (by kernel_rfl) ⟨.inr ⟨_, by kernel_rfl, F73_L1_ok⟩, trivial⟩) (fun v => by kernel_rfl)

theorem F73_eq (a b : Int) (ha : 0 ≤ a) (hb : 0 ≤ b) : F73 (a, b) = some ((Nat.gcd a.toNat b.toNat : Nat) : Int) := by
  have h := loop_eq (step := fun v => (F73_L1_step v).run) (fun v => v.2.toNat) (fun v => 0 ≤ v.1 ∧ 0 ≤ v.2) (fun v => ((Nat.gcd v.1.toNat v.2.toNat : Nat) : Int))
    (by
      rintro ⟨a, b⟩ ⟨ha, hb⟩
      simp only at ha hb
      by_cases h0 : b = 0
      · right
        subst h0
        have : ((a.toNat : Nat) : Int) = a := Int.toNat_of_nonneg ha
        simp [F73_L1_step, T.run, this]
      · left
        obtain ⟨g1, g2, g3⟩ := gcd_toNat_step ha (show 0 < b by omega)
        refine ⟨(b, Int.tmod a b), ?_, ⟨hb, g2⟩, ?_, ?_⟩
        · simp [F73_L1_step, T.run, h0]
        · simp only; omega
        · simp only [g1]) (a, b) ⟨ha, hb⟩
  simp only [F73, F73_t, T.run, F73_L1]
  rw [h]; rfl


def F55_sh : FSh := ⟨[(.ag [(.si .i64), (.si .i64)])], []⟩

def F55_fo : List FO := [⟨[(.one .sb)], []⟩]
noncomputable def F55_t : (Int × Int) → T Bool := fun (f_0, f_1) =>
 (.sub (F80 (f_0, ((0 : Int), (1000000 : Int)))) fun z0 =>
 (.test z0
 (.sub (F80 (f_1, ((0 : Int), (1000000 : Int)))) fun z1 =>
 (.test z1
 (.sub (F73 (f_0, f_1)) fun z2 =>
 (.ret (z2 == 1)))
 (.ret false)))
 (.ret false)))
noncomputable def F55 (v : (Int × Int)) : Option Bool := (F55_t v).run
noncomputable def F55_E : TEnv := ((E0.add1 n_F80 F80_sh F80_fo F80).add1 n_F73 F73_sh F73_fo F73)
theorem F55_Eok : (F55_E).OK := ((E0ok.add1 F80_ok).add1 F73_ok)
noncomputable def F55_told : Nat → Option SealT := fun id => none
theorem F55_ok : FOK Tryz.prog n_F55 F55_sh F55_fo F55 :=
  fn_ok (E := F55_E) (F55_Eok) (told := F55_told) (fl := []) (c := bodyOf fn_F55) (s := F55_sh) (l := F55_fo) (tree := F55_t) fnat_F55 (by kernel_rfl) (by kernel_rfl) (by kernel_rfl) (loopsOK_of (ls := []) (by kernel_rfl) trivial) (fun v => by kernel_rfl)

theorem F55_eq (f : Int × Int) : F55 f = some (fracB f) := by
  obtain ⟨p, q⟩ := f
  rw [F55, F55_t, T.run_sub, F80_eq, Option.bind_some, T.run_test]
  unfold fracB
  cases h1 : inB 0 1000000 p with
  | false => rfl
  | true =>
    rw [if_pos rfl, T.run_sub, F80_eq, Option.bind_some, T.run_test]
    simp only
    cases h2 : inB 0 1000000 q with
    | false => rfl
    | true =>
      rw [inB_iff] at h1 h2
      rw [if_pos rfl, T.run_sub, F73_eq p q (by omega) (by omega), Option.bind_some, T.run_ret, Bool.true_and, Bool.true_and]
      congr 1
      rw [Bool.eq_iff_iff, beq_iff_eq, decide_eq_true_eq]
      omega


def F35_sh : FSh := ⟨[(.ag [(.si .i64), (.si .i64)])], []⟩

def F35_fo : List FO := [⟨[(.one .sb)], []⟩]
noncomputable def F35_t : (Int × Int) → T Bool := fun (f_0, f_1) =>
 (.sub (F55 (f_0, f_1)) fun z0 =>
 (.ret (! z0)))
noncomputable def F35 (v : (Int × Int)) : Option Bool := (F35_t v).run
noncomputable def F35_E : TEnv := (E0.add1 n_F55 F55_sh F55_fo F55)
theorem F35_Eok : (F35_E).OK := (E0ok.add1 F55_ok)
noncomputable def F35_told : Nat → Option SealT := fun id => none
theorem F35_ok : FOK Tryz.prog n_F35 F35_sh F35_fo F35 :=
  fn_ok (E := F35_E) (F35_Eok) (told := F35_told) (fl := []) (c := bodyOf fn_F35) (s := F35_sh) (l := F35_fo) (tree := F35_t) fnat_F35 (by kernel_rfl) (by kernel_rfl) (by kernel_rfl) (loopsOK_of (ls := []) (by kernel_rfl) trivial) (fun v => by kernel_rfl)

theorem F35_eq (f : Fr) : F35 f = some (!fracB f) := by
  obtain ⟨a, b⟩ := f
  rw [F35, F35_t, T.run_sub, F55_eq, Option.bind_some, T.run_ret]


def F6_sh : FSh := ⟨[(.one (.sl (.pair (.int .i64) (.int .i64)) false false)), (.one (.fn n_F35))], []⟩

def F6_L2_sh : LSh := ⟨(fun ex => match ex with | .norm => [(0, none), (1, none), (7, none), (8, none)] | .exit i => if i = 0 then [] else [] | .ret => [(4, none)]), [(0, (.one (.sl (.pair (.int .i64) (.int .i64)) false false))), (1, (.one (.fn n_F35))), (7, (.one (.si .i64))), (8, (.one (.si .i64)))], [], [⟨.ret, [(4, (.one (.si .i64)))], []⟩, ⟨(.exit 0), [], []⟩], [], []⟩
noncomputable def F6_L2_step : (List ((Int × Int)) × Unit × Int × Int) → T ((List ((Int × Int)) × Unit × Int × Int) ⊕ (Int ⊕ Unit)) := fun (s, (), t7, t8) =>
 (.test (decide (t8 < t7))
 (.test (decide ((0 ≤ t8) ∧ (t8 < ((List.length s) : Int))))
 (.sub (s[(Int.toNat t8)]?) fun z0 =>
 (.sub (F35 z0) fun z1 =>
 (.test z1
 (.ret (Sum.inr (Sum.inl t8)))
 (.ret (Sum.inl (s, ((), (t7, (w64 (t8 + 1))))))))))
 .fail)
 (.ret (Sum.inr (Sum.inr ()))))
noncomputable def F6_L2 (v : (List ((Int × Int)) × Unit × Int × Int)) : Option (Int ⊕ Unit) := loopO (fun v => (F6_L2_step v).run) v

def F6_fo : List FO := [⟨[(.one (.si .i64))], []⟩]
noncomputable def F6_t : (List ((Int × Int)) × Unit) → T Int := fun (s, ()) =>
 (.sub (F6_L2 (s, ((), (((List.length s) : Int), (0 : Int))))) fun z0 =>
 (.test (Sum.isLeft z0)
 (.sub (Sum.getLeft? z0) fun z1 =>
 (.ret z1))
 (.sub (Sum.getRight? z0) fun z2 =>
 (.ret (-1)))))
noncomputable def F6 (v : (List ((Int × Int)) × Unit)) : Option Int := (F6_t v).run
noncomputable def F6_E : TEnv := (E0.add1 n_F35 F35_sh F35_fo F35)
theorem F6_Eok : (F6_E).OK := (E0ok.add1 F35_ok)
noncomputable def F6_told : Nat → Option SealT := fun id => if id = 2 then some (LSh.told F6_L2_sh 0 (F6_L2_step)) else none
theorem F6_L2_ok : ToldOK Tryz.prog 0 (loopAt (bodyOf fn_F12) [0]) (LSh.told F6_L2_sh 0 (F6_L2_step)) :=
  loop_ok (E := F6_E) (F6_Eok) (told := F6_told) (l := F6_L2_sh) (step := F6_L2_step) (loopsOK_of (ls := []) (by kernel_rfl) trivial) (by kernel_rfl) (fun v => by kernel_rfl)
theorem F6_ok : FOK Tryz.prog n_F12 F6_sh F6_fo F6 :=
  fn_ok (E := F6_E) (F6_Eok) (told := F6_told) (fl := []) (c := bodyOf fn_F12) (s := F6_sh) (l := F6_fo) (tree := F6_t) fnat_F12 (by kernel_rfl) (by kernel_rfl) (by kernel_rfl) (loopsOK_of (ls := [loopAt (bodyOf fn_F12) [0]]) (by kernel_rfl) ⟨.inr ⟨_, by kernel_rfl, F6_L2_ok⟩, trivial⟩) (fun v => by kernel_rfl)

theorem F6_eq (l : List Fr) (hl : l.length < 4611686018427387904) : F6 (l, ()) = some (idxI (fun f => !fracB f) l) := by
  have h := loop_find (step := fun v => (F6_L2_step v).run) (xs := l) (fun f => !fracB f) (fun k => (l, ((), ((l.length : Int), (k : Int))))) (fun k => .inl ((k : Int))) (.inr ())
    (fun k x hx => by
      have hk := getElem?_lt hx
      rw [F6_L2_step, T.run_test, if_pos (decide_eq_true (by omega)), T.run_test, if_pos (decide_eq_true (by omega)), T.run_sub, Int.toNat_natCast, hx, Option.bind_some, T.run_sub, F35_eq, Option.bind_some, T.run_test, T.run_ret, T.run_ret, w64_id (by omega) (by omega)]
      cases fracB x <;> simp)
    (by simp [F6_L2_step, T.run])
  simp only [F6, F6_t, T.run, F6_L2]
  simp only [Int.natCast_zero] at h
  rw [h, idxI]
  cases l.findIdx? (fun f => !fracB f) <;> simp


def F4_sh : FSh := ⟨[(.one (.sl (.pair (.int .i64) (.int .i64)) false false)), (.one (.fn n_F35))], []⟩

def F4_fo : List FO := [⟨[(.one .sb)], []⟩]
noncomputable def F4_t : (List ((Int × Int)) × Unit) → T Bool := fun (s, ()) =>
 (.sub (F6 (s, ())) fun z0 =>
 (.ret (decide (z0 ≥ 0))))
noncomputable def F4 (v : (List ((Int × Int)) × Unit)) : Option Bool := (F4_t v).run
noncomputable def F4_E : TEnv := (E0.add1 n_F12 F6_sh F6_fo F6)
theorem F4_Eok : (F4_E).OK := (E0ok.add1 F6_ok)
noncomputable def F4_told : Nat → Option SealT := fun id => none
theorem F4_ok : FOK Tryz.prog n_F9 F4_sh F4_fo F4 :=
  fn_ok (E := F4_E) (F4_Eok) (told := F4_told) (fl := []) (c := bodyOf fn_F9) (s := F4_sh) (l := F4_fo) (tree := F4_t) fnat_F9 (by kernel_rfl) (by kernel_rfl) (by kernel_rfl) (loopsOK_of (ls := []) (by kernel_rfl) trivial) (fun v => by kernel_rfl)

theorem F4_eq (l : List Fr) (hl : l.length < 4611686018427387904) : F4 (l, ()) = some (l.any (fun f => !fracB f)) := by
  simp only [F4, F4_t, T.run, F6_eq _ hl, Option.bind_some, idxI_ge]


def F40_sh : FSh := ⟨[(.one (.sl (.pair (.int .i64) (.int .i64)) false false))], []⟩

def F40_fo : List FO := [⟨[(.one .sb)], []⟩]
noncomputable def F40_t : List ((Int × Int)) → T Bool := fun list =>
 (.sub (F4 (list, ())) fun z0 =>
 (.ret (! z0)))
noncomputable def F40 (v : List ((Int × Int))) : Option Bool := (F40_t v).run
noncomputable def F40_E : TEnv := (E0.add1 n_F9 F4_sh F4_fo F4)
theorem F40_Eok : (F40_E).OK := (E0ok.add1 F4_ok)
noncomputable def F40_told : Nat → Option SealT := fun id => none
theorem F40_ok : FOK Tryz.prog n_F40 F40_sh F40_fo F40 :=
  fn_ok (E := F40_E) (F40_Eok) (told := F40_told) (fl := []) (c := bodyOf fn_F40) (s := F40_sh) (l := F40_fo) (tree := F40_t) fnat_F40 (by kernel_rfl) (by kernel_rfl) (by kernel_rfl) (loopsOK_of (ls := []) (by kernel_rfl) trivial) (fun v => by kernel_rfl)

theorem F40_eq (l : List Fr) (hl : l.length < 4611686018427387904) : F40 l = some (l.all fracB) := by
  rw [F40, F40_t, T.run_sub, F4_eq _ hl, Option.bind_some, T.run_ret]
  congr 1
  rw [Bool.eq_iff_iff]
  simp


def F92_sh : FSh := ⟨[(.ag [(.si .i64), (.si .i64)]), (.ag [(.si .i64), (.si .i64)])], []⟩

def F92_fo : List FO := [⟨[(.one (.si .i64))], []⟩]
noncomputable def F92_t : ((Int × Int) × (Int × Int)) → T Int := fun ((f_0, f_1), (g_0, g_1)) =>
 (.ret (w64 ((w64 (g_0 * f_1)) - (w64 (f_0 * g_1)))))
noncomputable def F92 (v : ((Int × Int) × (Int × Int))) : Option Int := (F92_t v).run
noncomputable def F92_E : TEnv := E0
theorem F92_Eok : (F92_E).OK := E0ok
noncomputable def F92_told : Nat → Option SealT := fun id => none
theorem F92_ok : FOK Tryz.prog n_F92 F92_sh F92_fo F92 :=
  fn_ok (E := F92_E) (F92_Eok) (told := F92_told) (fl := []) (c := bodyOf fn_F92) (s := F92_sh) (l := F92_fo) (tree := F92_t) fnat_F92 (by kernel_rfl) (by kernel_rfl) (by kernel_rfl) (loopsOK_of (ls := []) (by kernel_rfl) trivial) (fun v => by kernel_rfl)

theorem F92_eq (f g : Fr) : F92 (f, g) = some (crossW f g) := by
  obtain ⟨a, b⟩ := f
  obtain ⟨c, d⟩ := g
  rw [F92, F92_t, T.run_ret]; rfl


def F20_sh : FSh := ⟨[(.one (.sl (.pair (.int .i64) (.int .i64)) false false))], []⟩

def F20_L5_sh : LSh := ⟨(fun ex => match ex with | .norm => [(0, none), (3, none), (4, none)] | .exit i => if i = 0 then [] else [] | .ret => [(2, none)]), [(0, (.one (.sl (.pair (.int .i64) (.int .i64)) false false))), (3, (.one (.si .i64))), (4, (.one (.si .i64)))], [], [⟨.ret, [(2, (.one .sb))], []⟩, ⟨(.exit 0), [], []⟩], [], []⟩
noncomputable def F20_L5_step : (List ((Int × Int)) × Int × Int) → T ((List ((Int × Int)) × Int × Int) ⊕ (Bool ⊕ Unit)) := fun (list, n, i) =>
 (.test (decide (i < n))
 (.test (decide ((0 ≤ (w64 (i - 1))) ∧ ((w64 (i - 1)) < ((List.length list) : Int))))
 (.sub (list[(Int.toNat (w64 (i - 1)))]?) fun z0 =>
 (.test (decide ((0 ≤ i) ∧ (i < ((List.length list) : Int))))
 (.sub (list[(Int.toNat i)]?) fun z1 =>
 (.sub (F92 (z0, z1)) fun z2 =>
 (.test (z2 != 1)
 (.ret (Sum.inr (Sum.inl false)))
 (.ret (Sum.inl (list, (n, (w64 (i + 1)))))))))
 .fail))
 .fail)
 (.ret (Sum.inr (Sum.inr ()))))
noncomputable def F20_L5 (v : (List ((Int × Int)) × Int × Int)) : Option (Bool ⊕ Unit) := loopO (fun v => (F20_L5_step v).run) v

def F20_fo : List FO := [⟨[(.one .sb)], []⟩]
noncomputable def F20_t : List ((Int × Int)) → T Bool := fun list =>
 (.sub (F59 ((List.length list) : Int)) fun z0 =>
 (.test (! z0)
 (.ret false)
 (.sub (F40 list) fun z1 =>
 (.test (! z1)
 (.ret false)
 (.test (decide (((0 : Int) ≤ (0 : Int)) ∧ (0 < ((List.length list) : Int))))
 (.sub (list[0]?) fun z2 =>
 (.test (! ((z2.1 == 0) && ((z2.2 == 1) && true)))
 (.ret false)
 (.test (decide ((0 ≤ (w64 (((List.length list) : Int) - 1))) ∧ ((w64 (((List.length list) : Int) - 1)) < ((List.length list) : Int))))
 (.sub (list[(Int.toNat (w64 (((List.length list) : Int) - 1)))]?) fun z3 =>
 (.test (! ((z3.1 == 1) && ((z3.2 == 0) && true)))
 (.ret false)
 (.sub (F20_L5 (list, (((List.length list) : Int), (1 : Int)))) fun z4 =>
 (.test (Sum.isLeft z4)
 (.sub (Sum.getLeft? z4) fun z5 =>
 (.ret z5))
 (.sub (Sum.getRight? z4) fun z6 =>
 (.ret true))))))
 .fail)))
 .fail)))))
noncomputable def F20 (v : List ((Int × Int))) : Option Bool := (F20_t v).run
noncomputable def F20_E : TEnv := (((E0.add1 n_F59 F59_sh F59_fo F59).add1 n_F40 F40_sh F40_fo F40).add1 n_F92 F92_sh F92_fo F92)
theorem F20_Eok : (F20_E).OK := (((E0ok.add1 F59_ok).add1 F40_ok).add1 F92_ok)
noncomputable def F20_told : Nat → Option SealT := fun id => if id = 5 then some (LSh.told F20_L5_sh 0 (F20_L5_step)) else none
theorem F20_L5_ok : ToldOK Tryz.prog 0 (loopAt (bodyOf fn_F20) [0]) (LSh.told F20_L5_sh 0 (F20_L5_step)) :=
  loop_ok (E := F20_E) (F20_Eok) (told := F20_told) (l := F20_L5_sh) (step := F20_L5_step) (loopsOK_of (ls := []) (by kernel_rfl) trivial) (by kernel_rfl) (fun v => by kernel_rfl)
theorem F20_ok : FOK Tryz.prog n_F20 F20_sh F20_fo F20 :=
  fn_ok (E := F20_E) (F20_Eok) (told := F20_told) (fl := []) (c := bodyOf fn_F20) (s := F20_sh) (l := F20_fo) (tree := F20_t) fnat_F20 (by kernel_rfl) (by kernel_rfl) (by kernel_rfl) (loopsOK_of (ls := [loopAt (bodyOf fn_F20) [0]]) (by kernel_rfl) ⟨.inr ⟨_, by kernel_rfl, F20_L5_ok⟩, trivial⟩) (fun v => by kernel_rfl)

theorem F20_eq (p : List Fr) (hl : p.length < 4611686018427387904) : F20 p = some (polyB p) := by
  rw [F20, F20_t, T.run_sub, F59, F59_t, T.run_sub, F80_eq, Option.bind_some, T.run_ret, Option.bind_some, T.run_test]
  unfold polyB
  cases h1 : inB 3 12 (p.length : Int) with
  | false => rw [if_pos (by rfl), T.run_ret]; rfl
  | true =>
    have hn := inB_iff.1 h1
    rw [if_neg (by decide), T.run_sub, F40_eq _ hl, Option.bind_some, T.run_test]
    cases h2 : p.all fracB with
    | false => rw [if_pos (by rfl), T.run_ret]; rfl
    | true =>
      have w1 : w64 ((p.length : Int) - 1) = ((p.length - 1 : Nat) : Int) := by rw [w64_id (by omega) (by omega)]; omega
      have hfr : ∀ i, i < p.length → fracB (gF p i) = true := fun i hi => List.all_eq_true.1 h2 _ (gF_mem hi)
      rw [if_neg (by decide), T.run_test, if_pos (decide_eq_true (by omega)), T.run_sub, gF_some (p := p) (i := 0) (by omega), Option.bind_some, T.run_test, frEq]
      by_cases c0 : gF p 0 = (0, 1)
      · rw [decide_eq_true c0, if_neg (by decide), T.run_test, w1, if_pos (decide_eq_true (by omega)), T.run_sub, Int.toNat_natCast, gF_some (p := p) (i := p.length - 1) (by omega), Option.bind_some, T.run_test, frEq]
        by_cases c1 : gF p (p.length - 1) = (1, 0)
        · have hL := all_loop (step := fun v => (F20_L5_step v).run) (fun k => (p, ((p.length : Int), (k : Int)))) (fun k => decide (crossF (gF p (k - 1)) (gF p k) = 1)) () p.length
            (by rw [F20_L5_step, T.run_test, if_neg (by simp), T.run_ret])
          have hL' : F20_L5 (p, ((p.length : Int), (1 : Int))) = some (if ((List.range (p.length - 1)).all fun i => decide (crossF (gF p i) (gF p (i + 1)) = 1)) = true then .inr () else .inl false) := by
            have key : ∀ m k : Nat, 1 ≤ k → k + m = p.length → loopO (fun v => (F20_L5_step v).run) (p, ((p.length : Int), (k : Int))) = some (if ((List.range' (k - 1) m).all fun i => decide (crossF (gF p i) (gF p (i + 1)) = 1)) = true then .inr () else .inl false) := by
              intro m
              induction m with
              | zero =>
                intro k _ hk
                rw [show k = p.length by omega]
                refine loopO_done ?_
                rw [F20_L5_step, T.run_test, if_neg (by simp), T.run_ret]; rfl
              | succ m ih =>
                intro k k1 hk
                have v1 : w64 ((k : Int) - 1) = ((k - 1 : Nat) : Int) := by rw [w64_id (by omega) (by omega)]; omega
                have v2 : w64 ((k : Int) + 1) = ((k + 1 : Nat) : Int) := by rw [w64_id (by omega) (by omega)]; omega
                have hs : (F20_L5_step (p, ((p.length : Int), (k : Int)))).run = if crossF (gF p (k - 1)) (gF p k) = 1 then some (.inl (p, ((p.length : Int), ((k + 1 : Nat) : Int)))) else some (.inr (.inl false)) := by
                  rw [F20_L5_step, T.run_test, if_pos (decide_eq_true (by omega)), T.run_test, v1, if_pos (decide_eq_true (by omega)), T.run_sub, Int.toNat_natCast, gF_some (p := p) (i := k - 1) (by omega), Option.bind_some, T.run_test, if_pos (decide_eq_true (by omega)), T.run_sub, Int.toNat_natCast, gF_some (p := p) (i := k) (by omega), Option.bind_some, T.run_sub, F92_eq, (crossW_eq (hfr (k - 1) (by omega)) (hfr k (by omega))).1, Option.bind_some, T.run_test, v2, T.run_ret, T.run_ret]
                  by_cases e : crossF (gF p (k - 1)) (gF p k) = 1
                  · rw [if_pos e, if_neg (by simp [e])]
                  · rw [if_neg e, if_pos (by simp [e])]
                rw [List.range'_succ, List.all_cons, show k - 1 + 1 = k by omega]
                by_cases e : crossF (gF p (k - 1)) (gF p k) = 1
                · rw [if_pos e] at hs
                  rw [loopO_next hs, ih (k + 1) (by omega) (by omega), decide_eq_true e, Bool.true_and, Nat.add_sub_cancel]
                · rw [if_neg e] at hs
                  rw [loopO_done hs, decide_eq_false e, Bool.false_and]; rfl
            have := key (p.length - 1) 1 (by omega) (by omega)
            rw [List.range_eq_range']
            exact this
          rw [decide_eq_true c1, if_neg (by decide), T.run_sub, hL', Option.bind_some]
          cases h3 : ((List.range (p.length - 1)).all fun i => decide (crossF (gF p i) (gF p (i + 1)) = 1)) <;> rfl
        · rw [decide_eq_false c1, if_pos (by decide), T.run_ret]; rfl
      · rw [decide_eq_false c0, if_pos (by decide), T.run_ret]; rfl


def F109_sh : FSh := ⟨[(.one (.si .i64))], []⟩

def F109_fo : List FO := [⟨[(.one (.si .i64))], []⟩]
noncomputable def F109_t : Int → T Int := fun n =>
 (.ret (if ((w64 (0 - n)) > n) then (w64 (0 - n)) else n))
noncomputable def F109 (v : Int) : Option Int := (F109_t v).run
noncomputable def F109_E : TEnv := E0
theorem F109_Eok : (F109_E).OK := E0ok
noncomputable def F109_told : Nat → Option SealT := fun id => none
theorem F109_ok : FOK Tryz.prog n_F109 F109_sh F109_fo F109 :=
  fn_ok (E := F109_E) (F109_Eok) (told := F109_told) (fl := []) (c := bodyOf fn_F109) (s := F109_sh) (l := F109_fo) (tree := F109_t) fnat_F109 (by kernel_rfl) (by kernel_rfl) (by kernel_rfl) (loopsOK_of (ls := []) (by kernel_rfl) trivial) (fun v => by kernel_rfl)

theorem F109_eq (n : Int) (h : -9000000000000000000 ≤ n ∧ n ≤ 9000000000000000000) : F109 n = some (if 0 - n > n then 0 - n else n) := by
  simp only [F109, F109_t, T.run]
  rw [w64_id (by omega) (by omega)]


def F74_sh : FSh := ⟨[(.ag [(.si .i64), (.si .i64)]), (.ag [(.si .i64), (.si .i64)])], []⟩

def F74_fo : List FO := [⟨[(.one .sb)], []⟩]
noncomputable def F74_t : ((Int × Int) × (Int × Int)) → T Bool := fun ((f_0, f_1), (g_0, g_1)) =>
 (.sub (F92 ((f_0, f_1), (g_0, g_1))) fun z0 =>
 (.sub (F109 z0) fun z1 =>
 (.ret (z1 == 1))))
noncomputable def F74 (v : ((Int × Int) × (Int × Int))) : Option Bool := (F74_t v).run
noncomputable def F74_E : TEnv := ((E0.add1 n_F92 F92_sh F92_fo F92).add1 n_F109 F109_sh F109_fo F109)
theorem F74_Eok : (F74_E).OK := ((E0ok.add1 F92_ok).add1 F109_ok)
noncomputable def F74_told : Nat → Option SealT := fun id => none
theorem F74_ok : FOK Tryz.prog n_F74 F74_sh F74_fo F74 :=
  fn_ok (E := F74_E) (F74_Eok) (told := F74_told) (fl := []) (c := bodyOf fn_F74) (s := F74_sh) (l := F74_fo) (tree := F74_t) fnat_F74 (by kernel_rfl) (by kernel_rfl) (by kernel_rfl) (loopsOK_of (ls := []) (by kernel_rfl) trivial) (fun v => by kernel_rfl)

theorem F74_eq {f g : Fr} (hf : fracB f = true) (hg : fracB g = true) : F74 (f, g) = some (nearB f g) := by
  obtain ⟨h1, h2, h3⟩ := crossW_eq hf hg
  obtain ⟨a, b⟩ := f
  obtain ⟨c, d⟩ := g
  rw [F74, F74_t, T.run_sub, F92_eq, Option.bind_some, T.run_sub, h1, F109_eq _ (by omega), Option.bind_some, T.run_ret]
  unfold nearB
  congr 1
  rw [Bool.eq_iff_iff, beq_iff_eq, decide_eq_true_eq]
  split <;> omega


def F61_sh : FSh := ⟨[(.one (.sl (.pair (.int .i64) (.int .i64)) false false))], []⟩

def F61_L6_sh : LSh := ⟨(fun ex => match ex with | .norm => [(0, none), (3, none), (4, none), (5, none), (6, none), (13, none), (14, none)] | .exit i => if i = 2 then [(0, none), (3, none), (4, none), (13, none), (14, none)] else if i = 1 then [(0, none), (3, none), (4, none), (13, none), (14, none)] else if i = 0 then [(4, none)] else [] | .ret => [(2, none)]), [(0, (.one (.sl (.pair (.int .i64) (.int .i64)) false false))), (3, (.one (.si .i64))), (4, (.one (.rw 0 0))), (5, (.one (.si .i64))), (6, (.one (.si .i64))), (13, (.one (.si .i64))), (14, (.one (.si .i64)))], [(.row 0 (.pair (.int .i64) (.int .i64)))], [⟨(.exit 2), [(0, (.one (.sl (.pair (.int .i64) (.int .i64)) false false))), (3, (.one (.si .i64))), (4, (.one (.rw 0 0))), (13, (.one (.si .i64))), (14, (.one (.si .i64)))], [(.row 0 (.pair (.int .i64) (.int .i64)))]⟩], [], []⟩
noncomputable def F61_L6_step : ((List ((Int × Int)) × Int × Unit × Int × Int × Int × Int) × List ((Int × Int))) → T (((List ((Int × Int)) × Int × Unit × Int × Int × Int × Int) × List ((Int × Int))) ⊕ ((List ((Int × Int)) × Int × Unit × Int × Int) × List ((Int × Int)))) := fun ((list, n, (), i, k, t13, t14), out) =>
 (.test (decide (k < n))
 (.test (decide (n ≠ 0))
 (.test (decide (n ≠ 0))
 (.sub (F51 (n, ((if ((Int.tmod (w64 (k + 1)) n) < (Int.tmod (w64 (i + 1)) n)) then (Int.tmod (w64 (k + 1)) n) else (Int.tmod (w64 (i + 1)) n)), (if ((Int.tmod (w64 (k + 1)) n) > (Int.tmod (w64 (i + 1)) n)) then (Int.tmod (w64 (k + 1)) n) else (Int.tmod (w64 (i + 1)) n))))) fun z0 =>
 (.test z0
 (.test (decide ((0 ≤ i) ∧ (i < ((List.length list) : Int))))
 (.sub (list[(Int.toNat i)]?) fun z1 =>
 (.test (decide ((0 ≤ k) ∧ (k < ((List.length list) : Int))))
 (.sub (list[(Int.toNat k)]?) fun z2 =>
 (.sub (F74 (z1, z2)) fun z3 =>
 (.test z3
 (.test (decide (1 ≤ 1))
 (.test (decide ((0 + (List.length out)) ≤ (List.length out)))
 (.test (decide ((2 * (((List.length out) + 1) * 17)) ≤ 140737488355328))
 (.test (decide ((0 = 0) ∧ (((List.length out) + 1) = (List.length ((win out 0 (List.length out)) ++ [((if ((Int.tmod (w64 (k + 1)) n) < (Int.tmod (w64 (i + 1)) n)) then (Int.tmod (w64 (k + 1)) n) else (Int.tmod (w64 (i + 1)) n)), (if ((Int.tmod (w64 (k + 1)) n) > (Int.tmod (w64 (i + 1)) n)) then (Int.tmod (w64 (k + 1)) n) else (Int.tmod (w64 (i + 1)) n)))])))))
 (.ret (Sum.inl ((list, (n, ((), (i, ((w64 (k + 1)), (t13, t14)))))), ((win out 0 (List.length out)) ++ [((if ((Int.tmod (w64 (k + 1)) n) < (Int.tmod (w64 (i + 1)) n)) then (Int.tmod (w64 (k + 1)) n) else (Int.tmod (w64 (i + 1)) n)), (if ((Int.tmod (w64 (k + 1)) n) > (Int.tmod (w64 (i + 1)) n)) then (Int.tmod (w64 (k + 1)) n) else (Int.tmod (w64 (i + 1)) n)))]))))
 .fail)
 .fail)
 .fail)
 .fail)
 (.test (decide ((0 = 0) ∧ ((List.length out) = (List.length out))))
 (.ret (Sum.inl ((list, (n, ((), (i, ((w64 (k + 1)), (t13, t14)))))), out)))
 .fail))))
 .fail))
 .fail)
 (.test (decide ((0 = 0) ∧ ((List.length out) = (List.length out))))
 (.ret (Sum.inl ((list, (n, ((), (i, ((w64 (k + 1)), (t13, t14)))))), out)))
 .fail)))
 .fail)
 .fail)
 (.test (decide ((0 = 0) ∧ ((List.length out) = (List.length out))))
 (.ret (Sum.inr ((list, (n, ((), (t13, t14)))), out)))
 .fail))
noncomputable def F61_L6 (v : ((List ((Int × Int)) × Int × Unit × Int × Int × Int × Int) × List ((Int × Int)))) : Option ((List ((Int × Int)) × Int × Unit × Int × Int) × List ((Int × Int))) := loopO (fun v => (F61_L6_step v).run) v

def F61_L3_sh : LSh := ⟨(fun ex => match ex with | .norm => [(0, none), (3, none), (4, none), (13, none), (14, none)] | .exit i => if i = 0 then [(4, none)] else [] | .ret => [(2, none)]), [(0, (.one (.sl (.pair (.int .i64) (.int .i64)) false false))), (3, (.one (.si .i64))), (4, (.one (.rw 0 0))), (13, (.one (.si .i64))), (14, (.one (.si .i64)))], [(.row 0 (.pair (.int .i64) (.int .i64)))], [⟨(.exit 0), [(4, (.one (.rw 0 0)))], [(.row 0 (.pair (.int .i64) (.int .i64)))]⟩], [], []⟩
noncomputable def F61_L3_step : ((List ((Int × Int)) × Int × Unit × Int × Int) × List ((Int × Int))) → T (((List ((Int × Int)) × Int × Unit × Int × Int) × List ((Int × Int))) ⊕ (Unit × List ((Int × Int)))) := fun ((list, n, (), t13, t14), out) =>
 (.test (decide (t14 < t13))
 (.test (decide ((0 = 0) ∧ ((List.length out) = (List.length out))))
 (.sub (F61_L6 ((list, (n, ((), (t14, ((w64 (t14 + 1)), (t13, t14)))))), out)) fun z0 =>
 (.test (decide ((0 = 0) ∧ ((List.length z0.2) = (List.length z0.2))))
 (.ret (Sum.inl ((z0.1.1, (z0.1.2.1, ((), (z0.1.2.2.2.1, (w64 (z0.1.2.2.2.2 + 1)))))), z0.2)))
 .fail))
 .fail)
 (.test (decide ((0 = 0) ∧ ((List.length out) = (List.length out))))
 (.ret (Sum.inr ((), out)))
 .fail))
noncomputable def F61_L3 (v : ((List ((Int × Int)) × Int × Unit × Int × Int) × List ((Int × Int)))) : Option (Unit × List ((Int × Int))) := loopO (fun v => (F61_L3_step v).run) v

def F61_fo : List FO := [⟨[(.one (.rw 0 0))], [(.row 0 (.pair (.int .i64) (.int .i64)))]⟩]
noncomputable def F61_t : List ((Int × Int)) → T (Unit × List ((Int × Int))) := fun list =>
 (.test true
 (.sub (F61_L3 ((list, (((List.length list) : Int), ((), (((List.length list) : Int), (0 : Int))))), ([] : List (Int × Int)))) fun z0 =>
 (.test (decide ((0 = 0) ∧ ((List.length z0.2) = (List.length z0.2))))
 (.sub (F5 (((), ()), z0.2)) fun z1 =>
 (.test (decide ((0 = 0) ∧ ((List.length z0.2) = (List.length z1.2))))
 (.ret ((), z1.2))
 .fail))
 .fail))
 .fail)
noncomputable def F61 (v : List ((Int × Int))) : Option (Unit × List ((Int × Int))) := (F61_t v).run
noncomputable def F61_E : TEnv := (((E0.add1 n_F51 F51_sh F51_fo F51).add1 n_F74 F74_sh F74_fo F74).add1 n_F13 F5_sh F5_fo F5)
theorem F61_Eok : (F61_E).OK := (((E0ok.add1 F51_ok).add1 F74_ok).add1 F5_ok)
noncomputable def F61_told : Nat → Option SealT := fun id => if id = 6 then some (LSh.told F61_L6_sh 0 (F61_L6_step)) else if id = 3 then some (LSh.told F61_L3_sh 0 (F61_L3_step)) else none
theorem F61_L6_ok : ToldOK Tryz.prog 0 (loopAt (bodyOf fn_F61) [0, 0]) (LSh.told F61_L6_sh 0 (F61_L6_step)) :=
  loop_ok (E := F61_E) (F61_Eok) (told := F61_told) (l := F61_L6_sh) (step := F61_L6_step) (loopsOK_of (ls := []) (by kernel_rfl) trivial) (by kernel_rfl) (fun v => by kernel_rfl)
theorem F61_L3_ok : ToldOK Tryz.prog 0 (loopAt (bodyOf fn_F61) [0]) (LSh.told F61_L3_sh 0 (F61_L3_step)) :=
  loop_ok (E := F61_E) (F61_Eok) (told := F61_told) (l := F61_L3_sh) (step := F61_L3_step) (loopsOK_of (ls := [loopAt (bodyOf fn_F61) [0, 0]]) (by kernel_rfl) ⟨.inr ⟨_, by kernel_rfl, F61_L6_ok⟩, trivial⟩) (by kernel_rfl) (fun v => by kernel_rfl)
theorem F61_ok : FOK Tryz.prog n_F61 F61_sh F61_fo F61 :=
  fn_ok (E := F61_E) (F61_Eok) (told := F61_told) (fl := []) (c := bodyOf fn_F61) (s := F61_sh) (l := F61_fo) (tree := F61_t) fnat_F61 (by kernel_rfl) (by kernel_rfl) (by kernel_rfl) (loopsOK_of (ls := [loopAt (bodyOf fn_F61) [0]]) (by kernel_rfl) ⟨.inr ⟨_, by kernel_rfl, F61_L3_ok⟩, trivial⟩) (fun v => by kernel_rfl)

theorem F61_eq {p : List Fr} (h : polyB p = true) : ∃ ds, trOf (qsF p) = some ds ∧ F61 p = some ((), ds) := by
  obtain ⟨ds, hds⟩ := polyB_tr h
  obtain ⟨⟨n3, n12⟩, hfr, _, _, _⟩ := polyB_iff.1 h
  have hpf := poly_frs (polyB_F h)
  have hn1 := (near_I hds).1
  have hn2 := (near_I hds).2
  rw [hpf] at hn1 hn2
  refine ⟨ds, hds, ?_⟩
  have hgF : ∀ i, i < p.length → fracB (gF p i) = true := fun i hi => hfr _ (gF_mem hi)
  have inner : ∀ i : Nat, i < p.length → ∀ out : List Dg, out.length ≤ 12 * i → F61_L6 ((p, ((p.length : Int), ((), ((i : Int), (((i + 1 : Nat) : Int), ((p.length : Int), (i : Int))))))), out) = some ((p, ((p.length : Int), ((), ((p.length : Int), (i : Int))))), out ++ (List.range' (i + 1) (p.length - (i + 1))).flatMap (iN p i)) := by
    intro i hi out ho
    refine app_loop (step := fun v => (F61_L6_step v).run) (fun k o => ((p, ((p.length : Int), ((), ((i : Int), ((k : Int), ((p.length : Int), (i : Int))))))), o)) (iN p i) (fun o => ((p, ((p.length : Int), ((), ((p.length : Int), (i : Int))))), o)) p.length 1 (12 * i) (i + 1) (fun j => iN_len p i j) ?_ ?_ (p.length - (i + 1)) (i + 1) out (by omega) rfl (by omega)
    · intro o j hj
      rw [F61_L6_step, T.run_test, if_neg (by simp; omega), T.run_test, if_pos (by simp), T.run_ret]
    · intro k o hk1 hk ho
      have v1 : w64 ((k : Int) + 1) = ((k + 1 : Nat) : Int) := by rw [w64_id (by omega) (by omega)]; omega
      have v2 : w64 ((i : Int) + 1) = ((i + 1 : Nat) : Int) := by rw [w64_id (by omega) (by omega)]; omega
      have t1 : Int.tmod ((k + 1 : Nat) : Int) (p.length : Int) = (((k + 1) % p.length : Nat) : Int) := by
        rw [Int.tmod_eq_emod_of_nonneg (by omega)]; rfl
      have t2 : Int.tmod ((i + 1 : Nat) : Int) (p.length : Int) = (((i + 1) % p.length : Nat) : Int) := by
        rw [Int.tmod_eq_emod_of_nonneg (by omega)]; rfl
      have hD : ((if ((((k + 1) % p.length : Nat) : Int)) < (((i + 1) % p.length : Nat) : Int) then (((k + 1) % p.length : Nat) : Int) else (((i + 1) % p.length : Nat) : Int)), (if ((((k + 1) % p.length : Nat) : Int)) > (((i + 1) % p.length : Nat) : Int) then (((k + 1) % p.length : Nat) : Int) else (((i + 1) % p.length : Nat) : Int))) = toD p.length (i, k) := by
        unfold toD
        dsimp only
        generalize (k + 1) % p.length = a
        generalize (i + 1) % p.length = b
        refine Prod.ext ?_ ?_
        · dsimp only
          split <;> omega
        · dsimp only
          split <;> omega
      rw [F61_L6_step, T.run_test, if_pos (decide_eq_true (by omega)), T.run_test, if_pos (decide_eq_true (by omega)), T.run_test, if_pos (decide_eq_true (by omega))]
      simp only [v1, v2, t1, t2, hD]
      rw [T.run_sub, F51_eq _ _ (by omega) (by omega), Option.bind_some, T.run_test]
      unfold iN
      cases c1 : inDg p.length (toD p.length (i, k)) with
      | false =>
        rw [if_neg (by decide), T.run_test, if_pos (by simp), T.run_ret, Bool.false_and, if_neg (by decide), List.append_nil]
      | true =>
        rw [if_pos rfl, T.run_test, if_pos (decide_eq_true (by omega)), T.run_sub, Int.toNat_natCast, gF_some (p := p) (i := i) hi, Option.bind_some, T.run_test, if_pos (decide_eq_true (by omega)), T.run_sub, Int.toNat_natCast, gF_some (p := p) (i := k) hk, Option.bind_some, T.run_sub, F74_eq (hgF i hi) (hgF k hk), Option.bind_some, T.run_test]
        cases c2 : nearB (gF p i) (gF p k) with
        | false =>
          rw [if_neg (by decide), T.run_test, if_pos (by simp), T.run_ret, Bool.and_false, if_neg (by decide), List.append_nil]
        | true =>
          rw [if_pos rfl, T.run_test, if_pos (by simp), T.run_test, if_pos (by simp), T.run_test, if_pos (decide_eq_true (by omega)), win_all, T.run_test, if_pos (by simp), T.run_ret]
          rfl
  have outer := app_loop (step := fun v => (F61_L3_step v).run) (fun k o => ((p, ((p.length : Int), ((), ((p.length : Int), (k : Int))))), o)) (fun i => (List.range' (i + 1) (p.length - (i + 1))).flatMap (iN p i)) (fun o => ((), o)) p.length 12 0 0
    (fun j => by
      have := flat_len (iN p j) 1 (iN_len p j) (List.range' (j + 1) (p.length - (j + 1)))
      rw [List.length_range'] at this
      omega)
    (fun o j hj => by
      rw [F61_L3_step, T.run_test, if_neg (by simp; omega), T.run_test, if_pos (by simp), T.run_ret])
    (fun j o _ hj ho => by
      have v1 : w64 ((j : Int) + 1) = ((j + 1 : Nat) : Int) := by rw [w64_id (by omega) (by omega)]; omega
      rw [F61_L3_step, T.run_test, if_pos (decide_eq_true (by omega)), T.run_test, if_pos (by simp), T.run_sub, v1, inner j hj o (by omega), Option.bind_some, T.run_test, if_pos (by simp), T.run_ret, v1])
    p.length 0 [] (Nat.le_refl 0) rfl (by simp)
  have ho : F61_L3 ((p, ((p.length : Int), ((), ((p.length : Int), (0 : Int))))), ([] : List (Int × Int))) = some ((), nearI p) := by
    rw [nearI_flat n12, List.range_eq_range']
    exact outer
  rw [F61, F61_t, T.run_test, if_pos rfl, T.run_sub, ho, Option.bind_some, T.run_test, if_pos (by simp), T.run_sub, F5_eq _ hn2, hn1, Option.bind_some, T.run_test, if_pos (decide_eq_true ⟨rfl, by dsimp only; rw [← hn1, sortD_length]⟩), T.run_ret]


def F16_sh : FSh := ⟨[(.one (.sl (.pair (.int .i64) (.int .i64)) false false))], []⟩

def F16_fo : List FO := [⟨[(.one (.rw 0 0)), (.one .sb)], [(.row 0 (.int .i64))]⟩]
noncomputable def F16_t : List ((Int × Int)) → T ((Unit × Bool) × List (Int)) := fun list =>
 (.sub (F20 list) fun z0 =>
 (.test (! z0)
 (.test true
 (.ret (((), false), ([] : List (Int))))
 .fail)
 (.sub (F61 list) fun z1 =>
 (.test (decide ((0 + (List.length z1.2)) ≤ (List.length z1.2)))
 (.sub (F67 (((List.length list) : Int), (win z1.2 0 (List.length z1.2)))) fun z2 =>
 (.test (decide ((0 = 0) ∧ ((List.length z2.2) = (List.length z2.2))))
 (.ret (((), true), z2.2))
 .fail))
 .fail))))
noncomputable def F16 (v : List ((Int × Int))) : Option ((Unit × Bool) × List (Int)) := (F16_t v).run
noncomputable def F16_E : TEnv := (((E0.add1 n_F20 F20_sh F20_fo F20).add1 n_F61 F61_sh F61_fo F61).add1 n_F67 F67_sh F67_fo F67)
theorem F16_Eok : (F16_E).OK := (((E0ok.add1 F20_ok).add1 F61_ok).add1 F67_ok)
noncomputable def F16_told : Nat → Option SealT := fun id => none
theorem F16_ok : FOK Tryz.prog n_F16 F16_sh F16_fo F16 :=
  fn_ok (E := F16_E) (F16_Eok) (told := F16_told) (fl := []) (c := bodyOf fn_F16) (s := F16_sh) (l := F16_fo) (tree := F16_t) fnat_F16 (by kernel_rfl) (by kernel_rfl) (by kernel_rfl) (loopsOK_of (ls := []) (by kernel_rfl) trivial) (fun v => by kernel_rfl)

theorem F16_eq (p : List Fr) (hl : p.length < 4611686018427387904) : F16 p = some (if polyB p = true then (((), true), qsF p) else (((), false), [])) := by
  rw [F16, F16_t, T.run_sub, F20_eq p hl, Option.bind_some, T.run_test]
  cases h : polyB p with
  | false => rw [if_pos (by rfl), T.run_test, if_pos rfl, T.run_ret]; rfl
  | true =>
    obtain ⟨ds, h1, h2⟩ := F61_eq h
    obtain ⟨⟨n3, n12⟩, _⟩ := polyB_iff.1 h
    obtain ⟨ht, hq⟩ := trOf_tri h1
    rw [qsF_length (polyB_F h)] at ht hq
    obtain ⟨g1, g2, g3, g4, g5⟩ := tri_rng ht
    have eq := F67_eq p.length ds (by omega) (by omega) (fun d hd => by have := g1 d hd; omega)
    rw [hq] at eq
    rw [if_neg (by decide), T.run_sub, h2, Option.bind_some, T.run_test, if_pos (by simp), win_all, T.run_sub, eq, Option.bind_some, T.run_test, if_pos (by simp), T.run_ret]; rfl


def F62_sh : FSh := ⟨[(.one (.sl (.pair (.int .i64) (.int .i64)) false false))], []⟩

def F62_fo : List FO := [⟨[(.one (.rw 0 0)), (.one .sb)], [(.row 0 (.pair (.int .i64) (.int .i64)))]⟩]
noncomputable def F62_t : List ((Int × Int)) → T ((Unit × Bool) × List ((Int × Int))) := fun list =>
 (.sub (F20 list) fun z0 =>
 (.test (! z0)
 (.test true
 (.ret (((), false), ([] : List (Int × Int))))
 .fail)
 (.sub (F61 list) fun z1 =>
 (.test (decide ((0 = 0) ∧ ((List.length z1.2) = (List.length z1.2))))
 (.ret (((), true), z1.2))
 .fail))))
noncomputable def F62 (v : List ((Int × Int))) : Option ((Unit × Bool) × List ((Int × Int))) := (F62_t v).run
noncomputable def F62_E : TEnv := ((E0.add1 n_F20 F20_sh F20_fo F20).add1 n_F61 F61_sh F61_fo F61)
theorem F62_Eok : (F62_E).OK := ((E0ok.add1 F20_ok).add1 F61_ok)
noncomputable def F62_told : Nat → Option SealT := fun id => none
theorem F62_ok : FOK Tryz.prog n_F62 F62_sh F62_fo F62 :=
  fn_ok (E := F62_E) (F62_Eok) (told := F62_told) (fl := []) (c := bodyOf fn_F62) (s := F62_sh) (l := F62_fo) (tree := F62_t) fnat_F62 (by kernel_rfl) (by kernel_rfl) (by kernel_rfl) (loopsOK_of (ls := []) (by kernel_rfl) trivial) (fun v => by kernel_rfl)

theorem F62_eq (p : List Fr) (hl : p.length < 4611686018427387904) : F62 p = some (if polyB p = true then (((), true), (trOf (qsF p)).getD []) else (((), false), [])) := by
  rw [F62, F62_t, T.run_sub, F20_eq p hl, Option.bind_some, T.run_test]
  cases h : polyB p with
  | false => rw [if_pos (by rfl), T.run_test, if_pos rfl, T.run_ret]; rfl
  | true =>
    obtain ⟨ds, h1, h2⟩ := F61_eq h
    rw [if_neg (by decide), T.run_sub, h2, Option.bind_some, T.run_test, if_pos (by simp), T.run_ret, h1]; rfl


def F29_sh : FSh := ⟨[(.one (.sl (.int .i64) false false))], []⟩

def F29_fo : List FO := [⟨[(.one (.rw 0 0)), (.one .sb)], [(.row 0 (.pair (.int .i64) (.int .i64)))]⟩]
noncomputable def F29_t : List (Int) → T ((Unit × Bool) × List ((Int × Int))) := fun quiddity =>
 (.sub (F39 quiddity) fun z0 =>
 (.test (decide ((0 = 0) ∧ ((List.length z0.2) = (List.length z0.2))))
 (.ret (((), z0.1.2), z0.2))
 .fail))
noncomputable def F29 (v : List (Int)) : Option ((Unit × Bool) × List ((Int × Int))) := (F29_t v).run
noncomputable def F29_E : TEnv := (E0.add1 n_F39 F39_sh F39_fo F39)
theorem F29_Eok : (F29_E).OK := (E0ok.add1 F39_ok)
noncomputable def F29_told : Nat → Option SealT := fun id => none
theorem F29_ok : FOK Tryz.prog n_F29 F29_sh F29_fo F29 :=
  fn_ok (E := F29_E) (F29_Eok) (told := F29_told) (fl := []) (c := bodyOf fn_F29) (s := F29_sh) (l := F29_fo) (tree := F29_t) fnat_F29 (by kernel_rfl) (by kernel_rfl) (by kernel_rfl) (loopsOK_of (ls := []) (by kernel_rfl) trivial) (fun v => by kernel_rfl)

theorem F29_eq (q : List Int) (hl : q.length < 4611686018427387904) : F29 q = some (match trOf q with | some ds => (((), true), ds) | none => (((), false), [])) := by
  rw [F29, F29_t, T.run_sub, F39_eq q hl, Option.bind_some]
  cases trOf q with
  | none => rfl
  | some ds => rw [T.run_test, if_pos (by simp), T.run_ret]


def F75_sh : FSh := ⟨[(.one (.si .i64))], []⟩

def F75_fo : List FO := [⟨[(.one .sb)], []⟩]
noncomputable def F75_t : Int → T Bool := fun i =>
 (.sub (F80 (i, ((-1000), (1000 : Int)))) fun z0 =>
 (.ret z0))
noncomputable def F75 (v : Int) : Option Bool := (F75_t v).run
noncomputable def F75_E : TEnv := (E0.add1 n_F80 F80_sh F80_fo F80)
theorem F75_Eok : (F75_E).OK := (E0ok.add1 F80_ok)
noncomputable def F75_told : Nat → Option SealT := fun id => none
theorem F75_ok : FOK Tryz.prog n_F75 F75_sh F75_fo F75 :=
  fn_ok (E := F75_E) (F75_Eok) (told := F75_told) (fl := []) (c := bodyOf fn_F75) (s := F75_sh) (l := F75_fo) (tree := F75_t) fnat_F75 (by kernel_rfl) (by kernel_rfl) (by kernel_rfl) (loopsOK_of (ls := []) (by kernel_rfl) trivial) (fun v => by kernel_rfl)

def F23_sh : FSh := ⟨[(.one (.sl (.int .i64) false false)), (.one (.si .i64))], []⟩

def F23_fo : List FO := [⟨[(.one (.rw 0 0)), (.one .sb)], [(.row 0 (.int .i64))]⟩]
noncomputable def F23_t : (List (Int) × Int) → T ((Unit × Bool) × List (Int)) := fun (quiddity, i) =>
 (.sub (F52 quiddity) fun z0 =>
 (.test (! z0)
 (.test true
 (.ret (((), false), ([] : List (Int))))
 .fail)
 (.sub (F75 i) fun z1 =>
 (.test (! z1)
 (.test true
 (.ret (((), false), ([] : List (Int))))
 .fail)
 (.sub (F70 (quiddity, i)) fun z2 =>
 (.test true
 (.test (decide (0 ≤ ((List.length quiddity) : Int)))
 (.test (decide ((1 ≤ (Int.toNat ((List.length quiddity) : Int))) ∧ ((Int.toNat ((List.length quiddity) : Int)) ≤ (List.length z2.2))))
 (.test (decide ((1 + ((Int.toNat ((List.length quiddity) : Int)) - 1)) ≤ (List.length z2.2)))
 (.sub (F32 (win z2.2 1 ((Int.toNat ((List.length quiddity) : Int)) - 1))) fun z3 =>
 (.test (decide ((0 = 0) ∧ ((List.length z3.2) = (List.length z3.2))))
 (.ret (((), true), z3.2))
 .fail))
 .fail)
 .fail)
 .fail)
 .fail))))))
noncomputable def F23 (v : (List (Int) × Int)) : Option ((Unit × Bool) × List (Int)) := (F23_t v).run
noncomputable def F23_E : TEnv := ((((E0.add1 n_F52 F52_sh F52_fo F52).add1 n_F75 F75_sh F75_fo F75).add1 n_F70 F70_sh F70_fo F70).add1 n_F32 F32_sh F32_fo F32)
theorem F23_Eok : (F23_E).OK := ((((E0ok.add1 F52_ok).add1 F75_ok).add1 F70_ok).add1 F32_ok)
noncomputable def F23_told : Nat → Option SealT := fun id => none
theorem F23_ok : FOK Tryz.prog n_F23 F23_sh F23_fo F23 :=
  fn_ok (E := F23_E) (F23_Eok) (told := F23_told) (fl := []) (c := bodyOf fn_F23) (s := F23_sh) (l := F23_fo) (tree := F23_t) fnat_F23 (by kernel_rfl) (by kernel_rfl) (by kernel_rfl) (loopsOK_of (ls := []) (by kernel_rfl) trivial) (fun v => by kernel_rfl)

theorem F23_at {q : List Int} {ds : List Dg} (h : trOf q = some ds) (hl : q.length < 4611686018427387904) : F23 (q, (0 : Int)) = some (((), true), (List.range (q.length - 1)).map fun (i : Nat) => en (qa q) 0 (i + 1)) := by
  have hb := (trOf_bounds (l := q) (by rw [h]; rfl)).1
  have l1 := ensL_length q 0 (q.length + 1)
  have hw : win (ensL q 0 (q.length + 1)) 1 (q.length - 1) = (List.range (q.length - 1)).map fun (i : Nat) => en (qa q) 0 (i + 1) := by
    apply List.ext_getElem?
    intro i
    unfold win
    by_cases hi : i < q.length - 1
    · rw [List.getElem?_take_of_lt hi, List.getElem?_drop, ensL_get (by omega), Nat.add_comm 1 i]
      simp [hi]
    · rw [List.getElem?_eq_none (by rw [List.length_take]; omega), List.getElem?_eq_none (by simp; omega)]
  rw [F23, F23_t, T.run_sub, F52_eq q hl, Option.bind_some, T.run_test, h, if_neg (by simp), T.run_sub, F75, F75_t, T.run_sub, F80_eq, Option.bind_some, T.run_ret, Option.bind_some, T.run_test, if_neg (by decide), T.run_sub, F70_eq h 0 (by omega), Option.bind_some, T.run_test, if_pos rfl, T.run_test, if_pos (decide_eq_true (by omega)), Int.toNat_natCast, T.run_test, if_pos (decide_eq_true (by dsimp only; omega)), T.run_test, if_pos (decide_eq_true (by dsimp only; omega)), T.run_sub]
  dsimp only
  have hc : F32 ((List.range (q.length - 1)).map fun (i : Nat) => en (qa q) 0 (i + 1)) = some ((), (List.range (q.length - 1)).map fun (i : Nat) => en (qa q) 0 (i + 1)) := by
    unfold F32
    rw [if_pos ⟨by unfold maxLen; simp; omega, by simp; omega⟩]
  rw [hw, hc, Option.bind_some, T.run_test, if_pos (by simp), T.run_ret]


def F93_sh : FSh := ⟨[(.one (.sl (.int .i64) false false)), (.one (.sl (.int .i64) false false))], []⟩

def F93_L4_sh : LSh := ⟨(fun ex => match ex with | .norm => [(0, none), (1, none), (12, none), (13, none)] | .exit i => if i = 0 then [] else [] | .ret => [(4, none)]), [(0, (.one (.sl (.int .i64) false false))), (1, (.one (.sl (.int .i64) false false))), (12, (.one (.si .i64))), (13, (.one (.si .i64)))], [], [⟨.ret, [(4, (.one .sb))], []⟩, ⟨(.exit 0), [], []⟩], [], []⟩
noncomputable def F93_L4_step : (List (Int) × List (Int) × Int × Int) → T ((List (Int) × List (Int) × Int × Int) ⊕ (Bool ⊕ Unit)) := fun (a, b, t12, t13) =>
 (.test (decide (t13 < t12))
 (.test (decide ((0 ≤ t13) ∧ (t13 < ((List.length a) : Int))))
 (.sub (a[(Int.toNat t13)]?) fun z0 =>
 (.test (decide ((0 ≤ t13) ∧ (t13 < ((List.length b) : Int))))
 (.sub (b[(Int.toNat t13)]?) fun z1 =>
 (.test (z0 != z1)
 (.ret (Sum.inr (Sum.inl false)))
 (.ret (Sum.inl (a, (b, (t12, (w64 (t13 + 1)))))))))
 .fail))
 .fail)
 (.ret (Sum.inr (Sum.inr ()))))
noncomputable def F93_L4 (v : (List (Int) × List (Int) × Int × Int)) : Option (Bool ⊕ Unit) := loopO (fun v => (F93_L4_step v).run) v

def F93_fo : List FO := [⟨[(.one .sb)], []⟩]
noncomputable def F93_t : (List (Int) × List (Int)) → T Bool := fun (a, b) =>
 (.test (((List.length a) : Int) != ((List.length b) : Int))
 (.ret false)
 (.sub (F93_L4 (a, (b, (((List.length a) : Int), (0 : Int))))) fun z0 =>
 (.test (Sum.isLeft z0)
 (.sub (Sum.getLeft? z0) fun z1 =>
 (.ret z1))
 (.sub (Sum.getRight? z0) fun z2 =>
 (.ret true)))))
noncomputable def F93 (v : (List (Int) × List (Int))) : Option Bool := (F93_t v).run
noncomputable def F93_E : TEnv := E0
theorem F93_Eok : (F93_E).OK := E0ok
noncomputable def F93_told : Nat → Option SealT := fun id => if id = 4 then some (LSh.told F93_L4_sh 0 (F93_L4_step)) else none
theorem F93_L4_ok : ToldOK Tryz.prog 0 (loopAt (bodyOf fn_F93) [0]) (LSh.told F93_L4_sh 0 (F93_L4_step)) :=
  loop_ok (E := F93_E) (F93_Eok) (told := F93_told) (l := F93_L4_sh) (step := F93_L4_step) (loopsOK_of (ls := []) (by kernel_rfl) trivial) (by kernel_rfl) (fun v => by kernel_rfl)
theorem F93_ok : FOK Tryz.prog n_F93 F93_sh F93_fo F93 :=
  fn_ok (E := F93_E) (F93_Eok) (told := F93_told) (fl := []) (c := bodyOf fn_F93) (s := F93_sh) (l := F93_fo) (tree := F93_t) fnat_F93 (by kernel_rfl) (by kernel_rfl) (by kernel_rfl) (loopsOK_of (ls := [loopAt (bodyOf fn_F93) [0]]) (by kernel_rfl) ⟨.inr ⟨_, by kernel_rfl, F93_L4_ok⟩, trivial⟩) (fun v => by kernel_rfl)

theorem uSame_val (a b : List Int) (hl : a.length < 4611686018427387904) : F93 (a, b) = some (decide (a = b)) := by
  rw [F93, F93_t, T.run_test]
  by_cases he : a.length = b.length
  · have h := cmp_loop (step := fun v => (F93_L4_step v).run) a b (fun k => (a, (b, ((a.length : Int), (k : Int))))) he
      (fun k x y hx hy => by
        have k1 := getElem?_lt hx
        have k2 := getElem?_lt hy
        have w1 : w64 ((k : Int) + 1) = ((k + 1 : Nat) : Int) := by rw [w64_id (by omega) (by omega)]; omega
        rw [F93_L4_step, T.run_test, if_pos (decide_eq_true (by omega)), T.run_test, if_pos (decide_eq_true (by omega)), T.run_sub, Int.toNat_natCast, hx, Option.bind_some, T.run_test, if_pos (decide_eq_true (by omega)), T.run_sub, hy, Option.bind_some, T.run_test]
        by_cases e : x = y
        · rw [if_neg (by simp [e]), if_pos e, T.run_ret, w1]
        · rw [if_pos (by simp [e]), if_neg e, T.run_ret])
      (by rw [F93_L4_step, T.run_test, if_neg (by simp), T.run_ret])
    have h' : F93_L4 (a, (b, ((a.length : Int), (0 : Int)))) = _ := h
    rw [if_neg (by simp [he]), T.run_sub, h', Option.bind_some]
    by_cases e : a = b
    · rw [if_pos e, decide_eq_true e]; rfl
    · rw [if_neg e, decide_eq_false e]; rfl
  · rw [if_pos (by simp; omega), T.run_ret, decide_eq_false fun e => he (by rw [e])]


def F94_sh : FSh := ⟨[(.one (.sl (.pair (.int .i64) (.int .i64)) false false)), (.one (.sl (.pair (.int .i64) (.int .i64)) false false))], []⟩

def F94_L4_sh : LSh := ⟨(fun ex => match ex with | .norm => [(0, none), (1, none), (12, none), (13, none)] | .exit i => if i = 0 then [] else [] | .ret => [(4, none)]), [(0, (.one (.sl (.pair (.int .i64) (.int .i64)) false false))), (1, (.one (.sl (.pair (.int .i64) (.int .i64)) false false))), (12, (.one (.si .i64))), (13, (.one (.si .i64)))], [], [⟨.ret, [(4, (.one .sb))], []⟩, ⟨(.exit 0), [], []⟩], [], []⟩
noncomputable def F94_L4_step : (List ((Int × Int)) × List ((Int × Int)) × Int × Int) → T ((List ((Int × Int)) × List ((Int × Int)) × Int × Int) ⊕ (Bool ⊕ Unit)) := fun (a, b, t12, t13) =>
 (.test (decide (t13 < t12))
 (.test (decide ((0 ≤ t13) ∧ (t13 < ((List.length a) : Int))))
 (.sub (a[(Int.toNat t13)]?) fun z0 =>
 (.test (decide ((0 ≤ t13) ∧ (t13 < ((List.length b) : Int))))
 (.sub (b[(Int.toNat t13)]?) fun z1 =>
 (.test (! ((z0.1 == z1.1) && ((z0.2 == z1.2) && true)))
 (.ret (Sum.inr (Sum.inl false)))
 (.ret (Sum.inl (a, (b, (t12, (w64 (t13 + 1)))))))))
 .fail))
 .fail)
 (.ret (Sum.inr (Sum.inr ()))))
noncomputable def F94_L4 (v : (List ((Int × Int)) × List ((Int × Int)) × Int × Int)) : Option (Bool ⊕ Unit) := loopO (fun v => (F94_L4_step v).run) v

def F94_fo : List FO := [⟨[(.one .sb)], []⟩]
noncomputable def F94_t : (List ((Int × Int)) × List ((Int × Int))) → T Bool := fun (a, b) =>
 (.test (((List.length a) : Int) != ((List.length b) : Int))
 (.ret false)
 (.sub (F94_L4 (a, (b, (((List.length a) : Int), (0 : Int))))) fun z0 =>
 (.test (Sum.isLeft z0)
 (.sub (Sum.getLeft? z0) fun z1 =>
 (.ret z1))
 (.sub (Sum.getRight? z0) fun z2 =>
 (.ret true)))))
noncomputable def F94 (v : (List ((Int × Int)) × List ((Int × Int)))) : Option Bool := (F94_t v).run
noncomputable def F94_E : TEnv := E0
theorem F94_Eok : (F94_E).OK := E0ok
noncomputable def F94_told : Nat → Option SealT := fun id => if id = 4 then some (LSh.told F94_L4_sh 0 (F94_L4_step)) else none
theorem F94_L4_ok : ToldOK Tryz.prog 0 (loopAt (bodyOf fn_F94) [0]) (LSh.told F94_L4_sh 0 (F94_L4_step)) :=
  loop_ok (E := F94_E) (F94_Eok) (told := F94_told) (l := F94_L4_sh) (step := F94_L4_step) (loopsOK_of (ls := []) (by kernel_rfl) trivial) (by kernel_rfl) (fun v => by kernel_rfl)
theorem F94_ok : FOK Tryz.prog n_F94 F94_sh F94_fo F94 :=
  fn_ok (E := F94_E) (F94_Eok) (told := F94_told) (fl := []) (c := bodyOf fn_F94) (s := F94_sh) (l := F94_fo) (tree := F94_t) fnat_F94 (by kernel_rfl) (by kernel_rfl) (by kernel_rfl) (loopsOK_of (ls := [loopAt (bodyOf fn_F94) [0]]) (by kernel_rfl) ⟨.inr ⟨_, by kernel_rfl, F94_L4_ok⟩, trivial⟩) (fun v => by kernel_rfl)

theorem uCuts_val (a b : List (Int × Int)) (hl : a.length < 4611686018427387904) : F94 (a, b) = some (decide (a = b)) := by
  rw [F94, F94_t, T.run_test]
  by_cases he : a.length = b.length
  · have h := cmp_loop (step := fun v => (F94_L4_step v).run) a b (fun k => (a, (b, ((a.length : Int), (k : Int))))) he
      (fun k x y hx hy => by
        have k1 := getElem?_lt hx
        have k2 := getElem?_lt hy
        have w1 : w64 ((k : Int) + 1) = ((k + 1 : Nat) : Int) := by rw [w64_id (by omega) (by omega)]; omega
        rw [F94_L4_step, T.run_test, if_pos (decide_eq_true (by omega)), T.run_test, if_pos (decide_eq_true (by omega)), T.run_sub, Int.toNat_natCast, hx, Option.bind_some, T.run_test, if_pos (decide_eq_true (by omega)), T.run_sub, hy, Option.bind_some, T.run_test]
        by_cases e : x = y
        · rw [if_neg (by simp [e]), if_pos e, T.run_ret, w1]
        · rw [if_pos (by
            obtain ⟨x1, x2⟩ := x
            obtain ⟨y1, y2⟩ := y
            simp only [Prod.mk.injEq] at e
            by_cases e1 : x1 = y1
            · have e2 : x2 ≠ y2 := fun h => e ⟨e1, h⟩
              simp [e2]
            · simp [e1]), if_neg e, T.run_ret])
      (by rw [F94_L4_step, T.run_test, if_neg (by simp), T.run_ret])
    have h' : F94_L4 (a, (b, ((a.length : Int), (0 : Int)))) = _ := h
    rw [if_neg (by simp [he]), T.run_sub, h', Option.bind_some]
    by_cases e : a = b
    · rw [if_pos e, decide_eq_true e]; rfl
    · rw [if_neg e, decide_eq_false e]; rfl
  · rw [if_pos (by simp; omega), T.run_ret, decide_eq_false fun e => he (by rw [e])]


def F76_sh : FSh := ⟨[(.ag [(.si .i64), (.si .i64)]), (.ag [(.si .i64), (.si .i64)])], []⟩

def F76_fo : List FO := [⟨[(.one (.si .i64)), (.one .sb)], []⟩]
noncomputable def F76_t : ((Int × Int) × (Int × Int)) → T (Int × Bool) := fun ((f_0, f_1), (g_0, g_1)) =>
 (.test (decide (2 ≤ 2))
 (.sub (F40 [(f_0, f_1), (g_0, g_1)]) fun z0 =>
 (.test (! z0)
 (.ret ((0 : Int), false))
 (.sub (F92 ((f_0, f_1), (g_0, g_1))) fun z1 =>
 (.ret (z1, true)))))
 .fail)
noncomputable def F76 (v : ((Int × Int) × (Int × Int))) : Option (Int × Bool) := (F76_t v).run
noncomputable def F76_E : TEnv := ((E0.add1 n_F40 F40_sh F40_fo F40).add1 n_F92 F92_sh F92_fo F92)
theorem F76_Eok : (F76_E).OK := ((E0ok.add1 F40_ok).add1 F92_ok)
noncomputable def F76_told : Nat → Option SealT := fun id => none
theorem F76_ok : FOK Tryz.prog n_F76 F76_sh F76_fo F76 :=
  fn_ok (E := F76_E) (F76_Eok) (told := F76_told) (fl := []) (c := bodyOf fn_F76) (s := F76_sh) (l := F76_fo) (tree := F76_t) fnat_F76 (by kernel_rfl) (by kernel_rfl) (by kernel_rfl) (loopsOK_of (ls := []) (by kernel_rfl) trivial) (fun v => by kernel_rfl)

theorem F76_eq {f g : Fr} (hf : fracB f = true) (hg : fracB g = true) : F76 (f, g) = some (crossF f g, true) := by
  have e := (crossW_eq hf hg).1
  obtain ⟨a, b⟩ := f
  obtain ⟨c, d⟩ := g
  rw [F76, F76_t, T.run_test, if_pos (by decide), T.run_sub, F40_eq _ (by simp), Option.bind_some, T.run_test, if_neg (by simp [hf, hg]), T.run_sub, F92_eq, e, Option.bind_some, T.run_ret]


def F77_sh : FSh := ⟨[(.one (.sl (.int .i64) false false)), (.one (.si .i64)), (.one (.si .i64))], []⟩

def F77_fo : List FO := [⟨[(.one .sb)], []⟩]
noncomputable def F77_t : (List (Int) × Int × Int) → T Bool := fun (quiddity, i, j) =>
 (.sub (F52 quiddity) fun z0 =>
 (.test z0
 (.sub (F75 i) fun z1 =>
 (.test z1
 (.sub (F80 (j, (i, (w64 (i + ((List.length quiddity) : Int)))))) fun z2 =>
 (.ret z2))
 (.ret false)))
 (.ret false)))
noncomputable def F77 (v : (List (Int) × Int × Int)) : Option Bool := (F77_t v).run
noncomputable def F77_E : TEnv := (((E0.add1 n_F52 F52_sh F52_fo F52).add1 n_F75 F75_sh F75_fo F75).add1 n_F80 F80_sh F80_fo F80)
theorem F77_Eok : (F77_E).OK := (((E0ok.add1 F52_ok).add1 F75_ok).add1 F80_ok)
noncomputable def F77_told : Nat → Option SealT := fun id => none
theorem F77_ok : FOK Tryz.prog n_F77 F77_sh F77_fo F77 :=
  fn_ok (E := F77_E) (F77_Eok) (told := F77_told) (fl := []) (c := bodyOf fn_F77) (s := F77_sh) (l := F77_fo) (tree := F77_t) fnat_F77 (by kernel_rfl) (by kernel_rfl) (by kernel_rfl) (loopsOK_of (ls := []) (by kernel_rfl) trivial) (fun v => by kernel_rfl)

theorem F77_eq (q : List Int) (hl : q.length < 4611686018427387904) (i j : Int) : F77 (q, (i, j)) = some ((trOf q).isSome && (inB (-1000) 1000 i && inB i (i + q.length) j)) := by
  rw [F77, F77_t, T.run_sub, F52_eq q hl, Option.bind_some, T.run_test]
  cases h : (trOf q).isSome with
  | false => rfl
  | true =>
    have hb := (trOf_bounds h).1
    have e : F75 i = some (inB (-1000) 1000 i) := by rw [F75, F75_t, T.run_sub, F80_eq, Option.bind_some, T.run_ret]
    rw [if_pos rfl, T.run_sub, e, Option.bind_some, T.run_test]
    cases h2 : inB (-1000) 1000 i with
    | false => rfl
    | true =>
      rw [inB_iff] at h2
      rw [if_pos rfl, T.run_sub, F80_eq, w64_id (by omega) (by omega), Option.bind_some, T.run_ret]
      rfl


def F78_sh : FSh := ⟨[(.one (.sl (.int .i64) false false)), (.one (.si .i64)), (.one (.si .i64))], []⟩

def F78_fo : List FO := [⟨[(.one (.si .i64)), (.one .sb)], []⟩]
noncomputable def F78_t : (List (Int) × Int × Int) → T (Int × Bool) := fun (quiddity, i, j) =>
 (.sub (F77 (quiddity, (i, j))) fun z0 =>
 (.test (! z0)
 (.ret ((0 : Int), false))
 (.sub (F70 (quiddity, i)) fun z1 =>
 (.test (decide ((0 ≤ (w64 (j - i))) ∧ ((w64 (j - i)) < ((List.length z1.2) : Int))))
 (.sub (z1.2[(0 + (Int.toNat (w64 (j - i))))]?) fun z2 =>
 (.ret (z2, true)))
 .fail))))
noncomputable def F78 (v : (List (Int) × Int × Int)) : Option (Int × Bool) := (F78_t v).run
noncomputable def F78_E : TEnv := ((E0.add1 n_F77 F77_sh F77_fo F77).add1 n_F70 F70_sh F70_fo F70)
theorem F78_Eok : (F78_E).OK := ((E0ok.add1 F77_ok).add1 F70_ok)
noncomputable def F78_told : Nat → Option SealT := fun id => none
theorem F78_ok : FOK Tryz.prog n_F78 F78_sh F78_fo F78 :=
  fn_ok (E := F78_E) (F78_Eok) (told := F78_told) (fl := []) (c := bodyOf fn_F78) (s := F78_sh) (l := F78_fo) (tree := F78_t) fnat_F78 (by kernel_rfl) (by kernel_rfl) (by kernel_rfl) (loopsOK_of (ls := []) (by kernel_rfl) trivial) (fun v => by kernel_rfl)

def entR (q : List Int) (i j : Int) : Int × Bool := if (trOf q).isSome && (inB (-1000) 1000 i && inB i (i + q.length) j) then (en (qa q) i (j - i).toNat, true) else (0, false)
theorem F78_eq (q : List Int) (hl : q.length < 4611686018427387904) (i j : Int) : F78 (q, (i, j)) = some (entR q i j) := by
  rw [F78, F78_t, T.run_sub, F77_eq q hl, Option.bind_some, T.run_test]
  unfold entR
  cases hc : ((trOf q).isSome && (inB (-1000) 1000 i && inB i (i + q.length) j)) with
  | false => rfl
  | true =>
    rw [Bool.and_eq_true, Bool.and_eq_true, inB_iff, inB_iff] at hc
    obtain ⟨ds, h⟩ := Option.isSome_iff_exists.1 hc.1
    have hb := (trOf_bounds hc.1).1
    have w : w64 (j - i) = j - i := w64_id (by omega) (by omega)
    have e := ensL_get (q := q) (i := i) (k := q.length + 1) (t := (j - i).toNat) (by omega)
    rw [if_neg (by simp), if_pos rfl, T.run_sub, F70_eq h i (by omega), Option.bind_some, w, T.run_test, if_pos (decide_eq_true (by rw [ensL_length]; omega)), T.run_sub, Nat.zero_add, e, Option.bind_some, T.run_ret]


def F63_sh : FSh := ⟨[(.ag [(.si .i64), (.si .i64)]), (.ag [(.si .i64), (.si .i64)])], []⟩

def F63_fo : List FO := [⟨[(.ag [(.si .i64), (.si .i64)])], []⟩]
noncomputable def F63_t : ((Int × Int) × (Int × Int)) → T (Int × Int) := fun ((f_0, f_1), (g_0, g_1)) =>
 (.ret ((w64 (f_0 + g_0)), (w64 (f_1 + g_1))))
noncomputable def F63 (v : ((Int × Int) × (Int × Int))) : Option (Int × Int) := (F63_t v).run
noncomputable def F63_E : TEnv := E0
theorem F63_Eok : (F63_E).OK := E0ok
noncomputable def F63_told : Nat → Option SealT := fun id => none
theorem F63_ok : FOK Tryz.prog n_F63 F63_sh F63_fo F63 :=
  fn_ok (E := F63_E) (F63_Eok) (told := F63_told) (fl := []) (c := bodyOf fn_F63) (s := F63_sh) (l := F63_fo) (tree := F63_t) fnat_F63 (by kernel_rfl) (by kernel_rfl) (by kernel_rfl) (loopsOK_of (ls := []) (by kernel_rfl) trivial) (fun v => by kernel_rfl)

def F36_sh : FSh := ⟨[(.one (.pf 0 0 0))], [(.rcd 0 [(.sl (.int .u8) false true), (.si .i64), (.si .u64)])]⟩

def F36_L5_sh : LSh := ⟨(fun ex => match ex with | .norm => [(0, none), (2, none), (3, none), (4, none), (5, none)] | .exit i => if i = 0 then [(2, none), (3, none), (4, none)] else [] | .ret => [(2, none)]), [(0, (.one (.pf 0 0 0))), (2, (.one (.pf 1 0 0))), (3, (.one (.pf 2 0 0))), (4, (.one (.pf 3 0 0))), (5, (.one (.si .i64)))], [(.rcd 0 [(.sl (.int .u8) false true), (.si .i64), (.si .u64)]), (.rcd 0 [(.si .i64), (.si .i64)]), (.rcd 0 [(.si .i64), (.si .i64)]), (.rcd 0 [(.si .i64), (.si .i64)])], [⟨(.exit 0), [(2, (.one (.pf 1 0 0))), (3, (.one (.pf 2 0 0))), (4, (.one (.pf 3 0 0)))], [(.rcd 0 [(.sl (.int .u8) false true), (.si .i64), (.si .u64)]), (.rcd 0 [(.si .i64), (.si .i64)]), (.rcd 0 [(.si .i64), (.si .i64)]), (.rcd 0 [(.si .i64), (.si .i64)])]⟩], [], []⟩
noncomputable def F36_L5_step : ((Unit × Unit × Unit × Unit × Int) × ((List (Int) × Int × Int) × (Int × Int) × (Int × Int) × (Int × Int))) → T (((Unit × Unit × Unit × Unit × Int) × ((List (Int) × Int × Int) × (Int × Int) × (Int × Int) × (Int × Int))) ⊕ ((Unit × Unit × Unit) × ((List (Int) × Int × Int) × (Int × Int) × (Int × Int) × (Int × Int)))) := fun (((), (), (), (), k), ((c_0, c_1, c_2), (t2_0, t2_1), (low_0, low_1), (high_0, high_1))) =>
 (.test (decide (k > 0))
 (.sub (F63 ((low_0, low_1), (high_0, high_1))) fun z0 =>
 (.sub (F58 (((), (2 : Int)), (c_0, (c_1, c_2)))) fun z1 =>
 (.test z1.1
 (.ret (Sum.inl (((), ((), ((), ((), (w64 (k - 1)))))), ((z1.2.1, (z1.2.2.1, z1.2.2.2)), ((t2_0, t2_1), ((z0.1, z0.2), (high_0, high_1)))))))
 (.ret (Sum.inl (((), ((), ((), ((), (w64 (k - 1)))))), ((z1.2.1, (z1.2.2.1, z1.2.2.2)), ((t2_0, t2_1), ((low_0, low_1), (z0.1, z0.2))))))))))
 (.ret (Sum.inr (((), ((), ())), ((c_0, (c_1, c_2)), ((t2_0, t2_1), ((low_0, low_1), (high_0, high_1))))))))
noncomputable def F36_L5 (v : ((Unit × Unit × Unit × Unit × Int) × ((List (Int) × Int × Int) × (Int × Int) × (Int × Int) × (Int × Int)))) : Option ((Unit × Unit × Unit) × ((List (Int) × Int × Int) × (Int × Int) × (Int × Int) × (Int × Int))) := loopO (fun v => (F36_L5_step v).run) v

def F36_fo : List FO := [⟨[(.ag [(.si .i64), (.si .i64)])], [(.rcd 0 [(.sl (.int .u8) false true), (.si .i64), (.si .u64)])]⟩]
noncomputable def F36_t : (Unit × (List (Int) × Int × Int)) → T ((Int × Int) × (List (Int) × Int × Int)) := fun ((), (c_0, c_1, c_2)) =>
 (.sub (F58 (((), (10 : Int)), (c_0, (c_1, c_2)))) fun z0 =>
 (.test z0.1
 (.test true
 (.sub (F43 (((), (win (List.set (List.set (List.set (List.set (List.set (List.set (List.replicate 6 (0 : Int)) 0 (0 : Int)) 1 (1 : Int)) 2 (2 : Int)) 3 (-1)) 4 (1000000 : Int)) 5 (1000001 : Int)) 0 6)), (z0.2.1, (z0.2.2.1, z0.2.2.2)))) fun z1 =>
 (.test true
 (.sub (F43 (((), (win (List.set (List.set (List.set (List.set (List.set (List.set (List.replicate 6 (0 : Int)) 0 (0 : Int)) 1 (1 : Int)) 2 (2 : Int)) 3 (4 : Int)) 4 (-1)) 5 (999999 : Int)) 0 6)), (z1.2.1, (z1.2.2.1, z1.2.2.2)))) fun z2 =>
 (.ret ((z1.1, z2.1), (z2.2.1, (z2.2.2.1, z2.2.2.2)))))
 .fail))
 .fail)
 (.sub (F50 (((), (8 : Int)), (z0.2.1, (z0.2.2.1, z0.2.2.2)))) fun z3 =>
 (.sub (F36_L5 (((), ((), ((), ((), z3.1)))), ((z3.2.1, (z3.2.2.1, z3.2.2.2)), (((0 : Int), (0 : Int)), (((0 : Int), (1 : Int)), ((1 : Int), (0 : Int))))))) fun z4 =>
 (.sub (F63 ((z4.2.2.2.1.1, z4.2.2.2.1.2), (z4.2.2.2.2.1, z4.2.2.2.2.2))) fun z5 =>
 (.ret ((z5.1, z5.2), (z4.2.1.1, (z4.2.1.2.1, z4.2.1.2.2)))))))))
noncomputable def F36 (v : (Unit × (List (Int) × Int × Int))) : Option ((Int × Int) × (List (Int) × Int × Int)) := (F36_t v).run
noncomputable def F36_E : TEnv := ((((E0.add1 n_F58 F58_sh F58_fo F58).add1 n_F43 F43_sh F43_fo F43).add1 n_F50 F50_sh F50_fo F50).add1 n_F63 F63_sh F63_fo F63)
theorem F36_Eok : (F36_E).OK := ((((E0ok.add1 F58_ok).add1 F43_ok).add1 F50_ok).add1 F63_ok)
noncomputable def F36_told : Nat → Option SealT := fun id => if id = 5 then some (LSh.told F36_L5_sh 1 (F36_L5_step)) else none
theorem F36_L5_ok : ToldOK Tryz.prog 1 (loopAt (bodyOf fn_F36) [0]) (LSh.told F36_L5_sh 1 (F36_L5_step)) :=
  loop_ok (E := F36_E) (F36_Eok) (told := F36_told) (l := F36_L5_sh) (step := F36_L5_step) (loopsOK_of (ls := []) (by kernel_rfl) trivial) (by kernel_rfl) (fun v => by kernel_rfl)
theorem F36_ok : FOK Tryz.prog n_F36 F36_sh F36_fo F36 :=
  fn_ok (E := F36_E) (F36_Eok) (told := F36_told) (fl := []) (c := bodyOf fn_F36) (s := F36_sh) (l := F36_fo) (tree := F36_t) fnat_F36 (by kernel_rfl) (by kernel_rfl) (by kernel_rfl) (loopsOK_of (ls := [loopAt (bodyOf fn_F36) [0]]) (by kernel_rfl) ⟨.inr ⟨_, by kernel_rfl, F36_L5_ok⟩, trivial⟩) (fun v => by kernel_rfl)

theorem fraction_L5_ok (t2 : Int × Int) : ∀ (m : Nat) (K : Int) (c : List Int × Int × Int) (lo hi : Int × Int), curOK K c → K + 2 * (m : Int) < 1000000000000 →
    ∃ c' lo' hi', F36_L5 (((), ((), ((), ((), (m : Int))))), (c, (t2, (lo, hi)))) = some (((), ((), ())), (c', (t2, (lo', hi')))) ∧ curOK (K + 2 * (m : Int)) c' := by
  obtain ⟨t0, t1⟩ := t2
  intro m
  induction m with
  | zero =>
    intro K c lo hi hc hK
    obtain ⟨c0, c1, c2⟩ := c
    obtain ⟨l0, l1⟩ := lo
    obtain ⟨h0, h1⟩ := hi
    refine ⟨(c0, c1, c2), (l0, l1), (h0, h1), ?_, hc.mono (by omega)⟩
    simp only [F36_L5]
    refine loopO_done ?_
    rw [F36_L5_step, T.run_test, if_neg (by rw [decide_eq_true_eq]; omega), T.run_ret]
  | succ m ih =>
    intro K c lo hi hc hK
    obtain ⟨c0, c1, c2⟩ := c
    obtain ⟨l0, l1⟩ := lo
    obtain ⟨h0, h1⟩ := hi
    have hK0 : 0 ≤ K := Int.le_trans hc.2.1 hc.2.2
    obtain ⟨b, ⟨d0, d1, d2⟩, e, hc1⟩ := one_ok 2 hc (by omega)
    have wm : w64 (((m + 1 : Nat) : Int) - 1) = (m : Int) := by rw [w64_id (by omega) (by omega)]; omega
    have hm : F63 ((l0, l1), (h0, h1)) = some (w64 (l0 + h0), w64 (l1 + h1)) := rfl
    cases b with
    | true =>
      obtain ⟨c3, lo3, hi3, e4, hc4⟩ := ih (K + 2) (d0, d1, d2) (w64 (l0 + h0), w64 (l1 + h1)) (h0, h1) hc1 (by omega)
      refine ⟨c3, lo3, hi3, ?_, hc4.mono (by omega)⟩
      simp only [F36_L5] at e4 ⊢
      rw [← e4]
      refine loopO_next ?_
      rw [F36_L5_step, T.run_test, if_pos (decide_eq_true (by omega)), T.run_sub, hm, Option.bind_some, T.run_sub, e, Option.bind_some, T.run_test, if_pos rfl, T.run_ret, wm]
    | false =>
      obtain ⟨c3, lo3, hi3, e4, hc4⟩ := ih (K + 2) (d0, d1, d2) (l0, l1) (w64 (l0 + h0), w64 (l1 + h1)) hc1 (by omega)
      refine ⟨c3, lo3, hi3, ?_, hc4.mono (by omega)⟩
      simp only [F36_L5] at e4 ⊢
      rw [← e4]
      refine loopO_next ?_
      rw [F36_L5_step, T.run_test, if_pos (decide_eq_true (by omega)), T.run_sub, hm, Option.bind_some, T.run_sub, e, Option.bind_some, T.run_test, if_neg (by simp), T.run_ret, wm]
theorem fraction_ok {K : Int} {c : List Int × Int × Int} (h : curOK K c) (hK : K < 10000000) : ∃ f c', F36 ((), c) = some (f, c') ∧ curOK (K + 30) c' := by
  obtain ⟨c0, c1, c2⟩ := c
  obtain ⟨b, ⟨d0, d1, d2⟩, e, hc⟩ := one_ok 10 h (by omega)
  rw [F36, F36_t, T.run_sub, e, Option.bind_some, T.run_test]
  cases b with
  | true =>
    have hw1 : (win (List.set (List.set (List.set (List.set (List.set (List.set (List.replicate 6 (0 : Int)) 0 (0 : Int)) 1 (1 : Int)) 2 (2 : Int)) 3 (-1)) 4 (1000000 : Int)) 5 (1000001 : Int)) 0 6) = [0, 1, 2, -1, 1000000, 1000001] := rfl
    have hw2 : (win (List.set (List.set (List.set (List.set (List.set (List.set (List.replicate 6 (0 : Int)) 0 (0 : Int)) 1 (1 : Int)) 2 (2 : Int)) 3 (4 : Int)) 4 (-1)) 5 (999999 : Int)) 0 6) = [0, 1, 2, 4, -1, 999999] := rfl
    obtain ⟨x1, ⟨f0, f1, f2⟩, e1, _, hc1⟩ := among_ok [0, 1, 2, -1, 1000000, 1000001] hc (by omega) (by simp)
    obtain ⟨x2, ⟨g0, g1, g2⟩, e2, _, hc2⟩ := among_ok [0, 1, 2, 4, -1, 999999] hc1 (by omega) (by simp)
    rw [if_pos rfl, T.run_test, if_pos rfl, T.run_sub, hw1, e1, Option.bind_some, T.run_test, if_pos rfl, T.run_sub, hw2, e2, Option.bind_some, T.run_ret]
    exact ⟨_, _, rfl, hc2.mono (by omega)⟩
  | false =>
    obtain ⟨v, ⟨f0, f1, f2⟩, e1, v0, v1, _, hc1⟩ := pick_ok 8 hc (by omega)
    have v1 := v1 (by omega)
    obtain ⟨n, hn⟩ : ∃ n : Nat, v = (n : Int) := ⟨v.toNat, by omega⟩
    subst hn
    obtain ⟨⟨g0, g1, g2⟩, ⟨l0, l1⟩, ⟨h0, h1⟩, e2, hc2⟩ := fraction_L5_ok (0, 0) n _ _ (0, 1) (1, 0) hc1 (by omega)
    have hm : F63 ((l0, l1), (h0, h1)) = some (w64 (l0 + h0), w64 (l1 + h1)) := rfl
    rw [if_neg (by simp), T.run_sub, e1, Option.bind_some, T.run_sub, e2, Option.bind_some, T.run_sub, hm, Option.bind_some, T.run_ret]
    exact ⟨_, _, rfl, hc2.mono (by omega)⟩



theorem sureF_loop (n : Int) (hn : n ≤ 12) : ∀ (m : Nat) (K : Int) (c : List Int × Int × Int) (out : List Int), curOK K c → K + 2 * (m : Int) < 10000000000 → (trOf out).isSome = true → 12 ≤ out.length + m →
    ∃ c' out', F18_L2 (((), (n, ())), (c, out)) = some ((), (c', out')) ∧ (trOf out').isSome = true ∧ curOK (K + 2 * (m : Int)) c' := by
  intro m
  induction m with
  | zero =>
    intro K c out h hK htr hm
    obtain ⟨⟨h3, h20⟩, hv12⟩ := trOf_bounds htr
    obtain ⟨c0, c1, c2⟩ := c
    have c9 : ¬ ((out.length : Int) < n) := by omega
    refine ⟨_, out, ?_, htr, h.mono (by omega)⟩
    simp only [F18_L2]
    exact loopO_done (by simp [F18_L2_step, T.run, c9])
  | succ m ih =>
    intro K c out h hK htr hm
    obtain ⟨⟨h3, h20⟩, hv12⟩ := trOf_bounds htr
    obtain ⟨c0, c1, c2⟩ := c
    by_cases c9 : (out.length : Int) < n
    · obtain ⟨v, ⟨d0, d1, d2⟩, e, h0, h1, h2, hc⟩ := pick_ok (out.length : Int) h (by omega)
      have h1 := h1 (by omega)
      obtain ⟨v, rfl⟩ := Int.eq_ofNat_of_zero_le h0
      have w1 : w64 (1 + (v : Int)) = ((v + 1 : Nat) : Int) := by rw [w64_id (by omega) (by omega)]; omega
      have w2 : w64 (((v + 1 : Nat) : Int) - 1) = (v : Int) := by rw [w64_id (by omega) (by omega)]; omega
      have w3 : w64 (((v + 1 : Nat) : Int) + 1) = ((v + 2 : Nat) : Int) := by rw [w64_id (by omega) (by omega)]; omega
      have hv : v < out.length := by omega
      have l1 : (win out 0 (v + 1)).length = v + 1 := win_len _ _ _ (by omega)
      have l2 : (win out (v + 1) (out.length - (v + 1))).length = out.length - (v + 1) := win_len _ _ _ (by omega)
      have ow := F86_eq (win out 0 (v + 1)) (by omega)
      obtain ⟨W1, hW1⟩ : ∃ W, W = win out 0 (v + 1) := ⟨_, rfl⟩
      obtain ⟨W2, hW2⟩ : ∃ W, W = win out (v + 1) (out.length - (v + 1)) := ⟨_, rfl⟩
      rw [← hW1] at l1 ow
      rw [← hW2] at l2
      have hw : win (W1 ++ [1]) 0 (v + 1 + 1) = W1 ++ [1] := by
        have := win_all (W1 ++ [(1 : Int)])
        rwa [List.length_append, l1] at this
      have hwa : win W1 0 (v + 1) = W1 := by have := win_all W1; rwa [l1] at this
      obtain ⟨L, hL⟩ : ∃ L, L = (W1 ++ [1]) ++ W2 := ⟨_, rfl⟩
      have hLl : L.length = v + 1 + 1 + (out.length - (v + 1)) := by rw [hL]; simp [l1, l2]; omega
      have t1 : Int.tmod ((v + 2 : Nat) : Int) ((v + 1 + 1 + (out.length - (v + 1)) : Nat) : Int) = (((v + 2) % (v + 1 + 1 + (out.length - (v + 1))) : Nat) : Int) := by
        rw [Int.tmod_eq_emod_of_nonneg (by omega)]
        rfl
      have t2 : (v + 2) % (v + 1 + 1 + (out.length - (v + 1))) < v + 1 + 1 + (out.length - (v + 1)) := Nat.mod_lt _ (by omega)
      generalize hq : (v + 2) % (v + 1 + 1 + (out.length - (v + 1))) = q at t1 t2
      have g1 : L[v]? = some (L[v]'(by omega)) := List.getElem?_eq_getElem _
      obtain ⟨x, hx⟩ : ∃ x, L[v]? = some x := ⟨_, g1⟩
      obtain ⟨y, hy⟩ : ∃ y, (L.set v (w64 (x + 1)))[q]? = some y := ⟨_, List.getElem?_eq_getElem (by rw [List.length_set]; omega)⟩
      have hm : out.take (v + 1) ++ 1 :: out.drop (v + 1) = L := by
        rw [hL, hW1, hW2]
        unfold win
        rw [List.drop_zero, List.take_of_length_le (l := out.drop (v + 1)) (by rw [List.length_drop]; omega), List.append_assoc]
        rfl
      have hz : ∀ z ∈ L, 1 ≤ z ∧ z ≤ 12 := by
        intro z hz
        rw [← hm, List.mem_append, List.mem_cons] at hz
        rcases hz with h | rfl | h
        · have := hv12 z (List.mem_of_mem_take h); omega
        · omega
        · have := hv12 z (List.mem_of_mem_drop h); omega
      have hx1 := hz x (List.mem_of_getElem? hx)
      have wx : w64 (x + 1) = x + 1 := w64_id (by omega) (by omega)
      have hy1 : 1 ≤ y ∧ y ≤ 13 := by
        rcases List.mem_or_eq_of_mem_set (List.mem_of_getElem? hy) with h | h
        · have := hz y h; omega
        · rw [h, wx]; omega
      have wy : w64 (y + 1) = y + 1 := w64_id (by omega) (by omega)
      have hglue : (trOf ((L.set v (w64 (x + 1))).set q (w64 (y + 1)))).isSome = true := by
        have e : (L.set v (w64 (x + 1))).set q (w64 (y + 1)) = glueL out (v + 1) := by
          unfold glueL
          dsimp only
          rw [hm, Nat.add_sub_cancel, show v + 1 + 1 = v + 2 by omega, show (v + 2) % (out.length + 1) = q by rw [← hq]; congr 1; omega]
          have ex : L.getD v 0 = x := by rw [List.getD_eq_getElem?_getD, hx]; rfl
          have ey : (L.set v (x + 1)).getD q 0 = y := by
            rw [wx] at hy
            rw [List.getD_eq_getElem?_getD, hy]; rfl
          rw [ex, ey, wx, wy]
        rw [e]
        exact glue_quid htr (by omega) hv
      obtain ⟨c', out', e2, r1, r3⟩ := ih (K + 2) (d0, d1, d2) ((L.set v (w64 (x + 1))).set q (w64 (y + 1))) hc (by omega) hglue (by simp only [List.length_set]; omega)
      refine ⟨c', out', ?_, r1, r3.mono (by omega)⟩
      simp only [F18_L2] at e2 ⊢
      rw [← e2]
      refine loopO_next ?_
      have a1 : (0 : Int) ≤ ((v + 1 : Nat) : Int) := by omega
      have a2 : 0 ≤ v + 1 ∧ v + 1 ≤ out.length := by omega
      have a3 : 0 + (v + 1 - 0) ≤ out.length := by omega
      have a4 : 2 * ((v + 1 + 1) * 9) ≤ 140737488355328 := by omega
      have a5 : v + 1 ≤ out.length ∧ out.length ≤ out.length := by omega
      have a6 : 0 + (v + 1) + (out.length - (v + 1)) ≤ out.length := by omega
      have a7 : 2 * ((v + 1 + 1 + (out.length - (v + 1))) * 9) ≤ 140737488355328 := by omega
      have a8 : (0 : Int) ≤ (v : Int) ∧ (v : Int) < ((v + 1 + 1 + (out.length - (v + 1)) : Nat) : Int) := by omega
      have a9 : ((v + 1 + 1 + (out.length - (v + 1)) : Nat) : Int) ≠ 0 := by omega
      have a10 : (0 : Int) ≤ (q : Int) ∧ (q : Int) < ((v + 1 + 1 + (out.length - (v + 1)) : Nat) : Int) := by omega
      rw [F18_L2_step, T.run_test, if_pos (decide_eq_true c9), T.run_sub, e, Option.bind_some]
      simp only [w1, Int.toNat_natCast, Nat.sub_zero, Nat.zero_add, ← hW1, ← hW2]
      rw [T.run_test, if_pos (decide_eq_true a1), T.run_test, if_pos (decide_eq_true a2), T.run_test, if_pos (decide_eq_true (by omega)), T.run_sub, ow, Option.bind_some]
      simp only [l1, l2, hwa, win_one, hw, w2, w3, Int.toNat_natCast, ← hL, List.length_append, List.length_singleton]
      have e0 : (((v + 1 : Nat) : Int) + 1 + ((out.length - (v + 1) : Nat) : Int)) = ((v + 1 + 1 + (out.length - (v + 1)) : Nat) : Int) := by push_cast; omega
      simp only [e0, t1, Int.toNat_natCast, List.length_set, hLl]
      rw [T.run_test, if_pos (by first | rfl | exact decide_eq_true (by omega))]
      rw [T.run_test, if_pos (by first | rfl | exact decide_eq_true (by omega))]
      rw [T.run_test, if_pos (by first | rfl | exact decide_eq_true (by omega))]
      rw [T.run_test, if_pos (by first | rfl | exact decide_eq_true (by omega))]
      rw [T.run_test, if_pos (by first | rfl | exact decide_eq_true (by omega))]
      rw [T.run_test, if_pos (by first | rfl | exact decide_eq_true (by omega))]
      rw [T.run_test, if_pos (by first | rfl | exact decide_eq_true (by omega))]
      rw [T.run_test, if_pos (by first | rfl | exact decide_eq_true (by omega))]
      rw [T.run_test, if_pos (by first | rfl | exact decide_eq_true (by omega))]
      rw [T.run_sub, hx, Option.bind_some]
      rw [T.run_test, if_pos (by first | rfl | exact decide_eq_true (by omega))]
      rw [T.run_sub, Option.bind_some]
      rw [T.run_test, if_pos (by first | rfl | exact decide_eq_true (by omega))]
      rw [T.run_test, if_pos (by first | rfl | exact decide_eq_true (by omega))]
      rw [T.run_sub, hy, Option.bind_some]
      rw [T.run_test, if_pos (by first | rfl | exact decide_eq_true (by omega))]
      rw [T.run_sub, Option.bind_some]
      rw [T.run_test, if_pos (by simp)]
      rfl
    · refine ⟨_, out, ?_, htr, h.mono (by omega)⟩
      simp only [F18_L2]
      exact loopO_done (by simp [F18_L2_step, T.run, c9])
theorem sureF_ok {K : Int} {c : List Int × Int × Int} (n : Int) (hn : n ≤ 12) (h : curOK K c) (hK : K < 1000000000) :
    ∃ c' out', F18 (((), n), c) = some ((), (c', out')) ∧ (trOf out').isSome = true ∧ curOK (K + 40) c' := by
  obtain ⟨c0, c1, c2⟩ := c
  obtain ⟨⟨d0, d1, d2⟩, out', e, h1, h3⟩ := sureF_loop n hn 17 K (c0, c1, c2) [1, 1, 1] h (by omega) (by decide) (by simp)
  refine ⟨(d0, d1, d2), out', ?_, h1, h3.mono (by omega)⟩
  rw [F18, F18_t, T.run_test, if_pos (by simp), T.run_sub, show (List.set (List.set (List.set (List.replicate 3 (0 : Int)) 0 (1 : Int)) 1 (1 : Int)) 2 (1 : Int)) = [1, 1, 1] from rfl, e, Option.bind_some, T.run_test, if_pos (by simp), T.run_ret]


def F30_sh : FSh := ⟨[(.one (.pf 0 0 0))], [(.rcd 0 [(.sl (.int .u8) false true), (.si .i64), (.si .u64)])]⟩

def F30_fo : List FO := [⟨[(.one (.sl (.pair (.int .i64) (.int .i64)) false true))], [(.rcd 0 [(.sl (.int .u8) false true), (.si .i64), (.si .u64)])]⟩]
noncomputable def F30_t : (Unit × (List (Int) × Int × Int)) → T (List ((Int × Int)) × (List (Int) × Int × Int)) := fun ((), (c_0, c_1, c_2)) =>
 (.sub (F50 (((), (8 : Int)), (c_0, (c_1, c_2)))) fun z0 =>
 (.sub (F18 (((), (w64 (3 + z0.1))), z0.2)) fun z1 =>
 (.test (decide ((0 + (List.length z1.2.2)) ≤ (List.length z1.2.2)))
 (.sub (F48 (win z1.2.2 0 (List.length z1.2.2))) fun z2 =>
 (.sub (F50 (((), (10 : Int)), z1.2.1)) fun z3 =>
 (.test (z3.1 == 0)
 (.sub (F50 (((), ((List.length z2.2) : Int)), z3.2)) fun z4 =>
 (.sub (F36 ((), z4.2)) fun z5 =>
 (.test (decide ((0 ≤ z4.1) ∧ (z4.1 < ((List.length z2.2) : Int))))
 (.sub (z2.2[(0 + (Int.toNat z4.1))]?) fun z6 =>
 (.test (decide ((0 + (List.length z2.2)) ≤ (List.length (List.set z2.2 (0 + (Int.toNat z4.1)) z5.1))))
 (.ret ((win (List.set z2.2 (0 + (Int.toNat z4.1)) z5.1) 0 (List.length z2.2)), z5.2))
 .fail))
 .fail)))
 (.test (z3.1 == 1)
 (.test true
 (.test (decide ((1 ≤ (List.length z2.2)) ∧ ((List.length z2.2) ≤ (List.length z2.2))))
 (.test (decide ((1 + ((List.length z2.2) - 1)) ≤ (List.length z2.2)))
 (.ret ((win z2.2 1 ((List.length z2.2) - 1)), z3.2))
 .fail)
 .fail)
 .fail)
 (.test (decide ((0 + (List.length z2.2)) ≤ (List.length z2.2)))
 (.ret ((win z2.2 0 (List.length z2.2)), z3.2))
 .fail)))))
 .fail)))
noncomputable def F30 (v : (Unit × (List (Int) × Int × Int))) : Option (List ((Int × Int)) × (List (Int) × Int × Int)) := (F30_t v).run
noncomputable def F30_E : TEnv := ((((E0.add1 n_F50 F50_sh F50_fo F50).add1 n_F18 F18_sh F18_fo F18).add1 n_F48 F48_sh F48_fo F48).add1 n_F36 F36_sh F36_fo F36)
theorem F30_Eok : (F30_E).OK := ((((E0ok.add1 F50_ok).add1 F18_ok).add1 F48_ok).add1 F36_ok)
noncomputable def F30_told : Nat → Option SealT := fun id => none
theorem F30_ok : FOK Tryz.prog n_F30 F30_sh F30_fo F30 :=
  fn_ok (E := F30_E) (F30_Eok) (told := F30_told) (fl := [some (.pair (.int .i64) (.int .i64))]) (c := bodyOf fn_F30) (s := F30_sh) (l := F30_fo) (tree := F30_t) fnat_F30 (by kernel_rfl) (by kernel_rfl) (by kernel_rfl) (loopsOK_of (ls := []) (by kernel_rfl) trivial) (fun v => by kernel_rfl)

theorem polygonOf_ok {K : Int} {c : List Int × Int × Int} (h : curOK K c) (hK : K < 1000000) : ∃ p c', F30 ((), c) = some (p, c') ∧ p.length ≤ 12 := by
  obtain ⟨c0, c1, c2⟩ := c
  obtain ⟨v, ⟨d0, d1, d2⟩, e, h0, h1, _, hc⟩ := pick_ok 8 h (by omega)
  have h1 := h1 (by omega)
  have w1 : w64 (3 + v) = 3 + v := w64_id (by omega) (by omega)
  obtain ⟨⟨a0, a1, a2⟩, out, e2, hq, hc2⟩ := sureF_ok (3 + v) (by omega) hc (by omega)
  have hb := (trOf_bounds hq).1
  have hfl := frsF_length (q := out) (by omega)
  have hF := F48_eq out (by omega)
  rw [if_pos hq] at hF
  obtain ⟨u, ⟨b0, b1, b2⟩, e3, _, _, _, hc3⟩ := pick_ok 10 hc2 (by omega)
  rw [F30, F30_t, T.run_sub, e, Option.bind_some, T.run_sub, w1, e2, Option.bind_some, T.run_test, if_pos (by simp), win_all, T.run_sub, hF, Option.bind_some, T.run_sub, e3, Option.bind_some, T.run_test]
  dsimp only
  by_cases u0 : (u == 0) = true
  · obtain ⟨x, ⟨f0, f1, f2⟩, e4, i0, i1, _, hc4⟩ := pick_ok ((frsF out).length : Int) hc3 (by omega)
    have i1 := i1 (by omega)
    obtain ⟨y, ⟨j0, j1, j2⟩, e5, hc5⟩ := fraction_ok hc4 (by omega)
    have hlt : 0 + x.toNat < (frsF out).length := by omega
    rw [if_pos u0, T.run_sub, e4, Option.bind_some, T.run_sub, e5, Option.bind_some, T.run_test, if_pos (decide_eq_true ⟨i0, i1⟩), T.run_sub, List.getElem?_eq_getElem hlt, Option.bind_some, T.run_test, if_pos (by simp), T.run_ret]
    refine ⟨_, _, rfl, ?_⟩
    dsimp only
    have := win_le ((frsF out).set (0 + x.toNat) y) 0 (frsF out).length
    rw [List.length_set] at this
    omega
  rw [if_neg u0, T.run_test]
  by_cases u1 : (u == 1) = true
  · rw [if_pos u1, T.run_test, if_pos rfl, T.run_test, if_pos (decide_eq_true (by omega)), T.run_test, if_pos (decide_eq_true (by omega)), T.run_ret]
    have := win_le (frsF out) 1 ((frsF out).length - 1)
    exact ⟨_, _, rfl, by omega⟩
  rw [if_neg u1, T.run_test, if_pos (by simp), T.run_ret]
  refine ⟨_, _, rfl, ?_⟩
  have := win_le (frsF out) 0 (frsF out).length
  omega


def F14_sh : FSh := ⟨[(.one (.sl (.int .u8) false true))], []⟩

def F14_fo : List FO := [⟨[(.one (.sl (.pair (.int .i64) (.int .i64)) false true))], []⟩]
noncomputable def F14_t : List (Int) → T (List ((Int × Int))) := fun code =>
 (.sub (F30 ((), (code, ((0 : Int), (0 : Int))))) fun z0 =>
 (.ret z0.1))
noncomputable def F14 (v : List (Int)) : Option (List ((Int × Int))) := (F14_t v).run
noncomputable def F14_E : TEnv := (E0.add1 n_F30 F30_sh F30_fo F30)
theorem F14_Eok : (F14_E).OK := (E0ok.add1 F30_ok)
noncomputable def F14_told : Nat → Option SealT := fun id => none
theorem F14_ok : FOK Tryz.prog n_F14 F14_sh F14_fo F14 :=
  fn_ok (E := F14_E) (F14_Eok) (told := F14_told) (fl := []) (c := bodyOf fn_F14) (s := F14_sh) (l := F14_fo) (tree := F14_t) fnat_F14 (by kernel_rfl) (by kernel_rfl) (by kernel_rfl) (loopsOK_of (ls := []) (by kernel_rfl) trivial) (fun v => by kernel_rfl)

theorem F14_some {code : List Int} (h : bytesOK code) : ∃ p, F14 code = some p ∧ p.length ≤ 12 := by
  obtain ⟨p, c', e, hl⟩ := polygonOf_ok (cur0 h) (by omega)
  rw [F14, F14_t, T.run_sub, e, Option.bind_some, T.run_ret]
  exact ⟨_, rfl, hl⟩


def F84_sh : FSh := ⟨[(.ag [(.si .i64), (.si .i64)])], []⟩

def F84_L4_sh : LSh := ⟨(fun ex => match ex with | .norm => [(3, none), (4, none)] | .exit i => if i = 0 then [(3, none)] else [] | .ret => [(2, none)]), [(3, (.one (.si .i64))), (4, (.one (.si .i64)))], [], [⟨(.exit 0), [(3, (.one (.si .i64)))], []⟩], [], []⟩
noncomputable def F84_L4_step : (Int × Int) → T ((Int × Int) ⊕ Int) := fun (a, b) =>
 (.test (decide (b > 0))
 (.test (decide (b ≠ 0))
 (.ret (Sum.inl (b, (Int.tmod a b))))
 .fail)
 (.ret (Sum.inr a)))
noncomputable def F84_L4 (v : (Int × Int)) : Option Int := loopO (fun v => (F84_L4_step v).run) v

def F84_fo : List FO := [⟨[(.one .sb)], []⟩]
noncomputable def F84_t : (Int × Int) → T Bool := fun (f_0, f_1) =>
 (.sub (F106 (f_0, ((0 : Int), (1000000 : Int)))) fun z0 =>
 (.test (! z0)
 (.ret false)
 (.sub (F106 (f_1, ((0 : Int), (1000000 : Int)))) fun z1 =>
 (.test (! z1)
 (.ret false)
 (.sub (F84_L4 (f_0, f_1)) fun z2 =>
 (.ret (z2 == 1)))))))
noncomputable def F84 (v : (Int × Int)) : Option Bool := (F84_t v).run
noncomputable def F84_E : TEnv := (E0.add1 n_F106 F106_sh F106_fo F106)
theorem F84_Eok : (F84_E).OK := (E0ok.add1 F106_ok)
noncomputable def F84_told : Nat → Option SealT := fun id => if id = 4 then some (LSh.told F84_L4_sh 0 (F84_L4_step)) else none
theorem F84_L4_ok : ToldOK Tryz.prog 0 (loopAt (bodyOf fn_F84) [0]) (LSh.told F84_L4_sh 0 (F84_L4_step)) :=
  loop_ok (E := F84_E) (F84_Eok) (told := F84_told) (l := F84_L4_sh) (step := F84_L4_step) (loopsOK_of (ls := []) (by kernel_rfl) trivial) (by kernel_rfl) (fun v => by kernel_rfl)
theorem F84_ok : FOK Tryz.prog n_F84 F84_sh F84_fo F84 :=
  fn_ok (E := F84_E) (F84_Eok) (told := F84_told) (fl := []) (c := bodyOf fn_F84) (s := F84_sh) (l := F84_fo) (tree := F84_t) fnat_F84 (by kernel_rfl) (by kernel_rfl) (by kernel_rfl) (loopsOK_of (ls := [loopAt (bodyOf fn_F84) [0]]) (by kernel_rfl) ⟨.inr ⟨_, by kernel_rfl, F84_L4_ok⟩, trivial⟩) (fun v => by kernel_rfl)

theorem F84_L4_eq (a b : Int) (ha : 0 ≤ a) (hb : 0 ≤ b) : F84_L4 (a, b) = some ((Nat.gcd a.toNat b.toNat : Nat) : Int) := by
  have h := loop_eq (step := fun v => (F84_L4_step v).run) (fun v => v.2.toNat) (fun v => 0 ≤ v.1 ∧ 0 ≤ v.2) (fun v => ((Nat.gcd v.1.toNat v.2.toNat : Nat) : Int))
    (by
      rintro ⟨a, b⟩ ⟨ha, hb⟩
      simp only at ha hb
      by_cases h0 : b = 0
      · right
        subst h0
        have : ((a.toNat : Nat) : Int) = a := Int.toNat_of_nonneg ha
        simp [F84_L4_step, T.run, this]
      · left
        obtain ⟨g1, g2, g3⟩ := gcd_toNat_step ha (show 0 < b by omega)
        refine ⟨(b, Int.tmod a b), ?_, ⟨hb, g2⟩, ?_, ?_⟩
        · simp [F84_L4_step, T.run, h0, show 0 < b by omega]
        · simp only; omega
        · simp only [g1]) (a, b) ⟨ha, hb⟩
  simp only [F84_L4]
  exact h
theorem F84_eq (f : Int × Int) : F84 f = some (fracB f) := by
  obtain ⟨p, q⟩ := f
  rw [F84, F84_t, T.run_sub, F106_eq, Option.bind_some, T.run_test]
  unfold fracB
  cases h1 : inB 0 1000000 p with
  | false => rfl
  | true =>
    rw [if_neg (by simp), T.run_sub, F106_eq, Option.bind_some, T.run_test]
    simp only
    cases h2 : inB 0 1000000 q with
    | false => rfl
    | true =>
      rw [inB_iff] at h1 h2
      rw [if_neg (by simp), T.run_sub, F84_L4_eq p q (by omega) (by omega), Option.bind_some, T.run_ret, Bool.true_and, Bool.true_and]
      congr 1
      rw [Bool.eq_iff_iff, beq_iff_eq, decide_eq_true_eq]
      omega


def F79_sh : FSh := ⟨[(.ag [(.si .i64), (.si .i64)]), (.ag [(.si .i64), (.si .i64)])], []⟩

def F79_fo : List FO := [⟨[(.one (.si .i64))], []⟩]
noncomputable def F79_t : ((Int × Int) × (Int × Int)) → T Int := fun ((f_0, f_1), (g_0, g_1)) =>
 (.ret (w64 ((w64 (g_0 * f_1)) - (w64 (f_0 * g_1)))))
noncomputable def F79 (v : ((Int × Int) × (Int × Int))) : Option Int := (F79_t v).run
noncomputable def F79_E : TEnv := E0
theorem F79_Eok : (F79_E).OK := E0ok
noncomputable def F79_told : Nat → Option SealT := fun id => none
theorem F79_ok : FOK Tryz.prog n_F79 F79_sh F79_fo F79 :=
  fn_ok (E := F79_E) (F79_Eok) (told := F79_told) (fl := []) (c := bodyOf fn_F79) (s := F79_sh) (l := F79_fo) (tree := F79_t) fnat_F79 (by kernel_rfl) (by kernel_rfl) (by kernel_rfl) (loopsOK_of (ls := []) (by kernel_rfl) trivial) (fun v => by kernel_rfl)

theorem F79_eq (f g : Fr) : F79 (f, g) = some (crossW f g) := by
  obtain ⟨a, b⟩ := f
  obtain ⟨c, d⟩ := g
  rw [F79, F79_t, T.run_ret]; rfl


end Go.Proofs.W
