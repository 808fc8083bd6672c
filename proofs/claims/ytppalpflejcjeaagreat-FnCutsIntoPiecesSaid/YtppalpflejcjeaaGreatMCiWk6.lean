import Derived.Test.YtppalpflejcjeaaGreatMCiWk5
set_option linter.unusedVariables false
set_option linter.unusedSimpArgs false
set_option maxRecDepth 100000
set_option maxHeartbeats 4000000
namespace Go.Proofs.W
open Go Go.Gm Go.Proofs
open Go.RowKit Go.Shelf
def L0_sh : FSh := ⟨[(.one (.sl (.int .u8) false true)), (.one (.sl (.int .u8) false true))], []⟩
def L0_L26_sh : LSh := ⟨(fun ex => match ex with | .norm => [(1, none), (5, none), (6, none), (7, none), (11, none), (15, none), (19, none), (23, none), (27, none), (31, none), (32, none), (311, none), (312, none), (315, none), (316, none), (317, none)] | .exit i => if i = 2 then [(1, none), (5, none), (6, none), (7, none), (11, none), (15, none), (19, none), (23, none), (27, none), (31, none), (32, none), (311, none), (312, none)] else if i = 1 then [(1, none), (5, none), (6, none), (7, none), (11, none), (15, none), (19, none), (23, none), (27, none), (311, none), (312, none)] else if i = 0 then [(1, none), (5, none), (6, none), (11, none), (19, none), (23, none), (27, none)] else [] | .ret => [(4, none)]), [(1, (.one (.sl (.int .u8) false true))), (5, (.one (.si .i64))), (6, (.one (.rw 0 0))), (7, (.one (.rw 1 0))), (11, (.one (.rw 2 0))), (15, (.one (.rw 3 0))), (19, (.one (.rw 4 0))), (23, (.one (.si .i64))), (27, (.one (.rw 5 0))), (31, (.one (.si .i64))), (32, (.one (.si .i64))), (311, (.one (.si .i64))), (312, (.one (.si .i64))), (315, (.one (.rw 1 0))), (316, (.one (.si .i64))), (317, (.one (.si .i64)))], [(.row 0 (.pair (.int .i64) (.int .i64))), (.row 0 (.list true (.int .i64))), (.row 0 (.int .i64)), (.row 0 (.int .i64)), (.row 0 (.pair (.int .i64) (.int .i64))), (.row 0 (.pair (.int .i64) (.int .i64)))], [⟨(.exit 2), [(1, (.one (.sl (.int .u8) false true))), (5, (.one (.si .i64))), (6, (.one (.rw 0 0))), (7, (.one (.rw 1 0))), (11, (.one (.rw 2 0))), (15, (.one (.rw 3 0))), (19, (.one (.rw 4 0))), (23, (.one (.si .i64))), (27, (.one (.rw 5 0))), (31, (.one (.si .i64))), (32, (.one (.si .i64))), (311, (.one (.si .i64))), (312, (.one (.si .i64)))], [(.row 0 (.pair (.int .i64) (.int .i64))), (.row 0 (.list true (.int .i64))), (.row 0 (.int .i64)), (.row 0 (.int .i64)), (.row 0 (.pair (.int .i64) (.int .i64))), (.row 0 (.pair (.int .i64) (.int .i64)))]⟩], [], []⟩
noncomputable def L0_L26_step : ((List (Int) × Int × Unit × Unit × Unit × Unit × Unit × Int × Unit × Int × Int × Int × Int × Unit × Int × Int) × (List ((Int × Int)) × List (List (Int)) × List (Int) × List (Int) × List ((Int × Int)) × List ((Int × Int)))) → T (((List (Int) × Int × Unit × Unit × Unit × Unit × Unit × Int × Unit × Int × Int × Int × Int × Unit × Int × Int) × (List ((Int × Int)) × List (List (Int)) × List (Int) × List (Int) × List ((Int × Int)) × List ((Int × Int)))) ⊕ ((List (Int) × Int × Unit × Unit × Unit × Unit × Unit × Int × Unit × Int × Int × Int × Int) × (List ((Int × Int)) × List (List (Int)) × List (Int) × List (Int) × List ((Int × Int)) × List ((Int × Int))))) := fun ((more, n, (), (), (), (), (), finer, (), i, count, t311, t312, (), t316, t317), (ds, pieces, sizes, corners, free, first)) =>
 (.test (decide (t317 < t316))
 (.test (decide ((0 ≤ t317) ∧ (t317 < (pieces.length : Int))))
 (.sub (pieces[(0 + (Int.toNat t317))]?) fun z0 =>
 (.sub (F127 (z0, i)) fun z1 =>
 (.test z1
 (.test (decide ((0 = 0) ∧ (ds.length = ds.length)))
 (.test (decide ((0 = 0) ∧ (pieces.length = pieces.length)))
 (.test (decide ((0 = 0) ∧ (sizes.length = sizes.length)))
 (.test (decide ((0 = 0) ∧ (corners.length = corners.length)))
 (.test (decide ((0 = 0) ∧ (free.length = free.length)))
 (.test (decide ((0 = 0) ∧ (first.length = first.length)))
 (.test (decide ((0 = 0) ∧ (pieces.length = pieces.length)))
 (.ret (Sum.inl ((more, (n, ((), ((), ((), ((), ((), (finer, ((), (i, ((w64 (count + 1)), (t311, (t312, ((), (t316, (w64 (t317 + 1))))))))))))))))), (ds, (pieces, (sizes, (corners, (free, first))))))))
 .fail)
 .fail)
 .fail)
 .fail)
 .fail)
 .fail)
 .fail)
 (.test (decide ((0 = 0) ∧ (ds.length = ds.length)))
 (.test (decide ((0 = 0) ∧ (pieces.length = pieces.length)))
 (.test (decide ((0 = 0) ∧ (sizes.length = sizes.length)))
 (.test (decide ((0 = 0) ∧ (corners.length = corners.length)))
 (.test (decide ((0 = 0) ∧ (free.length = free.length)))
 (.test (decide ((0 = 0) ∧ (first.length = first.length)))
 (.test (decide ((0 = 0) ∧ (pieces.length = pieces.length)))
 (.ret (Sum.inl ((more, (n, ((), ((), ((), ((), ((), (finer, ((), (i, (count, (t311, (t312, ((), (t316, (w64 (t317 + 1))))))))))))))))), (ds, (pieces, (sizes, (corners, (free, first))))))))
 .fail)
 .fail)
 .fail)
 .fail)
 .fail)
 .fail)
 .fail))))
 .fail)
 (.test (decide ((0 = 0) ∧ (ds.length = ds.length)))
 (.test (decide ((0 = 0) ∧ (pieces.length = pieces.length)))
 (.test (decide ((0 = 0) ∧ (sizes.length = sizes.length)))
 (.test (decide ((0 = 0) ∧ (corners.length = corners.length)))
 (.test (decide ((0 = 0) ∧ (free.length = free.length)))
 (.test (decide ((0 = 0) ∧ (first.length = first.length)))
 (.ret (Sum.inr ((more, (n, ((), ((), ((), ((), ((), (finer, ((), (i, (count, (t311, t312)))))))))))), (ds, (pieces, (sizes, (corners, (free, first))))))))
 .fail)
 .fail)
 .fail)
 .fail)
 .fail)
 .fail))
noncomputable def L0_L26 (v) := loopO (fun v => (L0_L26_step v).run) v
def L0_L22_sh : LSh := ⟨(fun ex => match ex with | .norm => [(1, none), (5, none), (6, none), (7, none), (11, none), (15, none), (19, none), (23, none), (27, none), (311, none), (312, none)] | .exit i => if i = 0 then [(1, none), (5, none), (6, none), (11, none), (19, none), (23, none), (27, none)] else [] | .ret => [(4, none)]), [(1, (.one (.sl (.int .u8) false true))), (5, (.one (.si .i64))), (6, (.one (.rw 0 0))), (7, (.one (.rw 1 0))), (11, (.one (.rw 2 0))), (15, (.one (.rw 3 0))), (19, (.one (.rw 4 0))), (23, (.one (.si .i64))), (27, (.one (.rw 5 0))), (311, (.one (.si .i64))), (312, (.one (.si .i64)))], [(.row 0 (.pair (.int .i64) (.int .i64))), (.row 0 (.list true (.int .i64))), (.row 0 (.int .i64)), (.row 0 (.int .i64)), (.row 0 (.pair (.int .i64) (.int .i64))), (.row 0 (.pair (.int .i64) (.int .i64)))], [⟨.ret, [(4, (.one .sb))], []⟩, ⟨(.exit 0), [(1, (.one (.sl (.int .u8) false true))), (5, (.one (.si .i64))), (6, (.one (.rw 0 0))), (11, (.one (.rw 1 0))), (19, (.one (.rw 2 0))), (23, (.one (.si .i64))), (27, (.one (.rw 3 0)))], [(.row 0 (.pair (.int .i64) (.int .i64))), (.row 0 (.int .i64)), (.row 0 (.pair (.int .i64) (.int .i64))), (.row 0 (.pair (.int .i64) (.int .i64)))]⟩], [], []⟩
noncomputable def L0_L22_step : ((List (Int) × Int × Unit × Unit × Unit × Unit × Unit × Int × Unit × Int × Int) × (List ((Int × Int)) × List (List (Int)) × List (Int) × List (Int) × List ((Int × Int)) × List ((Int × Int)))) → T (((List (Int) × Int × Unit × Unit × Unit × Unit × Unit × Int × Unit × Int × Int) × (List ((Int × Int)) × List (List (Int)) × List (Int) × List (Int) × List ((Int × Int)) × List ((Int × Int)))) ⊕ (Bool ⊕ ((List (Int) × Int × Unit × Unit × Unit × Int × Unit) × (List ((Int × Int)) × List (Int) × List ((Int × Int)) × List ((Int × Int)))))) := fun ((more, n, (), (), (), (), (), finer, (), t311, t312), (ds, pieces, sizes, corners, free, first)) =>
 (.test (decide (t312 < t311))
 (.test (decide ((0 = 0) ∧ (ds.length = ds.length)))
 (.test (decide ((0 = 0) ∧ (pieces.length = pieces.length)))
 (.test (decide ((0 = 0) ∧ (sizes.length = sizes.length)))
 (.test (decide ((0 = 0) ∧ (corners.length = corners.length)))
 (.test (decide ((0 = 0) ∧ (free.length = free.length)))
 (.test (decide ((0 = 0) ∧ (first.length = first.length)))
 (.test (decide ((0 = 0) ∧ (pieces.length = pieces.length)))
 (.sub (L0_L26 ((more, (n, ((), ((), ((), ((), ((), (finer, ((), (t312, ((0 : Int), (t311, (t312, ((), ((pieces.length : Int), (0 : Int)))))))))))))))), (ds, (pieces, (sizes, (corners, (free, first))))))) fun z0 =>
 (.test (decide ((0 ≤ z0.1.2.2.2.2.2.2.2.2.2.1) ∧ (z0.1.2.2.2.2.2.2.2.2.2.1 < (z0.2.2.2.2.1.length : Int))))
 (.sub (z0.2.2.2.2.1[(0 + (Int.toNat z0.1.2.2.2.2.2.2.2.2.2.1))]?) fun z1 =>
 (.test (z0.1.2.2.2.2.2.2.2.2.2.2.1 != z1)
 (.ret (Sum.inr (Sum.inl false)))
 (.test (decide ((0 = 0) ∧ (z0.2.1.length = z0.2.1.length)))
 (.test (decide ((0 = 0) ∧ (z0.2.2.1.length = z0.2.2.1.length)))
 (.test (decide ((0 = 0) ∧ (z0.2.2.2.1.length = z0.2.2.2.1.length)))
 (.test (decide ((0 = 0) ∧ (z0.2.2.2.2.1.length = z0.2.2.2.2.1.length)))
 (.test (decide ((0 = 0) ∧ (z0.2.2.2.2.2.1.length = z0.2.2.2.2.2.1.length)))
 (.test (decide ((0 = 0) ∧ (z0.2.2.2.2.2.2.length = z0.2.2.2.2.2.2.length)))
 (.ret (Sum.inl ((z0.1.1, (z0.1.2.1, ((), ((), ((), ((), ((), (z0.1.2.2.2.2.2.2.2.1, ((), (z0.1.2.2.2.2.2.2.2.2.2.2.2.1, (w64 (z0.1.2.2.2.2.2.2.2.2.2.2.2.2 + 1)))))))))))), z0.2)))
 .fail)
 .fail)
 .fail)
 .fail)
 .fail)
 .fail)))
 .fail))
 .fail)
 .fail)
 .fail)
 .fail)
 .fail)
 .fail)
 .fail)
 (.test (decide ((0 = 0) ∧ (ds.length = ds.length)))
 (.test (decide ((0 = 0) ∧ (sizes.length = sizes.length)))
 (.test (decide ((0 = 0) ∧ (free.length = free.length)))
 (.test (decide ((0 = 0) ∧ (first.length = first.length)))
 (.ret (Sum.inr (Sum.inr ((more, (n, ((), ((), ((), (finer, ())))))), (ds, (sizes, (free, first)))))))
 .fail)
 .fail)
 .fail)
 .fail))
noncomputable def L0_L22 (v) := loopO (fun v => (L0_L22_step v).run) v
def L0_L35_sh : LSh := ⟨(fun ex => match ex with | .norm => [(1, none), (5, none), (6, none), (11, none), (19, none), (23, none), (27, none), (334, none), (335, none), (336, none)] | .exit i => if i = 4 then [(1, none), (5, none), (6, none), (19, none), (23, none), (27, none)] else [] | .ret => [(4, none)]), [(1, (.one (.sl (.int .u8) false true))), (5, (.one (.si .i64))), (6, (.one (.rw 0 0))), (11, (.one (.rw 1 0))), (19, (.one (.rw 2 0))), (23, (.one (.si .i64))), (27, (.one (.rw 3 0))), (334, (.one (.rw 1 0))), (335, (.one (.si .i64))), (336, (.one (.si .i64)))], [(.row 0 (.pair (.int .i64) (.int .i64))), (.row 0 (.int .i64)), (.row 0 (.pair (.int .i64) (.int .i64))), (.row 0 (.pair (.int .i64) (.int .i64)))], [⟨.ret, [(4, (.one .sb))], []⟩, ⟨(.exit 4), [(1, (.one (.sl (.int .u8) false true))), (5, (.one (.si .i64))), (6, (.one (.rw 0 0))), (19, (.one (.rw 1 0))), (23, (.one (.si .i64))), (27, (.one (.rw 2 0)))], [(.row 0 (.pair (.int .i64) (.int .i64))), (.row 0 (.pair (.int .i64) (.int .i64))), (.row 0 (.pair (.int .i64) (.int .i64)))]⟩], [], []⟩
noncomputable def L0_L35_step : ((List (Int) × Int × Unit × Unit × Unit × Int × Unit × Unit × Int × Int) × (List ((Int × Int)) × List (Int) × List ((Int × Int)) × List ((Int × Int)))) → T (((List (Int) × Int × Unit × Unit × Unit × Int × Unit × Unit × Int × Int) × (List ((Int × Int)) × List (Int) × List ((Int × Int)) × List ((Int × Int)))) ⊕ (Bool ⊕ ((List (Int) × Int × Unit × Unit × Int × Unit) × (List ((Int × Int)) × List ((Int × Int)) × List ((Int × Int)))))) := fun ((more, n, (), (), (), finer, (), (), t335, t336), (ds, sizes, free, first)) =>
 (.test (decide (t336 < t335))
 (.test (decide ((0 ≤ t336) ∧ (t336 < (sizes.length : Int))))
 (.sub (sizes[(0 + (Int.toNat t336))]?) fun z0 =>
 (.test (decide (z0 < 3))
 (.ret (Sum.inr (Sum.inl false)))
 (.test (decide (t336 > 0))
 (.test (decide ((0 ≤ (w64 (t336 - 1))) ∧ ((w64 (t336 - 1)) < (sizes.length : Int))))
 (.sub (sizes[(0 + (Int.toNat (w64 (t336 - 1))))]?) fun z1 =>
 (.test (decide (z1 > z0))
 (.ret (Sum.inr (Sum.inl false)))
 (.test (decide ((0 = 0) ∧ (ds.length = ds.length)))
 (.test (decide ((0 = 0) ∧ (sizes.length = sizes.length)))
 (.test (decide ((0 = 0) ∧ (free.length = free.length)))
 (.test (decide ((0 = 0) ∧ (first.length = first.length)))
 (.test (decide ((0 = 0) ∧ (sizes.length = sizes.length)))
 (.ret (Sum.inl ((more, (n, ((), ((), ((), (finer, ((), ((), (t335, (w64 (t336 + 1))))))))))), (ds, (sizes, (free, first))))))
 .fail)
 .fail)
 .fail)
 .fail)
 .fail)))
 .fail)
 (.test (decide ((0 = 0) ∧ (ds.length = ds.length)))
 (.test (decide ((0 = 0) ∧ (sizes.length = sizes.length)))
 (.test (decide ((0 = 0) ∧ (free.length = free.length)))
 (.test (decide ((0 = 0) ∧ (first.length = first.length)))
 (.test (decide ((0 = 0) ∧ (sizes.length = sizes.length)))
 (.ret (Sum.inl ((more, (n, ((), ((), ((), (finer, ((), ((), (t335, (w64 (t336 + 1))))))))))), (ds, (sizes, (free, first))))))
 .fail)
 .fail)
 .fail)
 .fail)
 .fail))))
 .fail)
 (.test (decide ((0 = 0) ∧ (ds.length = ds.length)))
 (.test (decide ((0 = 0) ∧ (free.length = free.length)))
 (.test (decide ((0 = 0) ∧ (first.length = first.length)))
 (.ret (Sum.inr (Sum.inr ((more, (n, ((), ((), (finer, ()))))), (ds, (free, first))))))
 .fail)
 .fail)
 .fail))
noncomputable def L0_L35 (v) := loopO (fun v => (L0_L35_step v).run) v
def L0_L41_sh : LSh := ⟨(fun ex => match ex with | .norm => [(1, none), (5, none), (6, none), (19, none), (23, none), (27, none), (357, none), (358, none), (359, none)] | .exit i => if i = 6 then [(1, none), (5, none), (6, none), (19, none), (23, none)] else [] | .ret => [(4, none)]), [(1, (.one (.sl (.int .u8) false true))), (5, (.one (.si .i64))), (6, (.one (.rw 0 0))), (19, (.one (.rw 1 0))), (23, (.one (.si .i64))), (27, (.one (.rw 2 0))), (357, (.one (.rw 0 0))), (358, (.one (.si .i64))), (359, (.one (.si .i64)))], [(.row 0 (.pair (.int .i64) (.int .i64))), (.row 0 (.pair (.int .i64) (.int .i64))), (.row 0 (.pair (.int .i64) (.int .i64)))], [⟨.ret, [(4, (.one .sb))], []⟩, ⟨(.exit 6), [(1, (.one (.sl (.int .u8) false true))), (5, (.one (.si .i64))), (6, (.one (.rw 0 0))), (19, (.one (.rw 1 0))), (23, (.one (.si .i64)))], [(.row 0 (.pair (.int .i64) (.int .i64))), (.row 0 (.pair (.int .i64) (.int .i64)))]⟩], [], []⟩
noncomputable def L0_L41_step : ((List (Int) × Int × Unit × Unit × Int × Unit × Unit × Int × Int) × (List ((Int × Int)) × List ((Int × Int)) × List ((Int × Int)))) → T (((List (Int) × Int × Unit × Unit × Int × Unit × Unit × Int × Int) × (List ((Int × Int)) × List ((Int × Int)) × List ((Int × Int)))) ⊕ (Bool ⊕ ((List (Int) × Int × Unit × Unit × Int) × (List ((Int × Int)) × List ((Int × Int)))))) := fun ((more, n, (), (), finer, (), (), t358, t359), (ds, free, first)) =>
 (.test (decide (t359 < t358))
 (.test (decide ((0 ≤ t359) ∧ (t359 < (ds.length : Int))))
 (.sub (ds[(0 + (Int.toNat t359))]?) fun z0 =>
 (.test (decide ((0 + first.length) ≤ first.length))
 (.sub (F135 ((win first 0 first.length), z0)) fun z1 =>
 (.test (! z1)
 (.ret (Sum.inr (Sum.inl false)))
 (.test (decide ((0 = 0) ∧ (ds.length = ds.length)))
 (.test (decide ((0 = 0) ∧ (free.length = free.length)))
 (.test (decide ((0 = 0) ∧ (first.length = first.length)))
 (.test (decide ((0 = 0) ∧ (ds.length = ds.length)))
 (.ret (Sum.inl ((more, (n, ((), ((), (finer, ((), ((), (t358, (w64 (t359 + 1)))))))))), (ds, (free, first)))))
 .fail)
 .fail)
 .fail)
 .fail)))
 .fail))
 .fail)
 (.test (decide ((0 = 0) ∧ (ds.length = ds.length)))
 (.test (decide ((0 = 0) ∧ (free.length = free.length)))
 (.ret (Sum.inr (Sum.inr ((more, (n, ((), ((), finer)))), (ds, free)))))
 .fail)
 .fail))
noncomputable def L0_L41 (v) := loopO (fun v => (L0_L41_step v).run) v
def L0_L48_sh : LSh := ⟨(fun ex => match ex with | .norm => [(1, none), (5, none), (6, none), (19, none), (23, none), (39, none), (368, none), (369, none), (370, none)] | .exit i => if i = 8 then [(1, none), (5, none), (6, none), (19, none), (23, none), (39, none)] else [] | .ret => [(4, none)]), [(1, (.one (.sl (.int .u8) false true))), (5, (.one (.si .i64))), (6, (.one (.rw 0 0))), (19, (.one (.rw 1 0))), (23, (.one (.si .i64))), (39, (.one (.si .i64))), (368, (.one (.rw 1 0))), (369, (.one (.si .i64))), (370, (.one (.si .i64)))], [(.row 0 (.pair (.int .i64) (.int .i64))), (.row 0 (.pair (.int .i64) (.int .i64)))], [⟨.ret, [(4, (.one .sb))], []⟩, ⟨(.exit 8), [(1, (.one (.sl (.int .u8) false true))), (5, (.one (.si .i64))), (6, (.one (.rw 0 0))), (19, (.one (.rw 1 0))), (23, (.one (.si .i64))), (39, (.one (.si .i64)))], [(.row 0 (.pair (.int .i64) (.int .i64))), (.row 0 (.pair (.int .i64) (.int .i64)))]⟩], [], []⟩
noncomputable def L0_L48_step : ((List (Int) × Int × Unit × Unit × Int × Int × Unit × Int × Int) × (List ((Int × Int)) × List ((Int × Int)))) → T (((List (Int) × Int × Unit × Unit × Int × Int × Unit × Int × Int) × (List ((Int × Int)) × List ((Int × Int)))) ⊕ (Bool ⊕ ((List (Int) × Int × Unit × Unit × Int × Int) × (List ((Int × Int)) × List ((Int × Int)))))) := fun ((more, n, (), (), finer, sum, (), t369, t370), (ds, free)) =>
 (.test (decide (t370 < t369))
 (.test (decide ((0 ≤ t370) ∧ (t370 < (free.length : Int))))
 (.sub (free[(0 + (Int.toNat t370))]?) fun z0 =>
 (.test (decide ((0 + ds.length) ≤ ds.length))
 (.sub (F52 (n, ((win ds 0 ds.length), z0))) fun z1 =>
 (.test (decide ((0 + z1.2.length) ≤ z1.2.length))
 (.sub (F63 (n, (win z1.2 0 z1.2.length))) fun z2 =>
 (.test (! z1.1.2)
 (.ret (Sum.inr (Sum.inl false)))
 (.test (! z2.2)
 (.ret (Sum.inr (Sum.inl false)))
 (.test (decide (z2.1 > finer))
 (.ret (Sum.inr (Sum.inl false)))
 (.test (decide ((0 + ds.length) ≤ ds.length))
 (.sub (F135 ((win ds 0 ds.length), z0)) fun z3 =>
 (.test z3
 (.ret (Sum.inr (Sum.inl false)))
 (.test (decide ((0 = 0) ∧ (ds.length = ds.length)))
 (.test (decide ((0 = 0) ∧ (free.length = free.length)))
 (.test (decide ((0 = 0) ∧ (free.length = free.length)))
 (.ret (Sum.inl ((more, (n, ((), ((), (finer, ((w64 (sum + z2.1)), ((), (t369, (w64 (t370 + 1)))))))))), (ds, free))))
 .fail)
 .fail)
 .fail)))
 .fail)))))
 .fail))
 .fail))
 .fail)
 (.test (decide ((0 = 0) ∧ (ds.length = ds.length)))
 (.test (decide ((0 = 0) ∧ (free.length = free.length)))
 (.ret (Sum.inr (Sum.inr ((more, (n, ((), ((), (finer, sum))))), (ds, free)))))
 .fail)
 .fail))
noncomputable def L0_L48 (v) := loopO (fun v => (L0_L48_step v).run) v
def L0_fo : List FO := [⟨[(.one .sb)], []⟩]
noncomputable def L0_t : (List (Int) × List (Int)) → T Bool := fun (code, more) =>
 (.sub (F128 (code, more)) fun z0 =>
 (.test z0
 (.ret true)
 (.sub (F27 code) fun z1 =>
 (.test (decide ((0 + z1.2.length) ≤ z1.2.length))
 (.sub (F48 (z1.1.1, (win z1.2 0 z1.2.length))) fun z2 =>
 (.test (decide ((0 + z1.2.length) ≤ z1.2.length))
 (.sub (F49 (z1.1.1, (win z1.2 0 z1.2.length))) fun z3 =>
 (.test (decide ((0 + z1.2.length) ≤ z1.2.length))
 (.sub (F60 (z1.1.1, (win z1.2 0 z1.2.length))) fun z4 =>
 (.test (decide ((0 + z1.2.length) ≤ z1.2.length))
 (.sub (F61 (z1.1.1, (win z1.2 0 z1.2.length))) fun z5 =>
 (.test (decide ((0 + z1.2.length) ≤ z1.2.length))
 (.sub (F30 (z1.1.1, (win z1.2 0 z1.2.length))) fun z6 =>
 (.test (decide ((0 + z1.2.length) ≤ z1.2.length))
 (.sub (F31 (z1.1.1, (win z1.2 0 z1.2.length))) fun z7 =>
 (.test (decide ((0 + z1.2.length) ≤ z1.2.length))
 (.sub (F43 (z1.1.1, (win z1.2 0 z1.2.length))) fun z8 =>
 (.test (decide ((0 + z1.2.length) ≤ z1.2.length))
 (.sub (F44 (z1.1.1, (win z1.2 0 z1.2.length))) fun z9 =>
 (.test (decide ((0 + z1.2.length) ≤ z1.2.length))
 (.sub (F63 (z1.1.1, (win z1.2 0 z1.2.length))) fun z10 =>
 (.test (decide ((0 + z1.2.length) ≤ z1.2.length))
 (.sub (F64 (z1.1.1, (win z1.2 0 z1.2.length))) fun z11 =>
 (.test (decide ((0 + z1.2.length) ≤ z1.2.length))
 (.sub (F65 (z1.1.1, (win z1.2 0 z1.2.length))) fun z12 =>
 (.test (decide ((0 + z1.2.length) ≤ z1.2.length))
 (.sub (F66 (z1.1.1, (win z1.2 0 z1.2.length))) fun z13 =>
 (.test (! (z2.1.2 == z3.1.2))
 (.ret false)
 (.test (decide ((0 + z2.2.length) ≤ z2.2.length))
 (.test (decide ((0 + z3.2.length) ≤ z3.2.length))
 (.sub (F113 ((win z2.2 0 z2.2.length), (win z3.2 0 z3.2.length))) fun z14 =>
 (.test (! z14)
 (.ret false)
 (.test (! (z4.1.2 == z5.1.2))
 (.ret false)
 (.test (decide ((0 + z4.2.length) ≤ z4.2.length))
 (.test (decide ((0 + z5.2.length) ≤ z5.2.length))
 (.sub (F112 ((win z4.2 0 z4.2.length), (win z5.2 0 z5.2.length))) fun z15 =>
 (.test (! z15)
 (.ret false)
 (.test (! (z6.1.2 == z7.1.2))
 (.ret false)
 (.test (decide ((0 + z6.2.length) ≤ z6.2.length))
 (.test (decide ((0 + z7.2.length) ≤ z7.2.length))
 (.sub (F112 ((win z6.2 0 z6.2.length), (win z7.2 0 z7.2.length))) fun z16 =>
 (.test (! z16)
 (.ret false)
 (.test (! (z8.1.2 == z9.1.2))
 (.ret false)
 (.test (decide ((0 + z8.2.length) ≤ z8.2.length))
 (.test (decide ((0 + z9.2.length) ≤ z9.2.length))
 (.sub (F114 ((win z8.2 0 z8.2.length), (win z9.2 0 z9.2.length))) fun z17 =>
 (.test (! z17)
 (.ret false)
 (.test (! (z10.2 == z11.2))
 (.ret false)
 (.test (z10.1 != z11.1)
 (.ret false)
 (.test (! (z12.1.2 == z13.1.2))
 (.ret false)
 (.test (decide ((0 + z12.2.length) ≤ z12.2.length))
 (.test (decide ((0 + z13.2.length) ≤ z13.2.length))
 (.sub (F114 ((win z12.2 0 z12.2.length), (win z13.2 0 z13.2.length))) fun z18 =>
 (.test (! z18)
 (.ret false)
 (.test (decide ((0 + z1.2.length) ≤ z1.2.length))
 (.sub (F106 (z1.1.1, (win z1.2 0 z1.2.length))) fun z19 =>
 (.test (! (z2.1.2 == z19))
 (.ret false)
 (.test (decide ((0 + z1.2.length) ≤ z1.2.length))
 (.sub (F106 (z1.1.1, (win z1.2 0 z1.2.length))) fun z20 =>
 (.test (decide ((0 + z1.2.length) ≤ z1.2.length))
 (.sub (F115 (z1.1.1, (win z1.2 0 z1.2.length))) fun z21 =>
 (.test (! (z20 == z21))
 (.ret false)
 (.test (! (z4.1.2 == z2.1.2))
 (.ret false)
 (.test (! (z6.1.2 == z2.1.2))
 (.ret false)
 (.test (! (z8.1.2 == z2.1.2))
 (.ret false)
 (.test (! (z10.2 == z2.1.2))
 (.ret false)
 (.test (! (z12.1.2 == z2.1.2))
 (.ret false)
 (.test z2.1.2
 (.test ((z2.2.length : Int) != (w64 ((z1.2.length : Int) + 1)))
 (.ret false)
 (.test ((z4.2.length : Int) != (z2.2.length : Int))
 (.ret false)
 (.test (decide ((0 + z4.2.length) ≤ z4.2.length))
 (.sub (F126 (win z4.2 0 z4.2.length)) fun z22 =>
 (.test (z22 != (w64 (z1.1.1 + (w64 (2 * (z1.2.length : Int))))))
 (.ret false)
 (.test (decide ((0 + z6.2.length) ≤ z6.2.length))
 (.sub (F126 (win z6.2 0 z6.2.length)) fun z23 =>
 (.test (decide ((0 + z4.2.length) ≤ z4.2.length))
 (.sub (F126 (win z4.2 0 z4.2.length)) fun z24 =>
 (.test (z23 != z24)
 (.ret false)
 (.test (! (((z8.2.length : Int) == 0) == ((z1.2.length : Int) == (w64 (z1.1.1 - 3)))))
 (.ret false)
 (.test (decide ((0 + z12.2.length) ≤ z12.2.length))
 (.sub (F33 (z1.1.1, (win z12.2 0 z12.2.length))) fun z25 =>
 (.test (! z25)
 (.ret false)
 (.test (decide (z10.1 < 1))
 (.ret false)
 (.test (! ((z10.1 == 1) == ((z1.2.length : Int) == (w64 (z1.1.1 - 3)))))
 (.ret false)
 (.test (decide ((0 = 0) ∧ (z1.2.length = z1.2.length)))
 (.test (decide ((0 = 0) ∧ (z2.2.length = z2.2.length)))
 (.test (decide ((0 = 0) ∧ (z4.2.length = z4.2.length)))
 (.test (decide ((0 = 0) ∧ (z6.2.length = z6.2.length)))
 (.test (decide ((0 = 0) ∧ (z8.2.length = z8.2.length)))
 (.test (decide ((0 = 0) ∧ (z12.2.length = z12.2.length)))
 (.sub (L0_L22 ((more, (z1.1.1, ((), ((), ((), ((), ((), (z10.1, ((), ((z6.2.length : Int), (0 : Int))))))))))), (z1.2, (z2.2, (z4.2, (z6.2, (z8.2, z12.2))))))) fun z26 =>
 (.test (Sum.isLeft z26)
 (.sub (Sum.getLeft? z26) fun z27 =>
 (.ret z27))
 (.sub (Sum.getRight? z26) fun z28 =>
 (.test (decide ((0 = 0) ∧ (z28.2.1.length = z28.2.1.length)))
 (.test (decide ((0 = 0) ∧ (z28.2.2.1.length = z28.2.2.1.length)))
 (.test (decide ((0 = 0) ∧ (z28.2.2.2.1.length = z28.2.2.2.1.length)))
 (.test (decide ((0 = 0) ∧ (z28.2.2.2.2.length = z28.2.2.2.2.length)))
 (.test (decide ((0 = 0) ∧ (z28.2.2.1.length = z28.2.2.1.length)))
 (.sub (L0_L35 ((z28.1.1, (z28.1.2.1, ((), ((), ((), (z28.1.2.2.2.2.2.1, ((), ((), ((z28.2.2.1.length : Int), (0 : Int)))))))))), z28.2)) fun z29 =>
 (.test (Sum.isLeft z29)
 (.sub (Sum.getLeft? z29) fun z30 =>
 (.ret z30))
 (.sub (Sum.getRight? z29) fun z31 =>
 (.test (decide ((0 = 0) ∧ (z31.2.1.length = z31.2.1.length)))
 (.test (decide ((0 = 0) ∧ (z31.2.2.1.length = z31.2.2.1.length)))
 (.test (decide ((0 = 0) ∧ (z31.2.2.2.length = z31.2.2.2.length)))
 (.test (decide ((0 = 0) ∧ (z31.2.1.length = z31.2.1.length)))
 (.sub (L0_L41 ((z31.1.1, (z31.1.2.1, ((), ((), (z31.1.2.2.2.2.1, ((), ((), ((z31.2.1.length : Int), (0 : Int))))))))), z31.2)) fun z32 =>
 (.test (Sum.isLeft z32)
 (.sub (Sum.getLeft? z32) fun z33 =>
 (.ret z33))
 (.sub (Sum.getRight? z32) fun z34 =>
 (.test (decide ((0 = 0) ∧ (z34.2.1.length = z34.2.1.length)))
 (.test (decide ((0 = 0) ∧ (z34.2.2.length = z34.2.2.length)))
 (.test (decide ((0 = 0) ∧ (z34.2.2.length = z34.2.2.length)))
 (.sub (L0_L48 ((z34.1.1, (z34.1.2.1, ((), ((), (z34.1.2.2.2.2, ((0 : Int), ((), ((z34.2.2.length : Int), (0 : Int))))))))), z34.2)) fun z35 =>
 (.test (Sum.isLeft z35)
 (.sub (Sum.getLeft? z35) fun z36 =>
 (.ret z36))
 (.sub (Sum.getRight? z35) fun z37 =>
 (.test (decide ((z37.2.2.length : Int) > 0))
 (.test (z37.1.2.2.2.2.2 != (w64 (z37.1.2.2.2.2.1 * (w64 ((w64 (z37.1.2.1 - 3)) - (z37.2.1.length : Int))))))
 (.ret false)
 (.sub (F34 z37.1.1) fun z38 =>
 (.test (decide ((0 + z38.2.length) ≤ z38.2.length))
 (.sub (F52 (z38.1.1, ((win z38.2 0 z38.2.length), z38.1.2.2))) fun z39 =>
 (.test (decide ((0 + z38.2.length) ≤ z38.2.length))
 (.sub (F53 (z38.1.1, ((win z38.2 0 z38.2.length), z38.1.2.2))) fun z40 =>
 (.sub (F54 z37.1.1) fun z41 =>
 (.test (decide ((0 + z41.2.length) ≤ z41.2.length))
 (.sub (F85 (z41.1.1, ((win z41.2 0 z41.2.length), z41.1.2.2))) fun z42 =>
 (.test (decide ((0 + z41.2.length) ≤ z41.2.length))
 (.sub (F86 (z41.1.1, ((win z41.2 0 z41.2.length), z41.1.2.2))) fun z43 =>
 (.test (! (z39.1.2 == z40.1.2))
 (.ret false)
 (.test (decide ((0 + z39.2.length) ≤ z39.2.length))
 (.test (decide ((0 + z40.2.length) ≤ z40.2.length))
 (.sub (F114 ((win z39.2 0 z39.2.length), (win z40.2 0 z40.2.length))) fun z44 =>
 (.test (! z44)
 (.ret false)
 (.test (! (z42.1.2 == z43.1.2))
 (.ret false)
 (.test (decide ((0 + z42.2.length) ≤ z42.2.length))
 (.test (decide ((0 + z43.2.length) ≤ z43.2.length))
 (.sub (F114 ((win z42.2 0 z42.2.length), (win z43.2 0 z43.2.length))) fun z45 =>
 (.test (! z45)
 (.ret false)
 (.test z42.1.2
 (.test (decide ((0 + z41.2.length) ≤ z41.2.length))
 (.sub (F60 (z41.1.1, (win z41.2 0 z41.2.length))) fun z46 =>
 (.test (decide ((0 + z42.2.length) ≤ z42.2.length))
 (.sub (F60 (z41.1.1, (win z42.2 0 z42.2.length))) fun z47 =>
 (.test z46.1.2
 (.test z47.1.2
 (.test (decide ((0 + z46.2.length) ≤ z46.2.length))
 (.test (decide ((0 + z47.2.length) ≤ z47.2.length))
 (.sub (F112 ((win z46.2 0 z46.2.length), (win z47.2 0 z47.2.length))) fun z48 =>
 (.ret z48))
 .fail)
 .fail)
 (.ret false))
 (.ret false)))
 .fail))
 .fail)
 (.ret true))))
 .fail)
 .fail))))
 .fail)
 .fail)))
 .fail))
 .fail)))
 .fail))
 .fail)))
 (.sub (F34 z37.1.1) fun z49 =>
 (.test (decide ((0 + z49.2.length) ≤ z49.2.length))
 (.sub (F52 (z49.1.1, ((win z49.2 0 z49.2.length), z49.1.2.2))) fun z50 =>
 (.test (decide ((0 + z49.2.length) ≤ z49.2.length))
 (.sub (F53 (z49.1.1, ((win z49.2 0 z49.2.length), z49.1.2.2))) fun z51 =>
 (.sub (F54 z37.1.1) fun z52 =>
 (.test (decide ((0 + z52.2.length) ≤ z52.2.length))
 (.sub (F85 (z52.1.1, ((win z52.2 0 z52.2.length), z52.1.2.2))) fun z53 =>
 (.test (decide ((0 + z52.2.length) ≤ z52.2.length))
 (.sub (F86 (z52.1.1, ((win z52.2 0 z52.2.length), z52.1.2.2))) fun z54 =>
 (.test (! (z50.1.2 == z51.1.2))
 (.ret false)
 (.test (decide ((0 + z50.2.length) ≤ z50.2.length))
 (.test (decide ((0 + z51.2.length) ≤ z51.2.length))
 (.sub (F114 ((win z50.2 0 z50.2.length), (win z51.2 0 z51.2.length))) fun z55 =>
 (.test (! z55)
 (.ret false)
 (.test (! (z53.1.2 == z54.1.2))
 (.ret false)
 (.test (decide ((0 + z53.2.length) ≤ z53.2.length))
 (.test (decide ((0 + z54.2.length) ≤ z54.2.length))
 (.sub (F114 ((win z53.2 0 z53.2.length), (win z54.2 0 z54.2.length))) fun z56 =>
 (.test (! z56)
 (.ret false)
 (.test z53.1.2
 (.test (decide ((0 + z52.2.length) ≤ z52.2.length))
 (.sub (F60 (z52.1.1, (win z52.2 0 z52.2.length))) fun z57 =>
 (.test (decide ((0 + z53.2.length) ≤ z53.2.length))
 (.sub (F60 (z52.1.1, (win z53.2 0 z53.2.length))) fun z58 =>
 (.test z57.1.2
 (.test z58.1.2
 (.test (decide ((0 + z57.2.length) ≤ z57.2.length))
 (.test (decide ((0 + z58.2.length) ≤ z58.2.length))
 (.sub (F112 ((win z57.2 0 z57.2.length), (win z58.2 0 z58.2.length))) fun z59 =>
 (.ret z59))
 .fail)
 .fail)
 (.ret false))
 (.ret false)))
 .fail))
 .fail)
 (.ret true))))
 .fail)
 .fail))))
 .fail)
 .fail)))
 .fail))
 .fail)))
 .fail))
 .fail))))))
 .fail)
 .fail)
 .fail))))
 .fail)
 .fail)
 .fail)
 .fail))))
 .fail)
 .fail)
 .fail)
 .fail)
 .fail))))
 .fail)
 .fail)
 .fail)
 .fail)
 .fail)
 .fail)))))
 .fail))))
 .fail))
 .fail)))
 .fail)))
 (.sub (F34 more) fun z60 =>
 (.test (decide ((0 + z60.2.length) ≤ z60.2.length))
 (.sub (F52 (z60.1.1, ((win z60.2 0 z60.2.length), z60.1.2.2))) fun z61 =>
 (.test (decide ((0 + z60.2.length) ≤ z60.2.length))
 (.sub (F53 (z60.1.1, ((win z60.2 0 z60.2.length), z60.1.2.2))) fun z62 =>
 (.sub (F54 more) fun z63 =>
 (.test (decide ((0 + z63.2.length) ≤ z63.2.length))
 (.sub (F85 (z63.1.1, ((win z63.2 0 z63.2.length), z63.1.2.2))) fun z64 =>
 (.test (decide ((0 + z63.2.length) ≤ z63.2.length))
 (.sub (F86 (z63.1.1, ((win z63.2 0 z63.2.length), z63.1.2.2))) fun z65 =>
 (.test (! (z61.1.2 == z62.1.2))
 (.ret false)
 (.test (decide ((0 + z61.2.length) ≤ z61.2.length))
 (.test (decide ((0 + z62.2.length) ≤ z62.2.length))
 (.sub (F114 ((win z61.2 0 z61.2.length), (win z62.2 0 z62.2.length))) fun z66 =>
 (.test (! z66)
 (.ret false)
 (.test (! (z64.1.2 == z65.1.2))
 (.ret false)
 (.test (decide ((0 + z64.2.length) ≤ z64.2.length))
 (.test (decide ((0 + z65.2.length) ≤ z65.2.length))
 (.sub (F114 ((win z64.2 0 z64.2.length), (win z65.2 0 z65.2.length))) fun z67 =>
 (.test (! z67)
 (.ret false)
 (.test z64.1.2
 (.test (decide ((0 + z63.2.length) ≤ z63.2.length))
 (.sub (F60 (z63.1.1, (win z63.2 0 z63.2.length))) fun z68 =>
 (.test (decide ((0 + z64.2.length) ≤ z64.2.length))
 (.sub (F60 (z63.1.1, (win z64.2 0 z64.2.length))) fun z69 =>
 (.test z68.1.2
 (.test z69.1.2
 (.test (decide ((0 + z68.2.length) ≤ z68.2.length))
 (.test (decide ((0 + z69.2.length) ≤ z69.2.length))
 (.sub (F112 ((win z68.2 0 z68.2.length), (win z69.2 0 z69.2.length))) fun z70 =>
 (.ret z70))
 .fail)
 .fail)
 (.ret false))
 (.ret false)))
 .fail))
 .fail)
 (.ret true))))
 .fail)
 .fail))))
 .fail)
 .fail)))
 .fail))
 .fail)))
 .fail))
 .fail))))))))))
 .fail))
 .fail)))
 .fail)))
 .fail)
 .fail))))))
 .fail)
 .fail))))
 .fail)
 .fail))))
 .fail)
 .fail))))
 .fail)
 .fail)))
 .fail))
 .fail))
 .fail))
 .fail))
 .fail))
 .fail))
 .fail))
 .fail))
 .fail))
 .fail))
 .fail))
 .fail))))
noncomputable def L0 (v) := (L0_t v).run
noncomputable def L0_E : TEnv := (((((((((((((((((((((((((((((E0.add1 n_F128 F128_sh F128_fo F128).add1 n_F27 F27_sh F27_fo F27).add1 n_F48 F48_sh F48_fo F48).add1 n_F49 F49_sh F49_fo F49).add1 n_F60 F60_sh F60_fo F60).add1 n_F61 F61_sh F61_fo F61).add1 n_F30 F30_sh F30_fo F30).add1 n_F31 F31_sh F31_fo F31).add1 n_F43 F43_sh F43_fo F43).add1 n_F44 F44_sh F44_fo F44).add1 n_F63 F63_sh F63_fo F63).add1 n_F64 F64_sh F64_fo F64).add1 n_F65 F65_sh F65_fo F65).add1 n_F66 F66_sh F66_fo F66).add1 n_F113 F113_sh F113_fo F113).add1 n_F112 F112_sh F112_fo F112).add1 n_F114 F114_sh F114_fo F114).add1 n_F106 F106_sh F106_fo F106).add1 n_F115 F115_sh F115_fo F115).add1 n_F126 F126_sh F126_fo F126).add1 n_F33 F33_sh F33_fo F33).add1 n_F34 F34_sh F34_fo F34).add1 n_F52 F52_sh F52_fo F52).add1 n_F53 F53_sh F53_fo F53).add1 n_F54 F54_sh F54_fo F54).add1 n_F85 F85_sh F85_fo F85).add1 n_F86 F86_sh F86_fo F86).add1 n_F127 F127_sh F127_fo F127).add1 n_F135 F135_sh F135_fo F135)
theorem L0_Eok : (L0_E).OK := (((((((((((((((((((((((((((((E0ok.add1 F128_ok).add1 F27_ok).add1 F48_ok).add1 F49_ok).add1 F60_ok).add1 F61_ok).add1 F30_ok).add1 F31_ok).add1 F43_ok).add1 F44_ok).add1 F63_ok).add1 F64_ok).add1 F65_ok).add1 F66_ok).add1 F113_ok).add1 F112_ok).add1 F114_ok).add1 F106_ok).add1 F115_ok).add1 F126_ok).add1 F33_ok).add1 F34_ok).add1 F52_ok).add1 F53_ok).add1 F54_ok).add1 F85_ok).add1 F86_ok).add1 F127_ok).add1 F135_ok)
noncomputable def L0_told : Nat → Option SealT := fun id => if id = 26 then some (LSh.told L0_L26_sh 0 (L0_L26_step)) else if id = 22 then some (LSh.told L0_L22_sh 0 (L0_L22_step)) else if id = 35 then some (LSh.told L0_L35_sh 0 (L0_L35_step)) else if id = 41 then some (LSh.told L0_L41_sh 0 (L0_L41_step)) else if id = 48 then some (LSh.told L0_L48_sh 0 (L0_L48_step)) else none
theorem L0_L26_ok : ToldOK Tryz.prog 0 (loopAt (bodyOf fn_l_FnCutsIntoPieces) [0, 0]) (LSh.told L0_L26_sh 0 (L0_L26_step)) :=
 loop_ok (E := L0_E) (L0_Eok) (told := L0_told) (l := L0_L26_sh) (step := L0_L26_step) (loopsOK_of (ls := []) (by kernel_rfl) trivial) (by kernel_rfl) (fun v => by kernel_rfl)
theorem L0_L22_ok : ToldOK Tryz.prog 0 (loopAt (bodyOf fn_l_FnCutsIntoPieces) [0]) (LSh.told L0_L22_sh 0 (L0_L22_step)) :=
 loop_ok (E := L0_E) (L0_Eok) (told := L0_told) (l := L0_L22_sh) (step := L0_L22_step) (loopsOK_of (ls := [loopAt (bodyOf fn_l_FnCutsIntoPieces) [0, 0]]) (by kernel_rfl) ⟨.inr ⟨_, by kernel_rfl, L0_L26_ok⟩, trivial⟩) (by kernel_rfl) (fun v => by kernel_rfl)
theorem L0_L35_ok : ToldOK Tryz.prog 0 (loopAt (bodyOf fn_l_FnCutsIntoPieces) [1]) (LSh.told L0_L35_sh 0 (L0_L35_step)) :=
 loop_ok (E := L0_E) (L0_Eok) (told := L0_told) (l := L0_L35_sh) (step := L0_L35_step) (loopsOK_of (ls := []) (by kernel_rfl) trivial) (by kernel_rfl) (fun v => by kernel_rfl)
theorem L0_L41_ok : ToldOK Tryz.prog 0 (loopAt (bodyOf fn_l_FnCutsIntoPieces) [2]) (LSh.told L0_L41_sh 0 (L0_L41_step)) :=
 loop_ok (E := L0_E) (L0_Eok) (told := L0_told) (l := L0_L41_sh) (step := L0_L41_step) (loopsOK_of (ls := []) (by kernel_rfl) trivial) (by kernel_rfl) (fun v => by kernel_rfl)
theorem L0_L48_ok : ToldOK Tryz.prog 0 (loopAt (bodyOf fn_l_FnCutsIntoPieces) [3]) (LSh.told L0_L48_sh 0 (L0_L48_step)) :=
 loop_ok (E := L0_E) (L0_Eok) (told := L0_told) (l := L0_L48_sh) (step := L0_L48_step) (loopsOK_of (ls := []) (by kernel_rfl) trivial) (by kernel_rfl) (fun v => by kernel_rfl)
theorem L0_ok : FOK Tryz.prog n_l_FnCutsIntoPieces L0_sh L0_fo L0 :=
 fn_ok (E := L0_E) (L0_Eok) (told := L0_told) (fl := []) (c := bodyOf fn_l_FnCutsIntoPieces) (s := L0_sh) (l := L0_fo) (tree := L0_t) fnat_l_FnCutsIntoPieces (by kernel_rfl) (by kernel_rfl) (by kernel_rfl) (loopsOK_of (ls := [loopAt (bodyOf fn_l_FnCutsIntoPieces) [0], loopAt (bodyOf fn_l_FnCutsIntoPieces) [1], loopAt (bodyOf fn_l_FnCutsIntoPieces) [2], loopAt (bodyOf fn_l_FnCutsIntoPieces) [3]]) (by kernel_rfl) ⟨.inr ⟨_, by kernel_rfl, L0_L22_ok⟩, ⟨.inr ⟨_, by kernel_rfl, L0_L35_ok⟩, ⟨.inr ⟨_, by kernel_rfl, L0_L41_ok⟩, ⟨.inr ⟨_, by kernel_rfl, L0_L48_ok⟩, trivial⟩⟩⟩⟩) (fun v => by kernel_rfl)
noncomputable def tailCI (more : List Int) : T Bool :=
 (.sub (F34 more) fun z60 =>
 (.test (decide ((0 + z60.2.length) ≤ z60.2.length))
 (.sub (F52 (z60.1.1, ((win z60.2 0 z60.2.length), z60.1.2.2))) fun z61 =>
 (.test (decide ((0 + z60.2.length) ≤ z60.2.length))
 (.sub (F53 (z60.1.1, ((win z60.2 0 z60.2.length), z60.1.2.2))) fun z62 =>
 (.sub (F54 more) fun z63 =>
 (.test (decide ((0 + z63.2.length) ≤ z63.2.length))
 (.sub (F85 (z63.1.1, ((win z63.2 0 z63.2.length), z63.1.2.2))) fun z64 =>
 (.test (decide ((0 + z63.2.length) ≤ z63.2.length))
 (.sub (F86 (z63.1.1, ((win z63.2 0 z63.2.length), z63.1.2.2))) fun z65 =>
 (.test (! (z61.1.2 == z62.1.2))
 (.ret false)
 (.test (decide ((0 + z61.2.length) ≤ z61.2.length))
 (.test (decide ((0 + z62.2.length) ≤ z62.2.length))
 (.sub (F114 ((win z61.2 0 z61.2.length), (win z62.2 0 z62.2.length))) fun z66 =>
 (.test (! z66)
 (.ret false)
 (.test (! (z64.1.2 == z65.1.2))
 (.ret false)
 (.test (decide ((0 + z64.2.length) ≤ z64.2.length))
 (.test (decide ((0 + z65.2.length) ≤ z65.2.length))
 (.sub (F114 ((win z64.2 0 z64.2.length), (win z65.2 0 z65.2.length))) fun z67 =>
 (.test (! z67)
 (.ret false)
 (.test z64.1.2
 (.test (decide ((0 + z63.2.length) ≤ z63.2.length))
 (.sub (F60 (z63.1.1, (win z63.2 0 z63.2.length))) fun z68 =>
 (.test (decide ((0 + z64.2.length) ≤ z64.2.length))
 (.sub (F60 (z63.1.1, (win z64.2 0 z64.2.length))) fun z69 =>
 (.test z68.1.2
 (.test z69.1.2
 (.test (decide ((0 + z68.2.length) ≤ z68.2.length))
 (.test (decide ((0 + z69.2.length) ≤ z69.2.length))
 (.sub (F112 ((win z68.2 0 z68.2.length), (win z69.2 0 z69.2.length))) fun z70 =>
 (.ret z70))
 .fail)
 .fail)
 (.ret false))
 (.ret false)))
 .fail))
 .fail)
 (.ret true))))
 .fail)
 .fail))))
 .fail)
 .fail)))
 .fail))
 .fail)))
 .fail))
 .fail))
theorem szS_len {N : Nat} {ds : List Dg} (h : isCut N ds = true) : (sortI (szL N ds)).length = ds.length + 1 := by
 obtain ⟨h1, h2, hc, _⟩ := isCut_iff.1 h
 rw [Int.toNat_natCast] at hc
 rw [(sortI_perm _).length_eq, szL_len hc (by omega)]
theorem tail_ok {more : List Int} (b : bytesOK more) : (tailCI more).run = some true := by
 obtain ⟨m, d, es, e1, hes⟩ := F34_some b
 obtain ⟨p, k, fs, e2, hfs⟩ := F54_some b
 obtain ⟨ab, al, hal, ai, as'⟩ : ∃ ab al, al.length ≤ 1000 ∧ F52 (m, (es, d)) = some (((), ab), al) ∧ F53 (m, (es, d)) = some (((), ab), al) := by
  rw [F52_eq m es d (by omega), F53_eq m es d (by omega)]
  unfold adR
  split
  ·exact ⟨_, _, by rw [sortD_length, List.length_append, List.length_singleton]; omega, rfl, rfl⟩
  ·exact ⟨false, [], by simp, rfl, rfl⟩
 obtain ⟨tb, tl, htl, ti, ts, hturn⟩ : ∃ tb tl, tl.length ≤ 1000 ∧ F85 (p, (fs, k)) = some (((), tb), tl) ∧ F86 (p, (fs, k)) = some (((), tb), tl) ∧ (tb = true → ∃ S : List Int, S.length ≤ 1000 ∧ F60 (p, fs) = some (((), true), S) ∧ F60 (p, tl) = some (((), true), S)) := by
  rw [F85_eq p fs k (by omega), F86_eq p fs k (by omega)]
  unfold tuR
  split
  ·rename_i h
   have hl : (sortD (fs.map (turnD p k))).length ≤ 1000 := by rw [sortD_length, List.length_map]; omega
   refine ⟨_, _, hl, rfl, rfl, fun _ => ?_⟩
   obtain ⟨hc, hk⟩ := h
   obtain ⟨N, rfl, h3, h12, hlen, _⟩ := isCut_cut hc
   have hk := inB_iff.1 hk
   obtain ⟨t1, t2⟩ := turn_cut hc (k := k) (by omega)
   refine ⟨sortI (szL N fs), by rw [szS_len hc]; omega, ?_, ?_⟩
   ·rw [F60_eq _ _ (by omega), if_pos hc, Int.toNat_natCast]
   ·rw [F60_eq _ _ (by omega), if_pos t1, Int.toNat_natCast, t2]
  ·exact ⟨false, [], by simp, rfl, rfl, fun h => by cases h⟩
 have u1 := uCuts_val al al (by omega)
 have u2 := uCuts_val tl tl (by omega)
 unfold tailCI
 rw [T.run_sub, e1, Option.bind_some, T.run_test, if_pos (by simp)]
 dsimp only
 rw [win_all, T.run_sub, ai, Option.bind_some, T.run_test, if_pos (by simp), T.run_sub, as', Option.bind_some, T.run_sub, e2, Option.bind_some, T.run_test, if_pos (by simp)]
 dsimp only
 rw [win_all, T.run_sub, ti, Option.bind_some, T.run_test, if_pos (by simp), T.run_sub, ts, Option.bind_some, T.run_test, if_neg (by simp), T.run_test, if_pos (by simp), T.run_test, if_pos (by simp)]
 dsimp only
 rw [win_all, win_all, T.run_sub, u1, Option.bind_some, T.run_test, if_neg (by simp), T.run_test, if_neg (by simp), T.run_test, if_pos (by simp), T.run_test, if_pos (by simp), T.run_sub, u2, Option.bind_some, T.run_test, if_neg (by simp), T.run_test]
 cases tb with
 | false => rfl
 | true =>
  obtain ⟨S, hS, s1, s2⟩ := hturn rfl
  have u3 := uSame_val S S (by omega)
  rw [if_pos rfl, T.run_test, if_pos (by simp), T.run_sub, s1, Option.bind_some, T.run_test, if_pos (by simp), T.run_sub, s2, Option.bind_some, T.run_test, if_pos (by rfl), T.run_test, if_pos (by rfl), T.run_test, if_pos (by simp), T.run_test, if_pos (by simp)]
  dsimp only
  rw [win_all, T.run_sub, u3, Option.bind_some, T.run_ret]
  simp
section
variable (more : List Int) (n finer : Int) (ds free first : List Dg) (pieces : List (List Int)) (sizes corners : List Int)
theorem L26_eq (hp : pieces.length ≤ 1000) (hx : ∀ p ∈ pieces, p.length ≤ 1000) (i t1 t2 : Int) : ∀ (m k : Nat) (count : Int), k + m = pieces.length → 0 ≤ count ∧ count ≤ (k : Int) →
  L0_L26 ((more, (n, ((), ((), ((), ((), ((), (finer, ((), (i, (count, (t1, (t2, ((), ((pieces.length : Int), (k : Int)))))))))))))))), (ds, (pieces, (sizes, (corners, (free, first)))))) =
   some ((more, (n, ((), ((), ((), ((), ((), (finer, ((), (i, (count + (((pieces.drop k).countP fun p => decide (i ∈ p) : Nat) : Int), (t1, t2)))))))))))), (ds, (pieces, (sizes, (corners, (free, first)))))) := by
 intro m
 induction m with
 | zero =>
  intro k count hk hc
  rw [List.drop_of_length_le (by omega), List.countP_nil, show count + ((0 : Nat) : Int) = count by omega]
  refine loopO_done ?_
  rw [L0_L26_step, T.run_test, if_neg (by rw [decide_eq_true_eq]; omega)]
  repeat rw [T.run_test, if_pos (by simp)]
  rw [T.run_ret]
 | succ m ih =>
  intro k count hk hc
  have hlt : k < pieces.length := by omega
  have hlt' : 0 + k < pieces.length := by omega
  have w1 : w64 ((k : Int) + 1) = ((k + 1 : Nat) : Int) := by rw [w64_id (by omega) (by omega)]; omega
  have w2 : w64 (count + 1) = count + 1 := w64_id (by omega) (by omega)
  have hu := F127_eq pieces[k] i (by have := hx _ (List.getElem_mem hlt); omega)
  rw [List.drop_eq_getElem_cons hlt, List.countP_cons]
  have st : (L0_L26_step ((more, (n, ((), ((), ((), ((), ((), (finer, ((), (i, (count, (t1, (t2, ((), ((pieces.length : Int), (k : Int)))))))))))))))), (ds, (pieces, (sizes, (corners, (free, first))))))).run =
    some (.inl ((more, (n, ((), ((), ((), ((), ((), (finer, ((), (i, ((count + if i ∈ pieces[k] then 1 else 0), (t1, (t2, ((), ((pieces.length : Int), ((k + 1 : Nat) : Int)))))))))))))))), (ds, (pieces, (sizes, (corners, (free, first))))))) := by
   rw [L0_L26_step, T.run_test, if_pos (decide_eq_true (by omega)), T.run_test, if_pos (decide_eq_true (by omega)), T.run_sub, Int.toNat_natCast, Nat.zero_add, List.getElem?_eq_getElem hlt, Option.bind_some, T.run_sub, hu, Option.bind_some, T.run_test]
   by_cases hi : i ∈ pieces[k]
   ·rw [if_pos (decide_eq_true hi)]
    repeat rw [T.run_test, if_pos (by simp)]
    rw [T.run_ret, w1, w2, if_pos hi]
   ·rw [if_neg (by rw [decide_eq_true_eq]; exact hi)]
    repeat rw [T.run_test, if_pos (by simp)]
    rw [T.run_ret, w1, if_neg hi, Int.add_zero]
  have := ih (k + 1) (count + if i ∈ pieces[k] then 1 else 0) (by omega) (by split <;> omega)
  refine (loopO_next st).trans (Eq.trans this ?_)
  congr 3
  by_cases hi : i ∈ pieces[k]
  ·simp only [hi, if_true, decide_true]
   congr 10
   omega
  ·simp only [hi, if_false, decide_false, Bool.false_eq_true, Int.add_zero, Nat.add_zero]
theorem L22_eq (hp : pieces.length ≤ 1000) (hx : ∀ p ∈ pieces, p.length ≤ 1000) (hcl : corners.length ≤ 1000) (hC : ∀ i : Nat, i < corners.length → corners[i]? = some ((pieces.countP fun p => decide ((i : Int) ∈ p) : Nat) : Int)) : ∀ (m k : Nat), k + m = corners.length →
  L0_L22 ((more, (n, ((), ((), ((), ((), ((), (finer, ((), ((corners.length : Int), (k : Int))))))))))), (ds, (pieces, (sizes, (corners, (free, first)))))) =
   some (.inr ((more, (n, ((), ((), ((), (finer, ())))))), (ds, (sizes, (free, first))))) := by
 intro m
 induction m with
 | zero =>
  intro k hk
  refine loopO_done ?_
  rw [L0_L22_step, T.run_test, if_neg (by rw [decide_eq_true_eq]; omega)]
  repeat rw [T.run_test, if_pos (by simp)]
  rw [T.run_ret]
 | succ m ih =>
  intro k hk
  have hlt : k < corners.length := by omega
  have w1 : w64 ((k : Int) + 1) = ((k + 1 : Nat) : Int) := by rw [w64_id (by omega) (by omega)]; omega
  have h26 := L26_eq more n finer ds free first pieces sizes corners hp hx (k : Int) (corners.length : Int) (k : Int) pieces.length 0 0 (by omega) (by omega)
  rw [List.drop_zero, Int.zero_add] at h26
  have h26' : L0_L26 ((more, (n, ((), ((), ((), ((), ((), (finer, ((), ((k : Int), ((0 : Int), ((corners.length : Int), ((k : Int), ((), ((pieces.length : Int), (0 : Int)))))))))))))))), (ds, (pieces, (sizes, (corners, (free, first)))))) = _ := h26
  rw [← ih (k + 1) (by omega)]
  refine loopO_next ?_
  rw [L0_L22_step, T.run_test, if_pos (decide_eq_true (by omega))]
  repeat rw [T.run_test, if_pos (by simp)]
  rw [T.run_sub, h26', Option.bind_some, T.run_test, if_pos (decide_eq_true (by dsimp only; omega)), T.run_sub]
  dsimp only
  rw [Int.toNat_natCast, Nat.zero_add, hC k hlt, Option.bind_some, T.run_test, if_neg (by simp)]
  repeat rw [T.run_test, if_pos (by simp)]
  rw [T.run_ret, w1]
theorem L35_eq (hl : sizes.length ≤ 1000) (h3 : ∀ s ∈ sizes, 3 ≤ s) (hu : sizes.Pairwise (· ≤ ·)) : ∀ (m k : Nat), k + m = sizes.length →
  L0_L35 ((more, (n, ((), ((), ((), (finer, ((), ((), ((sizes.length : Int), (k : Int)))))))))), (ds, (sizes, (free, first)))) =
   some (.inr ((more, (n, ((), ((), (finer, ()))))), (ds, (free, first)))) := by
 intro m
 induction m with
 | zero =>
  intro k hk
  refine loopO_done ?_
  rw [L0_L35_step, T.run_test, if_neg (by rw [decide_eq_true_eq]; omega)]
  repeat rw [T.run_test, if_pos (by simp)]
  rw [T.run_ret]
 | succ m ih =>
  intro k hk
  have hlt : k < sizes.length := by omega
  have w1 : w64 ((k : Int) + 1) = ((k + 1 : Nat) : Int) := by rw [w64_id (by omega) (by omega)]; omega
  have hs := h3 _ (List.getElem_mem hlt)
  rw [← ih (k + 1) (by omega)]
  refine loopO_next ?_
  rw [L0_L35_step, T.run_test, if_pos (decide_eq_true (by omega)), T.run_test, if_pos (decide_eq_true (by omega)), T.run_sub, Int.toNat_natCast, Nat.zero_add, List.getElem?_eq_getElem hlt, Option.bind_some, T.run_test, if_neg (by rw [decide_eq_true_eq]; omega), T.run_test]
  by_cases hk0 : (k : Int) > 0
  ·have w2 : w64 ((k : Int) - 1) = ((k - 1 : Nat) : Int) := by rw [w64_id (by omega) (by omega)]; omega
   have hlt2 : k - 1 < sizes.length := by omega
   have hle := List.pairwise_iff_getElem.1 hu (k - 1) k hlt2 hlt (by omega)
   rw [if_pos (decide_eq_true hk0), w2, T.run_test, if_pos (decide_eq_true (by omega)), T.run_sub, Int.toNat_natCast, Nat.zero_add, List.getElem?_eq_getElem hlt2, Option.bind_some, T.run_test, if_neg (by rw [decide_eq_true_eq]; omega)]
   repeat rw [T.run_test, if_pos (by simp)]
   rw [T.run_ret, w1]
  ·rw [if_neg (by rw [decide_eq_true_eq]; exact hk0)]
   repeat rw [T.run_test, if_pos (by simp)]
   rw [T.run_ret, w1]
theorem L41_eq (hl : ds.length ≤ 1000) (hf : first.length ≤ 1000) (hin : ∀ d ∈ ds, d ∈ first) : ∀ (m k : Nat), k + m = ds.length →
  L0_L41 ((more, (n, ((), ((), (finer, ((), ((), ((ds.length : Int), (k : Int))))))))), (ds, (free, first))) =
   some (.inr ((more, (n, ((), ((), finer)))), (ds, free))) := by
 intro m
 induction m with
 | zero =>
  intro k hk
  refine loopO_done ?_
  rw [L0_L41_step, T.run_test, if_neg (by rw [decide_eq_true_eq]; omega)]
  repeat rw [T.run_test, if_pos (by simp)]
  rw [T.run_ret]
 | succ m ih =>
  intro k hk
  have hlt : k < ds.length := by omega
  have w1 : w64 ((k : Int) + 1) = ((k + 1 : Nat) : Int) := by rw [w64_id (by omega) (by omega)]; omega
  have hu := uIn_val first ds[k] (by omega)
  rw [decide_eq_true (hin _ (List.getElem_mem hlt))] at hu
  rw [← ih (k + 1) (by omega)]
  refine loopO_next ?_
  rw [L0_L41_step, T.run_test, if_pos (decide_eq_true (by omega)), T.run_test, if_pos (decide_eq_true (by omega)), T.run_sub, Int.toNat_natCast, Nat.zero_add, List.getElem?_eq_getElem hlt, Option.bind_some, T.run_test, if_pos (by simp), win_all, T.run_sub, hu, Option.bind_some, T.run_test, if_neg (by simp)]
  repeat rw [T.run_test, if_pos (by simp)]
  rw [T.run_ret, w1]
theorem L48_eq (hl : ds.length ≤ 1000) (hfl : free.length ≤ 1000) (part : Dg → Int) (hpb : ∀ d ∈ free, 0 ≤ part d ∧ part d ≤ 1048576 ∧ part d ≤ finer) (hin : ∀ d ∈ free, d ∉ ds)
  (hA : ∀ d ∈ free, ∃ nx, F52 (n, (ds, d)) = some (((), true), nx) ∧ F63 (n, nx) = some (part d, true)) : ∀ (m k : Nat) (sum : Int), k + m = free.length → 0 ≤ sum ∧ sum ≤ 1048576 * (k : Int) →
  L0_L48 ((more, (n, ((), ((), (finer, (sum, ((), ((free.length : Int), (k : Int))))))))), (ds, free)) =
   some (.inr ((more, (n, ((), ((), (finer, sum + ((free.drop k).map part).sum))))), (ds, free))) := by
 intro m
 induction m with
 | zero =>
  intro k sum hk hs
  rw [List.drop_of_length_le (by omega), List.map_nil, List.sum_nil, Int.add_zero]
  refine loopO_done ?_
  rw [L0_L48_step, T.run_test, if_neg (by rw [decide_eq_true_eq]; omega)]
  repeat rw [T.run_test, if_pos (by simp)]
  rw [T.run_ret]
 | succ m ih =>
  intro k sum hk hs
  have hlt : k < free.length := by omega
  have w1 : w64 ((k : Int) + 1) = ((k + 1 : Nat) : Int) := by rw [w64_id (by omega) (by omega)]; omega
  have hm := List.getElem_mem hlt
  obtain ⟨nx, a1, a2⟩ := hA _ hm
  have hb := hpb _ hm
  have w2 : w64 (sum + part free[k]) = sum + part free[k] := w64_id (by omega) (by omega)
  have hu := uIn_val ds free[k] (by omega)
  rw [decide_eq_false (hin _ hm)] at hu
  rw [List.drop_eq_getElem_cons hlt, List.map_cons, List.sum_cons, ← Int.add_assoc, ← ih (k + 1) (sum + part free[k]) (by omega) (by omega)]
  refine loopO_next ?_
  rw [L0_L48_step, T.run_test, if_pos (decide_eq_true (by omega)), T.run_test, if_pos (decide_eq_true (by omega)), T.run_sub, Int.toNat_natCast, Nat.zero_add, List.getElem?_eq_getElem hlt, Option.bind_some, T.run_test, if_pos (by simp), win_all, T.run_sub, a1, Option.bind_some, T.run_test, if_pos (by simp)]
  dsimp only
  rw [win_all, T.run_sub, a2, Option.bind_some, T.run_test, if_neg (by simp), T.run_test, if_neg (by simp), T.run_test, if_neg (by rw [decide_eq_true_eq]; dsimp only; omega), T.run_test, if_pos (by simp), T.run_sub, hu, Option.bind_some, T.run_test, if_neg (by simp)]
  repeat rw [T.run_test, if_pos (by simp)]
  rw [T.run_ret, w1, w2]
end
theorem sum_ind (n : Nat) (a : Int) : ((List.range n).map fun (p : Nat) => if a = (p : Int) then (1 : Int) else 0).sum = if 0 ≤ a ∧ a < (n : Int) then 1 else 0 := by
 induction n with
 | zero => rw [if_neg (by omega)]; rfl
 | succ n ih =>
  rw [List.range_succ, List.map_append, List.sum_append, ih, List.map_singleton, List.sum_singleton]
  split <;> split <;> split <;> omega
theorem sum_add (f g : Nat → Int) : ∀ l : List Nat, (l.map fun p => f p + g p).sum = (l.map f).sum + (l.map g).sum
 | [] => rfl
 | a :: t => by simp only [List.map_cons, List.sum_cons, sum_add f g t]; omega
theorem cnt_sum (n : Nat) : ∀ ds : List Dg, (∀ d ∈ ds, 0 ≤ d.1 ∧ d.1 < d.2 ∧ d.2 < (n : Int)) → ((List.range n).map fun (p : Nat) => cnt ds (p : Int)).sum = 2 * (ds.length : Int)
 | [], _ => by
  have : ∀ l : List Nat, (l.map fun (p : Nat) => cnt [] (p : Int)).sum = 0 := by
   intro l
   induction l with
   | nil => rfl
   | cons a t ih => rw [List.map_cons, List.sum_cons, ih]; rfl
  rw [this]; rfl
 | d :: t, h => by
  have ih := cnt_sum n t fun e he => h e (by simp [he])
  have hd := h d (by simp)
  have e : (fun (p : Nat) => cnt (d :: t) (p : Int)) = fun (p : Nat) => cntD d (p : Int) + cnt t (p : Int) := rfl
  rw [e, sum_add (fun p => cntD d (p : Int)) (fun p => cnt t (p : Int)), ih]
  have e2 : (fun (p : Nat) => cntD d (p : Int)) = fun (p : Nat) => (if d.1 = (p : Int) then (1 : Int) else 0) + (if d.2 = (p : Int) then 1 else 0) := rfl
  rw [e2, sum_add (fun p => if d.1 = (p : Int) then (1 : Int) else 0) (fun p => if d.2 = (p : Int) then (1 : Int) else 0), sum_ind, sum_ind, if_pos (by omega), if_pos (by omega), List.length_cons]
  omega
theorem quid_sumC (n : Nat) {ds : List Dg} (h : ∀ d ∈ ds, 0 ≤ d.1 ∧ d.1 < d.2 ∧ d.2 < (n : Int)) : (quid n ds).sum = (n : Int) + 2 * (ds.length : Int) := by
 unfold quid
 rw [sum_add (fun _ => 1) (fun p => cnt ds (p : Int)), cnt_sum n ds h]
 have : ∀ l : List Nat, (l.map fun _ => (1 : Int)).sum = (l.length : Int) := by
  intro l
  induction l with
  | nil => rfl
  | cons a t ih => rw [List.map_cons, List.sum_cons, ih, List.length_cons]; omega
 rw [this, List.length_range]
theorem L0_true (v : List Int × List Int) (hs : smallL ASh.small [.one (.sl (.int .u8) false true), .one (.sl (.int .u8) false true)] v) : L0 v = some true := by
 obtain ⟨code, more⟩ := v
 have hb : ∀ l : List Int, (∀ x ∈ l, wfE (.int .u8) x) → bytesOK l := fun l h x hx => by
  have := h x hx
  simp [wfE, Lit.wf, IntKind.min, IntKind.max, IntKind.signed, IntKind.bits] at this
  omega
 have b1 : bytesOK code := hb code hs.1.2
 have b2 : bytesOK more := hb more hs.2.2
 obtain ⟨b, hbig⟩ : ∃ b, F128 (code, more) = some b := by
  rw [F128, F128_t, T.run_test]
  split
  ·exact ⟨_, rfl⟩
  ·exact ⟨_, rfl⟩
 have htail := tail_ok b2
 obtain ⟨n, ds, e1, hds⟩ := F27_some b1
 have hci := F106_eq n ds (by omega)
 have hcs : F115 (n, ds) = some (isCut n ds) := by
  rw [F115, F115_t, T.run_sub, F94_eq n ds (by omega), Option.bind_some, T.run_ret]
 obtain ⟨P, hP, p1, p2⟩ : ∃ P : List (List Int), P = (piR n ds).2 ∧ F48 (n, ds) = some (((), isCut n ds), P) ∧ F49 (n, ds) = some (((), isCut n ds), P) := by
  rw [F48_eq n ds (by omega), F49_eq n ds (by omega)]
  refine ⟨_, rfl, ?_⟩
  unfold piR
  cases isCut n ds <;> exact ⟨rfl, rfl⟩
 obtain ⟨S, hS, s1, s2⟩ : ∃ S : List Int, (isCut n ds = true → S = sortI (szL n.toNat ds)) ∧ F60 (n, ds) = some (((), isCut n ds), S) ∧ F61 (n, ds) = some (((), isCut n ds), S) ∧ (isCut n ds = false → S = []) := by
  rw [F60_eq n ds (by omega), F61_eq n ds (by omega)]
  cases isCut n ds
  ·exact ⟨[], (fun h => by cases h), rfl, rfl, fun _ => rfl⟩
  ·exact ⟨_, fun _ => rfl, rfl, rfl, fun h => by cases h⟩
 obtain ⟨Q, hQ, q1, q2, hQ0⟩ : ∃ Q : List Int, (isCut n ds = true → Q = quid n.toNat ds) ∧ F30 (n, ds) = some (((), isCut n ds), Q) ∧ F31 (n, ds) = some (((), isCut n ds), Q) ∧ (isCut n ds = false → Q = []) := by
  rw [F30_eq n ds (by omega), F31_eq n ds (by omega)]
  unfold pcR
  cases isCut n ds
  ·exact ⟨[], (fun h => by cases h), rfl, rfl, fun _ => rfl⟩
  ·exact ⟨_, fun _ => rfl, rfl, rfl, fun h => by cases h⟩
 obtain ⟨Fr, hFr, f1, f2, hFr0⟩ : ∃ Fr : List Dg, (isCut n ds = true → Fr = freeL n.toNat ds) ∧ F43 (n, ds) = some (((), isCut n ds), Fr) ∧ F44 (n, ds) = some (((), isCut n ds), Fr) ∧ (isCut n ds = false → Fr = []) := by
  rw [F43_eq n ds (by omega), F44_eq n ds (by omega)]
  unfold frR
  cases isCut n ds
  ·exact ⟨[], (fun h => by cases h), rfl, rfl, fun _ => rfl⟩
  ·exact ⟨_, fun _ => rfl, rfl, rfl, fun h => by cases h⟩
 obtain ⟨FF, hFF, g1, g2, hFF0⟩ : ∃ FF : List Dg, (isCut n ds = true → FF = firstF n.toNat (n.toNat - 3 - ds.length) ds) ∧ F65 (n, ds) = some (((), isCut n ds), FF) ∧ F66 (n, ds) = some (((), isCut n ds), FF) ∧ (isCut n ds = false → FF = []) := by
  rw [F65_eq n ds (by omega), F66_eq n ds (by omega)]
  unfold ffR
  cases isCut n ds
  ·exact ⟨[], (fun h => by cases h), rfl, rfl, fun _ => rfl⟩
  ·exact ⟨_, fun _ => rfl, rfl, rfl, fun h => by cases h⟩
 obtain ⟨fin, hfin, c1, c2⟩ : ∃ fin : Int, (isCut n ds = true → fin = Fd n.toNat ds) ∧ F63 (n, ds) = some (fin, isCut n ds) ∧ F64 (n, ds) = some (fin, isCut n ds) := by
  rw [F63_eq n ds (by omega), F64_eq n ds (by omega)]
  unfold finV
  by_cases c : isCut n ds = true
  ·obtain ⟨N, rfl, h3, h12, hlen, hc⟩ := isCut_cut c
   rw [if_pos c, c]
   exact ⟨_, fun _ => by rw [Int.toNat_natCast]; exact (finV_Fd hc h3 h12 hlen).1, rfl, rfl⟩
  ·have c' : isCut n ds = false := by simpa using c
   rw [if_neg c, c']
   exact ⟨0, (fun h => by cases h), rfl, rfl⟩
 have lens : P.length ≤ 1000 ∧ (∀ p ∈ P, p.length ≤ 1000) ∧ S.length ≤ 1000 ∧ Q.length ≤ 1000 ∧ Fr.length ≤ 1000 ∧ FF.length ≤ 1000 := by
  by_cases c : isCut n ds = true
  ·obtain ⟨N, rfl, h3, h12, hlen, hc⟩ := isCut_cut c
   have hPe : P = sortL (specP N ds) := by rw [hP]; unfold piR; rw [if_pos c, Int.toNat_natCast]
   rw [hPe, hS c, hQ c, hFr c, hFF c, Int.toNat_natCast, sortP_len hc h3, szS_len c, quid_length, firstF_len]
   refine ⟨by omega, fun p hp => ?_, by omega, by omega, by have := freeL_len N ds h12; omega, by omega⟩
   obtain ⟨k, hk, rfl⟩ := List.mem_map.1 (((sortL_perm _).trans (specP_perm hc h3)).mem_iff.1 hp)
   have := pcs_len hc h3 hk
   omega
  ·have c' : isCut n ds = false := by simpa using c
   have hPe : P = [] := by rw [hP]; unfold piR; rw [if_neg c]
   rw [hPe, s2.2 c', hQ0 c', hFr0 c', hFF0 c']
   simp
 obtain ⟨hPl, hPx, hSl, hQl, hFrl, hFFl⟩ := lens
 have u1 := uRows_val P P (by omega) (fun x hx => by have := hPx x hx; omega)
 have u2 := uSame_val S S (by omega)
 have u3 := uSame_val Q Q (by omega)
 have u4 := uCuts_val Fr Fr (by omega)
 have u5 := uCuts_val FF FF (by omega)
 rw [L0, L0_t, T.run_sub, hbig, Option.bind_some, T.run_test]
 cases b with
 | true => rfl
 | false =>
  rw [if_neg (by simp), T.run_sub, e1, Option.bind_some, T.run_test, if_pos (by simp)]
  dsimp only
  rw [win_all, T.run_sub, p1, Option.bind_some, T.run_test, if_pos (by simp), T.run_sub, p2, Option.bind_some, T.run_test, if_pos (by simp), T.run_sub, s1, Option.bind_some, T.run_test, if_pos (by simp), T.run_sub, s2.1, Option.bind_some, T.run_test, if_pos (by simp), T.run_sub, q1, Option.bind_some, T.run_test, if_pos (by simp), T.run_sub, q2, Option.bind_some, T.run_test, if_pos (by simp), T.run_sub, f1, Option.bind_some, T.run_test, if_pos (by simp), T.run_sub, f2, Option.bind_some, T.run_test, if_pos (by simp), T.run_sub, c1, Option.bind_some, T.run_test, if_pos (by simp), T.run_sub, c2, Option.bind_some, T.run_test, if_pos (by simp), T.run_sub, g1, Option.bind_some, T.run_test, if_pos (by simp), T.run_sub, g2, Option.bind_some, T.run_test, if_neg (by simp), T.run_test, if_pos (by simp), T.run_test, if_pos (by simp)]
  dsimp only
  rw [win_all, T.run_sub, u1, Option.bind_some, T.run_test, if_neg (by simp), T.run_test, if_neg (by simp), T.run_test, if_pos (by simp), T.run_test, if_pos (by simp), win_all, T.run_sub, u2, Option.bind_some, T.run_test, if_neg (by simp), T.run_test, if_neg (by simp), T.run_test, if_pos (by simp), T.run_test, if_pos (by simp), win_all, T.run_sub, u3, Option.bind_some, T.run_test, if_neg (by simp), T.run_test, if_neg (by simp), T.run_test, if_pos (by simp), T.run_test, if_pos (by simp), win_all, T.run_sub, u4, Option.bind_some, T.run_test, if_neg (by simp), T.run_test, if_neg (by simp), T.run_test, if_neg (by simp), T.run_test, if_neg (by simp), T.run_test, if_pos (by simp), T.run_test, if_pos (by simp), win_all, T.run_sub, u5, Option.bind_some, T.run_test, if_neg (by simp), T.run_test, if_pos (by simp), T.run_sub, hci, Option.bind_some, T.run_test, if_neg (by simp), T.run_test, if_pos (by simp), T.run_sub, Option.bind_some, T.run_test, if_pos (by simp), T.run_sub, hcs, Option.bind_some, T.run_test, if_neg (by simp), T.run_test, if_neg (by simp), T.run_test, if_neg (by simp), T.run_test, if_neg (by simp), T.run_test, if_neg (by simp), T.run_test, if_neg (by simp), T.run_test]
  by_cases c : isCut n ds = true
  ·obtain ⟨N, rfl, h3, h12, hlen, hc⟩ := isCut_cut c
   have hPe : P = sortL (specP N ds) := by rw [hP]; unfold piR; rw [if_pos c, Int.toNat_natCast]
   have hSe := hS c
   have hQe := hQ c
   have hFre := hFr c
   have hFFe := hFF c
   have hfine := hfin c
   rw [Int.toNat_natCast] at hSe hQe hFre hFFe hfine
   have lP : P.length = ds.length + 1 := by rw [hPe, sortP_len hc h3]
   have lS : S.length = ds.length + 1 := by rw [hSe, szS_len c]
   have lQ : Q.length = N := by rw [hQe, quid_length]
   have sS : S.sum = (N : Int) + 2 * (ds.length : Int) := by rw [hSe, sum_perm_int (sortI_perm _), szL_sum hc h3]
   have sQ : Q.sum = (N : Int) + 2 * (ds.length : Int) := by rw [hQe, quid_sumC N (cut_rng hc)]
   have mS : ∀ s ∈ S, 3 ≤ s ∧ s ≤ 12 := fun s hs => by
    rw [hSe] at hs
    have := szL_mem hc h3 ((sortI_perm _).mem_iff.1 hs)
    omega
   have mQ : ∀ s ∈ Q, 0 ≤ s ∧ s ≤ 1000 := fun s hs => by
    rw [hQe] at hs
    unfold quid at hs
    obtain ⟨p, _, rfl⟩ := List.mem_map.1 hs
    have := cnt_nn ds (p : Int)
    omega
   have v1 := F126_eq S hSl fun z hz => by have := mS z hz; omega
   have v2 := F126_eq Q hQl mQ
   have v3 := finV_Fd hc h3 h12 hlen
   obtain ⟨t1, t2⟩ := firstF_ok (N - 3 - ds.length) ds c (by omega)
   have hT := F33_eq (N : Int) FF (by omega)
   rw [hFFe, t1] at hT
   rw [← hFFe] at hT
   have w1 : w64 ((ds.length : Int) + 1) = (ds.length : Int) + 1 := w64_id (by omega) (by omega)
   have w2 : w64 (2 * (ds.length : Int)) = 2 * (ds.length : Int) := w64_id (by omega) (by omega)
   have w3 : w64 ((N : Int) + 2 * (ds.length : Int)) = (N : Int) + 2 * (ds.length : Int) := w64_id (by omega) (by omega)
   have w4 : w64 ((N : Int) - 3) = (N : Int) - 3 := w64_id (by omega) (by omega)
   have w5 : w64 ((N : Int) - 3 - (ds.length : Int)) = (N : Int) - 3 - (ds.length : Int) := w64_id (by omega) (by omega)
   have hlast : ((ds.length : Int) == (N : Int) - 3) = decide (ds.length + 3 = N) := by
    rw [Bool.eq_iff_iff, beq_iff_eq, decide_eq_true_eq]; omega
   have hfree : ((Fr.length : Int) == 0) = decide (ds.length + 3 = N) := by
    rw [Bool.eq_iff_iff, beq_iff_eq, decide_eq_true_eq, ← free_nil hc h3 h12 hlen, ← hFre]
    constructor
    ·intro h; exact List.eq_nil_of_length_eq_zero (by omega)
    ·intro h; rw [h]; rfl
   have hone : (fin == 1) = decide (ds.length + 3 = N) := by
    have h1 := finer_one c
    rw [Int.toNat_natCast, v3.1, isTri_isCut, c, Bool.true_and, decide_eq_true_eq] at h1
    rw [Bool.eq_iff_iff, beq_iff_eq, decide_eq_true_eq, hfine, h1]
    omega
   have hC : ∀ i : Nat, i < Q.length → Q[i]? = some ((P.countP fun p => decide ((i : Int) ∈ p) : Nat) : Int) := fun i hi => by
    have hp : P.Perm ((wholeD N :: ds).map (pcs N ds)) := by rw [hPe]; exact (sortL_perm _).trans (specP_perm hc h3)
    rw [hp.countP_eq, corner_count N h3 (i : Int) (by omega) ds.length ds rfl hc, hQe]
    unfold quid
    rw [List.getElem?_map, List.getElem?_range (by omega)]
    rfl
   have l22 := L22_eq more (N : Int) fin ds Fr FF P S Q hPl hPx hQl hC Q.length 0 (by omega)
   have l22' : L0_L22 ((more, ((N : Int), ((), ((), ((), ((), ((), (fin, ((), ((Q.length : Int), (0 : Int))))))))))), (ds, (P, (S, (Q, (Fr, FF)))))) = _ := l22
   have l35 := L35_eq more (N : Int) fin ds Fr FF S hSl (fun s hs => (mS s hs).1) (by rw [hSe]; exact sortI_up _) S.length 0 (by omega)
   have l35' : L0_L35 ((more, ((N : Int), ((), ((), ((), (fin, ((), ((), ((S.length : Int), (0 : Int)))))))))), (ds, (S, (Fr, FF)))) = _ := l35
   have l41 := L41_eq more (N : Int) fin ds Fr FF (by omega) hFFl (by rw [hFFe]; exact t2) ds.length 0 (by omega)
   have l41' : L0_L41 ((more, ((N : Int), ((), ((), (fin, ((), ((), ((ds.length : Int), (0 : Int))))))))), (ds, (Fr, FF))) = _ := l41
   have hmore : ∀ d ∈ Fr, CutD N (ds ++ [d]) ∧ ds.length + 4 ≤ N := fun d hd => by
    rw [hFre] at hd
    have := (free_more hc h3).1 hd
    exact ⟨this, cut_max h3 this⟩
   have l48 := L48_eq more (N : Int) fin ds Fr (by omega) hFrl (fun d => Fd N (ds ++ [d]))
    (fun d hd => by
     obtain ⟨m1, m2⟩ := hmore d hd
     have := finV_Fd m1 h3 h12 (by rw [List.length_append, List.length_singleton]; omega)
     have h2 := Fd_less h3 h12 m1 m2
     rw [hfine]
     omega)
    (fun d hd => by rw [hFre] at hd; exact (free_notin hd).1)
    (fun d hd => by
     obtain ⟨m1, m2⟩ := hmore d hd
     have hcs' := cut_sorted ⟨h3, h12⟩ m1 (by rw [List.length_append, List.length_singleton]; omega)
     refine ⟨sortD (ds ++ [d]), ?_, ?_⟩
     ·rw [F52_eq _ _ _ (by omega)]
      unfold adR
      rw [if_pos ⟨c, by rw [Int.toNat_natCast, ← hFre]; exact hd⟩]
     ·rw [F63_eq _ _ (by rw [sortD_length, List.length_append, List.length_singleton]; omega)]
      unfold finV
      rw [if_pos hcs', Int.toNat_natCast, (finV_Fd (m1.perm (sortD_perm _).symm) h3 h12 (by rw [sortD_length, List.length_append, List.length_singleton]; omega)).1, Fd_perm (sortD_perm _)])
    Fr.length 0 0 (by omega) (by omega)
   have l48' : L0_L48 ((more, ((N : Int), ((), ((), (fin, ((0 : Int), ((), ((Fr.length : Int), (0 : Int))))))))), (ds, Fr)) = _ := l48
   have hsum : ((Fr.drop 0).map fun d => Fd N (ds ++ [d])).sum = fin * ((N : Int) - 3 - (ds.length : Int)) := by
    rw [List.drop_zero, hFre, free_sum hc h3 h12, hfine]
   have w6 : w64 (fin * ((N : Int) - 3 - (ds.length : Int))) = fin * ((N : Int) - 3 - (ds.length : Int)) := by
    have h0 : 0 ≤ fin * ((N : Int) - 3 - (ds.length : Int)) := Int.mul_nonneg (by omega) (by omega)
    have h1 : fin * ((N : Int) - 3 - (ds.length : Int)) ≤ 1048576 * 12 := Int.mul_le_mul (by omega) (by omega) (by omega) (by omega)
    exact w64_id (by omega) (by omega)
   rw [if_pos c, T.run_test, w1, if_neg (by simp; omega), T.run_test, if_neg (by simp; omega), T.run_test, if_pos (by simp), T.run_sub, v1, Option.bind_some, T.run_test, w2, w3, if_neg (by simp; omega), T.run_test, if_pos (by simp), T.run_sub, v2, Option.bind_some, T.run_test, if_pos (by simp), T.run_sub, Option.bind_some, T.run_test, if_neg (by simp; omega), T.run_test, w4, hfree, hlast, if_neg (by simp), T.run_test, if_pos (by simp), T.run_sub, hT, Option.bind_some, T.run_test, if_neg (by simp), T.run_test, if_neg (by rw [decide_eq_true_eq]; omega), T.run_test, hone, if_neg (by simp)]
   repeat rw [T.run_test, if_pos (by simp)]
   rw [T.run_sub, l22', Option.bind_some, T.run_test, if_neg (by simp [Sum.isLeft]), T.run_sub]
   simp only [Sum.getRight?, Option.bind_some]
   repeat rw [T.run_test, if_pos (by simp)]
   rw [T.run_sub, l35', Option.bind_some, T.run_test, if_neg (by simp [Sum.isLeft]), T.run_sub]
   simp only [Sum.getRight?, Option.bind_some]
   repeat rw [T.run_test, if_pos (by simp)]
   rw [T.run_sub, l41', Option.bind_some, T.run_test, if_neg (by simp [Sum.isLeft]), T.run_sub]
   simp only [Sum.getRight?, Option.bind_some]
   repeat rw [T.run_test, if_pos (by simp)]
   rw [T.run_sub, l48', Option.bind_some, T.run_test, if_neg (by simp [Sum.isLeft]), T.run_sub]
   simp only [Sum.getRight?, Option.bind_some]
   rw [T.run_test]
   split
   ·rw [T.run_test, Int.zero_add, hsum, w4, w5, w6, if_neg (by simp)]
    exact htail
   ·exact htail
  ·rw [if_neg c]
   exact htail
end Go.Proofs.W
