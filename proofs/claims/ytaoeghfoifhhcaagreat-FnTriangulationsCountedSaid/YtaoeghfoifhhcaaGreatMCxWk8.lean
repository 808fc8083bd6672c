import Derived.Test.YtaoeghfoifhhcaaGreatMCxWk7
set_option linter.unusedVariables false
set_option linter.unusedSimpArgs false
set_option maxRecDepth 100000
set_option maxHeartbeats 4000000
namespace Go.Proofs.W
open Go Go.Gm Go.Proofs
open Go.RowKit Go.Shelf
def L0_sh : FSh := ⟨[(.one (.sl (.int .u8) false true)), (.one (.sl (.int .u8) false true))], []⟩
def L0_R10_sh : LSh := ⟨(fun ex => match ex with | .norm => [(1, none), (5, none), (6, none), (7, none), (10, none), (14, none), (135, none)] | .exit i => [] | .ret => [(4, none)]), [(1, (.one (.sl (.int .u8) false true))), (5, (.one (.si .i64))), (6, (.one (.rw 0 0))), (7, (.one .sb)), (8, (.one (.rw 1 0))), (9, (.one .sb)), (10, (.one (.rw 2 0))), (11, (.one .sb)), (12, (.one (.rw 3 0))), (13, (.one .sb)), (14, (.one (.si .i64))), (15, (.one .sb)), (16, (.one (.si .i64))), (17, (.one .sb))], [(.row 0 (.int .i64)), (.row 0 (.int .i64)), (.row 0 (.int .i64)), (.row 0 (.int .i64))], [⟨.norm, [(1, (.one (.sl (.int .u8) false true))), (5, (.one (.si .i64))), (6, (.one (.rw 0 0))), (7, (.one .sb)), (10, (.one (.rw 1 0))), (14, (.one (.si .i64))), (135, (.one .sb))], [(.row 0 (.int .i64)), (.row 0 (.int .i64))]⟩], [], []⟩
noncomputable def L0_R10_step : ((List (Int) × Int × Unit × Bool × Unit × Bool × Unit × Bool × Unit × Bool × Int × Bool × Int × Bool) × (List (Int) × List (Int) × List (Int) × List (Int))) → T ((List (Int) × Int × Unit × Bool × Unit × Int × Bool) × (List (Int) × List (Int))) := fun ((more, n, (), ok, (), fine, (), one, (), two, all, three, model, four), (ears, right, corner, want)) =>
 (.test (! (ok == fine))
 (.test (decide ((0 = 0) ∧ (ears.length = ears.length)))
 (.test (decide ((0 = 0) ∧ (corner.length = corner.length)))
 (.ret ((more, (n, ((), (ok, ((), (all, true)))))), (ears, corner)))
 .fail)
 .fail)
 (.test (decide ((0 + ears.length) ≤ ears.length))
 (.test (decide ((0 + right.length) ≤ right.length))
 (.sub (F106 ((win ears 0 ears.length), (win right 0 right.length))) fun z0 =>
 (.test (! z0)
 (.test (decide ((0 = 0) ∧ (ears.length = ears.length)))
 (.test (decide ((0 = 0) ∧ (corner.length = corner.length)))
 (.ret ((more, (n, ((), (ok, ((), (all, true)))))), (ears, corner)))
 .fail)
 .fail)
 (.test (! (one == two))
 (.test (decide ((0 = 0) ∧ (ears.length = ears.length)))
 (.test (decide ((0 = 0) ∧ (corner.length = corner.length)))
 (.ret ((more, (n, ((), (ok, ((), (all, true)))))), (ears, corner)))
 .fail)
 .fail)
 (.test (decide ((0 + corner.length) ≤ corner.length))
 (.test (decide ((0 + want.length) ≤ want.length))
 (.sub (F106 ((win corner 0 corner.length), (win want 0 want.length))) fun z1 =>
 (.test (! z1)
 (.test (decide ((0 = 0) ∧ (ears.length = ears.length)))
 (.test (decide ((0 = 0) ∧ (corner.length = corner.length)))
 (.ret ((more, (n, ((), (ok, ((), (all, true)))))), (ears, corner)))
 .fail)
 .fail)
 (.test (! (three == four))
 (.test (decide ((0 = 0) ∧ (ears.length = ears.length)))
 (.test (decide ((0 = 0) ∧ (corner.length = corner.length)))
 (.ret ((more, (n, ((), (ok, ((), (all, true)))))), (ears, corner)))
 .fail)
 .fail)
 (.test (all != model)
 (.test (decide ((0 = 0) ∧ (ears.length = ears.length)))
 (.test (decide ((0 = 0) ∧ (corner.length = corner.length)))
 (.ret ((more, (n, ((), (ok, ((), (all, true)))))), (ears, corner)))
 .fail)
 .fail)
 (.test (! (one == ok))
 (.test (decide ((0 = 0) ∧ (ears.length = ears.length)))
 (.test (decide ((0 = 0) ∧ (corner.length = corner.length)))
 (.ret ((more, (n, ((), (ok, ((), (all, true)))))), (ears, corner)))
 .fail)
 .fail)
 (.test (decide ((0 = 0) ∧ (ears.length = ears.length)))
 (.test (decide ((0 = 0) ∧ (corner.length = corner.length)))
 (.ret ((more, (n, ((), (ok, ((), (all, (! (three == ok)))))))), (ears, corner)))
 .fail)
 .fail))))))
 .fail)
 .fail))))
 .fail)
 .fail))
noncomputable def L0_R10 (v) := (L0_R10_step v).run
def L0_R13_sh : LSh := ⟨(fun ex => match ex with | .norm => [(1, none), (5, none), (6, none), (10, none), (14, none), (160, none)] | .exit i => [] | .ret => [(4, none)]), [(1, (.one (.sl (.int .u8) false true))), (5, (.one (.si .i64))), (6, (.one (.rw 0 0))), (10, (.one (.rw 1 0))), (14, (.one (.si .i64)))], [(.row 0 (.int .i64)), (.row 0 (.int .i64))], [⟨.norm, [(1, (.one (.sl (.int .u8) false true))), (5, (.one (.si .i64))), (6, (.one (.rw 0 0))), (10, (.one (.rw 1 0))), (14, (.one (.si .i64))), (160, (.one .sb))], [(.row 0 (.int .i64)), (.row 0 (.int .i64))]⟩], [], []⟩
noncomputable def L0_R13_step : ((List (Int) × Int × Unit × Unit × Int) × (List (Int) × List (Int))) → T ((List (Int) × Int × Unit × Unit × Int × Bool) × (List (Int) × List (Int))) := fun ((more, n, (), (), all), (ears, corner)) =>
 (.test (decide ((0 + ears.length) ≤ ears.length))
 (.sub (F117 (win ears 0 ears.length)) fun z0 =>
 (.test (z0 != all)
 (.test (decide ((0 = 0) ∧ (ears.length = ears.length)))
 (.test (decide ((0 = 0) ∧ (corner.length = corner.length)))
 (.ret ((more, (n, ((), ((), (all, true))))), (ears, corner)))
 .fail)
 .fail)
 (.test (decide ((0 + corner.length) ≤ corner.length))
 (.sub (F117 (win corner 0 corner.length)) fun z1 =>
 (.test (z1 != all)
 (.test (decide ((0 = 0) ∧ (ears.length = ears.length)))
 (.test (decide ((0 = 0) ∧ (corner.length = corner.length)))
 (.ret ((more, (n, ((), ((), (all, true))))), (ears, corner)))
 .fail)
 .fail)
 (.test ((ears.length : Int) != (w64 (n + 1)))
 (.test (decide ((0 = 0) ∧ (ears.length = ears.length)))
 (.test (decide ((0 = 0) ∧ (corner.length = corner.length)))
 (.ret ((more, (n, ((), ((), (all, true))))), (ears, corner)))
 .fail)
 .fail)
 (.test (decide ((0 = 0) ∧ (ears.length = ears.length)))
 (.test (decide ((0 = 0) ∧ (corner.length = corner.length)))
 (.ret ((more, (n, ((), ((), (all, ((corner.length : Int) != (w64 (n - 1)))))))), (ears, corner)))
 .fail)
 .fail))))
 .fail)))
 .fail)
noncomputable def L0_R13 (v) := (L0_R13_step v).run
def L0_L17_sh : LSh := ⟨(fun ex => match ex with | .norm => [(1, none), (5, none), (6, none), (10, none), (14, none), (18, none), (161, none), (162, none), (163, none)] | .exit i => if i = 0 then [(1, none), (5, none), (6, none), (10, none), (14, none), (18, none)] else [] | .ret => [(4, none)]), [(1, (.one (.sl (.int .u8) false true))), (5, (.one (.si .i64))), (6, (.one (.rw 0 0))), (10, (.one (.rw 1 0))), (14, (.one (.si .i64))), (18, (.one (.si .i64))), (161, (.one (.rw 1 0))), (162, (.one (.si .i64))), (163, (.one (.si .i64)))], [(.row 0 (.int .i64)), (.row 0 (.int .i64))], [⟨(.exit 0), [(1, (.one (.sl (.int .u8) false true))), (5, (.one (.si .i64))), (6, (.one (.rw 0 0))), (10, (.one (.rw 1 0))), (14, (.one (.si .i64))), (18, (.one (.si .i64)))], [(.row 0 (.int .i64)), (.row 0 (.int .i64))]⟩], [], []⟩
noncomputable def L0_L17_step : ((List (Int) × Int × Unit × Unit × Int × Int × Unit × Int × Int) × (List (Int) × List (Int))) → T (((List (Int) × Int × Unit × Unit × Int × Int × Unit × Int × Int) × (List (Int) × List (Int))) ⊕ ((List (Int) × Int × Unit × Unit × Int × Int) × (List (Int) × List (Int)))) := fun ((more, n, (), (), all, sum, (), t162, t163), (ears, corner)) =>
 (.test (decide (t163 < t162))
 (.test (decide ((0 ≤ t163) ∧ (t163 < (corner.length : Int))))
 (.sub (corner[(0 + (Int.toNat t163))]?) fun z0 =>
 (.test (decide ((0 = 0) ∧ (ears.length = ears.length)))
 (.test (decide ((0 = 0) ∧ (corner.length = corner.length)))
 (.test (decide ((0 = 0) ∧ (corner.length = corner.length)))
 (.ret (Sum.inl ((more, (n, ((), ((), (all, ((w64 (sum + (w64 (t163 * z0)))), ((), (t162, (w64 (t163 + 1)))))))))), (ears, corner))))
 .fail)
 .fail)
 .fail))
 .fail)
 (.test (decide ((0 = 0) ∧ (ears.length = ears.length)))
 (.test (decide ((0 = 0) ∧ (corner.length = corner.length)))
 (.ret (Sum.inr ((more, (n, ((), ((), (all, sum))))), (ears, corner))))
 .fail)
 .fail))
noncomputable def L0_L17 (v) := loopO (fun v => (L0_L17_step v).run) v
def L0_R25_sh : LSh := ⟨(fun ex => match ex with | .norm => [(1, none), (5, none), (6, none), (10, none), (21, none), (197, none)] | .exit i => [] | .ret => [(4, none)]), [(1, (.one (.sl (.int .u8) false true))), (5, (.one (.si .i64))), (6, (.one (.rw 0 0))), (10, (.one (.rw 1 0))), (14, (.one (.si .i64))), (21, (.one (.rw 2 0))), (22, (.one .sb))], [(.row 0 (.int .i64)), (.row 0 (.int .i64)), (.row 0 (.list true (.int .i64)))], [⟨.norm, [(1, (.one (.sl (.int .u8) false true))), (5, (.one (.si .i64))), (6, (.one (.rw 0 0))), (10, (.one (.rw 1 0))), (21, (.one (.rw 2 0))), (197, (.one .sb))], [(.row 0 (.int .i64)), (.row 0 (.int .i64)), (.row 0 (.list true (.int .i64)))]⟩], [], []⟩
noncomputable def L0_R25_step : ((List (Int) × Int × Unit × Unit × Int × Unit × Bool) × (List (Int) × List (Int) × List (List (Int)))) → T ((List (Int) × Int × Unit × Unit × Unit × Bool) × (List (Int) × List (Int) × List (List (Int)))) := fun ((more, n, (), (), all, (), five), (ears, corner, list)) =>
 (.test (! five)
 (.test (decide ((0 = 0) ∧ (ears.length = ears.length)))
 (.test (decide ((0 = 0) ∧ (corner.length = corner.length)))
 (.test (decide ((0 = 0) ∧ (list.length = list.length)))
 (.ret ((more, (n, ((), ((), ((), true))))), (ears, (corner, list))))
 .fail)
 .fail)
 .fail)
 (.test (decide ((0 = 0) ∧ (ears.length = ears.length)))
 (.test (decide ((0 = 0) ∧ (corner.length = corner.length)))
 (.test (decide ((0 = 0) ∧ (list.length = list.length)))
 (.ret ((more, (n, ((), ((), ((), ((list.length : Int) != all)))))), (ears, (corner, list))))
 .fail)
 .fail)
 .fail))
noncomputable def L0_R25 (v) := (L0_R25_step v).run
def L0_L32_sh : LSh := ⟨(fun ex => match ex with | .norm => [(1, none), (5, none), (6, none), (10, none), (21, none), (23, none), (24, none), (204, none), (205, none), (206, none)] | .exit i => if i = 4 then [(1, none), (5, none), (6, none), (10, none), (21, none), (23, none), (24, none)] else if i = 3 then [(1, none), (5, none), (6, none), (10, none), (21, none), (23, none)] else if i = 2 then [(1, none), (5, none), (6, none), (21, none)] else [] | .ret => [(4, none)]), [(1, (.one (.sl (.int .u8) false true))), (5, (.one (.si .i64))), (6, (.one (.rw 0 0))), (10, (.one (.rw 1 0))), (21, (.one (.rw 2 0))), (23, (.one (.si .i64))), (24, (.one (.si .i64))), (204, (.one (.rw 2 0))), (205, (.one (.si .i64))), (206, (.one (.si .i64)))], [(.row 0 (.int .i64)), (.row 0 (.int .i64)), (.row 0 (.list true (.int .i64)))], [⟨(.exit 4), [(1, (.one (.sl (.int .u8) false true))), (5, (.one (.si .i64))), (6, (.one (.rw 0 0))), (10, (.one (.rw 1 0))), (21, (.one (.rw 2 0))), (23, (.one (.si .i64))), (24, (.one (.si .i64)))], [(.row 0 (.int .i64)), (.row 0 (.int .i64)), (.row 0 (.list true (.int .i64)))]⟩], [], []⟩
noncomputable def L0_L32_step : ((List (Int) × Int × Unit × Unit × Unit × Int × Int × Unit × Int × Int) × (List (Int) × List (Int) × List (List (Int)))) → T (((List (Int) × Int × Unit × Unit × Unit × Int × Int × Unit × Int × Int) × (List (Int) × List (Int) × List (List (Int)))) ⊕ ((List (Int) × Int × Unit × Unit × Unit × Int × Int) × (List (Int) × List (Int) × List (List (Int))))) := fun ((more, n, (), (), (), k, count, (), t205, t206), (ears, corner, list)) =>
 (.test (decide (t206 < t205))
 (.test (decide ((0 ≤ t206) ∧ (t206 < (list.length : Int))))
 (.sub (list[(0 + (Int.toNat t206))]?) fun z0 =>
 (.test (decide (((0 : Int) ≤ (0 : Int)) ∧ (0 < (z0.length : Int))))
 (.sub (z0[0]?) fun z1 =>
 (.test (z1 == k)
 (.test (decide ((0 = 0) ∧ (ears.length = ears.length)))
 (.test (decide ((0 = 0) ∧ (corner.length = corner.length)))
 (.test (decide ((0 = 0) ∧ (list.length = list.length)))
 (.test (decide ((0 = 0) ∧ (list.length = list.length)))
 (.ret (Sum.inl ((more, (n, ((), ((), ((), (k, ((w64 (count + 1)), ((), (t205, (w64 (t206 + 1))))))))))), (ears, (corner, list)))))
 .fail)
 .fail)
 .fail)
 .fail)
 (.test (decide ((0 = 0) ∧ (ears.length = ears.length)))
 (.test (decide ((0 = 0) ∧ (corner.length = corner.length)))
 (.test (decide ((0 = 0) ∧ (list.length = list.length)))
 (.test (decide ((0 = 0) ∧ (list.length = list.length)))
 (.ret (Sum.inl ((more, (n, ((), ((), ((), (k, (count, ((), (t205, (w64 (t206 + 1))))))))))), (ears, (corner, list)))))
 .fail)
 .fail)
 .fail)
 .fail)))
 .fail))
 .fail)
 (.test (decide ((0 = 0) ∧ (ears.length = ears.length)))
 (.test (decide ((0 = 0) ∧ (corner.length = corner.length)))
 (.test (decide ((0 = 0) ∧ (list.length = list.length)))
 (.ret (Sum.inr ((more, (n, ((), ((), ((), (k, count)))))), (ears, (corner, list)))))
 .fail)
 .fail)
 .fail))
noncomputable def L0_L32 (v) := loopO (fun v => (L0_L32_step v).run) v
def L0_L28_sh : LSh := ⟨(fun ex => match ex with | .norm => [(1, none), (5, none), (6, none), (10, none), (21, none), (23, none)] | .exit i => if i = 2 then [(1, none), (5, none), (6, none), (21, none)] else [] | .ret => [(4, none)]), [(1, (.one (.sl (.int .u8) false true))), (5, (.one (.si .i64))), (6, (.one (.rw 0 0))), (10, (.one (.rw 1 0))), (21, (.one (.rw 2 0))), (23, (.one (.si .i64)))], [(.row 0 (.int .i64)), (.row 0 (.int .i64)), (.row 0 (.list true (.int .i64)))], [⟨.ret, [(4, (.one .sb))], []⟩, ⟨(.exit 2), [(1, (.one (.sl (.int .u8) false true))), (5, (.one (.si .i64))), (6, (.one (.rw 0 0))), (21, (.one (.rw 1 0)))], [(.row 0 (.int .i64)), (.row 0 (.list true (.int .i64)))]⟩], [], []⟩
noncomputable def L0_L28_step : ((List (Int) × Int × Unit × Unit × Unit × Int) × (List (Int) × List (Int) × List (List (Int)))) → T (((List (Int) × Int × Unit × Unit × Unit × Int) × (List (Int) × List (Int) × List (List (Int)))) ⊕ (Bool ⊕ ((List (Int) × Int × Unit × Unit) × (List (Int) × List (List (Int)))))) := fun ((more, n, (), (), (), k), (ears, corner, list)) =>
 (.test (decide (k ≤ (w64 (n - 2))))
 (.test (decide ((0 = 0) ∧ (ears.length = ears.length)))
 (.test (decide ((0 = 0) ∧ (corner.length = corner.length)))
 (.test (decide ((0 = 0) ∧ (list.length = list.length)))
 (.test (decide ((0 = 0) ∧ (list.length = list.length)))
 (.sub (L0_L32 ((more, (n, ((), ((), ((), (k, ((0 : Int), ((), ((list.length : Int), (0 : Int)))))))))), (ears, (corner, list)))) fun z0 =>
 (.test (decide ((0 ≤ z0.1.2.2.2.2.2.1) ∧ (z0.1.2.2.2.2.2.1 < (z0.2.2.1.length : Int))))
 (.sub (z0.2.2.1[(0 + (Int.toNat z0.1.2.2.2.2.2.1))]?) fun z1 =>
 (.test (z0.1.2.2.2.2.2.2 != z1)
 (.ret (Sum.inr (Sum.inl false)))
 (.test (decide ((0 = 0) ∧ (z0.2.1.length = z0.2.1.length)))
 (.test (decide ((0 = 0) ∧ (z0.2.2.1.length = z0.2.2.1.length)))
 (.test (decide ((0 = 0) ∧ (z0.2.2.2.length = z0.2.2.2.length)))
 (.ret (Sum.inl ((z0.1.1, (z0.1.2.1, ((), ((), ((), (w64 (z0.1.2.2.2.2.2.1 + 1))))))), z0.2)))
 .fail)
 .fail)
 .fail)))
 .fail))
 .fail)
 .fail)
 .fail)
 .fail)
 (.test (decide ((0 = 0) ∧ (ears.length = ears.length)))
 (.test (decide ((0 = 0) ∧ (list.length = list.length)))
 (.ret (Sum.inr (Sum.inr ((more, (n, ((), ()))), (ears, list)))))
 .fail)
 .fail))
noncomputable def L0_L28 (v) := loopO (fun v => (L0_L28_step v).run) v
def L0_L48_sh : LSh := ⟨(fun ex => match ex with | .norm => [(1, none), (5, none), (6, none), (21, none), (27, none), (28, none), (31, none), (229, none), (230, none), (231, none), (235, none), (236, none), (237, none)] | .exit i => if i = 10 then [(1, none), (5, none), (6, none), (21, none), (27, none), (28, none), (31, none), (229, none), (230, none), (231, none)] else if i = 9 then [(1, none), (5, none), (6, none), (21, none), (27, none), (28, none), (229, none), (230, none), (231, none)] else if i = 8 then [(1, none), (5, none), (6, none), (21, none), (27, none), (28, none)] else if i = 7 then [(1, none), (5, none), (6, none), (21, none), (27, none)] else if i = 6 then [(1, none)] else [] | .ret => [(4, none)]), [(1, (.one (.sl (.int .u8) false true))), (5, (.one (.si .i64))), (6, (.one (.rw 0 0))), (21, (.one (.rw 1 0))), (27, (.one (.si .i64))), (28, (.one (.si .i64))), (31, (.one (.si .i64))), (229, (.one (.rw 1 0))), (230, (.one (.si .i64))), (231, (.one (.si .i64))), (235, (.one (.sl (.int .i64) false true))), (236, (.one (.si .i64))), (237, (.one (.si .i64)))], [(.row 0 (.int .i64)), (.row 0 (.list true (.int .i64)))], [⟨(.exit 10), [(1, (.one (.sl (.int .u8) false true))), (5, (.one (.si .i64))), (6, (.one (.rw 0 0))), (21, (.one (.rw 1 0))), (27, (.one (.si .i64))), (28, (.one (.si .i64))), (31, (.one (.si .i64))), (229, (.one (.rw 1 0))), (230, (.one (.si .i64))), (231, (.one (.si .i64)))], [(.row 0 (.int .i64)), (.row 0 (.list true (.int .i64)))]⟩], [], []⟩
noncomputable def L0_L48_step : ((List (Int) × Int × Unit × Unit × Int × Int × Int × Unit × Int × Int × List (Int) × Int × Int) × (List (Int) × List (List (Int)))) → T (((List (Int) × Int × Unit × Unit × Int × Int × Int × Unit × Int × Int × List (Int) × Int × Int) × (List (Int) × List (List (Int)))) ⊕ ((List (Int) × Int × Unit × Unit × Int × Int × Int × Unit × Int × Int) × (List (Int) × List (List (Int))))) := fun ((more, n, (), (), k, count, e, (), t230, t231, t235, t236, t237), (ears, list)) =>
 (.test (decide (t237 < t236))
 (.test (decide ((0 ≤ t237) ∧ (t237 < (t235.length : Int))))
 (.sub (t235[(Int.toNat t237)]?) fun z0 =>
 (.test (z0 == 1)
 (.test (decide ((0 = 0) ∧ (ears.length = ears.length)))
 (.test (decide ((0 = 0) ∧ (list.length = list.length)))
 (.test (decide ((0 = 0) ∧ (list.length = list.length)))
 (.ret (Sum.inl ((more, (n, ((), ((), (k, (count, ((w64 (e + 1)), ((), (t230, (t231, (t235, (t236, (w64 (t237 + 1)))))))))))))), (ears, list))))
 .fail)
 .fail)
 .fail)
 (.test (decide ((0 = 0) ∧ (ears.length = ears.length)))
 (.test (decide ((0 = 0) ∧ (list.length = list.length)))
 (.test (decide ((0 = 0) ∧ (list.length = list.length)))
 (.ret (Sum.inl ((more, (n, ((), ((), (k, (count, (e, ((), (t230, (t231, (t235, (t236, (w64 (t237 + 1)))))))))))))), (ears, list))))
 .fail)
 .fail)
 .fail)))
 .fail)
 (.test (decide ((0 = 0) ∧ (ears.length = ears.length)))
 (.test (decide ((0 = 0) ∧ (list.length = list.length)))
 (.test (decide ((0 = 0) ∧ (list.length = list.length)))
 (.ret (Sum.inr ((more, (n, ((), ((), (k, (count, (e, ((), (t230, t231))))))))), (ears, list))))
 .fail)
 .fail)
 .fail))
noncomputable def L0_L48 (v) := loopO (fun v => (L0_L48_step v).run) v
def L0_L44_sh : LSh := ⟨(fun ex => match ex with | .norm => [(1, none), (5, none), (6, none), (21, none), (27, none), (28, none), (229, none), (230, none), (231, none)] | .exit i => if i = 8 then [(1, none), (5, none), (6, none), (21, none), (27, none), (28, none)] else if i = 7 then [(1, none), (5, none), (6, none), (21, none), (27, none)] else if i = 6 then [(1, none)] else [] | .ret => [(4, none)]), [(1, (.one (.sl (.int .u8) false true))), (5, (.one (.si .i64))), (6, (.one (.rw 0 0))), (21, (.one (.rw 1 0))), (27, (.one (.si .i64))), (28, (.one (.si .i64))), (229, (.one (.rw 1 0))), (230, (.one (.si .i64))), (231, (.one (.si .i64)))], [(.row 0 (.int .i64)), (.row 0 (.list true (.int .i64)))], [⟨(.exit 8), [(1, (.one (.sl (.int .u8) false true))), (5, (.one (.si .i64))), (6, (.one (.rw 0 0))), (21, (.one (.rw 1 0))), (27, (.one (.si .i64))), (28, (.one (.si .i64)))], [(.row 0 (.int .i64)), (.row 0 (.list true (.int .i64)))]⟩], [], []⟩
noncomputable def L0_L44_step : ((List (Int) × Int × Unit × Unit × Int × Int × Unit × Int × Int) × (List (Int) × List (List (Int)))) → T (((List (Int) × Int × Unit × Unit × Int × Int × Unit × Int × Int) × (List (Int) × List (List (Int)))) ⊕ ((List (Int) × Int × Unit × Unit × Int × Int) × (List (Int) × List (List (Int))))) := fun ((more, n, (), (), k, count, (), t230, t231), (ears, list)) =>
 (.test (decide (t231 < t230))
 (.test (decide ((0 ≤ t231) ∧ (t231 < (list.length : Int))))
 (.sub (list[(0 + (Int.toNat t231))]?) fun z0 =>
 (.test (decide ((0 = 0) ∧ (ears.length = ears.length)))
 (.test (decide ((0 = 0) ∧ (list.length = list.length)))
 (.test (decide ((0 = 0) ∧ (list.length = list.length)))
 (.sub (L0_L48 ((more, (n, ((), ((), (k, (count, ((0 : Int), ((), (t230, (t231, (z0, ((z0.length : Int), (0 : Int))))))))))))), (ears, list))) fun z1 =>
 (.test (z1.1.2.2.2.2.2.2.1 == z1.1.2.2.2.2.1)
 (.test (decide ((0 = 0) ∧ (z1.2.1.length = z1.2.1.length)))
 (.test (decide ((0 = 0) ∧ (z1.2.2.length = z1.2.2.length)))
 (.test (decide ((0 = 0) ∧ (z1.2.2.length = z1.2.2.length)))
 (.ret (Sum.inl ((z1.1.1, (z1.1.2.1, ((), ((), (z1.1.2.2.2.2.1, ((w64 (z1.1.2.2.2.2.2.1 + 1)), ((), (z1.1.2.2.2.2.2.2.2.2.1, (w64 (z1.1.2.2.2.2.2.2.2.2.2 + 1)))))))))), z1.2)))
 .fail)
 .fail)
 .fail)
 (.test (decide ((0 = 0) ∧ (z1.2.1.length = z1.2.1.length)))
 (.test (decide ((0 = 0) ∧ (z1.2.2.length = z1.2.2.length)))
 (.test (decide ((0 = 0) ∧ (z1.2.2.length = z1.2.2.length)))
 (.ret (Sum.inl ((z1.1.1, (z1.1.2.1, ((), ((), (z1.1.2.2.2.2.1, (z1.1.2.2.2.2.2.1, ((), (z1.1.2.2.2.2.2.2.2.2.1, (w64 (z1.1.2.2.2.2.2.2.2.2.2 + 1)))))))))), z1.2)))
 .fail)
 .fail)
 .fail)))
 .fail)
 .fail)
 .fail))
 .fail)
 (.test (decide ((0 = 0) ∧ (ears.length = ears.length)))
 (.test (decide ((0 = 0) ∧ (list.length = list.length)))
 (.ret (Sum.inr ((more, (n, ((), ((), (k, count))))), (ears, list))))
 .fail)
 .fail))
noncomputable def L0_L44 (v) := loopO (fun v => (L0_L44_step v).run) v
def L0_L40_sh : LSh := ⟨(fun ex => match ex with | .norm => [(1, none), (5, none), (6, none), (21, none), (27, none)] | .exit i => if i = 6 then [(1, none)] else [] | .ret => [(4, none)]), [(1, (.one (.sl (.int .u8) false true))), (5, (.one (.si .i64))), (6, (.one (.rw 0 0))), (21, (.one (.rw 1 0))), (27, (.one (.si .i64)))], [(.row 0 (.int .i64)), (.row 0 (.list true (.int .i64)))], [⟨.ret, [(4, (.one .sb))], []⟩, ⟨(.exit 6), [(1, (.one (.sl (.int .u8) false true)))], []⟩], [], []⟩
noncomputable def L0_L40_step : ((List (Int) × Int × Unit × Unit × Int) × (List (Int) × List (List (Int)))) → T (((List (Int) × Int × Unit × Unit × Int) × (List (Int) × List (List (Int)))) ⊕ (Bool ⊕ List (Int))) := fun ((more, n, (), (), k), (ears, list)) =>
 (.test (decide (k ≤ n))
 (.test (decide ((0 = 0) ∧ (ears.length = ears.length)))
 (.test (decide ((0 = 0) ∧ (list.length = list.length)))
 (.test (decide ((0 = 0) ∧ (list.length = list.length)))
 (.sub (L0_L44 ((more, (n, ((), ((), (k, ((0 : Int), ((), ((list.length : Int), (0 : Int))))))))), (ears, list))) fun z0 =>
 (.test (decide ((0 ≤ z0.1.2.2.2.2.1) ∧ (z0.1.2.2.2.2.1 < (z0.2.1.length : Int))))
 (.sub (z0.2.1[(0 + (Int.toNat z0.1.2.2.2.2.1))]?) fun z1 =>
 (.test (z0.1.2.2.2.2.2 != z1)
 (.ret (Sum.inr (Sum.inl false)))
 (.test (decide ((0 = 0) ∧ (z0.2.1.length = z0.2.1.length)))
 (.test (decide ((0 = 0) ∧ (z0.2.2.length = z0.2.2.length)))
 (.ret (Sum.inl ((z0.1.1, (z0.1.2.1, ((), ((), (w64 (z0.1.2.2.2.2.1 + 1)))))), z0.2)))
 .fail)
 .fail)))
 .fail))
 .fail)
 .fail)
 .fail)
 (.ret (Sum.inr (Sum.inr more))))
noncomputable def L0_L40 (v) := loopO (fun v => (L0_L40_step v).run) v
def L0_C13_sh : LSh := ⟨(fun ex => match ex with | .norm => [(1, none)] | .exit i => [] | .ret => [(4, none)]), [(1, (.one (.sl (.int .u8) false true))), (5, (.one (.si .i64))), (6, (.one (.rw 0 0))), (7, (.one .sb)), (10, (.one (.rw 1 0))), (14, (.one (.si .i64)))], [(.row 0 (.int .i64)), (.row 0 (.int .i64))], [⟨.ret, [(4, (.one .sb))], []⟩, ⟨.norm, [(1, (.one (.sl (.int .u8) false true)))], []⟩], [], []⟩
noncomputable def L0_C13_step : ((List (Int) × Int × Unit × Bool × Unit × Int) × (List (Int) × List (Int))) → T (Bool ⊕ List (Int)) := fun ((more, n, (), ok, (), all), (ears, corner)) =>
 (.test ok
 (.test (decide ((0 = 0) ∧ (ears.length = ears.length)))
 (.test (decide ((0 = 0) ∧ (corner.length = corner.length)))
 (.sub (L0_R13 ((more, (n, ((), ((), all)))), (ears, corner))) fun z0 =>
 (.test z0.1.2.2.2.2.2
 (.ret (Sum.inl false))
 (.test (decide ((0 = 0) ∧ (z0.2.1.length = z0.2.1.length)))
 (.test (decide ((0 = 0) ∧ (z0.2.2.length = z0.2.2.length)))
 (.test (decide ((0 = 0) ∧ (z0.2.2.length = z0.2.2.length)))
 (.sub (L0_L17 ((z0.1.1, (z0.1.2.1, ((), ((), (z0.1.2.2.2.2.1, ((0 : Int), ((), ((z0.2.2.length : Int), (0 : Int))))))))), z0.2)) fun z1 =>
 (.test ((w64 (z1.1.2.2.2.2.2 * z1.1.2.1)) != (w64 (z1.1.2.2.2.2.1 * (w64 ((w64 (3 * z1.1.2.1)) - 6)))))
 (.ret (Sum.inl false))
 (.test (decide (z1.1.2.1 ≤ 7))
 (.sub (F48 z1.1.2.1) fun z2 =>
 (.test (decide ((0 = 0) ∧ (z1.2.1.length = z1.2.1.length)))
 (.test (decide ((0 = 0) ∧ (z1.2.2.length = z1.2.2.length)))
 (.test (decide ((0 = 0) ∧ (z2.2.length = z2.2.length)))
 (.sub (L0_R25 ((z1.1.1, (z1.1.2.1, ((), ((), (z1.1.2.2.2.2.1, ((), z2.1.2)))))), (z1.2.1, (z1.2.2, z2.2)))) fun z3 =>
 (.test z3.1.2.2.2.2.2
 (.ret (Sum.inl false))
 (.test (decide ((0 = 0) ∧ (z3.2.1.length = z3.2.1.length)))
 (.test (decide ((0 = 0) ∧ (z3.2.2.1.length = z3.2.2.1.length)))
 (.test (decide ((0 = 0) ∧ (z3.2.2.2.length = z3.2.2.2.length)))
 (.sub (L0_L28 ((z3.1.1, (z3.1.2.1, ((), ((), ((), (1 : Int)))))), z3.2)) fun z4 =>
 (.test (Sum.isLeft z4)
 (.sub (Sum.getLeft? z4) fun z5 =>
 (.ret (Sum.inl z5)))
 (.sub (Sum.getRight? z4) fun z6 =>
 (.test (decide ((0 = 0) ∧ (z6.2.1.length = z6.2.1.length)))
 (.test (decide ((0 = 0) ∧ (z6.2.2.length = z6.2.2.length)))
 (.sub (L0_L40 ((z6.1.1, (z6.1.2.1, ((), ((), (0 : Int))))), z6.2)) fun z7 =>
 (.test (Sum.isLeft z7)
 (.sub (Sum.getLeft? z7) fun z8 =>
 (.ret (Sum.inl z8)))
 (.sub (Sum.getRight? z7) fun z9 =>
 (.ret (Sum.inr z9)))))
 .fail)
 .fail))))
 .fail)
 .fail)
 .fail)))
 .fail)
 .fail)
 .fail))
 (.ret (Sum.inr z1.1.1)))))
 .fail)
 .fail)
 .fail)))
 .fail)
 .fail)
 (.ret (Sum.inr more)))
noncomputable def L0_C13 (v) := (L0_C13_step v).run
def L0_R67_sh : LSh := ⟨(fun ex => match ex with | .norm => [(34, none), (35, none), (36, none), (37, none), (40, none), (41, none), (42, none), (43, none), (46, none), (47, none), (48, none), (49, none), (337, none)] | .exit i => [] | .ret => [(4, none)]), [(34, (.one (.si .i64))), (35, (.one (.rw 0 0))), (36, (.one (.si .i64))), (37, (.one .sb)), (38, (.one (.si .i64))), (39, (.one .sb)), (40, (.one (.si .i64))), (41, (.one (.rw 1 0))), (42, (.one (.si .i64))), (43, (.one .sb)), (44, (.one (.si .i64))), (45, (.one .sb)), (46, (.one (.si .i64))), (47, (.one (.si .i64))), (48, (.one (.sl (.pair (.int .i64) (.int .i64)) false true))), (49, (.one .sb)), (50, (.one (.sl (.pair (.int .i64) (.int .i64)) false true))), (51, (.one .sb))], [(.row 0 (.pair (.int .i64) (.int .i64))), (.row 0 (.pair (.int .i64) (.int .i64)))], [⟨.norm, [(34, (.one (.si .i64))), (35, (.one (.rw 0 0))), (36, (.one (.si .i64))), (37, (.one .sb)), (40, (.one (.si .i64))), (41, (.one (.rw 1 0))), (42, (.one (.si .i64))), (43, (.one .sb)), (46, (.one (.si .i64))), (47, (.one (.si .i64))), (48, (.one (.sl (.pair (.int .i64) (.int .i64)) false true))), (49, (.one .sb)), (337, (.one .sb))], [(.row 0 (.pair (.int .i64) (.int .i64))), (.row 0 (.pair (.int .i64) (.int .i64)))]⟩], [], []⟩
noncomputable def L0_R67_step : ((Int × Unit × Int × Bool × Int × Bool × Int × Unit × Int × Bool × Int × Bool × Int × Int × List ((Int × Int)) × Bool × List ((Int × Int)) × Bool) × (List ((Int × Int)) × List ((Int × Int)))) → T ((Int × Unit × Int × Bool × Int × Unit × Int × Bool × Int × Int × List ((Int × Int)) × Bool × Bool) × (List ((Int × Int)) × List ((Int × Int)))) := fun ((m, (), with', five, value, six, p, (), rank, seven, due, eight, r, at', of', nine, list, ten), (ds, cut)) =>
 (.test (! (five == six))
 (.test (decide ((0 = 0) ∧ (ds.length = ds.length)))
 (.test (decide ((0 = 0) ∧ (cut.length = cut.length)))
 (.ret ((m, ((), (with', (five, (p, ((), (rank, (seven, (r, (at', (of', (nine, true)))))))))))), (ds, cut)))
 .fail)
 .fail)
 (.test (with' != value)
 (.test (decide ((0 = 0) ∧ (ds.length = ds.length)))
 (.test (decide ((0 = 0) ∧ (cut.length = cut.length)))
 (.ret ((m, ((), (with', (five, (p, ((), (rank, (seven, (r, (at', (of', (nine, true)))))))))))), (ds, cut)))
 .fail)
 .fail)
 (.test (! (seven == eight))
 (.test (decide ((0 = 0) ∧ (ds.length = ds.length)))
 (.test (decide ((0 = 0) ∧ (cut.length = cut.length)))
 (.ret ((m, ((), (with', (five, (p, ((), (rank, (seven, (r, (at', (of', (nine, true)))))))))))), (ds, cut)))
 .fail)
 .fail)
 (.test (rank != due)
 (.test (decide ((0 = 0) ∧ (ds.length = ds.length)))
 (.test (decide ((0 = 0) ∧ (cut.length = cut.length)))
 (.ret ((m, ((), (with', (five, (p, ((), (rank, (seven, (r, (at', (of', (nine, true)))))))))))), (ds, cut)))
 .fail)
 .fail)
 (.test (! (nine == ten))
 (.test (decide ((0 = 0) ∧ (ds.length = ds.length)))
 (.test (decide ((0 = 0) ∧ (cut.length = cut.length)))
 (.ret ((m, ((), (with', (five, (p, ((), (rank, (seven, (r, (at', (of', (nine, true)))))))))))), (ds, cut)))
 .fail)
 .fail)
 (.sub (F112 (of', list)) fun z0 =>
 (.test (decide ((0 = 0) ∧ (ds.length = ds.length)))
 (.test (decide ((0 = 0) ∧ (cut.length = cut.length)))
 (.ret ((m, ((), (with', (five, (p, ((), (rank, (seven, (r, (at', (of', (nine, (! z0))))))))))))), (ds, cut)))
 .fail)
 .fail)))))))
noncomputable def L0_R67 (v) := (L0_R67_step v).run
def L0_R72_sh : LSh := ⟨(fun ex => match ex with | .norm => [(40, none), (41, none), (42, none), (43, none), (46, none), (47, none), (48, none), (49, none), (360, none)] | .exit i => [] | .ret => [(4, none)]), [(36, (.one (.si .i64))), (40, (.one (.si .i64))), (41, (.one (.rw 0 0))), (42, (.one (.si .i64))), (43, (.one .sb)), (46, (.one (.si .i64))), (47, (.one (.si .i64))), (48, (.one (.sl (.pair (.int .i64) (.int .i64)) false true))), (49, (.one .sb)), (52, (.one (.si .i64))), (53, (.one .sb)), (54, (.one .sb))], [(.row 0 (.pair (.int .i64) (.int .i64)))], [⟨.norm, [(40, (.one (.si .i64))), (41, (.one (.rw 0 0))), (42, (.one (.si .i64))), (43, (.one .sb)), (46, (.one (.si .i64))), (47, (.one (.si .i64))), (48, (.one (.sl (.pair (.int .i64) (.int .i64)) false true))), (49, (.one .sb)), (360, (.one .sb))], [(.row 0 (.pair (.int .i64) (.int .i64)))]⟩], [], []⟩
noncomputable def L0_R72_step : ((Int × Int × Unit × Int × Bool × Int × Int × List ((Int × Int)) × Bool × Int × Bool × Bool) × List ((Int × Int))) → T ((Int × Unit × Int × Bool × Int × Int × List ((Int × Int)) × Bool × Bool) × List ((Int × Int))) := fun ((with', p, (), rank, seven, r, at', of', nine, finer, eleven, whole), cut) =>
 (.test (! eleven)
 (.test (decide ((0 = 0) ∧ (cut.length = cut.length)))
 (.ret ((p, ((), (rank, (seven, (r, (at', (of', (nine, true)))))))), cut))
 .fail)
 (.test (finer != with')
 (.test (decide ((0 = 0) ∧ (cut.length = cut.length)))
 (.ret ((p, ((), (rank, (seven, (r, (at', (of', (nine, true)))))))), cut))
 .fail)
 (.test (decide ((0 = 0) ∧ (cut.length = cut.length)))
 (.ret ((p, ((), (rank, (seven, (r, (at', (of', (nine, (! (whole == (with' == 1))))))))))), cut))
 .fail)))
noncomputable def L0_R72 (v) := (L0_R72_step v).run
def L0_C70_sh : LSh := ⟨(fun ex => match ex with | .norm => [(40, none), (41, none), (42, none), (43, none), (46, none), (47, none), (48, none), (49, none)] | .exit i => [] | .ret => [(4, none)]), [(34, (.one (.si .i64))), (35, (.one (.rw 0 0))), (36, (.one (.si .i64))), (37, (.one .sb)), (40, (.one (.si .i64))), (41, (.one (.rw 1 0))), (42, (.one (.si .i64))), (43, (.one .sb)), (46, (.one (.si .i64))), (47, (.one (.si .i64))), (48, (.one (.sl (.pair (.int .i64) (.int .i64)) false true))), (49, (.one .sb))], [(.row 0 (.pair (.int .i64) (.int .i64))), (.row 0 (.pair (.int .i64) (.int .i64)))], [⟨.ret, [(4, (.one .sb))], []⟩, ⟨.norm, [(40, (.one (.si .i64))), (41, (.one (.rw 0 0))), (42, (.one (.si .i64))), (43, (.one .sb)), (46, (.one (.si .i64))), (47, (.one (.si .i64))), (48, (.one (.sl (.pair (.int .i64) (.int .i64)) false true))), (49, (.one .sb))], [(.row 0 (.pair (.int .i64) (.int .i64)))]⟩], [], []⟩
noncomputable def L0_C70_step : ((Int × Unit × Int × Bool × Int × Unit × Int × Bool × Int × Int × List ((Int × Int)) × Bool) × (List ((Int × Int)) × List ((Int × Int)))) → T (Bool ⊕ ((Int × Unit × Int × Bool × Int × Int × List ((Int × Int)) × Bool) × List ((Int × Int)))) := fun ((m, (), with', five, p, (), rank, seven, r, at', of', nine), (ds, cut)) =>
 (.test five
 (.test (decide ((0 + ds.length) ≤ ds.length))
 (.sub (F62 (m, (win ds 0 ds.length))) fun z0 =>
 (.test (decide ((0 + ds.length) ≤ ds.length))
 (.sub (F37 (m, (win ds 0 ds.length))) fun z1 =>
 (.test (decide ((0 = 0) ∧ (cut.length = cut.length)))
 (.sub (L0_R72 ((with', (p, ((), (rank, (seven, (r, (at', (of', (nine, (z0.1, (z0.2, z1))))))))))), cut)) fun z2 =>
 (.test z2.1.2.2.2.2.2.2.2.2
 (.ret (Sum.inl false))
 (.test (decide ((0 = 0) ∧ (z2.2.length = z2.2.length)))
 (.ret (Sum.inr ((z2.1.1, ((), (z2.1.2.2.1, (z2.1.2.2.2.1, (z2.1.2.2.2.2.1, (z2.1.2.2.2.2.2.1, (z2.1.2.2.2.2.2.2.1, z2.1.2.2.2.2.2.2.2.1))))))), z2.2)))
 .fail)))
 .fail))
 .fail))
 .fail)
 (.test (decide ((0 = 0) ∧ (cut.length = cut.length)))
 (.ret (Sum.inr ((p, ((), (rank, (seven, (r, (at', (of', nine))))))), cut)))
 .fail))
noncomputable def L0_C70 (v) := (L0_C70_step v).run
def L0_R76_sh : LSh := ⟨(fun ex => match ex with | .norm => [(40, none), (41, none), (42, none), (46, none), (47, none), (48, none), (49, none), (375, none)] | .exit i => [] | .ret => [(4, none)]), [(40, (.one (.si .i64))), (41, (.one (.rw 0 0))), (42, (.one (.si .i64))), (46, (.one (.si .i64))), (47, (.one (.si .i64))), (48, (.one (.sl (.pair (.int .i64) (.int .i64)) false true))), (49, (.one .sb)), (55, (.one (.sl (.pair (.int .i64) (.int .i64)) false true))), (56, (.one .sb))], [(.row 0 (.pair (.int .i64) (.int .i64)))], [⟨.norm, [(40, (.one (.si .i64))), (41, (.one (.rw 0 0))), (42, (.one (.si .i64))), (46, (.one (.si .i64))), (47, (.one (.si .i64))), (48, (.one (.sl (.pair (.int .i64) (.int .i64)) false true))), (49, (.one .sb)), (375, (.one .sb))], [(.row 0 (.pair (.int .i64) (.int .i64)))]⟩], [], []⟩
noncomputable def L0_R76_step : ((Int × Unit × Int × Int × Int × List ((Int × Int)) × Bool × List ((Int × Int)) × Bool) × List ((Int × Int))) → T ((Int × Unit × Int × Int × Int × List ((Int × Int)) × Bool × Bool) × List ((Int × Int))) := fun ((p, (), rank, r, at', of', nine, back, eleven), cut) =>
 (.test (! eleven)
 (.test (decide ((0 = 0) ∧ (cut.length = cut.length)))
 (.ret ((p, ((), (rank, (r, (at', (of', (nine, true))))))), cut))
 .fail)
 (.test (decide ((0 + cut.length) ≤ cut.length))
 (.sub (F112 (back, (win cut 0 cut.length))) fun z0 =>
 (.test (decide ((0 = 0) ∧ (cut.length = cut.length)))
 (.ret ((p, ((), (rank, (r, (at', (of', (nine, (! z0)))))))), cut))
 .fail))
 .fail))
noncomputable def L0_R76 (v) := (L0_R76_step v).run
def L0_R80_sh : LSh := ⟨(fun ex => match ex with | .norm => [(46, none), (47, none), (48, none), (49, none), (392, none)] | .exit i => [] | .ret => [(4, none)]), [(41, (.one (.rw 0 0))), (46, (.one (.si .i64))), (47, (.one (.si .i64))), (48, (.one (.sl (.pair (.int .i64) (.int .i64)) false true))), (49, (.one .sb)), (57, (.one (.sl (.pair (.int .i64) (.int .i64)) false true))), (58, (.one .sb))], [(.row 0 (.pair (.int .i64) (.int .i64)))], [⟨.norm, [(46, (.one (.si .i64))), (47, (.one (.si .i64))), (48, (.one (.sl (.pair (.int .i64) (.int .i64)) false true))), (49, (.one .sb)), (392, (.one .sb))], []⟩], [], []⟩
noncomputable def L0_R80_step : ((Unit × Int × Int × List ((Int × Int)) × Bool × List ((Int × Int)) × Bool) × List ((Int × Int))) → T (Int × Int × List ((Int × Int)) × Bool × Bool) := fun (((), r, at', of', nine, before, twelve), cut) =>
 (.test (! twelve)
 (.ret (r, (at', (of', (nine, true)))))
 (.test (decide ((0 + cut.length) ≤ cut.length))
 (.sub (F84 (before, (win cut 0 cut.length))) fun z0 =>
 (.ret (r, (at', (of', (nine, (! z0)))))))
 .fail))
noncomputable def L0_R80 (v) := (L0_R80_step v).run
def L0_C75_sh : LSh := ⟨(fun ex => match ex with | .norm => [(46, none), (47, none), (48, none), (49, none)] | .exit i => [] | .ret => [(4, none)]), [(40, (.one (.si .i64))), (41, (.one (.rw 0 0))), (42, (.one (.si .i64))), (43, (.one .sb)), (46, (.one (.si .i64))), (47, (.one (.si .i64))), (48, (.one (.sl (.pair (.int .i64) (.int .i64)) false true))), (49, (.one .sb))], [(.row 0 (.pair (.int .i64) (.int .i64)))], [⟨.ret, [(4, (.one .sb))], []⟩, ⟨.norm, [(46, (.one (.si .i64))), (47, (.one (.si .i64))), (48, (.one (.sl (.pair (.int .i64) (.int .i64)) false true))), (49, (.one .sb))], []⟩], [], []⟩
noncomputable def L0_C75_step : ((Int × Unit × Int × Bool × Int × Int × List ((Int × Int)) × Bool) × List ((Int × Int))) → T (Bool ⊕ (Int × Int × List ((Int × Int)) × Bool)) := fun ((p, (), rank, seven, r, at', of', nine), cut) =>
 (.test seven
 (.sub (F25 (p, rank)) fun z0 =>
 (.test (decide ((0 = 0) ∧ (cut.length = cut.length)))
 (.sub (L0_R76 ((p, ((), (rank, (r, (at', (of', (nine, z0))))))), cut)) fun z1 =>
 (.test z1.1.2.2.2.2.2.2.2
 (.ret (Sum.inl false))
 (.test (decide (z1.1.2.2.1 > 0))
 (.sub (F25 (z1.1.1, (w64 (z1.1.2.2.1 - 1)))) fun z2 =>
 (.test (decide ((0 = 0) ∧ (z1.2.length = z1.2.length)))
 (.sub (L0_R80 (((), (z1.1.2.2.2.1, (z1.1.2.2.2.2.1, (z1.1.2.2.2.2.2.1, (z1.1.2.2.2.2.2.2.1, z2))))), z1.2)) fun z3 =>
 (.test z3.2.2.2.2
 (.ret (Sum.inl false))
 (.ret (Sum.inr (z3.1, (z3.2.1, (z3.2.2.1, z3.2.2.2.1)))))))
 .fail))
 (.ret (Sum.inr (z1.1.2.2.2.1, (z1.1.2.2.2.2.1, (z1.1.2.2.2.2.2.1, z1.1.2.2.2.2.2.2.1))))))))
 .fail))
 (.ret (Sum.inr (r, (at', (of', nine))))))
noncomputable def L0_C75 (v) := (L0_C75_step v).run
def L0_fo : List FO := [⟨[(.one .sb)], []⟩]
noncomputable def L0_t : (List (Int) × List (Int)) → T Bool := fun (code, more) =>
 (.sub (F125 (code, more)) fun z0 =>
 (.test z0
 (.ret true)
 (.sub (F34 code) fun z1 =>
 (.sub (F55 z1) fun z2 =>
 (.sub (F56 z1) fun z3 =>
 (.sub (F45 z1) fun z4 =>
 (.sub (F46 z1) fun z5 =>
 (.sub (F18 z1) fun z6 =>
 (.sub (F19 z1) fun z7 =>
 (.test (decide ((0 = 0) ∧ (z2.2.length = z2.2.length)))
 (.test (decide ((0 = 0) ∧ (z3.2.length = z3.2.length)))
 (.test (decide ((0 = 0) ∧ (z4.2.length = z4.2.length)))
 (.test (decide ((0 = 0) ∧ (z5.2.length = z5.2.length)))
 (.sub (L0_R10 ((more, (z1, ((), (z2.1.2, ((), (z3.1.2, ((), (z4.1.2, ((), (z5.1.2, (z6.1, (z6.2, z7)))))))))))), (z2.2, (z3.2, (z4.2, z5.2))))) fun z8 =>
 (.test z8.1.2.2.2.2.2.2
 (.ret false)
 (.test (decide ((0 = 0) ∧ (z8.2.1.length = z8.2.1.length)))
 (.test (decide ((0 = 0) ∧ (z8.2.2.length = z8.2.2.length)))
 (.sub (L0_C13 ((z8.1.1, (z8.1.2.1, ((), (z8.1.2.2.2.1, ((), z8.1.2.2.2.2.2.1))))), z8.2)) fun z9 =>
 (.test (Sum.isLeft z9)
 (.sub (Sum.getLeft? z9) fun z10 =>
 (.ret z10))
 (.sub (Sum.getRight? z9) fun z11 =>
 (.sub (F49 z11) fun z12 =>
 (.test (decide ((0 + z12.2.length) ≤ z12.2.length))
 (.sub (F68 (z12.1.1, (win z12.2 0 z12.2.length))) fun z13 =>
 (.test (decide ((0 + z12.2.length) ≤ z12.2.length))
 (.sub (F69 (z12.1.1, (win z12.2 0 z12.2.length))) fun z14 =>
 (.sub (F13 z11) fun z15 =>
 (.test (decide ((0 + z15.2.length) ≤ z15.2.length))
 (.sub (F23 (z15.1.1, (win z15.2 0 z15.2.length))) fun z16 =>
 (.test (decide ((0 + z15.2.length) ≤ z15.2.length))
 (.sub (F24 (z15.1.1, (win z15.2 0 z15.2.length))) fun z17 =>
 (.sub (F14 z11) fun z18 =>
 (.sub (F25 z18) fun z19 =>
 (.sub (F26 z18) fun z20 =>
 (.test (decide ((0 = 0) ∧ (z12.2.length = z12.2.length)))
 (.test (decide ((0 = 0) ∧ (z15.2.length = z15.2.length)))
 (.sub (L0_R67 ((z12.1.1, ((), (z13.1, (z13.2, (z14.1, (z14.2, (z15.1.1, ((), (z16.1, (z16.2, (z17.1, (z17.2, (z18.1, (z18.2, (z19.1, (z19.2, z20)))))))))))))))), (z12.2, z15.2))) fun z21 =>
 (.test z21.1.2.2.2.2.2.2.2.2.2.2.2.2
 (.ret false)
 (.test (decide ((0 = 0) ∧ (z21.2.1.length = z21.2.1.length)))
 (.test (decide ((0 = 0) ∧ (z21.2.2.length = z21.2.2.length)))
 (.sub (L0_C70 ((z21.1.1, ((), (z21.1.2.2.1, (z21.1.2.2.2.1, (z21.1.2.2.2.2.1, ((), (z21.1.2.2.2.2.2.2.1, (z21.1.2.2.2.2.2.2.2.1, (z21.1.2.2.2.2.2.2.2.2.1, (z21.1.2.2.2.2.2.2.2.2.2.1, (z21.1.2.2.2.2.2.2.2.2.2.2.1, z21.1.2.2.2.2.2.2.2.2.2.2.2.1))))))))))), z21.2)) fun z22 =>
 (.test (Sum.isLeft z22)
 (.sub (Sum.getLeft? z22) fun z23 =>
 (.ret z23))
 (.sub (Sum.getRight? z22) fun z24 =>
 (.test (decide ((0 = 0) ∧ (z24.2.length = z24.2.length)))
 (.sub (L0_C75 ((z24.1.1, ((), z24.1.2.2)), z24.2)) fun z25 =>
 (.test (Sum.isLeft z25)
 (.sub (Sum.getLeft? z25) fun z26 =>
 (.ret z26))
 (.sub (Sum.getRight? z25) fun z27 =>
 (.test z27.2.2.2
 (.sub (F23 (z27.1, z27.2.2.1)) fun z28 =>
 (.test z28.2
 (.ret (z28.1 == z27.2.1))
 (.ret false)))
 (.ret true)))))
 .fail))))
 .fail)
 .fail)))
 .fail)
 .fail)))))
 .fail))
 .fail)))
 .fail))
 .fail)))))
 .fail)
 .fail)))
 .fail)
 .fail)
 .fail)
 .fail))))))))))
noncomputable def L0 (v) := (L0_t v).run
noncomputable def L0_E : TEnv := ((((((((((((((((((((((((E0.add1 n_F125 F125_sh F125_fo F125).add1 n_F34 F34_sh F34_fo F34).add1 n_F55 F55_sh F55_fo F55).add1 n_F56 F56_sh F56_fo F56).add1 n_F45 F45_sh F45_fo F45).add1 n_F46 F46_sh F46_fo F46).add1 n_F18 F18_sh F18_fo F18).add1 n_F19 F19_sh F19_fo F19).add1 n_F106 F106_sh F106_fo F106).add1 n_F117 F117_sh F117_fo F117).add1 n_F48 F48_sh F48_fo F48).add1 n_F49 F49_sh F49_fo F49).add1 n_F68 F68_sh F68_fo F68).add1 n_F69 F69_sh F69_fo F69).add1 n_F13 F13_sh F13_fo F13).add1 n_F23 F23_sh F23_fo F23).add1 n_F24 F24_sh F24_fo F24).add1 n_F14 F14_sh F14_fo F14).add1 n_F25 F25_sh F25_fo F25).add1 n_F26 F26_sh F26_fo F26).add1 n_F112 F112_sh F112_fo F112).add1 n_F62 F62_sh F62_fo F62).add1 n_F37 F37_sh F37_fo F37).add1 n_F84 F84_sh F84_fo F84)
theorem L0_Eok : (L0_E).OK := ((((((((((((((((((((((((E0ok.add1 F125_ok).add1 F34_ok).add1 F55_ok).add1 F56_ok).add1 F45_ok).add1 F46_ok).add1 F18_ok).add1 F19_ok).add1 F106_ok).add1 F117_ok).add1 F48_ok).add1 F49_ok).add1 F68_ok).add1 F69_ok).add1 F13_ok).add1 F23_ok).add1 F24_ok).add1 F14_ok).add1 F25_ok).add1 F26_ok).add1 F112_ok).add1 F62_ok).add1 F37_ok).add1 F84_ok)
noncomputable def L0_told : Nat → Option SealT := fun id => if id = 2000010 then some (LSh.cut L0_R10_sh 0 [(1, none), (5, none), (6, none), (7, none), (8, none), (9, none), (10, none), (11, none), (12, none), (13, none), (14, none), (15, none), (16, none), (17, none)] (L0_R10)) else if id = 2000013 then some (LSh.cut L0_R13_sh 0 [(1, none), (5, none), (6, none), (10, none), (14, none)] (L0_R13)) else if id = 17 then some (LSh.told L0_L17_sh 0 (L0_L17_step)) else if id = 2000025 then some (LSh.cut L0_R25_sh 0 [(1, none), (5, none), (6, none), (10, none), (14, none), (21, none), (22, none)] (L0_R25)) else if id = 32 then some (LSh.told L0_L32_sh 0 (L0_L32_step)) else if id = 28 then some (LSh.told L0_L28_sh 0 (L0_L28_step)) else if id = 48 then some (LSh.told L0_L48_sh 0 (L0_L48_step)) else if id = 44 then some (LSh.told L0_L44_sh 0 (L0_L44_step)) else if id = 40 then some (LSh.told L0_L40_sh 0 (L0_L40_step)) else if id = 1000013 then some (LSh.cut L0_C13_sh 0 [(1, none), (5, none), (6, none), (7, none), (10, none), (14, none)] (L0_C13)) else if id = 2000067 then some (LSh.cut L0_R67_sh 0 [(34, none), (35, none), (36, none), (37, none), (38, none), (39, none), (40, none), (41, none), (42, none), (43, none), (44, none), (45, none), (46, none), (47, none), (48, none), (49, none), (50, none), (51, none)] (L0_R67)) else if id = 2000072 then some (LSh.cut L0_R72_sh 0 [(36, none), (40, none), (41, none), (42, none), (43, none), (46, none), (47, none), (48, none), (49, none), (52, none), (53, none), (54, none)] (L0_R72)) else if id = 1000070 then some (LSh.cut L0_C70_sh 0 [(34, none), (35, none), (36, none), (37, none), (40, none), (41, none), (42, none), (43, none), (46, none), (47, none), (48, none), (49, none)] (L0_C70)) else if id = 2000076 then some (LSh.cut L0_R76_sh 0 [(40, none), (41, none), (42, none), (46, none), (47, none), (48, none), (49, none), (55, none), (56, none)] (L0_R76)) else if id = 2000080 then some (LSh.cut L0_R80_sh 0 [(41, none), (46, none), (47, none), (48, none), (49, none), (57, none), (58, none)] (L0_R80)) else if id = 1000075 then some (LSh.cut L0_C75_sh 0 [(40, none), (41, none), (42, none), (43, none), (46, none), (47, none), (48, none), (49, none)] (L0_C75)) else none
theorem L0_R10_ok : CutOK Tryz.prog 0 (cutAt (loopAt (bodyOf fn_l_FnTriangulationsCounted) []) 12) (LSh.cut L0_R10_sh 0 [(1, none), (5, none), (6, none), (7, none), (8, none), (9, none), (10, none), (11, none), (12, none), (13, none), (14, none), (15, none), (16, none), (17, none)] (L0_R10)) :=
 cut_ok (E := L0_E) (L0_Eok) (told := L0_told) (l := L0_R10_sh) (head := [(1, none), (5, none), (6, none), (7, none), (8, none), (9, none), (10, none), (11, none), (12, none), (13, none), (14, none), (15, none), (16, none), (17, none)]) (F := L0_R10_step) (loopsOK_of2 (ls := []) (cs := []) (by kernel_rfl) trivial (by kernel_rfl) trivial) (fun v => by kernel_rfl)
theorem L0_R13_ok : CutOK Tryz.prog 0 (cutAt (loopAt (bodyOf fn_l_FnTriangulationsCounted) []) 17) (LSh.cut L0_R13_sh 0 [(1, none), (5, none), (6, none), (10, none), (14, none)] (L0_R13)) :=
 cut_ok (E := L0_E) (L0_Eok) (told := L0_told) (l := L0_R13_sh) (head := [(1, none), (5, none), (6, none), (10, none), (14, none)]) (F := L0_R13_step) (loopsOK_of2 (ls := []) (cs := []) (by kernel_rfl) trivial (by kernel_rfl) trivial) (fun v => by kernel_rfl)
theorem L0_L17_ok : ToldOK Tryz.prog 0 (loopAt (bodyOf fn_l_FnTriangulationsCounted) [0]) (LSh.told L0_L17_sh 0 (L0_L17_step)) :=
 loop_ok (E := L0_E) (L0_Eok) (told := L0_told) (l := L0_L17_sh) (step := L0_L17_step) (loopsOK_of2 (ls := []) (cs := [cutAt (loopAt (bodyOf fn_l_FnTriangulationsCounted) [0]) 0, cutAt (loopAt (bodyOf fn_l_FnTriangulationsCounted) [0]) 1, cutAt (loopAt (bodyOf fn_l_FnTriangulationsCounted) [0]) 2]) (by kernel_rfl) trivial (by kernel_rfl) ⟨.inl (by kernel_rfl), ⟨.inl (by kernel_rfl), ⟨.inl (by kernel_rfl), trivial⟩⟩⟩) (by kernel_rfl) (fun v => by kernel_rfl)
theorem L0_R25_ok : CutOK Tryz.prog 0 (cutAt (loopAt (bodyOf fn_l_FnTriangulationsCounted) []) 27) (LSh.cut L0_R25_sh 0 [(1, none), (5, none), (6, none), (10, none), (14, none), (21, none), (22, none)] (L0_R25)) :=
 cut_ok (E := L0_E) (L0_Eok) (told := L0_told) (l := L0_R25_sh) (head := [(1, none), (5, none), (6, none), (10, none), (14, none), (21, none), (22, none)]) (F := L0_R25_step) (loopsOK_of2 (ls := []) (cs := []) (by kernel_rfl) trivial (by kernel_rfl) trivial) (fun v => by kernel_rfl)
theorem L0_L32_ok : ToldOK Tryz.prog 0 (loopAt (bodyOf fn_l_FnTriangulationsCounted) [1, 0]) (LSh.told L0_L32_sh 0 (L0_L32_step)) :=
 loop_ok (E := L0_E) (L0_Eok) (told := L0_told) (l := L0_L32_sh) (step := L0_L32_step) (loopsOK_of2 (ls := []) (cs := [cutAt (loopAt (bodyOf fn_l_FnTriangulationsCounted) [1, 0]) 0, cutAt (loopAt (bodyOf fn_l_FnTriangulationsCounted) [1, 0]) 1, cutAt (loopAt (bodyOf fn_l_FnTriangulationsCounted) [1, 0]) 2, cutAt (loopAt (bodyOf fn_l_FnTriangulationsCounted) [1, 0]) 3]) (by kernel_rfl) trivial (by kernel_rfl) ⟨.inl (by kernel_rfl), ⟨.inl (by kernel_rfl), ⟨.inl (by kernel_rfl), ⟨.inl (by kernel_rfl), trivial⟩⟩⟩⟩) (by kernel_rfl) (fun v => by kernel_rfl)
theorem L0_L28_ok : ToldOK Tryz.prog 0 (loopAt (bodyOf fn_l_FnTriangulationsCounted) [1]) (LSh.told L0_L28_sh 0 (L0_L28_step)) :=
 loop_ok (E := L0_E) (L0_Eok) (told := L0_told) (l := L0_L28_sh) (step := L0_L28_step) (loopsOK_of2 (ls := [loopAt (bodyOf fn_l_FnTriangulationsCounted) [1, 0]]) (cs := [cutAt (loopAt (bodyOf fn_l_FnTriangulationsCounted) [1]) 0, cutAt (loopAt (bodyOf fn_l_FnTriangulationsCounted) [1]) 1, cutAt (loopAt (bodyOf fn_l_FnTriangulationsCounted) [1]) 2, cutAt (loopAt (bodyOf fn_l_FnTriangulationsCounted) [1]) 3, cutAt (loopAt (bodyOf fn_l_FnTriangulationsCounted) [1]) 4, cutAt (loopAt (bodyOf fn_l_FnTriangulationsCounted) [1]) 5]) (by kernel_rfl) ⟨.inr ⟨_, by kernel_rfl, L0_L32_ok⟩, trivial⟩ (by kernel_rfl) ⟨.inl (by kernel_rfl), ⟨.inl (by kernel_rfl), ⟨.inl (by kernel_rfl), ⟨.inl (by kernel_rfl), ⟨.inl (by kernel_rfl), ⟨.inl (by kernel_rfl), trivial⟩⟩⟩⟩⟩⟩) (by kernel_rfl) (fun v => by kernel_rfl)
theorem L0_L48_ok : ToldOK Tryz.prog 0 (loopAt (bodyOf fn_l_FnTriangulationsCounted) [2, 0, 0]) (LSh.told L0_L48_sh 0 (L0_L48_step)) :=
 loop_ok (E := L0_E) (L0_Eok) (told := L0_told) (l := L0_L48_sh) (step := L0_L48_step) (loopsOK_of2 (ls := []) (cs := [cutAt (loopAt (bodyOf fn_l_FnTriangulationsCounted) [2, 0, 0]) 0, cutAt (loopAt (bodyOf fn_l_FnTriangulationsCounted) [2, 0, 0]) 1, cutAt (loopAt (bodyOf fn_l_FnTriangulationsCounted) [2, 0, 0]) 2, cutAt (loopAt (bodyOf fn_l_FnTriangulationsCounted) [2, 0, 0]) 3]) (by kernel_rfl) trivial (by kernel_rfl) ⟨.inl (by kernel_rfl), ⟨.inl (by kernel_rfl), ⟨.inl (by kernel_rfl), ⟨.inl (by kernel_rfl), trivial⟩⟩⟩⟩) (by kernel_rfl) (fun v => by kernel_rfl)
theorem L0_L44_ok : ToldOK Tryz.prog 0 (loopAt (bodyOf fn_l_FnTriangulationsCounted) [2, 0]) (LSh.told L0_L44_sh 0 (L0_L44_step)) :=
 loop_ok (E := L0_E) (L0_Eok) (told := L0_told) (l := L0_L44_sh) (step := L0_L44_step) (loopsOK_of2 (ls := [loopAt (bodyOf fn_l_FnTriangulationsCounted) [2, 0, 0]]) (cs := [cutAt (loopAt (bodyOf fn_l_FnTriangulationsCounted) [2, 0]) 0, cutAt (loopAt (bodyOf fn_l_FnTriangulationsCounted) [2, 0]) 1, cutAt (loopAt (bodyOf fn_l_FnTriangulationsCounted) [2, 0]) 2, cutAt (loopAt (bodyOf fn_l_FnTriangulationsCounted) [2, 0]) 3, cutAt (loopAt (bodyOf fn_l_FnTriangulationsCounted) [2, 0]) 4, cutAt (loopAt (bodyOf fn_l_FnTriangulationsCounted) [2, 0]) 5]) (by kernel_rfl) ⟨.inr ⟨_, by kernel_rfl, L0_L48_ok⟩, trivial⟩ (by kernel_rfl) ⟨.inl (by kernel_rfl), ⟨.inl (by kernel_rfl), ⟨.inl (by kernel_rfl), ⟨.inl (by kernel_rfl), ⟨.inl (by kernel_rfl), ⟨.inl (by kernel_rfl), trivial⟩⟩⟩⟩⟩⟩) (by kernel_rfl) (fun v => by kernel_rfl)
theorem L0_L40_ok : ToldOK Tryz.prog 0 (loopAt (bodyOf fn_l_FnTriangulationsCounted) [2]) (LSh.told L0_L40_sh 0 (L0_L40_step)) :=
 loop_ok (E := L0_E) (L0_Eok) (told := L0_told) (l := L0_L40_sh) (step := L0_L40_step) (loopsOK_of2 (ls := [loopAt (bodyOf fn_l_FnTriangulationsCounted) [2, 0]]) (cs := [cutAt (loopAt (bodyOf fn_l_FnTriangulationsCounted) [2]) 0, cutAt (loopAt (bodyOf fn_l_FnTriangulationsCounted) [2]) 1, cutAt (loopAt (bodyOf fn_l_FnTriangulationsCounted) [2]) 2, cutAt (loopAt (bodyOf fn_l_FnTriangulationsCounted) [2]) 3, cutAt (loopAt (bodyOf fn_l_FnTriangulationsCounted) [2]) 4, cutAt (loopAt (bodyOf fn_l_FnTriangulationsCounted) [2]) 5]) (by kernel_rfl) ⟨.inr ⟨_, by kernel_rfl, L0_L44_ok⟩, trivial⟩ (by kernel_rfl) ⟨.inl (by kernel_rfl), ⟨.inl (by kernel_rfl), ⟨.inl (by kernel_rfl), ⟨.inl (by kernel_rfl), ⟨.inl (by kernel_rfl), ⟨.inl (by kernel_rfl), trivial⟩⟩⟩⟩⟩⟩) (by kernel_rfl) (fun v => by kernel_rfl)
theorem L0_C13_ok : CutOK Tryz.prog 0 (cutAt (loopAt (bodyOf fn_l_FnTriangulationsCounted) []) 14) (LSh.cut L0_C13_sh 0 [(1, none), (5, none), (6, none), (7, none), (10, none), (14, none)] (L0_C13)) :=
 cut_ok (E := L0_E) (L0_Eok) (told := L0_told) (l := L0_C13_sh) (head := [(1, none), (5, none), (6, none), (7, none), (10, none), (14, none)]) (F := L0_C13_step) (loopsOK_of2 (ls := [loopAt (bodyOf fn_l_FnTriangulationsCounted) [0], loopAt (bodyOf fn_l_FnTriangulationsCounted) [1], loopAt (bodyOf fn_l_FnTriangulationsCounted) [2]]) (cs := [cutAt (loopAt (bodyOf fn_l_FnTriangulationsCounted) []) 15, cutAt (loopAt (bodyOf fn_l_FnTriangulationsCounted) []) 16, cutAt (loopAt (bodyOf fn_l_FnTriangulationsCounted) []) 17, cutAt (loopAt (bodyOf fn_l_FnTriangulationsCounted) []) 18, cutAt (loopAt (bodyOf fn_l_FnTriangulationsCounted) []) 19, cutAt (loopAt (bodyOf fn_l_FnTriangulationsCounted) []) 20, cutAt (loopAt (bodyOf fn_l_FnTriangulationsCounted) []) 21, cutAt (loopAt (bodyOf fn_l_FnTriangulationsCounted) []) 22, cutAt (loopAt (bodyOf fn_l_FnTriangulationsCounted) []) 23, cutAt (loopAt (bodyOf fn_l_FnTriangulationsCounted) []) 24, cutAt (loopAt (bodyOf fn_l_FnTriangulationsCounted) []) 25, cutAt (loopAt (bodyOf fn_l_FnTriangulationsCounted) []) 26, cutAt (loopAt (bodyOf fn_l_FnTriangulationsCounted) []) 27, cutAt (loopAt (bodyOf fn_l_FnTriangulationsCounted) []) 28, cutAt (loopAt (bodyOf fn_l_FnTriangulationsCounted) []) 29, cutAt (loopAt (bodyOf fn_l_FnTriangulationsCounted) []) 30]) (by kernel_rfl) ⟨.inr ⟨_, by kernel_rfl, L0_L17_ok⟩, ⟨.inr ⟨_, by kernel_rfl, L0_L28_ok⟩, ⟨.inr ⟨_, by kernel_rfl, L0_L40_ok⟩, trivial⟩⟩⟩ (by kernel_rfl) ⟨.inl (by kernel_rfl), ⟨.inl (by kernel_rfl), ⟨.inr ⟨_, by kernel_rfl, L0_R13_ok⟩, ⟨.inl (by kernel_rfl), ⟨.inl (by kernel_rfl), ⟨.inl (by kernel_rfl), ⟨.inl (by kernel_rfl), ⟨.inl (by kernel_rfl), ⟨.inl (by kernel_rfl), ⟨.inl (by kernel_rfl), ⟨.inl (by kernel_rfl), ⟨.inl (by kernel_rfl), ⟨.inr ⟨_, by kernel_rfl, L0_R25_ok⟩, ⟨.inl (by kernel_rfl), ⟨.inl (by kernel_rfl), ⟨.inl (by kernel_rfl), trivial⟩⟩⟩⟩⟩⟩⟩⟩⟩⟩⟩⟩⟩⟩⟩⟩) (fun v => by kernel_rfl)
theorem L0_R67_ok : CutOK Tryz.prog 0 (cutAt (loopAt (bodyOf fn_l_FnTriangulationsCounted) []) 41) (LSh.cut L0_R67_sh 0 [(34, none), (35, none), (36, none), (37, none), (38, none), (39, none), (40, none), (41, none), (42, none), (43, none), (44, none), (45, none), (46, none), (47, none), (48, none), (49, none), (50, none), (51, none)] (L0_R67)) :=
 cut_ok (E := L0_E) (L0_Eok) (told := L0_told) (l := L0_R67_sh) (head := [(34, none), (35, none), (36, none), (37, none), (38, none), (39, none), (40, none), (41, none), (42, none), (43, none), (44, none), (45, none), (46, none), (47, none), (48, none), (49, none), (50, none), (51, none)]) (F := L0_R67_step) (loopsOK_of2 (ls := []) (cs := []) (by kernel_rfl) trivial (by kernel_rfl) trivial) (fun v => by kernel_rfl)
theorem L0_R72_ok : CutOK Tryz.prog 0 (cutAt (loopAt (bodyOf fn_l_FnTriangulationsCounted) []) 47) (LSh.cut L0_R72_sh 0 [(36, none), (40, none), (41, none), (42, none), (43, none), (46, none), (47, none), (48, none), (49, none), (52, none), (53, none), (54, none)] (L0_R72)) :=
 cut_ok (E := L0_E) (L0_Eok) (told := L0_told) (l := L0_R72_sh) (head := [(36, none), (40, none), (41, none), (42, none), (43, none), (46, none), (47, none), (48, none), (49, none), (52, none), (53, none), (54, none)]) (F := L0_R72_step) (loopsOK_of2 (ls := []) (cs := []) (by kernel_rfl) trivial (by kernel_rfl) trivial) (fun v => by kernel_rfl)
theorem L0_C70_ok : CutOK Tryz.prog 0 (cutAt (loopAt (bodyOf fn_l_FnTriangulationsCounted) []) 43) (LSh.cut L0_C70_sh 0 [(34, none), (35, none), (36, none), (37, none), (40, none), (41, none), (42, none), (43, none), (46, none), (47, none), (48, none), (49, none)] (L0_C70)) :=
 cut_ok (E := L0_E) (L0_Eok) (told := L0_told) (l := L0_C70_sh) (head := [(34, none), (35, none), (36, none), (37, none), (40, none), (41, none), (42, none), (43, none), (46, none), (47, none), (48, none), (49, none)]) (F := L0_C70_step) (loopsOK_of2 (ls := []) (cs := [cutAt (loopAt (bodyOf fn_l_FnTriangulationsCounted) []) 44, cutAt (loopAt (bodyOf fn_l_FnTriangulationsCounted) []) 45, cutAt (loopAt (bodyOf fn_l_FnTriangulationsCounted) []) 46, cutAt (loopAt (bodyOf fn_l_FnTriangulationsCounted) []) 47, cutAt (loopAt (bodyOf fn_l_FnTriangulationsCounted) []) 48]) (by kernel_rfl) trivial (by kernel_rfl) ⟨.inl (by kernel_rfl), ⟨.inl (by kernel_rfl), ⟨.inl (by kernel_rfl), ⟨.inr ⟨_, by kernel_rfl, L0_R72_ok⟩, ⟨.inl (by kernel_rfl), trivial⟩⟩⟩⟩⟩) (fun v => by kernel_rfl)
theorem L0_R76_ok : CutOK Tryz.prog 0 (cutAt (loopAt (bodyOf fn_l_FnTriangulationsCounted) []) 53) (LSh.cut L0_R76_sh 0 [(40, none), (41, none), (42, none), (46, none), (47, none), (48, none), (49, none), (55, none), (56, none)] (L0_R76)) :=
 cut_ok (E := L0_E) (L0_Eok) (told := L0_told) (l := L0_R76_sh) (head := [(40, none), (41, none), (42, none), (46, none), (47, none), (48, none), (49, none), (55, none), (56, none)]) (F := L0_R76_step) (loopsOK_of2 (ls := []) (cs := []) (by kernel_rfl) trivial (by kernel_rfl) trivial) (fun v => by kernel_rfl)
theorem L0_R80_ok : CutOK Tryz.prog 0 (cutAt (loopAt (bodyOf fn_l_FnTriangulationsCounted) []) 57) (LSh.cut L0_R80_sh 0 [(41, none), (46, none), (47, none), (48, none), (49, none), (57, none), (58, none)] (L0_R80)) :=
 cut_ok (E := L0_E) (L0_Eok) (told := L0_told) (l := L0_R80_sh) (head := [(41, none), (46, none), (47, none), (48, none), (49, none), (57, none), (58, none)]) (F := L0_R80_step) (loopsOK_of2 (ls := []) (cs := []) (by kernel_rfl) trivial (by kernel_rfl) trivial) (fun v => by kernel_rfl)
theorem L0_C75_ok : CutOK Tryz.prog 0 (cutAt (loopAt (bodyOf fn_l_FnTriangulationsCounted) []) 49) (LSh.cut L0_C75_sh 0 [(40, none), (41, none), (42, none), (43, none), (46, none), (47, none), (48, none), (49, none)] (L0_C75)) :=
 cut_ok (E := L0_E) (L0_Eok) (told := L0_told) (l := L0_C75_sh) (head := [(40, none), (41, none), (42, none), (43, none), (46, none), (47, none), (48, none), (49, none)]) (F := L0_C75_step) (loopsOK_of2 (ls := []) (cs := [cutAt (loopAt (bodyOf fn_l_FnTriangulationsCounted) []) 50, cutAt (loopAt (bodyOf fn_l_FnTriangulationsCounted) []) 51, cutAt (loopAt (bodyOf fn_l_FnTriangulationsCounted) []) 52, cutAt (loopAt (bodyOf fn_l_FnTriangulationsCounted) []) 53, cutAt (loopAt (bodyOf fn_l_FnTriangulationsCounted) []) 54, cutAt (loopAt (bodyOf fn_l_FnTriangulationsCounted) []) 55, cutAt (loopAt (bodyOf fn_l_FnTriangulationsCounted) []) 56, cutAt (loopAt (bodyOf fn_l_FnTriangulationsCounted) []) 57, cutAt (loopAt (bodyOf fn_l_FnTriangulationsCounted) []) 58]) (by kernel_rfl) trivial (by kernel_rfl) ⟨.inl (by kernel_rfl), ⟨.inl (by kernel_rfl), ⟨.inl (by kernel_rfl), ⟨.inr ⟨_, by kernel_rfl, L0_R76_ok⟩, ⟨.inl (by kernel_rfl), ⟨.inl (by kernel_rfl), ⟨.inl (by kernel_rfl), ⟨.inr ⟨_, by kernel_rfl, L0_R80_ok⟩, ⟨.inl (by kernel_rfl), trivial⟩⟩⟩⟩⟩⟩⟩⟩⟩) (fun v => by kernel_rfl)
theorem L0_ok : FOK Tryz.prog n_l_FnTriangulationsCounted L0_sh L0_fo L0 :=
 fn_ok (E := L0_E) (L0_Eok) (told := L0_told) (fl := []) (c := bodyOf fn_l_FnTriangulationsCounted) (s := L0_sh) (l := L0_fo) (tree := L0_t) fnat_l_FnTriangulationsCounted (by kernel_rfl) (by kernel_rfl) (by kernel_rfl) (loopsOK_of2 (ls := [loopAt (bodyOf fn_l_FnTriangulationsCounted) [0], loopAt (bodyOf fn_l_FnTriangulationsCounted) [1], loopAt (bodyOf fn_l_FnTriangulationsCounted) [2]]) (cs := [cutAt (loopAt (bodyOf fn_l_FnTriangulationsCounted) []) 0, cutAt (loopAt (bodyOf fn_l_FnTriangulationsCounted) []) 1, cutAt (loopAt (bodyOf fn_l_FnTriangulationsCounted) []) 2, cutAt (loopAt (bodyOf fn_l_FnTriangulationsCounted) []) 3, cutAt (loopAt (bodyOf fn_l_FnTriangulationsCounted) []) 4, cutAt (loopAt (bodyOf fn_l_FnTriangulationsCounted) []) 5, cutAt (loopAt (bodyOf fn_l_FnTriangulationsCounted) []) 6, cutAt (loopAt (bodyOf fn_l_FnTriangulationsCounted) []) 7, cutAt (loopAt (bodyOf fn_l_FnTriangulationsCounted) []) 8, cutAt (loopAt (bodyOf fn_l_FnTriangulationsCounted) []) 9, cutAt (loopAt (bodyOf fn_l_FnTriangulationsCounted) []) 10, cutAt (loopAt (bodyOf fn_l_FnTriangulationsCounted) []) 11, cutAt (loopAt (bodyOf fn_l_FnTriangulationsCounted) []) 12, cutAt (loopAt (bodyOf fn_l_FnTriangulationsCounted) []) 13, cutAt (loopAt (bodyOf fn_l_FnTriangulationsCounted) []) 14, cutAt (loopAt (bodyOf fn_l_FnTriangulationsCounted) []) 15, cutAt (loopAt (bodyOf fn_l_FnTriangulationsCounted) []) 16, cutAt (loopAt (bodyOf fn_l_FnTriangulationsCounted) []) 17, cutAt (loopAt (bodyOf fn_l_FnTriangulationsCounted) []) 18, cutAt (loopAt (bodyOf fn_l_FnTriangulationsCounted) []) 19, cutAt (loopAt (bodyOf fn_l_FnTriangulationsCounted) []) 20, cutAt (loopAt (bodyOf fn_l_FnTriangulationsCounted) []) 21, cutAt (loopAt (bodyOf fn_l_FnTriangulationsCounted) []) 22, cutAt (loopAt (bodyOf fn_l_FnTriangulationsCounted) []) 23, cutAt (loopAt (bodyOf fn_l_FnTriangulationsCounted) []) 24, cutAt (loopAt (bodyOf fn_l_FnTriangulationsCounted) []) 25, cutAt (loopAt (bodyOf fn_l_FnTriangulationsCounted) []) 26, cutAt (loopAt (bodyOf fn_l_FnTriangulationsCounted) []) 27, cutAt (loopAt (bodyOf fn_l_FnTriangulationsCounted) []) 28, cutAt (loopAt (bodyOf fn_l_FnTriangulationsCounted) []) 29, cutAt (loopAt (bodyOf fn_l_FnTriangulationsCounted) []) 30, cutAt (loopAt (bodyOf fn_l_FnTriangulationsCounted) []) 31, cutAt (loopAt (bodyOf fn_l_FnTriangulationsCounted) []) 32, cutAt (loopAt (bodyOf fn_l_FnTriangulationsCounted) []) 33, cutAt (loopAt (bodyOf fn_l_FnTriangulationsCounted) []) 34, cutAt (loopAt (bodyOf fn_l_FnTriangulationsCounted) []) 35, cutAt (loopAt (bodyOf fn_l_FnTriangulationsCounted) []) 36, cutAt (loopAt (bodyOf fn_l_FnTriangulationsCounted) []) 37, cutAt (loopAt (bodyOf fn_l_FnTriangulationsCounted) []) 38, cutAt (loopAt (bodyOf fn_l_FnTriangulationsCounted) []) 39, cutAt (loopAt (bodyOf fn_l_FnTriangulationsCounted) []) 40, cutAt (loopAt (bodyOf fn_l_FnTriangulationsCounted) []) 41, cutAt (loopAt (bodyOf fn_l_FnTriangulationsCounted) []) 42, cutAt (loopAt (bodyOf fn_l_FnTriangulationsCounted) []) 43, cutAt (loopAt (bodyOf fn_l_FnTriangulationsCounted) []) 44, cutAt (loopAt (bodyOf fn_l_FnTriangulationsCounted) []) 45, cutAt (loopAt (bodyOf fn_l_FnTriangulationsCounted) []) 46, cutAt (loopAt (bodyOf fn_l_FnTriangulationsCounted) []) 47, cutAt (loopAt (bodyOf fn_l_FnTriangulationsCounted) []) 48, cutAt (loopAt (bodyOf fn_l_FnTriangulationsCounted) []) 49, cutAt (loopAt (bodyOf fn_l_FnTriangulationsCounted) []) 50, cutAt (loopAt (bodyOf fn_l_FnTriangulationsCounted) []) 51, cutAt (loopAt (bodyOf fn_l_FnTriangulationsCounted) []) 52, cutAt (loopAt (bodyOf fn_l_FnTriangulationsCounted) []) 53, cutAt (loopAt (bodyOf fn_l_FnTriangulationsCounted) []) 54, cutAt (loopAt (bodyOf fn_l_FnTriangulationsCounted) []) 55, cutAt (loopAt (bodyOf fn_l_FnTriangulationsCounted) []) 56, cutAt (loopAt (bodyOf fn_l_FnTriangulationsCounted) []) 57, cutAt (loopAt (bodyOf fn_l_FnTriangulationsCounted) []) 58, cutAt (loopAt (bodyOf fn_l_FnTriangulationsCounted) []) 59, cutAt (loopAt (bodyOf fn_l_FnTriangulationsCounted) []) 60, cutAt (loopAt (bodyOf fn_l_FnTriangulationsCounted) []) 61, cutAt (loopAt (bodyOf fn_l_FnTriangulationsCounted) []) 62, cutAt (loopAt (bodyOf fn_l_FnTriangulationsCounted) []) 63]) (by kernel_rfl) ⟨.inr ⟨_, by kernel_rfl, L0_L17_ok⟩, ⟨.inr ⟨_, by kernel_rfl, L0_L28_ok⟩, ⟨.inr ⟨_, by kernel_rfl, L0_L40_ok⟩, trivial⟩⟩⟩ (by kernel_rfl) ⟨.inl (by kernel_rfl), ⟨.inl (by kernel_rfl), ⟨.inl (by kernel_rfl), ⟨.inl (by kernel_rfl), ⟨.inl (by kernel_rfl), ⟨.inl (by kernel_rfl), ⟨.inl (by kernel_rfl), ⟨.inl (by kernel_rfl), ⟨.inl (by kernel_rfl), ⟨.inl (by kernel_rfl), ⟨.inl (by kernel_rfl), ⟨.inl (by kernel_rfl), ⟨.inr ⟨_, by kernel_rfl, L0_R10_ok⟩, ⟨.inl (by kernel_rfl), ⟨.inr ⟨_, by kernel_rfl, L0_C13_ok⟩, ⟨.inl (by kernel_rfl), ⟨.inl (by kernel_rfl), ⟨.inr ⟨_, by kernel_rfl, L0_R13_ok⟩, ⟨.inl (by kernel_rfl), ⟨.inl (by kernel_rfl), ⟨.inl (by kernel_rfl), ⟨.inl (by kernel_rfl), ⟨.inl (by kernel_rfl), ⟨.inl (by kernel_rfl), ⟨.inl (by kernel_rfl), ⟨.inl (by kernel_rfl), ⟨.inl (by kernel_rfl), ⟨.inr ⟨_, by kernel_rfl, L0_R25_ok⟩, ⟨.inl (by kernel_rfl), ⟨.inl (by kernel_rfl), ⟨.inl (by kernel_rfl), ⟨.inl (by kernel_rfl), ⟨.inl (by kernel_rfl), ⟨.inl (by kernel_rfl), ⟨.inl (by kernel_rfl), ⟨.inl (by kernel_rfl), ⟨.inl (by kernel_rfl), ⟨.inl (by kernel_rfl), ⟨.inl (by kernel_rfl), ⟨.inl (by kernel_rfl), ⟨.inl (by kernel_rfl), ⟨.inr ⟨_, by kernel_rfl, L0_R67_ok⟩, ⟨.inl (by kernel_rfl), ⟨.inr ⟨_, by kernel_rfl, L0_C70_ok⟩, ⟨.inl (by kernel_rfl), ⟨.inl (by kernel_rfl), ⟨.inl (by kernel_rfl), ⟨.inr ⟨_, by kernel_rfl, L0_R72_ok⟩, ⟨.inl (by kernel_rfl), ⟨.inr ⟨_, by kernel_rfl, L0_C75_ok⟩, ⟨.inl (by kernel_rfl), ⟨.inl (by kernel_rfl), ⟨.inl (by kernel_rfl), ⟨.inr ⟨_, by kernel_rfl, L0_R76_ok⟩, ⟨.inl (by kernel_rfl), ⟨.inl (by kernel_rfl), ⟨.inl (by kernel_rfl), ⟨.inr ⟨_, by kernel_rfl, L0_R80_ok⟩, ⟨.inl (by kernel_rfl), ⟨.inl (by kernel_rfl), ⟨.inl (by kernel_rfl), ⟨.inl (by kernel_rfl), ⟨.inl (by kernel_rfl), ⟨.inl (by kernel_rfl), trivial⟩⟩⟩⟩⟩⟩⟩⟩⟩⟩⟩⟩⟩⟩⟩⟩⟩⟩⟩⟩⟩⟩⟩⟩⟩⟩⟩⟩⟩⟩⟩⟩⟩⟩⟩⟩⟩⟩⟩⟩⟩⟩⟩⟩⟩⟩⟩⟩⟩⟩⟩⟩⟩⟩⟩⟩⟩⟩⟩⟩⟩⟩⟩⟩) (fun v => by kernel_rfl)
theorem L0_R10_eq (more : List Int) (n : Int) (ok : Bool) (all : Int) (ears corner : List Int) (h1 : ears.length ≤ 100) (h2 : corner.length ≤ 100) :
  L0_R10 ((more, (n, ((), (ok, ((), (ok, ((), (ok, ((), (ok, (all, (ok, (all, ok))))))))))))), (ears, (ears, (corner, corner)))) = some ((more, (n, ((), (ok, ((), (all, false)))))), (ears, corner)) := by
 have e1 := dSame_val ears ears (by omega)
 have e2 := dSame_val corner corner (by omega)
 rw [decide_eq_true rfl] at e1 e2
 rw [L0_R10, L0_R10_step, T.run_test, if_neg (by simp), T.run_test, if_pos (by simp), T.run_test, if_pos (by simp), T.run_sub]
 simp only [win_all]
 rw [e1, Option.bind_some, T.run_test, if_neg (by simp), T.run_test, if_neg (by simp), T.run_test, if_pos (by simp), T.run_test, if_pos (by simp), T.run_sub, e2, Option.bind_some, T.run_test, if_neg (by simp), T.run_test, if_neg (by simp), T.run_test, if_neg (by simp), T.run_test, if_neg (by simp), T.run_test, if_pos (by simp), T.run_test, if_pos (by simp), T.run_ret]
 simp
theorem L0_L17_eq (more : List Int) (n all : Int) (ears corner : List Int) (hl : corner.length ≤ 100) : ∀ (m k : Nat) (s : Int), k + m = corner.length →
  L0_L17 ((more, (n, ((), ((), (all, (s, ((), ((corner.length : Int), (k : Int))))))))), (ears, corner)) = some ((more, (n, ((), ((), (all, sumK (corner.drop k) k s))))), (ears, corner))
 | 0, k, s, hk => by
  rw [List.drop_of_length_le (by omega), sumK]
  simp only [L0_L17]
  refine loopO_done ?_
  rw [L0_L17_step, T.run_test, if_neg (by rw [decide_eq_true_eq]; omega), T.run_test, if_pos (by simp), T.run_test, if_pos (by simp), T.run_ret]
 | m + 1, k, s, hk => by
  have hlt : k < corner.length := by omega
  have w1 : w64 ((k : Int) + 1) = ((k + 1 : Nat) : Int) := by rw [w64_id (by omega) (by omega)]; omega
  rw [List.drop_eq_getElem_cons hlt, sumK, ← L0_L17_eq more n all ears corner hl m (k + 1) _ (by omega)]
  simp only [L0_L17]
  refine loopO_next ?_
  rw [L0_L17_step, T.run_test, if_pos (decide_eq_true (by omega)), T.run_test, if_pos (decide_eq_true (by omega)), T.run_sub, Nat.zero_add, Int.toNat_natCast, List.getElem?_eq_getElem hlt, Option.bind_some, T.run_test, if_pos (by simp), T.run_test, if_pos (by simp), T.run_test, if_pos (by simp), T.run_ret, w1]
theorem L0_L32_eq (more : List Int) (n k : Int) (ears corner : List Int) (list : List (List Int)) (hl : list.length ≤ 1000) (hq : ∀ q ∈ list, 1 ≤ q.length) : ∀ (m j c : Nat), j + m = list.length → c ≤ j →
  L0_L32 ((more, (n, ((), ((), ((), (k, ((c : Int), ((), ((list.length : Int), (j : Int)))))))))), (ears, (corner, list))) = some ((more, (n, ((), ((), ((), (k, ((c + (list.drop j).countP (fun q => q0 q == k) : Nat) : Int))))))), (ears, (corner, list)))
 | 0, j, c, hj, hc => by
  rw [List.drop_of_length_le (by omega)]
  simp only [L0_L32]
  refine loopO_done ?_
  rw [L0_L32_step, T.run_test, if_neg (by rw [decide_eq_true_eq]; omega), T.run_test, if_pos (by simp), T.run_test, if_pos (by simp), T.run_test, if_pos (by simp), T.run_ret]
  rfl
 | m + 1, j, c, hj, hc => by
  have hlt : j < list.length := by omega
  have hql := hq list[j] (List.getElem_mem hlt)
  have g0 : (list[j])[0]? = some (q0 list[j]) := by unfold q0; rw [List.getD_eq_getElem?_getD, List.getElem?_eq_getElem (by omega)]; rfl
  have w1 : w64 ((j : Int) + 1) = ((j + 1 : Nat) : Int) := by rw [w64_id (by omega) (by omega)]; omega
  have w2 : w64 ((c : Int) + 1) = ((c + 1 : Nat) : Int) := by rw [w64_id (by omega) (by omega)]; omega
  rw [List.drop_eq_getElem_cons hlt, List.countP_cons]
  cases he : q0 list[j] == k with
  | true =>
   rw [if_pos rfl, show c + ((list.drop (j + 1)).countP (fun q => q0 q == k) + 1) = (c + 1) + (list.drop (j + 1)).countP (fun q => q0 q == k) by omega, ← L0_L32_eq more n k ears corner list hl hq m (j + 1) (c + 1) (by omega) (by omega)]
   simp only [L0_L32]
   refine loopO_next ?_
   rw [L0_L32_step, T.run_test, if_pos (decide_eq_true (by omega)), T.run_test, if_pos (decide_eq_true (by omega)), T.run_sub, Nat.zero_add, Int.toNat_natCast, List.getElem?_eq_getElem hlt, Option.bind_some, T.run_test, if_pos (decide_eq_true (by omega)), T.run_sub, g0, Option.bind_some, T.run_test, if_pos he, T.run_test, if_pos (by simp), T.run_test, if_pos (by simp), T.run_test, if_pos (by simp), T.run_test, if_pos (by simp), T.run_ret, w1, w2]
  | false =>
   rw [if_neg (by simp), Nat.add_zero, ← L0_L32_eq more n k ears corner list hl hq m (j + 1) c (by omega) (by omega)]
   simp only [L0_L32]
   refine loopO_next ?_
   rw [L0_L32_step, T.run_test, if_pos (decide_eq_true (by omega)), T.run_test, if_pos (decide_eq_true (by omega)), T.run_sub, Nat.zero_add, Int.toNat_natCast, List.getElem?_eq_getElem hlt, Option.bind_some, T.run_test, if_pos (decide_eq_true (by omega)), T.run_sub, g0, Option.bind_some, T.run_test, if_neg (by rw [he]; simp), T.run_test, if_pos (by simp), T.run_test, if_pos (by simp), T.run_test, if_pos (by simp), T.run_test, if_pos (by simp), T.run_ret, w1]
theorem allQ_facts {n : Nat} (h3 : 3 ≤ n) (h8 : n ≤ 8) : (allQ n).length ≤ 1000 ∧ ((allQ n).length : Int) = catV n ∧ ∀ q ∈ allQ n, q.length = n := by
 have hc := cat_len n h3 h8
 have hp : (allQ n).length = (allT n).length := by unfold allQ; rw [(sortL_perm _).length_eq, List.length_map]
 have hb : ∀ k : Nat, k ≤ 8 → (allT k).length ≤ 1000 := by decide +kernel
 have := hb n h8
 refine ⟨by omega, by omega, fun q hq => ?_⟩
 unfold allQ at hq
 obtain ⟨ds, _, rfl⟩ := List.mem_map.1 ((sortL_perm _).mem_iff.1 hq)
 simp [quid]
theorem L0_L28_eq (more : List Int) (n : Nat) (h3 : 3 ≤ n) (h7 : n ≤ 7) (ears : List Int) : ∀ (m k : Nat), 1 ≤ k → k + m = n - 1 →
  L0_L28 ((more, ((n : Int), ((), ((), ((), (k : Int)))))), (ears, (corT n, allQ n))) = some (.inr ((more, ((n : Int), ((), ()))), (ears, allQ n)))
 | 0, k, h1, hk => by
  have w2 : w64 ((n : Int) - 2) = (n : Int) - 2 := w64_id (by omega) (by omega)
  simp only [L0_L28]
  refine loopO_done ?_
  rw [L0_L28_step, w2, T.run_test, if_neg (by rw [decide_eq_true_eq]; omega), T.run_test, if_pos (by simp), T.run_test, if_pos (by simp), T.run_ret]
 | m + 1, k, h1, hk => by
  obtain ⟨f1, f2, f3⟩ := allQ_facts h3 (by omega)
  have hcl : (corT n).length = n - 1 := (tab_facts n h3 (by omega)).2.2.2.1
  have w1 : w64 ((k : Int) + 1) = ((k + 1 : Nat) : Int) := by rw [w64_id (by omega) (by omega)]; omega
  have w2 : w64 ((n : Int) - 2) = (n : Int) - 2 := w64_id (by omega) (by omega)
  have hL := L0_L32_eq more (n : Int) (k : Int) ears (corT n) (allQ n) f1 (fun q hq => by rw [f3 q hq]; omega) (allQ n).length 0 0 (by omega) (by omega)
  rw [List.drop_zero, Nat.zero_add, allQ_count] at hL
  have hkl : k < (corT n).length := by omega
  have ht := (tab_all n h3 h7).1 k (by omega) h1
  rw [List.getD_eq_getElem?_getD, List.getElem?_eq_getElem hkl, Option.getD_some] at ht
  rw [ht] at hL
  have hL' : L0_L32 ((more, ((n : Int), ((), ((), ((), ((k : Int), ((0 : Int), ((), (((allQ n).length : Int), (0 : Int)))))))))), (ears, (corT n, allQ n))) = _ := hL
  rw [← L0_L28_eq more n h3 h7 ears m (k + 1) (by omega) (by omega)]
  simp only [L0_L28]
  refine loopO_next ?_
  rw [L0_L28_step, w2, T.run_test, if_pos (decide_eq_true (by omega)), T.run_test, if_pos (by simp), T.run_test, if_pos (by simp), T.run_test, if_pos (by simp), T.run_test, if_pos (by simp), T.run_sub, hL', Option.bind_some]
  dsimp only
  rw [T.run_test, if_pos (decide_eq_true (by omega)), T.run_sub, Nat.zero_add, Int.toNat_natCast, List.getElem?_eq_getElem hkl, Option.bind_some, T.run_test, if_neg (by simp), T.run_test, if_pos (by simp), T.run_test, if_pos (by simp), T.run_test, if_pos (by simp), T.run_ret, w1]
theorem L0_L48_eq (more : List Int) (n k count t230 t231 : Int) (ears : List Int) (list : List (List Int)) (q : List Int) (hl : q.length ≤ 1000) : ∀ (m j c : Nat), j + m = q.length → c ≤ j →
  L0_L48 ((more, (n, ((), ((), (k, (count, ((c : Int), ((), (t230, (t231, (q, ((q.length : Int), (j : Int))))))))))))), (ears, list)) = some ((more, (n, ((), ((), (k, (count, (((c + (q.drop j).countP (fun x => x == 1) : Nat) : Int), ((), (t230, t231))))))))), (ears, list))
 | 0, j, c, hj, hc => by
  rw [List.drop_of_length_le (by omega)]
  simp only [L0_L48]
  refine loopO_done ?_
  rw [L0_L48_step, T.run_test, if_neg (by rw [decide_eq_true_eq]; omega), T.run_test, if_pos (by simp), T.run_test, if_pos (by simp), T.run_test, if_pos (by simp), T.run_ret]
  rfl
 | m + 1, j, c, hj, hc => by
  have hlt : j < q.length := by omega
  have w1 : w64 ((j : Int) + 1) = ((j + 1 : Nat) : Int) := by rw [w64_id (by omega) (by omega)]; omega
  have w2 : w64 ((c : Int) + 1) = ((c + 1 : Nat) : Int) := by rw [w64_id (by omega) (by omega)]; omega
  rw [List.drop_eq_getElem_cons hlt, List.countP_cons]
  cases he : q[j] == 1 with
  | true =>
   rw [if_pos rfl, show c + ((q.drop (j + 1)).countP (fun x => x == 1) + 1) = (c + 1) + (q.drop (j + 1)).countP (fun x => x == 1) by omega, ← L0_L48_eq more n k count t230 t231 ears list q hl m (j + 1) (c + 1) (by omega) (by omega)]
   simp only [L0_L48]
   refine loopO_next ?_
   rw [L0_L48_step, T.run_test, if_pos (decide_eq_true (by omega)), T.run_test, if_pos (decide_eq_true (by omega)), T.run_sub, Int.toNat_natCast, List.getElem?_eq_getElem hlt, Option.bind_some, T.run_test, if_pos he, T.run_test, if_pos (by simp), T.run_test, if_pos (by simp), T.run_test, if_pos (by simp), T.run_ret, w1, w2]
  | false =>
   rw [if_neg (by simp), Nat.add_zero, ← L0_L48_eq more n k count t230 t231 ears list q hl m (j + 1) c (by omega) (by omega)]
   simp only [L0_L48]
   refine loopO_next ?_
   rw [L0_L48_step, T.run_test, if_pos (decide_eq_true (by omega)), T.run_test, if_pos (decide_eq_true (by omega)), T.run_sub, Int.toNat_natCast, List.getElem?_eq_getElem hlt, Option.bind_some, T.run_test, if_neg (by rw [he]; simp), T.run_test, if_pos (by simp), T.run_test, if_pos (by simp), T.run_test, if_pos (by simp), T.run_ret, w1]
theorem L0_L44_eq (more : List Int) (n k : Int) (ears : List Int) (list : List (List Int)) (hl : list.length ≤ 1000) (hq : ∀ q ∈ list, q.length ≤ 1000) : ∀ (m j c : Nat), j + m = list.length → c ≤ j →
  L0_L44 ((more, (n, ((), ((), (k, ((c : Int), ((), ((list.length : Int), (j : Int))))))))), (ears, list)) = some ((more, (n, ((), ((), (k, ((c + (list.drop j).countP (fun q => qe q == k) : Nat) : Int)))))), (ears, list))
 | 0, j, c, hj, hc => by
  rw [List.drop_of_length_le (by omega)]
  simp only [L0_L44]
  refine loopO_done ?_
  rw [L0_L44_step, T.run_test, if_neg (by rw [decide_eq_true_eq]; omega), T.run_test, if_pos (by simp), T.run_test, if_pos (by simp), T.run_ret]
  rfl
 | m + 1, j, c, hj, hc => by
  have hlt : j < list.length := by omega
  have w1 : w64 ((j : Int) + 1) = ((j + 1 : Nat) : Int) := by rw [w64_id (by omega) (by omega)]; omega
  have w2 : w64 ((c : Int) + 1) = ((c + 1 : Nat) : Int) := by rw [w64_id (by omega) (by omega)]; omega
  have hI := L0_L48_eq more n k (c : Int) (list.length : Int) (j : Int) ears list list[j] (hq _ (List.getElem_mem hlt)) list[j].length 0 0 (by omega) (by omega)
  rw [List.drop_zero, Nat.zero_add] at hI
  change _ = some ((more, (n, ((), ((), (k, ((c : Int), (qe list[j], ((), ((list.length : Int), (j : Int)))))))))), (ears, list)) at hI
  have hI' : L0_L48 ((more, (n, ((), ((), (k, ((c : Int), ((0 : Int), ((), ((list.length : Int), ((j : Int), (list[j], ((list[j].length : Int), (0 : Int))))))))))))), (ears, list)) = _ := hI
  rw [List.drop_eq_getElem_cons hlt, List.countP_cons]
  cases he : qe list[j] == k with
  | true =>
   rw [if_pos rfl, show c + ((list.drop (j + 1)).countP (fun q => qe q == k) + 1) = (c + 1) + (list.drop (j + 1)).countP (fun q => qe q == k) by omega, ← L0_L44_eq more n k ears list hl hq m (j + 1) (c + 1) (by omega) (by omega)]
   simp only [L0_L44]
   refine loopO_next ?_
   rw [L0_L44_step, T.run_test, if_pos (decide_eq_true (by omega)), T.run_test, if_pos (decide_eq_true (by omega)), T.run_sub, Nat.zero_add, Int.toNat_natCast, List.getElem?_eq_getElem hlt, Option.bind_some, T.run_test, if_pos (by simp), T.run_test, if_pos (by simp), T.run_test, if_pos (by simp), T.run_sub, hI', Option.bind_some, T.run_test, if_pos he, T.run_test, if_pos (by simp), T.run_test, if_pos (by simp), T.run_test, if_pos (by simp), T.run_ret]
   dsimp only
   rw [w1, w2]
  | false =>
   rw [if_neg (by simp), Nat.add_zero, ← L0_L44_eq more n k ears list hl hq m (j + 1) c (by omega) (by omega)]
   simp only [L0_L44]
   refine loopO_next ?_
   rw [L0_L44_step, T.run_test, if_pos (decide_eq_true (by omega)), T.run_test, if_pos (decide_eq_true (by omega)), T.run_sub, Nat.zero_add, Int.toNat_natCast, List.getElem?_eq_getElem hlt, Option.bind_some, T.run_test, if_pos (by simp), T.run_test, if_pos (by simp), T.run_test, if_pos (by simp), T.run_sub, hI', Option.bind_some, T.run_test, if_neg (by dsimp only; rw [he]; simp), T.run_test, if_pos (by simp), T.run_test, if_pos (by simp), T.run_test, if_pos (by simp), T.run_ret]
   dsimp only
   rw [w1]
theorem L0_L40_eq (more : List Int) (n : Nat) (h3 : 3 ≤ n) (h7 : n ≤ 7) : ∀ (m k : Nat), k + m = n + 1 →
  L0_L40 ((more, ((n : Int), ((), ((), (k : Int))))), (earT n, allQ n)) = some (.inr more)
 | 0, k, hk => by
  simp only [L0_L40]
  refine loopO_done ?_
  rw [L0_L40_step, T.run_test, if_neg (by rw [decide_eq_true_eq]; omega), T.run_ret]
 | m + 1, k, hk => by
  obtain ⟨f1, f2, f3⟩ := allQ_facts h3 (by omega)
  have hel : (earT n).length = n + 1 := (tab_facts n h3 (by omega)).2.2.1
  have w1 : w64 ((k : Int) + 1) = ((k + 1 : Nat) : Int) := by rw [w64_id (by omega) (by omega)]; omega
  have hL := L0_L44_eq more (n : Int) (k : Int) (earT n) (allQ n) f1 (fun q hq => by rw [f3 q hq]; omega) (allQ n).length 0 0 (by omega) (by omega)
  rw [List.drop_zero, Nat.zero_add, allQ_count] at hL
  have hkl : k < (earT n).length := by omega
  have ht := (tab_all n h3 h7).2 k (by omega)
  rw [List.getD_eq_getElem?_getD, List.getElem?_eq_getElem hkl, Option.getD_some] at ht
  rw [ht] at hL
  have hL' : L0_L44 ((more, ((n : Int), ((), ((), ((k : Int), ((0 : Int), ((), (((allQ n).length : Int), (0 : Int))))))))), (earT n, allQ n)) = _ := hL
  rw [← L0_L40_eq more n h3 h7 m (k + 1) (by omega)]
  simp only [L0_L40]
  refine loopO_next ?_
  rw [L0_L40_step, T.run_test, if_pos (decide_eq_true (by omega)), T.run_test, if_pos (by simp), T.run_test, if_pos (by simp), T.run_test, if_pos (by simp), T.run_sub, hL', Option.bind_some]
  dsimp only
  rw [T.run_test, if_pos (decide_eq_true (by omega)), T.run_sub, Nat.zero_add, Int.toNat_natCast, List.getElem?_eq_getElem hkl, Option.bind_some, T.run_test, if_neg (by simp), T.run_test, if_pos (by simp), T.run_test, if_pos (by simp), T.run_ret, w1]
theorem L0_C13_eq (more : List Int) (n : Int) (ears corner : List Int) (he : inB 3 12 n = true → ears = earT n) (hc : inB 3 12 n = true → corner = corT n) (all : Int) (ha : inB 3 12 n = true → all = catV n) :
  L0_C13 ((more, (n, ((), (inB 3 12 n, ((), all))))), (ears, corner)) = some (.inr more) := by
 rw [L0_C13, L0_C13_step, T.run_test]
 cases hn : inB 3 12 n with
 | false => rfl
 | true =>
  rw [he hn, hc hn, ha hn]
  rw [inB_iff] at hn
  obtain ⟨k, rfl⟩ : ∃ k : Nat, n = k := ⟨n.toNat, by omega⟩
  obtain ⟨t1, t2, t3, t4, t5, t6, t7⟩ := tab_facts k (by omega) (by omega)
  have s1 := dSumG (earT k) (by omega) t5
  have s2 := dSumG (corT k) (by omega) t6
  rw [t1] at s1
  rw [t2] at s2
  have w1 : w64 ((k : Int) + 1) = (k : Int) + 1 := w64_id (by omega) (by omega)
  have w2 : w64 ((k : Int) - 1) = (k : Int) - 1 := w64_id (by omega) (by omega)
  have hL17 := L0_L17_eq more (k : Int) (catV k) (earT k) (corT k) (by omega) (corT k).length 0 0 (by omega)
  rw [List.drop_zero] at hL17
  have hL17' : L0_L17 ((more, ((k : Int), ((), ((), (catV k, ((0 : Int), ((), (((corT k).length : Int), (0 : Int))))))))), (earT k, corT k)) = _ := hL17
  rw [if_pos rfl, T.run_test, if_pos (by simp), T.run_test, if_pos (by simp), T.run_sub, L0_R13, L0_R13_step, T.run_test, if_pos (by simp), T.run_sub]
  simp only [win_all]
  rw [s1, Option.bind_some, T.run_test, if_neg (by simp), T.run_test, if_pos (by simp), T.run_sub, s2, Option.bind_some, T.run_test, if_neg (by simp), w1, T.run_test, if_neg (by simp; omega), T.run_test, if_pos (by simp), T.run_test, if_pos (by simp), w2, T.run_ret, Option.bind_some, T.run_test, if_neg (by simp; omega),
   T.run_test, if_pos (by simp), T.run_test, if_pos (by simp), T.run_test, if_pos (by simp), T.run_sub, hL17', Option.bind_some, T.run_test, if_neg (by rw [t7]; simp), T.run_test]
  by_cases h7 : (k : Int) ≤ 7
  ·obtain ⟨f1, f2, f3⟩ := allQ_facts (n := k) (by omega) (by omega)
   have hq := F48_eq k (by omega) (by omega)
   have hL28 := L0_L28_eq more k (by omega) (by omega) (earT k) (k - 2) 1 (by omega) (by omega)
   have hL28' : L0_L28 ((more, ((k : Int), ((), ((), ((), (1 : Int)))))), (earT k, (corT k, allQ k))) = _ := hL28
   have hL40 := L0_L40_eq more k (by omega) (by omega) (k + 1) 0 (by omega)
   have hL40' : L0_L40 ((more, ((k : Int), ((), ((), (0 : Int))))), (earT k, allQ k)) = _ := hL40
   rw [if_pos (decide_eq_true h7), T.run_sub, hq, Option.bind_some, T.run_test, if_pos (by simp), T.run_test, if_pos (by simp), T.run_test, if_pos (by simp), T.run_sub, L0_R25, L0_R25_step, T.run_test, if_neg (by simp), T.run_test, if_pos (by simp), T.run_test, if_pos (by simp), T.run_test, if_pos (by simp), T.run_ret, Option.bind_some, T.run_test, if_neg (by simp [f2]),
    T.run_test, if_pos (by simp), T.run_test, if_pos (by simp), T.run_test, if_pos (by simp), T.run_sub, hL28', Option.bind_some, T.run_test, if_neg (by simp [Sum.isLeft]), T.run_sub]
   simp only [Sum.getRight?, Option.bind_some]
   rw [T.run_test, if_pos (by simp), T.run_test, if_pos (by simp), T.run_sub, hL40', Option.bind_some, T.run_test, if_neg (by simp [Sum.isLeft]), T.run_sub]
   simp only [Sum.getRight?, Option.bind_some]
   rw [T.run_ret]
  ·rw [if_neg (by rw [decide_eq_true_eq]; exact h7), T.run_ret]
theorem L0_C70_eq (m p rank r at' : Int) (ds cut of' : List Dg) (seven nine : Bool) (hl : ds.length ≤ 1000) :
  L0_C70 ((m, ((), ((finV m ds).1, ((finV m ds).2, (p, ((), (rank, (seven, (r, (at', (of', nine))))))))))), (ds, cut)) = some (.inr ((p, ((), (rank, (seven, (r, (at', (of', nine))))))), cut)) := by
 have e1 := F62_eq m ds (by omega)
 have e2 := F37_eq m ds (by omega)
 rw [L0_C70, L0_C70_step, T.run_test]
 unfold finV at *
 cases h : isCut m ds with
 | false => rw [if_neg (by simp), T.run_test, if_pos (by simp), T.run_ret]
 | true =>
  rw [h] at e1
  have hf := finer_one h
  simp only [if_true] at e1 ⊢
  generalize (szL m.toNat ds).foldl (fun o s => w64 (o * catV s)) 1 = f at *
  have hw : (! (isTri m ds == (f == 1))) = false := by
   cases ht : isTri m ds with
   | true => rw [hf.2 ht]; rfl
   | false =>
    have : f ≠ 1 := fun x => by rw [hf.1 x] at ht; cases ht
    simp [this]
  simp only [win_all]
  rw [T.run_test, if_pos (by simp), T.run_sub, e1, Option.bind_some, T.run_test, if_pos (by simp), T.run_sub, e2, Option.bind_some, T.run_test, if_pos (by simp), T.run_sub, L0_R72, L0_R72_step, T.run_test, if_neg (by simp), T.run_test, if_neg (by simp), T.run_test, if_pos (by simp), T.run_ret, hw, Option.bind_some, T.run_test, if_neg (by simp), T.run_test, if_pos (by simp), T.run_ret]
theorem L0_C75_eq (p r at' : Int) (cut of' : List Dg) (nine : Bool) (hl : cut.length ≤ 1000) :
  L0_C75 ((p, ((), ((rkR p cut).1, ((rkR p cut).2, (r, (at', (of', nine))))))), cut) = some (.inr (r, (at', (of', nine)))) := by
 rw [L0_C75, L0_C75_step, T.run_test]
 unfold rkR
 cases h : isTri p cut && inB 3 8 p with
 | false => rfl
 | true =>
  rw [Bool.and_eq_true, inB_iff] at h
  obtain ⟨ht, h3, h8⟩ := h
  obtain ⟨k, rfl⟩ : ∃ k : Nat, p = k := ⟨p.toNat, by omega⟩
  obtain ⟨i, hi, hfi⟩ := rk_find ht (by omega) (by omega)
  obtain ⟨s1, s2⟩ := allT_small (n := k) (by omega) (by omega)
  have hix : idxI (fun a => decide (a = cut)) (allT k) = (i : Int) := by unfold idxI; rw [hfi]
  have hil := getElem?_lt hi
  have et := F25_eq (k : Int) (i : Int)
  rw [tof_get (by omega) (by omega) hi] at et
  have ed := dCuts_val cut cut (by omega)
  rw [decide_eq_true rfl] at ed
  simp only [if_true, Int.toNat_natCast, hix]
  rw [T.run_sub, et, Option.bind_some, T.run_test, if_pos (by simp), T.run_sub, L0_R76, L0_R76_step, T.run_test, if_neg (by simp), T.run_test, if_pos (by simp), T.run_sub]
  simp only [win_all]
  rw [ed, Option.bind_some, T.run_test, if_pos (by simp), T.run_ret, Option.bind_some, T.run_test, if_neg (by simp), T.run_test]
  dsimp only
  by_cases h0 : (i : Int) > 0
  ·obtain ⟨j, rfl⟩ : ∃ j, i = j + 1 := ⟨i - 1, by omega⟩
   have w : w64 (((j + 1 : Nat) : Int) - 1) = (j : Int) := by rw [w64_id (by omega) (by omega)]; omega
   have hj : j < (allT k).length := by omega
   have gj := List.getElem?_eq_getElem hj
   have et2 := F25_eq (k : Int) (j : Int)
   rw [tof_get (by omega) (by omega) gj] at et2
   have hup := upL_get (allT k) (allT_up k (by omega) (by omega)) j _ _ gj hi
   have hlj := ((isTri_iff _ _).1 (allT_isTri k (by omega) (by omega) _ (List.getElem_mem hj))).2.1
   have hlc := ((isTri_iff _ _).1 ht).2.1
   have eb := dBefore_yes (allT k)[j] cut (by omega) (by omega) hup
   rw [if_pos (decide_eq_true h0), T.run_sub, w, et2, Option.bind_some, T.run_test, if_pos (by simp), T.run_sub, L0_R80, L0_R80_step, T.run_test, if_neg (by simp), T.run_test, if_pos (by simp), T.run_sub]
   simp only [win_all]
   rw [eb, Option.bind_some, T.run_ret, Option.bind_some, T.run_test, if_neg (by simp), T.run_ret]
  ·rw [if_neg (by rw [decide_eq_true_eq]; exact h0), T.run_ret]
theorem L0_true (v : List Int × List Int) (hs : smallL ASh.small [.one (.sl (.int .u8) false true), .one (.sl (.int .u8) false true)] v) : L0 v = some true := by
 obtain ⟨code, more⟩ := v
 have hb : ∀ l : List Int, (∀ x ∈ l, wfE (.int .u8) x) → bytesOK l := fun l h x hx => by
  have := h x hx
  simp [wfE, Lit.wf, IntKind.min, IntKind.max, IntKind.signed, IntKind.bits] at this
  omega
 have b1 : bytesOK code := hb code hs.1.2
 have b2 : bytesOK more := hb more hs.2.2
 obtain ⟨b, hbig⟩ : ∃ b, F125 (code, more) = some b := by
  rw [F125, F125_t, T.run_test]
  split
  ·exact ⟨_, rfl⟩
  ·exact ⟨_, rfl⟩
 obtain ⟨n, d1⟩ := F34_some b1
 obtain ⟨ears, hE, le, ei, es⟩ : ∃ ears, (inB 3 12 n = true → ears = earT n) ∧ ears.length ≤ 100 ∧ F55 n = some (((), inB 3 12 n), ears) ∧ F56 n = some (((), inB 3 12 n), ears) := by
  rw [F55_eq, F56_eq]
  cases hn : inB 3 12 n with
  | true =>
   rw [inB_iff] at hn
   have := (tab_facts n.toNat (by omega) (by omega)).2.2.1
   rw [Int.toNat_of_nonneg (by omega)] at this
   refine ⟨_, fun _ => rfl, ?_, rfl, rfl⟩
   omega
  | false => exact ⟨[], (fun h => by cases h), by simp, rfl, rfl⟩
 obtain ⟨corner, hC, lc, ci, csp⟩ : ∃ corner, (inB 3 12 n = true → corner = corT n) ∧ corner.length ≤ 100 ∧ F45 n = some (((), inB 3 12 n), corner) ∧ F46 n = some (((), inB 3 12 n), corner) := by
  rw [F45_eq, F46_eq]
  cases hn : inB 3 12 n with
  | true =>
   rw [inB_iff] at hn
   have := (tab_facts n.toNat (by omega) (by omega)).2.2.2.1
   rw [Int.toNat_of_nonneg (by omega)] at this
   refine ⟨_, fun _ => rfl, ?_, rfl, rfl⟩
   omega
  | false => exact ⟨[], (fun h => by cases h), by simp, rfl, rfl⟩
 obtain ⟨all, hA, ai, asp⟩ : ∃ all, (inB 3 12 n = true → all = catV n) ∧ F18 n = some (all, inB 3 12 n) ∧ F19 n = some (all, inB 3 12 n) := by
  rw [F18_eq, F19_eq, cntR]
  cases hn : inB 3 12 n with
  | true => exact ⟨_, fun _ => rfl, rfl, rfl⟩
  | false => exact ⟨0, (fun h => by cases h), rfl, rfl⟩
 have r10 := L0_R10_eq more n (inB 3 12 n) all ears corner le lc
 have c13 := L0_C13_eq more n ears corner hE hC all hA
 obtain ⟨m, ds, d2, l2⟩ := F49_some b2
 have wi := F68_eq m ds (by omega)
 have ws := F69_eq m ds (by omega)
 obtain ⟨p, cut, d3, l3⟩ := F13_some b2
 have ri := F23_eq p cut (by omega)
 have rs := F24_eq p cut (by omega)
 obtain ⟨r, at', d4⟩ := F14_some b2
 have ti := F25_eq r at'
 have ts := F26_eq r at'
 have hofl : (tofR r at').1.length ≤ 1000 ∧ ((tofR r at').2 = true → F23 (r, (tofR r at').1) = some (at', true)) := by
  unfold tofR
  cases hc : inB 3 8 r && inB 0 (catV r - 1) at' with
  | false => exact ⟨by simp, fun h => by cases h⟩
  | true =>
   rw [Bool.and_eq_true, inB_iff, inB_iff] at hc
   obtain ⟨k, rfl⟩ : ∃ k : Nat, r = k := ⟨r.toNat, by omega⟩
   have hcl := cat_len k (by omega) (by omega)
   have hlt : at'.toNat < (allT k).length := by omega
   have g := List.getElem?_eq_getElem hlt
   have ht := allT_isTri k (by omega) (by omega) _ (List.getElem_mem hlt)
   have hlen := ((isTri_iff _ _).1 ht).2.1
   simp only [if_true, Int.toNat_natCast]
   rw [List.getD_eq_getElem?_getD, g, Option.getD_some]
   refine ⟨by omega, fun _ => ?_⟩
   rw [F23_eq _ _ (by omega), rkR, ht, if_pos (by rw [Bool.true_and, inB_iff]; omega), Int.toNat_natCast]
   unfold idxI
   rw [idx_at (allT_nodup k (by omega) (by omega)) g]
   show some (((at'.toNat : Nat) : Int), true) = _
   rw [Int.toNat_of_nonneg (by omega)]
 have ed := dCuts_val (tofR r at').1 (tofR r at').1 (by have := hofl.1; omega)
 rw [decide_eq_true rfl] at ed
 have c70 := fun a b c d e f => L0_C70_eq m p a b c ds cut d e f (by omega)
 have c75 := fun a b c d => L0_C75_eq p a b cut c d (by omega)
 obtain ⟨hofl1, hofl2⟩ := hofl
 generalize tofR r at' = tf at *
 obtain ⟨tof, tok⟩ := tf
 rw [L0, L0_t, T.run_sub, hbig, Option.bind_some, T.run_test]
 cases b with
 | true => rfl
 | false =>
  rw [if_neg (by simp), T.run_sub, d1, Option.bind_some, T.run_sub, ei, Option.bind_some, T.run_sub, es, Option.bind_some, T.run_sub, ci, Option.bind_some, T.run_sub, csp, Option.bind_some, T.run_sub, ai, Option.bind_some, T.run_sub, asp, Option.bind_some, T.run_test, if_pos (by simp), T.run_test, if_pos (by simp), T.run_test, if_pos (by simp), T.run_test, if_pos (by simp), T.run_sub, r10, Option.bind_some, T.run_test, if_neg (by simp), T.run_test, if_pos (by simp), T.run_test, if_pos (by simp), T.run_sub, c13, Option.bind_some, T.run_test, if_neg (by simp [Sum.isLeft]), T.run_sub]
  simp only [Sum.getRight?, Option.bind_some, win_all]
  rw [T.run_sub, d2, Option.bind_some]
  simp only [win_all]
  rw [T.run_test, if_pos (by simp), T.run_sub, wi, Option.bind_some, T.run_test, if_pos (by simp), T.run_sub, ws, Option.bind_some, T.run_sub, d3, Option.bind_some]
  simp only [win_all]
  rw [T.run_test, if_pos (by simp), T.run_sub, ri, Option.bind_some, T.run_test, if_pos (by simp), T.run_sub, rs, Option.bind_some, T.run_sub, d4, Option.bind_some, T.run_sub, ti, Option.bind_some, T.run_sub, ts, Option.bind_some, T.run_test, if_pos (by simp), T.run_test, if_pos (by simp), T.run_sub,
   L0_R67, L0_R67_step, T.run_test, if_neg (by simp), T.run_test, if_neg (by simp), T.run_test, if_neg (by simp), T.run_test, if_neg (by simp), T.run_test, if_neg (by simp), T.run_sub, ed, Option.bind_some, T.run_test, if_pos (by simp), T.run_test, if_pos (by simp), T.run_ret, Option.bind_some, T.run_test, if_neg (by simp), T.run_test, if_pos (by simp), T.run_test, if_pos (by simp), T.run_sub]
  dsimp only
  rw [c70, Option.bind_some, T.run_test, if_neg (by simp [Sum.isLeft]), T.run_sub]
  simp only [Sum.getRight?, Option.bind_some]
  rw [T.run_test, if_pos (by simp), T.run_sub, c75, Option.bind_some, T.run_test, if_neg (by simp [Sum.isLeft]), T.run_sub]
  simp only [Sum.getRight?, Option.bind_some]
  rw [T.run_test]
  cases tok with
  | false => rfl
  | true => rw [if_pos rfl, T.run_sub, hofl2 rfl, Option.bind_some, T.run_test, if_pos rfl, T.run_ret]; simp
end Go.Proofs.W
