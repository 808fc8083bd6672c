/- Functions of the program, walked, and what they compute. -/
import Derived.Test.YtaoeghfoifhhcaaGreatFnWk5
set_option linter.unusedVariables false
set_option linter.unusedSimpArgs false
set_option maxRecDepth 100000
set_option maxHeartbeats 4000000
namespace Go.Proofs.W
open Go Go.Gm Go.Proofs
open Go.RowKit Go.Shelf
def l_FnFlipsChange_sh : FSh := ⟨[(.one (.sl (.int .u8) false true)), (.one (.sl (.int .u8) false true))], []⟩

def l_FnFlipsChange_R10_sh : LSh := ⟨(fun ex => match ex with | .norm => [(1, none), (5, none), (6, none), (7, none), (8, none), (9, none), (12, none), (16, none), (168, none)] | .exit i => [] | .ret => [(4, none)]), [(1, (.one (.sl (.int .u8) false true))), (5, (.one (.si .i64))), (6, (.one (.rw 0 0))), (7, (.one (.pf 1 0 0))), (8, (.one (.rw 2 0))), (9, (.one .sb)), (10, (.one (.rw 3 0))), (11, (.one .sb)), (12, (.one (.pf 4 0 0))), (13, (.one .sb)), (14, (.one (.pf 5 0 0))), (15, (.one .sb)), (16, (.one (.rw 6 0))), (17, (.one .sb)), (18, (.one (.rw 7 0))), (19, (.one .sb))], [(.row 0 (.pair (.int .i64) (.int .i64))), (.rcd 0 [(.si .i64), (.si .i64)]), (.row 0 (.pair (.int .i64) (.int .i64))), (.row 0 (.pair (.int .i64) (.int .i64))), (.rcd 0 [(.si .i64), (.si .i64)]), (.rcd 0 [(.si .i64), (.si .i64)]), (.row 0 (.int .i64)), (.row 0 (.int .i64))], [⟨.norm, [(1, (.one (.sl (.int .u8) false true))), (5, (.one (.si .i64))), (6, (.one (.rw 0 0))), (7, (.one (.pf 1 0 0))), (8, (.one (.rw 2 0))), (9, (.one .sb)), (12, (.one (.pf 3 0 0))), (16, (.one (.rw 4 0))), (168, (.one .sb))], [(.row 0 (.pair (.int .i64) (.int .i64))), (.rcd 0 [(.si .i64), (.si .i64)]), (.row 0 (.pair (.int .i64) (.int .i64))), (.rcd 0 [(.si .i64), (.si .i64)]), (.row 0 (.int .i64))]⟩], [], []⟩
noncomputable def l_FnFlipsChange_R10_step : ((List (Int) × Int × Unit × Unit × Unit × Bool × Unit × Bool × Unit × Bool × Unit × Bool × Unit × Bool × Unit × Bool) × (List ((Int × Int)) × (Int × Int) × List ((Int × Int)) × List ((Int × Int)) × (Int × Int) × (Int × Int) × List (Int) × List (Int))) → T ((List (Int) × Int × Unit × Unit × Unit × Bool × Unit × Unit × Bool) × (List ((Int × Int)) × (Int × Int) × List ((Int × Int)) × (Int × Int) × List (Int))) := fun ((more, n, (), (), (), ok, (), fine, (), one, (), two, (), three, (), four), (ds, (d_0, d_1), flipped, right, (other_0, other_1), (want_0, want_1), change, model)) =>
 (.test (! (ok == fine))
 (.test (decide ((0 = 0) ∧ ((List.length ds) = (List.length ds))))
 (.test (decide ((0 = 0) ∧ ((List.length flipped) = (List.length flipped))))
 (.test (decide ((0 = 0) ∧ ((List.length change) = (List.length change))))
 (.ret ((more, (n, ((), ((), ((), (ok, ((), ((), true)))))))), (ds, ((d_0, d_1), (flipped, ((other_0, other_1), change))))))
 .fail)
 .fail)
 .fail)
 (.test (decide ((0 + (List.length flipped)) ≤ (List.length flipped)))
 (.test (decide ((0 + (List.length right)) ≤ (List.length right)))
 (.sub (F90 ((win flipped 0 (List.length flipped)), (win right 0 (List.length right)))) fun z0 =>
 (.test (! z0)
 (.test (decide ((0 = 0) ∧ ((List.length ds) = (List.length ds))))
 (.test (decide ((0 = 0) ∧ ((List.length flipped) = (List.length flipped))))
 (.test (decide ((0 = 0) ∧ ((List.length change) = (List.length change))))
 (.ret ((more, (n, ((), ((), ((), (ok, ((), ((), true)))))))), (ds, ((d_0, d_1), (flipped, ((other_0, other_1), change))))))
 .fail)
 .fail)
 .fail)
 (.test (! (one == two))
 (.test (decide ((0 = 0) ∧ ((List.length ds) = (List.length ds))))
 (.test (decide ((0 = 0) ∧ ((List.length flipped) = (List.length flipped))))
 (.test (decide ((0 = 0) ∧ ((List.length change) = (List.length change))))
 (.ret ((more, (n, ((), ((), ((), (ok, ((), ((), true)))))))), (ds, ((d_0, d_1), (flipped, ((other_0, other_1), change))))))
 .fail)
 .fail)
 .fail)
 (.test (! ((other_0 == want_0) && ((other_1 == want_1) && true)))
 (.test (decide ((0 = 0) ∧ ((List.length ds) = (List.length ds))))
 (.test (decide ((0 = 0) ∧ ((List.length flipped) = (List.length flipped))))
 (.test (decide ((0 = 0) ∧ ((List.length change) = (List.length change))))
 (.ret ((more, (n, ((), ((), ((), (ok, ((), ((), true)))))))), (ds, ((d_0, d_1), (flipped, ((other_0, other_1), change))))))
 .fail)
 .fail)
 .fail)
 (.test (! (three == four))
 (.test (decide ((0 = 0) ∧ ((List.length ds) = (List.length ds))))
 (.test (decide ((0 = 0) ∧ ((List.length flipped) = (List.length flipped))))
 (.test (decide ((0 = 0) ∧ ((List.length change) = (List.length change))))
 (.ret ((more, (n, ((), ((), ((), (ok, ((), ((), true)))))))), (ds, ((d_0, d_1), (flipped, ((other_0, other_1), change))))))
 .fail)
 .fail)
 .fail)
 (.test (decide ((0 + (List.length change)) ≤ (List.length change)))
 (.test (decide ((0 + (List.length model)) ≤ (List.length model)))
 (.sub (F91 ((win change 0 (List.length change)), (win model 0 (List.length model)))) fun z1 =>
 (.test (! z1)
 (.test (decide ((0 = 0) ∧ ((List.length ds) = (List.length ds))))
 (.test (decide ((0 = 0) ∧ ((List.length flipped) = (List.length flipped))))
 (.test (decide ((0 = 0) ∧ ((List.length change) = (List.length change))))
 (.ret ((more, (n, ((), ((), ((), (ok, ((), ((), true)))))))), (ds, ((d_0, d_1), (flipped, ((other_0, other_1), change))))))
 .fail)
 .fail)
 .fail)
 (.test (! (one == ok))
 (.test (decide ((0 = 0) ∧ ((List.length ds) = (List.length ds))))
 (.test (decide ((0 = 0) ∧ ((List.length flipped) = (List.length flipped))))
 (.test (decide ((0 = 0) ∧ ((List.length change) = (List.length change))))
 (.ret ((more, (n, ((), ((), ((), (ok, ((), ((), true)))))))), (ds, ((d_0, d_1), (flipped, ((other_0, other_1), change))))))
 .fail)
 .fail)
 .fail)
 (.test (! (three == ok))
 (.test (decide ((0 = 0) ∧ ((List.length ds) = (List.length ds))))
 (.test (decide ((0 = 0) ∧ ((List.length flipped) = (List.length flipped))))
 (.test (decide ((0 = 0) ∧ ((List.length change) = (List.length change))))
 (.ret ((more, (n, ((), ((), ((), (ok, ((), ((), true)))))))), (ds, ((d_0, d_1), (flipped, ((other_0, other_1), change))))))
 .fail)
 .fail)
 .fail)
 (.test (decide ((0 + (List.length ds)) ≤ (List.length ds)))
 (.sub (F27 (n, (win ds 0 (List.length ds)))) fun z2 =>
 (.test z2
 (.test (decide ((0 + (List.length ds)) ≤ (List.length ds)))
 (.sub (F112 ((win ds 0 (List.length ds)), (d_0, d_1))) fun z3 =>
 (.test (decide ((0 = 0) ∧ ((List.length ds) = (List.length ds))))
 (.test (decide ((0 = 0) ∧ ((List.length flipped) = (List.length flipped))))
 (.test (decide ((0 = 0) ∧ ((List.length change) = (List.length change))))
 (.ret ((more, (n, ((), ((), ((), (ok, ((), ((), (! (ok == z3)))))))))), (ds, ((d_0, d_1), (flipped, ((other_0, other_1), change))))))
 .fail)
 .fail)
 .fail))
 .fail)
 (.test (decide ((0 = 0) ∧ ((List.length ds) = (List.length ds))))
 (.test (decide ((0 = 0) ∧ ((List.length flipped) = (List.length flipped))))
 (.test (decide ((0 = 0) ∧ ((List.length change) = (List.length change))))
 (.ret ((more, (n, ((), ((), ((), (ok, ((), ((), (! (ok == false)))))))))), (ds, ((d_0, d_1), (flipped, ((other_0, other_1), change))))))
 .fail)
 .fail)
 .fail)))
 .fail)))))
 .fail)
 .fail))))))
 .fail)
 .fail))
noncomputable def l_FnFlipsChange_R10 (v : ((List (Int) × Int × Unit × Unit × Unit × Bool × Unit × Bool × Unit × Bool × Unit × Bool × Unit × Bool × Unit × Bool) × (List ((Int × Int)) × (Int × Int) × List ((Int × Int)) × List ((Int × Int)) × (Int × Int) × (Int × Int) × List (Int) × List (Int)))) : Option ((List (Int) × Int × Unit × Unit × Unit × Bool × Unit × Unit × Bool) × (List ((Int × Int)) × (Int × Int) × List ((Int × Int)) × (Int × Int) × List (Int))) := (l_FnFlipsChange_R10_step v).run

def l_FnFlipsChange_R20_sh : LSh := ⟨(fun ex => match ex with | .norm => [(1, none), (7, none), (12, none), (16, none), (30, none), (32, none), (287, none)] | .exit i => [] | .ret => [(4, none)]), [(1, (.one (.sl (.int .u8) false true))), (5, (.one (.si .i64))), (6, (.one (.rw 0 0))), (7, (.one (.pf 1 0 0))), (8, (.one (.rw 2 0))), (12, (.one (.pf 3 0 0))), (16, (.one (.rw 4 0))), (20, (.one (.rw 5 0))), (21, (.one .sb)), (22, (.one (.pf 6 0 0))), (23, (.one .sb)), (24, (.one (.rw 7 0))), (25, (.one .sb)), (26, (.one (.pf 8 0 0))), (27, (.one .sb)), (28, (.one .sb)), (29, (.one .sb)), (30, (.one (.rw 9 0))), (31, (.one .sb)), (32, (.one (.rw 10 0))), (33, (.one .sb))], [(.row 0 (.pair (.int .i64) (.int .i64))), (.rcd 0 [(.si .i64), (.si .i64)]), (.row 0 (.pair (.int .i64) (.int .i64))), (.rcd 0 [(.si .i64), (.si .i64)]), (.row 0 (.int .i64)), (.row 0 (.pair (.int .i64) (.int .i64))), (.rcd 0 [(.si .i64), (.si .i64)]), (.row 0 (.pair (.int .i64) (.int .i64))), (.rcd 0 [(.si .i64), (.si .i64)]), (.row 0 (.int .i64)), (.row 0 (.int .i64))], [⟨.norm, [(1, (.one (.sl (.int .u8) false true))), (7, (.one (.pf 0 0 0))), (12, (.one (.pf 1 0 0))), (16, (.one (.rw 2 0))), (30, (.one (.rw 3 0))), (32, (.one (.rw 4 0))), (287, (.one .sb))], [(.rcd 0 [(.si .i64), (.si .i64)]), (.rcd 0 [(.si .i64), (.si .i64)]), (.row 0 (.int .i64)), (.row 0 (.int .i64)), (.row 0 (.int .i64))]⟩], [], []⟩
noncomputable def l_FnFlipsChange_R20_step : ((List (Int) × Int × Unit × Unit × Unit × Unit × Unit × Unit × Bool × Unit × Bool × Unit × Bool × Unit × Bool × Bool × Bool × Unit × Bool × Unit × Bool) × (List ((Int × Int)) × (Int × Int) × List ((Int × Int)) × (Int × Int) × List (Int) × List ((Int × Int)) × (Int × Int) × List ((Int × Int)) × (Int × Int) × List (Int) × List (Int))) → T ((List (Int) × Unit × Unit × Unit × Unit × Unit × Bool) × ((Int × Int) × (Int × Int) × List (Int) × List (Int) × List (Int))) := fun ((more, n, (), (), (), (), (), (), five, (), six, (), seven, (), eight, cross, nine, (), ten, (), eleven), (ds, (d_0, d_1), flipped, (other_0, other_1), change, back, (home_0, home_1), common, (apart_0, apart_1), a, b)) =>
 (.test (decide ((0 + (List.length flipped)) ≤ (List.length flipped)))
 (.sub (F27 (n, (win flipped 0 (List.length flipped)))) fun z0 =>
 (.test (! z0)
 (.test (decide ((0 = 0) ∧ ((List.length change) = (List.length change))))
 (.test (decide ((0 = 0) ∧ ((List.length a) = (List.length a))))
 (.test (decide ((0 = 0) ∧ ((List.length b) = (List.length b))))
 (.ret ((more, ((), ((), ((), ((), ((), true)))))), ((d_0, d_1), ((other_0, other_1), (change, (a, b))))))
 .fail)
 .fail)
 .fail)
 (.test (! five)
 (.test (decide ((0 = 0) ∧ ((List.length change) = (List.length change))))
 (.test (decide ((0 = 0) ∧ ((List.length a) = (List.length a))))
 (.test (decide ((0 = 0) ∧ ((List.length b) = (List.length b))))
 (.ret ((more, ((), ((), ((), ((), ((), true)))))), ((d_0, d_1), ((other_0, other_1), (change, (a, b))))))
 .fail)
 .fail)
 .fail)
 (.test (decide ((0 + (List.length back)) ≤ (List.length back)))
 (.test (decide ((0 + (List.length ds)) ≤ (List.length ds)))
 (.sub (F90 ((win back 0 (List.length back)), (win ds 0 (List.length ds)))) fun z1 =>
 (.test (! z1)
 (.test (decide ((0 = 0) ∧ ((List.length change) = (List.length change))))
 (.test (decide ((0 = 0) ∧ ((List.length a) = (List.length a))))
 (.test (decide ((0 = 0) ∧ ((List.length b) = (List.length b))))
 (.ret ((more, ((), ((), ((), ((), ((), true)))))), ((d_0, d_1), ((other_0, other_1), (change, (a, b))))))
 .fail)
 .fail)
 .fail)
 (.test (! six)
 (.test (decide ((0 = 0) ∧ ((List.length change) = (List.length change))))
 (.test (decide ((0 = 0) ∧ ((List.length a) = (List.length a))))
 (.test (decide ((0 = 0) ∧ ((List.length b) = (List.length b))))
 (.ret ((more, ((), ((), ((), ((), ((), true)))))), ((d_0, d_1), ((other_0, other_1), (change, (a, b))))))
 .fail)
 .fail)
 .fail)
 (.test (! ((home_0 == d_0) && ((home_1 == d_1) && true)))
 (.test (decide ((0 = 0) ∧ ((List.length change) = (List.length change))))
 (.test (decide ((0 = 0) ∧ ((List.length a) = (List.length a))))
 (.test (decide ((0 = 0) ∧ ((List.length b) = (List.length b))))
 (.ret ((more, ((), ((), ((), ((), ((), true)))))), ((d_0, d_1), ((other_0, other_1), (change, (a, b))))))
 .fail)
 .fail)
 .fail)
 (.test (! seven)
 (.test (decide ((0 = 0) ∧ ((List.length change) = (List.length change))))
 (.test (decide ((0 = 0) ∧ ((List.length a) = (List.length a))))
 (.test (decide ((0 = 0) ∧ ((List.length b) = (List.length b))))
 (.ret ((more, ((), ((), ((), ((), ((), true)))))), ((d_0, d_1), ((other_0, other_1), (change, (a, b))))))
 .fail)
 .fail)
 .fail)
 (.test (((List.length common) : Int) != (w64 (n - 4)))
 (.test (decide ((0 = 0) ∧ ((List.length change) = (List.length change))))
 (.test (decide ((0 = 0) ∧ ((List.length a) = (List.length a))))
 (.test (decide ((0 = 0) ∧ ((List.length b) = (List.length b))))
 (.ret ((more, ((), ((), ((), ((), ((), true)))))), ((d_0, d_1), ((other_0, other_1), (change, (a, b))))))
 .fail)
 .fail)
 .fail)
 (.test (! eight)
 (.test (decide ((0 = 0) ∧ ((List.length change) = (List.length change))))
 (.test (decide ((0 = 0) ∧ ((List.length a) = (List.length a))))
 (.test (decide ((0 = 0) ∧ ((List.length b) = (List.length b))))
 (.ret ((more, ((), ((), ((), ((), ((), true)))))), ((d_0, d_1), ((other_0, other_1), (change, (a, b))))))
 .fail)
 .fail)
 .fail)
 (.test (! ((apart_0 == d_0) && ((apart_1 == d_1) && true)))
 (.test (decide ((0 = 0) ∧ ((List.length change) = (List.length change))))
 (.test (decide ((0 = 0) ∧ ((List.length a) = (List.length a))))
 (.test (decide ((0 = 0) ∧ ((List.length b) = (List.length b))))
 (.ret ((more, ((), ((), ((), ((), ((), true)))))), ((d_0, d_1), ((other_0, other_1), (change, (a, b))))))
 .fail)
 .fail)
 .fail)
 (.test (! nine)
 (.test (decide ((0 = 0) ∧ ((List.length change) = (List.length change))))
 (.test (decide ((0 = 0) ∧ ((List.length a) = (List.length a))))
 (.test (decide ((0 = 0) ∧ ((List.length b) = (List.length b))))
 (.ret ((more, ((), ((), ((), ((), ((), true)))))), ((d_0, d_1), ((other_0, other_1), (change, (a, b))))))
 .fail)
 .fail)
 .fail)
 (.test (! cross)
 (.test (decide ((0 = 0) ∧ ((List.length change) = (List.length change))))
 (.test (decide ((0 = 0) ∧ ((List.length a) = (List.length a))))
 (.test (decide ((0 = 0) ∧ ((List.length b) = (List.length b))))
 (.ret ((more, ((), ((), ((), ((), ((), true)))))), ((d_0, d_1), ((other_0, other_1), (change, (a, b))))))
 .fail)
 .fail)
 .fail)
 (.test (decide ((0 + (List.length flipped)) ≤ (List.length flipped)))
 (.sub (F112 ((win flipped 0 (List.length flipped)), (other_0, other_1))) fun z2 =>
 (.test (! z2)
 (.test (decide ((0 = 0) ∧ ((List.length change) = (List.length change))))
 (.test (decide ((0 = 0) ∧ ((List.length a) = (List.length a))))
 (.test (decide ((0 = 0) ∧ ((List.length b) = (List.length b))))
 (.ret ((more, ((), ((), ((), ((), ((), true)))))), ((d_0, d_1), ((other_0, other_1), (change, (a, b))))))
 .fail)
 .fail)
 .fail)
 (.test (! ten)
 (.test (decide ((0 = 0) ∧ ((List.length change) = (List.length change))))
 (.test (decide ((0 = 0) ∧ ((List.length a) = (List.length a))))
 (.test (decide ((0 = 0) ∧ ((List.length b) = (List.length b))))
 (.ret ((more, ((), ((), ((), ((), ((), true)))))), ((d_0, d_1), ((other_0, other_1), (change, (a, b))))))
 .fail)
 .fail)
 .fail)
 (.test (! eleven)
 (.test (decide ((0 = 0) ∧ ((List.length change) = (List.length change))))
 (.test (decide ((0 = 0) ∧ ((List.length a) = (List.length a))))
 (.test (decide ((0 = 0) ∧ ((List.length b) = (List.length b))))
 (.ret ((more, ((), ((), ((), ((), ((), true)))))), ((d_0, d_1), ((other_0, other_1), (change, (a, b))))))
 .fail)
 .fail)
 .fail)
 (.test (decide ((0 = 0) ∧ ((List.length change) = (List.length change))))
 (.test (decide ((0 = 0) ∧ ((List.length a) = (List.length a))))
 (.test (decide ((0 = 0) ∧ ((List.length b) = (List.length b))))
 (.ret ((more, ((), ((), ((), ((), ((), (((List.length change) : Int) != n))))))), ((d_0, d_1), ((other_0, other_1), (change, (a, b))))))
 .fail)
 .fail)
 .fail)))))
 .fail)))))))))))
 .fail)
 .fail))))
 .fail)
noncomputable def l_FnFlipsChange_R20 (v : ((List (Int) × Int × Unit × Unit × Unit × Unit × Unit × Unit × Bool × Unit × Bool × Unit × Bool × Unit × Bool × Bool × Bool × Unit × Bool × Unit × Bool) × (List ((Int × Int)) × (Int × Int) × List ((Int × Int)) × (Int × Int) × List (Int) × List ((Int × Int)) × (Int × Int) × List ((Int × Int)) × (Int × Int) × List (Int) × List (Int)))) : Option ((List (Int) × Unit × Unit × Unit × Unit × Unit × Bool) × ((Int × Int) × (Int × Int) × List (Int) × List (Int) × List (Int))) := (l_FnFlipsChange_R20_step v).run

def l_FnFlipsChange_R26_sh : LSh := ⟨(fun ex => match ex with | .norm => [(1, none), (7, none), (12, none), (30, none), (32, none), (34, none), (35, none), (36, none), (288, none), (289, none), (290, none), (304, none)] | .exit i => if i = 1 then [(1, none), (7, none), (12, none), (30, none), (32, none), (288, none), (289, none), (290, none)] else if i = 0 then [(1, none)] else [] | .ret => [(4, none)]), [(1, (.one (.sl (.int .u8) false true))), (7, (.one (.pf 0 0 0))), (12, (.one (.pf 1 0 0))), (30, (.one (.rw 2 0))), (32, (.one (.rw 3 0))), (34, (.one (.si .i64))), (35, (.one (.si .i64))), (36, (.one (.si .i64))), (288, (.one (.rw 4 0))), (289, (.one (.si .i64))), (290, (.one (.si .i64)))], [(.rcd 0 [(.si .i64), (.si .i64)]), (.rcd 0 [(.si .i64), (.si .i64)]), (.row 0 (.int .i64)), (.row 0 (.int .i64)), (.row 0 (.int .i64))], [⟨.norm, [(1, (.one (.sl (.int .u8) false true))), (7, (.one (.pf 0 0 0))), (12, (.one (.pf 1 0 0))), (30, (.one (.rw 2 0))), (32, (.one (.rw 3 0))), (34, (.one (.si .i64))), (35, (.one (.si .i64))), (36, (.one (.si .i64))), (288, (.one (.rw 4 0))), (289, (.one (.si .i64))), (290, (.one (.si .i64))), (304, (.one .sb))], [(.rcd 0 [(.si .i64), (.si .i64)]), (.rcd 0 [(.si .i64), (.si .i64)]), (.row 0 (.int .i64)), (.row 0 (.int .i64)), (.row 0 (.int .i64))]⟩], [], []⟩
noncomputable def l_FnFlipsChange_R26_step : ((List (Int) × Unit × Unit × Unit × Unit × Int × Int × Int × Unit × Int × Int) × ((Int × Int) × (Int × Int) × List (Int) × List (Int) × List (Int))) → T ((List (Int) × Unit × Unit × Unit × Unit × Int × Int × Int × Unit × Int × Int × Bool) × ((Int × Int) × (Int × Int) × List (Int) × List (Int) × List (Int))) := fun ((more, (), (), (), (), i, x, due, (), t289, t290), ((d_0, d_1), (other_0, other_1), a, b, t288)) =>
 (.test (i == d_0)
 (.test (decide ((0 = 0) ∧ ((List.length a) = (List.length a))))
 (.test (decide ((0 = 0) ∧ ((List.length b) = (List.length b))))
 (.test (decide ((0 = 0) ∧ ((List.length t288) = (List.length t288))))
 (.ret ((more, ((), ((), ((), ((), (i, (x, (due, ((), (t289, (t290, true))))))))))), ((d_0, d_1), ((other_0, other_1), (a, (b, t288))))))
 .fail)
 .fail)
 .fail)
 (.test (decide ((0 = 0) ∧ ((List.length a) = (List.length a))))
 (.test (decide ((0 = 0) ∧ ((List.length b) = (List.length b))))
 (.test (decide ((0 = 0) ∧ ((List.length t288) = (List.length t288))))
 (.ret ((more, ((), ((), ((), ((), (i, (x, (due, ((), (t289, (t290, (i == d_1)))))))))))), ((d_0, d_1), ((other_0, other_1), (a, (b, t288))))))
 .fail)
 .fail)
 .fail))
noncomputable def l_FnFlipsChange_R26 (v : ((List (Int) × Unit × Unit × Unit × Unit × Int × Int × Int × Unit × Int × Int) × ((Int × Int) × (Int × Int) × List (Int) × List (Int) × List (Int)))) : Option ((List (Int) × Unit × Unit × Unit × Unit × Int × Int × Int × Unit × Int × Int × Bool) × ((Int × Int) × (Int × Int) × List (Int) × List (Int) × List (Int))) := (l_FnFlipsChange_R26_step v).run

def l_FnFlipsChange_C27_sh : LSh := ⟨(fun ex => match ex with | .norm => [(1, none), (7, none), (12, none), (30, none), (32, none), (34, none), (35, none), (36, none), (288, none), (289, none), (290, none)] | .exit i => if i = 1 then [(1, none), (7, none), (12, none), (30, none), (32, none), (288, none), (289, none), (290, none)] else if i = 0 then [(1, none)] else [] | .ret => [(4, none)]), [(1, (.one (.sl (.int .u8) false true))), (7, (.one (.pf 0 0 0))), (12, (.one (.pf 1 0 0))), (30, (.one (.rw 2 0))), (32, (.one (.rw 3 0))), (34, (.one (.si .i64))), (35, (.one (.si .i64))), (36, (.one (.si .i64))), (288, (.one (.rw 4 0))), (289, (.one (.si .i64))), (290, (.one (.si .i64)))], [(.rcd 0 [(.si .i64), (.si .i64)]), (.rcd 0 [(.si .i64), (.si .i64)]), (.row 0 (.int .i64)), (.row 0 (.int .i64)), (.row 0 (.int .i64))], [⟨.norm, [(1, (.one (.sl (.int .u8) false true))), (7, (.one (.pf 0 0 0))), (12, (.one (.pf 1 0 0))), (30, (.one (.rw 2 0))), (32, (.one (.rw 3 0))), (34, (.one (.si .i64))), (35, (.one (.si .i64))), (36, (.one (.si .i64))), (288, (.one (.rw 4 0))), (289, (.one (.si .i64))), (290, (.one (.si .i64)))], [(.rcd 0 [(.si .i64), (.si .i64)]), (.rcd 0 [(.si .i64), (.si .i64)]), (.row 0 (.int .i64)), (.row 0 (.int .i64)), (.row 0 (.int .i64))]⟩], [], []⟩
noncomputable def l_FnFlipsChange_C27_step : ((List (Int) × Unit × Unit × Unit × Unit × Int × Int × Int × Unit × Int × Int) × ((Int × Int) × (Int × Int) × List (Int) × List (Int) × List (Int))) → T ((List (Int) × Unit × Unit × Unit × Unit × Int × Int × Int × Unit × Int × Int) × ((Int × Int) × (Int × Int) × List (Int) × List (Int) × List (Int))) := fun ((more, (), (), (), (), i, x, due, (), t289, t290), ((d_0, d_1), (other_0, other_1), a, b, t288)) =>
 (.test (decide ((0 = 0) ∧ ((List.length a) = (List.length a))))
 (.test (decide ((0 = 0) ∧ ((List.length b) = (List.length b))))
 (.test (decide ((0 = 0) ∧ ((List.length t288) = (List.length t288))))
 (.sub (l_FnFlipsChange_R26 ((more, ((), ((), ((), ((), (i, (x, (due, ((), (t289, t290)))))))))), ((d_0, d_1), ((other_0, other_1), (a, (b, t288)))))) fun z0 =>
 (.test z0.1.2.2.2.2.2.2.2.2.2.2.2
 (.test (decide ((0 = 0) ∧ ((List.length z0.2.2.2.1) = (List.length z0.2.2.2.1))))
 (.test (decide ((0 = 0) ∧ ((List.length z0.2.2.2.2.1) = (List.length z0.2.2.2.2.1))))
 (.test (decide ((0 = 0) ∧ ((List.length z0.2.2.2.2.2) = (List.length z0.2.2.2.2.2))))
 (.ret ((z0.1.1, ((), ((), ((), ((), (z0.1.2.2.2.2.2.1, (z0.1.2.2.2.2.2.2.1, ((-1), ((), (z0.1.2.2.2.2.2.2.2.2.2.1, z0.1.2.2.2.2.2.2.2.2.2.2.1)))))))))), z0.2))
 .fail)
 .fail)
 .fail)
 (.test (decide ((0 = 0) ∧ ((List.length z0.2.2.2.1) = (List.length z0.2.2.2.1))))
 (.test (decide ((0 = 0) ∧ ((List.length z0.2.2.2.2.1) = (List.length z0.2.2.2.2.1))))
 (.test (decide ((0 = 0) ∧ ((List.length z0.2.2.2.2.2) = (List.length z0.2.2.2.2.2))))
 (.ret ((z0.1.1, ((), ((), ((), ((), (z0.1.2.2.2.2.2.1, (z0.1.2.2.2.2.2.2.1, (z0.1.2.2.2.2.2.2.2.1, ((), (z0.1.2.2.2.2.2.2.2.2.2.1, z0.1.2.2.2.2.2.2.2.2.2.2.1)))))))))), z0.2))
 .fail)
 .fail)
 .fail)))
 .fail)
 .fail)
 .fail)
noncomputable def l_FnFlipsChange_C27 (v : ((List (Int) × Unit × Unit × Unit × Unit × Int × Int × Int × Unit × Int × Int) × ((Int × Int) × (Int × Int) × List (Int) × List (Int) × List (Int)))) : Option ((List (Int) × Unit × Unit × Unit × Unit × Int × Int × Int × Unit × Int × Int) × ((Int × Int) × (Int × Int) × List (Int) × List (Int) × List (Int))) := (l_FnFlipsChange_C27_step v).run

def l_FnFlipsChange_R28_sh : LSh := ⟨(fun ex => match ex with | .norm => [(1, none), (7, none), (12, none), (30, none), (32, none), (34, none), (35, none), (36, none), (288, none), (289, none), (290, none), (314, none)] | .exit i => if i = 1 then [(1, none), (7, none), (12, none), (30, none), (32, none), (288, none), (289, none), (290, none)] else if i = 0 then [(1, none)] else [] | .ret => [(4, none)]), [(1, (.one (.sl (.int .u8) false true))), (7, (.one (.pf 0 0 0))), (12, (.one (.pf 1 0 0))), (30, (.one (.rw 2 0))), (32, (.one (.rw 3 0))), (34, (.one (.si .i64))), (35, (.one (.si .i64))), (36, (.one (.si .i64))), (288, (.one (.rw 4 0))), (289, (.one (.si .i64))), (290, (.one (.si .i64)))], [(.rcd 0 [(.si .i64), (.si .i64)]), (.rcd 0 [(.si .i64), (.si .i64)]), (.row 0 (.int .i64)), (.row 0 (.int .i64)), (.row 0 (.int .i64))], [⟨.norm, [(1, (.one (.sl (.int .u8) false true))), (7, (.one (.pf 0 0 0))), (12, (.one (.pf 1 0 0))), (30, (.one (.rw 2 0))), (32, (.one (.rw 3 0))), (34, (.one (.si .i64))), (35, (.one (.si .i64))), (36, (.one (.si .i64))), (288, (.one (.rw 4 0))), (289, (.one (.si .i64))), (290, (.one (.si .i64))), (314, (.one .sb))], [(.rcd 0 [(.si .i64), (.si .i64)]), (.rcd 0 [(.si .i64), (.si .i64)]), (.row 0 (.int .i64)), (.row 0 (.int .i64)), (.row 0 (.int .i64))]⟩], [], []⟩
noncomputable def l_FnFlipsChange_R28_step : ((List (Int) × Unit × Unit × Unit × Unit × Int × Int × Int × Unit × Int × Int) × ((Int × Int) × (Int × Int) × List (Int) × List (Int) × List (Int))) → T ((List (Int) × Unit × Unit × Unit × Unit × Int × Int × Int × Unit × Int × Int × Bool) × ((Int × Int) × (Int × Int) × List (Int) × List (Int) × List (Int))) := fun ((more, (), (), (), (), i, x, due, (), t289, t290), ((d_0, d_1), (other_0, other_1), a, b, t288)) =>
 (.test (i == other_0)
 (.test (decide ((0 = 0) ∧ ((List.length a) = (List.length a))))
 (.test (decide ((0 = 0) ∧ ((List.length b) = (List.length b))))
 (.test (decide ((0 = 0) ∧ ((List.length t288) = (List.length t288))))
 (.ret ((more, ((), ((), ((), ((), (i, (x, (due, ((), (t289, (t290, true))))))))))), ((d_0, d_1), ((other_0, other_1), (a, (b, t288))))))
 .fail)
 .fail)
 .fail)
 (.test (decide ((0 = 0) ∧ ((List.length a) = (List.length a))))
 (.test (decide ((0 = 0) ∧ ((List.length b) = (List.length b))))
 (.test (decide ((0 = 0) ∧ ((List.length t288) = (List.length t288))))
 (.ret ((more, ((), ((), ((), ((), (i, (x, (due, ((), (t289, (t290, (i == other_1)))))))))))), ((d_0, d_1), ((other_0, other_1), (a, (b, t288))))))
 .fail)
 .fail)
 .fail))
noncomputable def l_FnFlipsChange_R28 (v : ((List (Int) × Unit × Unit × Unit × Unit × Int × Int × Int × Unit × Int × Int) × ((Int × Int) × (Int × Int) × List (Int) × List (Int) × List (Int)))) : Option ((List (Int) × Unit × Unit × Unit × Unit × Int × Int × Int × Unit × Int × Int × Bool) × ((Int × Int) × (Int × Int) × List (Int) × List (Int) × List (Int))) := (l_FnFlipsChange_R28_step v).run

def l_FnFlipsChange_C29_sh : LSh := ⟨(fun ex => match ex with | .norm => [(1, none), (7, none), (12, none), (30, none), (32, none), (34, none), (35, none), (36, none), (288, none), (289, none), (290, none)] | .exit i => if i = 1 then [(1, none), (7, none), (12, none), (30, none), (32, none), (288, none), (289, none), (290, none)] else if i = 0 then [(1, none)] else [] | .ret => [(4, none)]), [(1, (.one (.sl (.int .u8) false true))), (7, (.one (.pf 0 0 0))), (12, (.one (.pf 1 0 0))), (30, (.one (.rw 2 0))), (32, (.one (.rw 3 0))), (34, (.one (.si .i64))), (35, (.one (.si .i64))), (36, (.one (.si .i64))), (288, (.one (.rw 4 0))), (289, (.one (.si .i64))), (290, (.one (.si .i64)))], [(.rcd 0 [(.si .i64), (.si .i64)]), (.rcd 0 [(.si .i64), (.si .i64)]), (.row 0 (.int .i64)), (.row 0 (.int .i64)), (.row 0 (.int .i64))], [⟨.norm, [(1, (.one (.sl (.int .u8) false true))), (7, (.one (.pf 0 0 0))), (12, (.one (.pf 1 0 0))), (30, (.one (.rw 2 0))), (32, (.one (.rw 3 0))), (34, (.one (.si .i64))), (35, (.one (.si .i64))), (36, (.one (.si .i64))), (288, (.one (.rw 4 0))), (289, (.one (.si .i64))), (290, (.one (.si .i64)))], [(.rcd 0 [(.si .i64), (.si .i64)]), (.rcd 0 [(.si .i64), (.si .i64)]), (.row 0 (.int .i64)), (.row 0 (.int .i64)), (.row 0 (.int .i64))]⟩], [], []⟩
noncomputable def l_FnFlipsChange_C29_step : ((List (Int) × Unit × Unit × Unit × Unit × Int × Int × Int × Unit × Int × Int) × ((Int × Int) × (Int × Int) × List (Int) × List (Int) × List (Int))) → T ((List (Int) × Unit × Unit × Unit × Unit × Int × Int × Int × Unit × Int × Int) × ((Int × Int) × (Int × Int) × List (Int) × List (Int) × List (Int))) := fun ((more, (), (), (), (), i, x, due, (), t289, t290), ((d_0, d_1), (other_0, other_1), a, b, t288)) =>
 (.test (decide ((0 = 0) ∧ ((List.length a) = (List.length a))))
 (.test (decide ((0 = 0) ∧ ((List.length b) = (List.length b))))
 (.test (decide ((0 = 0) ∧ ((List.length t288) = (List.length t288))))
 (.sub (l_FnFlipsChange_R28 ((more, ((), ((), ((), ((), (i, (x, (due, ((), (t289, t290)))))))))), ((d_0, d_1), ((other_0, other_1), (a, (b, t288)))))) fun z0 =>
 (.test z0.1.2.2.2.2.2.2.2.2.2.2.2
 (.test (decide ((0 = 0) ∧ ((List.length z0.2.2.2.1) = (List.length z0.2.2.2.1))))
 (.test (decide ((0 = 0) ∧ ((List.length z0.2.2.2.2.1) = (List.length z0.2.2.2.2.1))))
 (.test (decide ((0 = 0) ∧ ((List.length z0.2.2.2.2.2) = (List.length z0.2.2.2.2.2))))
 (.ret ((z0.1.1, ((), ((), ((), ((), (z0.1.2.2.2.2.2.1, (z0.1.2.2.2.2.2.2.1, ((1 : Int), ((), (z0.1.2.2.2.2.2.2.2.2.2.1, z0.1.2.2.2.2.2.2.2.2.2.2.1)))))))))), z0.2))
 .fail)
 .fail)
 .fail)
 (.test (decide ((0 = 0) ∧ ((List.length z0.2.2.2.1) = (List.length z0.2.2.2.1))))
 (.test (decide ((0 = 0) ∧ ((List.length z0.2.2.2.2.1) = (List.length z0.2.2.2.2.1))))
 (.test (decide ((0 = 0) ∧ ((List.length z0.2.2.2.2.2) = (List.length z0.2.2.2.2.2))))
 (.ret ((z0.1.1, ((), ((), ((), ((), (z0.1.2.2.2.2.2.1, (z0.1.2.2.2.2.2.2.1, (z0.1.2.2.2.2.2.2.2.1, ((), (z0.1.2.2.2.2.2.2.2.2.2.1, z0.1.2.2.2.2.2.2.2.2.2.2.1)))))))))), z0.2))
 .fail)
 .fail)
 .fail)))
 .fail)
 .fail)
 .fail)
noncomputable def l_FnFlipsChange_C29 (v : ((List (Int) × Unit × Unit × Unit × Unit × Int × Int × Int × Unit × Int × Int) × ((Int × Int) × (Int × Int) × List (Int) × List (Int) × List (Int)))) : Option ((List (Int) × Unit × Unit × Unit × Unit × Int × Int × Int × Unit × Int × Int) × ((Int × Int) × (Int × Int) × List (Int) × List (Int) × List (Int))) := (l_FnFlipsChange_C29_step v).run

def l_FnFlipsChange_R30_sh : LSh := ⟨(fun ex => match ex with | .norm => [(1, none), (7, none), (12, none), (30, none), (32, none), (288, none), (289, none), (290, none), (330, none)] | .exit i => if i = 1 then [(1, none), (7, none), (12, none), (30, none), (32, none), (288, none), (289, none), (290, none)] else if i = 0 then [(1, none)] else [] | .ret => [(4, none)]), [(1, (.one (.sl (.int .u8) false true))), (7, (.one (.pf 0 0 0))), (12, (.one (.pf 1 0 0))), (30, (.one (.rw 2 0))), (32, (.one (.rw 3 0))), (34, (.one (.si .i64))), (35, (.one (.si .i64))), (36, (.one (.si .i64))), (288, (.one (.rw 4 0))), (289, (.one (.si .i64))), (290, (.one (.si .i64)))], [(.rcd 0 [(.si .i64), (.si .i64)]), (.rcd 0 [(.si .i64), (.si .i64)]), (.row 0 (.int .i64)), (.row 0 (.int .i64)), (.row 0 (.int .i64))], [⟨.norm, [(1, (.one (.sl (.int .u8) false true))), (7, (.one (.pf 0 0 0))), (12, (.one (.pf 1 0 0))), (30, (.one (.rw 2 0))), (32, (.one (.rw 3 0))), (288, (.one (.rw 4 0))), (289, (.one (.si .i64))), (290, (.one (.si .i64))), (330, (.one .sb))], [(.rcd 0 [(.si .i64), (.si .i64)]), (.rcd 0 [(.si .i64), (.si .i64)]), (.row 0 (.int .i64)), (.row 0 (.int .i64)), (.row 0 (.int .i64))]⟩], [], []⟩
noncomputable def l_FnFlipsChange_R30_step : ((List (Int) × Unit × Unit × Unit × Unit × Int × Int × Int × Unit × Int × Int) × ((Int × Int) × (Int × Int) × List (Int) × List (Int) × List (Int))) → T ((List (Int) × Unit × Unit × Unit × Unit × Unit × Int × Int × Bool) × ((Int × Int) × (Int × Int) × List (Int) × List (Int) × List (Int))) := fun ((more, (), (), (), (), i, x, due, (), t289, t290), ((d_0, d_1), (other_0, other_1), a, b, t288)) =>
 (.test (x != due)
 (.test (decide ((0 = 0) ∧ ((List.length a) = (List.length a))))
 (.test (decide ((0 = 0) ∧ ((List.length b) = (List.length b))))
 (.test (decide ((0 = 0) ∧ ((List.length t288) = (List.length t288))))
 (.ret ((more, ((), ((), ((), ((), ((), (t289, (t290, true)))))))), ((d_0, d_1), ((other_0, other_1), (a, (b, t288))))))
 .fail)
 .fail)
 .fail)
 (.test (decide ((0 ≤ i) ∧ (i < ((List.length b) : Int))))
 (.sub (b[(0 + (Int.toNat i))]?) fun z0 =>
 (.test (decide ((0 ≤ i) ∧ (i < ((List.length a) : Int))))
 (.sub (a[(0 + (Int.toNat i))]?) fun z1 =>
 (.test (decide ((0 = 0) ∧ ((List.length a) = (List.length a))))
 (.test (decide ((0 = 0) ∧ ((List.length b) = (List.length b))))
 (.test (decide ((0 = 0) ∧ ((List.length t288) = (List.length t288))))
 (.ret ((more, ((), ((), ((), ((), ((), (t289, (t290, ((w64 (z0 - z1)) != x))))))))), ((d_0, d_1), ((other_0, other_1), (a, (b, t288))))))
 .fail)
 .fail)
 .fail))
 .fail))
 .fail))
noncomputable def l_FnFlipsChange_R30 (v : ((List (Int) × Unit × Unit × Unit × Unit × Int × Int × Int × Unit × Int × Int) × ((Int × Int) × (Int × Int) × List (Int) × List (Int) × List (Int)))) : Option ((List (Int) × Unit × Unit × Unit × Unit × Unit × Int × Int × Bool) × ((Int × Int) × (Int × Int) × List (Int) × List (Int) × List (Int))) := (l_FnFlipsChange_R30_step v).run

def l_FnFlipsChange_L23_sh : LSh := ⟨(fun ex => match ex with | .norm => [(1, none), (7, none), (12, none), (30, none), (32, none), (288, none), (289, none), (290, none)] | .exit i => if i = 0 then [(1, none)] else [] | .ret => [(4, none)]), [(1, (.one (.sl (.int .u8) false true))), (7, (.one (.pf 0 0 0))), (12, (.one (.pf 1 0 0))), (30, (.one (.rw 2 0))), (32, (.one (.rw 3 0))), (288, (.one (.rw 4 0))), (289, (.one (.si .i64))), (290, (.one (.si .i64)))], [(.rcd 0 [(.si .i64), (.si .i64)]), (.rcd 0 [(.si .i64), (.si .i64)]), (.row 0 (.int .i64)), (.row 0 (.int .i64)), (.row 0 (.int .i64))], [⟨.ret, [(4, (.one .sb))], []⟩, ⟨(.exit 0), [(1, (.one (.sl (.int .u8) false true)))], []⟩], [], []⟩
noncomputable def l_FnFlipsChange_L23_step : ((List (Int) × Unit × Unit × Unit × Unit × Unit × Int × Int) × ((Int × Int) × (Int × Int) × List (Int) × List (Int) × List (Int))) → T (((List (Int) × Unit × Unit × Unit × Unit × Unit × Int × Int) × ((Int × Int) × (Int × Int) × List (Int) × List (Int) × List (Int))) ⊕ (Bool ⊕ List (Int))) := fun ((more, (), (), (), (), (), t289, t290), ((d_0, d_1), (other_0, other_1), a, b, t288)) =>
 (.test (decide (t290 < t289))
 (.test (decide ((0 ≤ t290) ∧ (t290 < ((List.length t288) : Int))))
 (.sub (t288[(0 + (Int.toNat t290))]?) fun z0 =>
 (.test (decide ((0 = 0) ∧ ((List.length a) = (List.length a))))
 (.test (decide ((0 = 0) ∧ ((List.length b) = (List.length b))))
 (.test (decide ((0 = 0) ∧ ((List.length t288) = (List.length t288))))
 (.sub (l_FnFlipsChange_C27 ((more, ((), ((), ((), ((), (t290, (z0, ((0 : Int), ((), (t289, t290)))))))))), ((d_0, d_1), ((other_0, other_1), (a, (b, t288)))))) fun z1 =>
 (.test (decide ((0 = 0) ∧ ((List.length z1.2.2.2.1) = (List.length z1.2.2.2.1))))
 (.test (decide ((0 = 0) ∧ ((List.length z1.2.2.2.2.1) = (List.length z1.2.2.2.2.1))))
 (.test (decide ((0 = 0) ∧ ((List.length z1.2.2.2.2.2) = (List.length z1.2.2.2.2.2))))
 (.sub (l_FnFlipsChange_C29 ((z1.1.1, ((), ((), ((), ((), (z1.1.2.2.2.2.2.1, (z1.1.2.2.2.2.2.2.1, (z1.1.2.2.2.2.2.2.2.1, ((), z1.1.2.2.2.2.2.2.2.2.2))))))))), z1.2)) fun z2 =>
 (.test (decide ((0 = 0) ∧ ((List.length z2.2.2.2.1) = (List.length z2.2.2.2.1))))
 (.test (decide ((0 = 0) ∧ ((List.length z2.2.2.2.2.1) = (List.length z2.2.2.2.2.1))))
 (.test (decide ((0 = 0) ∧ ((List.length z2.2.2.2.2.2) = (List.length z2.2.2.2.2.2))))
 (.sub (l_FnFlipsChange_R30 ((z2.1.1, ((), ((), ((), ((), (z2.1.2.2.2.2.2.1, (z2.1.2.2.2.2.2.2.1, (z2.1.2.2.2.2.2.2.2.1, ((), z2.1.2.2.2.2.2.2.2.2.2))))))))), z2.2)) fun z3 =>
 (.test z3.1.2.2.2.2.2.2.2.2
 (.ret (Sum.inr (Sum.inl false)))
 (.test (decide ((0 = 0) ∧ ((List.length z3.2.2.2.1) = (List.length z3.2.2.2.1))))
 (.test (decide ((0 = 0) ∧ ((List.length z3.2.2.2.2.1) = (List.length z3.2.2.2.2.1))))
 (.test (decide ((0 = 0) ∧ ((List.length z3.2.2.2.2.2) = (List.length z3.2.2.2.2.2))))
 (.ret (Sum.inl ((z3.1.1, ((), ((), ((), ((), ((), (z3.1.2.2.2.2.2.2.1, (w64 (z3.1.2.2.2.2.2.2.2.1 + 1))))))))), z3.2)))
 .fail)
 .fail)
 .fail)))
 .fail)
 .fail)
 .fail))
 .fail)
 .fail)
 .fail))
 .fail)
 .fail)
 .fail))
 .fail)
 (.ret (Sum.inr (Sum.inr more))))
noncomputable def l_FnFlipsChange_L23 (v : ((List (Int) × Unit × Unit × Unit × Unit × Unit × Int × Int) × ((Int × Int) × (Int × Int) × List (Int) × List (Int) × List (Int)))) : Option (Bool ⊕ List (Int)) := loopO (fun v => (l_FnFlipsChange_L23_step v).run) v

def l_FnFlipsChange_C13_sh : LSh := ⟨(fun ex => match ex with | .norm => [(1, none)] | .exit i => [] | .ret => [(4, none)]), [(1, (.one (.sl (.int .u8) false true))), (5, (.one (.si .i64))), (6, (.one (.rw 0 0))), (7, (.one (.pf 1 0 0))), (8, (.one (.rw 2 0))), (9, (.one .sb)), (12, (.one (.pf 3 0 0))), (16, (.one (.rw 4 0)))], [(.row 0 (.pair (.int .i64) (.int .i64))), (.rcd 0 [(.si .i64), (.si .i64)]), (.row 0 (.pair (.int .i64) (.int .i64))), (.rcd 0 [(.si .i64), (.si .i64)]), (.row 0 (.int .i64))], [⟨.ret, [(4, (.one .sb))], []⟩, ⟨.norm, [(1, (.one (.sl (.int .u8) false true)))], []⟩], [], []⟩
noncomputable def l_FnFlipsChange_C13_step : ((List (Int) × Int × Unit × Unit × Unit × Bool × Unit × Unit) × (List ((Int × Int)) × (Int × Int) × List ((Int × Int)) × (Int × Int) × List (Int))) → T (Bool ⊕ List (Int)) := fun ((more, n, (), (), (), ok, (), ()), (ds, (d_0, d_1), flipped, (other_0, other_1), change)) =>
 (.test ok
 (.test (decide ((0 + (List.length flipped)) ≤ (List.length flipped)))
 (.sub (F41 (n, ((win flipped 0 (List.length flipped)), (other_0, other_1)))) fun z0 =>
 (.test (decide ((0 + (List.length flipped)) ≤ (List.length flipped)))
 (.sub (F39 (n, ((win flipped 0 (List.length flipped)), (other_0, other_1)))) fun z1 =>
 (.test (decide ((0 + (List.length ds)) ≤ (List.length ds)))
 (.test (decide ((0 + (List.length flipped)) ≤ (List.length flipped)))
 (.sub (F28 (n, ((win ds 0 (List.length ds)), (win flipped 0 (List.length flipped))))) fun z2 =>
 (.test (decide ((0 + (List.length ds)) ≤ (List.length ds)))
 (.test (decide ((0 + (List.length flipped)) ≤ (List.length flipped)))
 (.sub (F43 (n, ((win ds 0 (List.length ds)), (win flipped 0 (List.length flipped))))) fun z3 =>
 (.sub (F73 (n, ((d_0, d_1), (other_0, other_1)))) fun z4 =>
 (.test (decide ((0 + (List.length ds)) ≤ (List.length ds)))
 (.sub (F56 (n, (win ds 0 (List.length ds)))) fun z5 =>
 (.test (decide ((0 + (List.length flipped)) ≤ (List.length flipped)))
 (.sub (F56 (n, (win flipped 0 (List.length flipped)))) fun z6 =>
 (.test (decide ((0 = 0) ∧ ((List.length ds) = (List.length ds))))
 (.test (decide ((0 = 0) ∧ ((List.length flipped) = (List.length flipped))))
 (.test (decide ((0 = 0) ∧ ((List.length change) = (List.length change))))
 (.test (decide ((0 = 0) ∧ ((List.length z0.2) = (List.length z0.2))))
 (.test (decide ((0 = 0) ∧ ((List.length z2.2) = (List.length z2.2))))
 (.test (decide ((0 = 0) ∧ ((List.length z5.2) = (List.length z5.2))))
 (.test (decide ((0 = 0) ∧ ((List.length z6.2) = (List.length z6.2))))
 (.sub (l_FnFlipsChange_R20 ((more, (n, ((), ((), ((), ((), ((), ((), (z0.1.2, ((), (z1.2, ((), (z2.1.2, ((), (z3.2, (z4.1, (z4.2, ((), (z5.1.2, ((), z6.1.2)))))))))))))))))))), (ds, ((d_0, d_1), (flipped, ((other_0, other_1), (change, (z0.2, (z1.1, (z2.2, (z3.1, (z5.2, z6.2)))))))))))) fun z7 =>
 (.test z7.1.2.2.2.2.2.2
 (.ret (Sum.inl false))
 (.test (decide ((0 = 0) ∧ ((List.length z7.2.2.2.2.1) = (List.length z7.2.2.2.2.1))))
 (.test (decide ((0 = 0) ∧ ((List.length z7.2.2.2.2.2) = (List.length z7.2.2.2.2.2))))
 (.test (decide ((0 = 0) ∧ ((List.length z7.2.2.2.1) = (List.length z7.2.2.2.1))))
 (.sub (l_FnFlipsChange_L23 ((z7.1.1, ((), ((), ((), ((), ((), (((List.length z7.2.2.2.1) : Int), (0 : Int)))))))), (z7.2.1, (z7.2.2.1, (z7.2.2.2.2.1, (z7.2.2.2.2.2, z7.2.2.2.1)))))) fun z8 =>
 (.test (Sum.isLeft z8)
 (.sub (Sum.getLeft? z8) fun z9 =>
 (.ret (Sum.inl z9)))
 (.sub (Sum.getRight? z8) fun z10 =>
 (.ret (Sum.inr z10)))))
 .fail)
 .fail)
 .fail)))
 .fail)
 .fail)
 .fail)
 .fail)
 .fail)
 .fail)
 .fail))
 .fail))
 .fail)))
 .fail)
 .fail))
 .fail)
 .fail))
 .fail))
 .fail)
 (.ret (Sum.inr more)))
noncomputable def l_FnFlipsChange_C13 (v : ((List (Int) × Int × Unit × Unit × Unit × Bool × Unit × Unit) × (List ((Int × Int)) × (Int × Int) × List ((Int × Int)) × (Int × Int) × List (Int)))) : Option (Bool ⊕ List (Int)) := (l_FnFlipsChange_C13_step v).run

def l_FnFlipsChange_R43_sh : LSh := ⟨(fun ex => match ex with | .norm => [(37, none), (38, none), (39, none), (40, none), (43, none), (44, none), (45, none), (47, none), (50, none), (51, none), (54, none), (441, none)] | .exit i => [] | .ret => [(4, none)]), [(37, (.one (.si .i64))), (38, (.one (.rw 0 0))), (39, (.one (.rw 1 0))), (40, (.one .sb)), (41, (.one (.rw 2 0))), (42, (.one .sb)), (43, (.one (.si .i64))), (44, (.one (.rw 3 0))), (45, (.one (.rw 4 0))), (46, (.one (.pf 5 0 0))), (47, (.one .sb)), (48, (.one (.pf 6 0 0))), (49, (.one .sb)), (50, (.one (.rw 7 0))), (51, (.one .sb)), (52, (.one (.rw 8 0))), (53, (.one .sb)), (54, (.one (.si .i64))), (55, (.one .sb)), (56, (.one (.si .i64))), (57, (.one .sb))], [(.row 0 (.pair (.int .i64) (.int .i64))), (.row 0 (.list true (.pair (.int .i64) (.int .i64)))), (.row 0 (.list true (.pair (.int .i64) (.int .i64)))), (.row 0 (.pair (.int .i64) (.int .i64))), (.row 0 (.pair (.int .i64) (.int .i64))), (.rcd 0 [(.si .i64), (.si .i64)]), (.rcd 0 [(.si .i64), (.si .i64)]), (.row 0 (.pair (.int .i64) (.int .i64))), (.row 0 (.pair (.int .i64) (.int .i64)))], [⟨.norm, [(37, (.one (.si .i64))), (38, (.one (.rw 0 0))), (39, (.one (.rw 1 0))), (40, (.one .sb)), (43, (.one (.si .i64))), (44, (.one (.rw 2 0))), (45, (.one (.rw 3 0))), (47, (.one .sb)), (50, (.one (.rw 4 0))), (51, (.one .sb)), (54, (.one (.si .i64))), (441, (.one .sb))], [(.row 0 (.pair (.int .i64) (.int .i64))), (.row 0 (.list true (.pair (.int .i64) (.int .i64)))), (.row 0 (.pair (.int .i64) (.int .i64))), (.row 0 (.pair (.int .i64) (.int .i64))), (.row 0 (.pair (.int .i64) (.int .i64)))]⟩], [], []⟩
noncomputable def l_FnFlipsChange_R43_step : ((Int × Unit × Unit × Bool × Unit × Bool × Int × Unit × Unit × Unit × Bool × Unit × Bool × Unit × Bool × Unit × Bool × Int × Bool × Int × Bool) × (List ((Int × Int)) × List (List ((Int × Int))) × List (List ((Int × Int))) × List ((Int × Int)) × List ((Int × Int)) × (Int × Int) × (Int × Int) × List ((Int × Int)) × List ((Int × Int)))) → T ((Int × Unit × Unit × Bool × Int × Unit × Unit × Bool × Unit × Bool × Int × Bool) × (List ((Int × Int)) × List (List ((Int × Int))) × List ((Int × Int)) × List ((Int × Int)) × List ((Int × Int)))) := fun ((m, (), (), five, (), six, p, (), (), (), seven, (), eight, (), nine, (), ten, crossings, eleven, number, twelve), (es, all, value, a, b, (apart_0, apart_1), (due_0, due_1), common, list)) =>
 (.test (! (five == six))
 (.test (decide ((0 = 0) ∧ ((List.length es) = (List.length es))))
 (.test (decide ((0 = 0) ∧ ((List.length all) = (List.length all))))
 (.test (decide ((0 = 0) ∧ ((List.length a) = (List.length a))))
 (.test (decide ((0 = 0) ∧ ((List.length b) = (List.length b))))
 (.test (decide ((0 = 0) ∧ ((List.length common) = (List.length common))))
 (.ret ((m, ((), ((), (five, (p, ((), ((), (seven, ((), (nine, (crossings, true))))))))))), (es, (all, (a, (b, common))))))
 .fail)
 .fail)
 .fail)
 .fail)
 .fail)
 (.test (decide ((0 + (List.length all)) ≤ (List.length all)))
 (.test (decide ((0 + (List.length value)) ≤ (List.length value)))
 (.sub (F82 ((win all 0 (List.length all)), (win value 0 (List.length value)))) fun z0 =>
 (.test (! z0)
 (.test (decide ((0 = 0) ∧ ((List.length es) = (List.length es))))
 (.test (decide ((0 = 0) ∧ ((List.length all) = (List.length all))))
 (.test (decide ((0 = 0) ∧ ((List.length a) = (List.length a))))
 (.test (decide ((0 = 0) ∧ ((List.length b) = (List.length b))))
 (.test (decide ((0 = 0) ∧ ((List.length common) = (List.length common))))
 (.ret ((m, ((), ((), (five, (p, ((), ((), (seven, ((), (nine, (crossings, true))))))))))), (es, (all, (a, (b, common))))))
 .fail)
 .fail)
 .fail)
 .fail)
 .fail)
 (.test (! (seven == eight))
 (.test (decide ((0 = 0) ∧ ((List.length es) = (List.length es))))
 (.test (decide ((0 = 0) ∧ ((List.length all) = (List.length all))))
 (.test (decide ((0 = 0) ∧ ((List.length a) = (List.length a))))
 (.test (decide ((0 = 0) ∧ ((List.length b) = (List.length b))))
 (.test (decide ((0 = 0) ∧ ((List.length common) = (List.length common))))
 (.ret ((m, ((), ((), (five, (p, ((), ((), (seven, ((), (nine, (crossings, true))))))))))), (es, (all, (a, (b, common))))))
 .fail)
 .fail)
 .fail)
 .fail)
 .fail)
 (.test (! ((apart_0 == due_0) && ((apart_1 == due_1) && true)))
 (.test (decide ((0 = 0) ∧ ((List.length es) = (List.length es))))
 (.test (decide ((0 = 0) ∧ ((List.length all) = (List.length all))))
 (.test (decide ((0 = 0) ∧ ((List.length a) = (List.length a))))
 (.test (decide ((0 = 0) ∧ ((List.length b) = (List.length b))))
 (.test (decide ((0 = 0) ∧ ((List.length common) = (List.length common))))
 (.ret ((m, ((), ((), (five, (p, ((), ((), (seven, ((), (nine, (crossings, true))))))))))), (es, (all, (a, (b, common))))))
 .fail)
 .fail)
 .fail)
 .fail)
 .fail)
 (.test (! (nine == ten))
 (.test (decide ((0 = 0) ∧ ((List.length es) = (List.length es))))
 (.test (decide ((0 = 0) ∧ ((List.length all) = (List.length all))))
 (.test (decide ((0 = 0) ∧ ((List.length a) = (List.length a))))
 (.test (decide ((0 = 0) ∧ ((List.length b) = (List.length b))))
 (.test (decide ((0 = 0) ∧ ((List.length common) = (List.length common))))
 (.ret ((m, ((), ((), (five, (p, ((), ((), (seven, ((), (nine, (crossings, true))))))))))), (es, (all, (a, (b, common))))))
 .fail)
 .fail)
 .fail)
 .fail)
 .fail)
 (.test (decide ((0 + (List.length common)) ≤ (List.length common)))
 (.test (decide ((0 + (List.length list)) ≤ (List.length list)))
 (.sub (F90 ((win common 0 (List.length common)), (win list 0 (List.length list)))) fun z1 =>
 (.test (! z1)
 (.test (decide ((0 = 0) ∧ ((List.length es) = (List.length es))))
 (.test (decide ((0 = 0) ∧ ((List.length all) = (List.length all))))
 (.test (decide ((0 = 0) ∧ ((List.length a) = (List.length a))))
 (.test (decide ((0 = 0) ∧ ((List.length b) = (List.length b))))
 (.test (decide ((0 = 0) ∧ ((List.length common) = (List.length common))))
 (.ret ((m, ((), ((), (five, (p, ((), ((), (seven, ((), (nine, (crossings, true))))))))))), (es, (all, (a, (b, common))))))
 .fail)
 .fail)
 .fail)
 .fail)
 .fail)
 (.test (! (eleven == twelve))
 (.test (decide ((0 = 0) ∧ ((List.length es) = (List.length es))))
 (.test (decide ((0 = 0) ∧ ((List.length all) = (List.length all))))
 (.test (decide ((0 = 0) ∧ ((List.length a) = (List.length a))))
 (.test (decide ((0 = 0) ∧ ((List.length b) = (List.length b))))
 (.test (decide ((0 = 0) ∧ ((List.length common) = (List.length common))))
 (.ret ((m, ((), ((), (five, (p, ((), ((), (seven, ((), (nine, (crossings, true))))))))))), (es, (all, (a, (b, common))))))
 .fail)
 .fail)
 .fail)
 .fail)
 .fail)
 (.test (crossings != number)
 (.test (decide ((0 = 0) ∧ ((List.length es) = (List.length es))))
 (.test (decide ((0 = 0) ∧ ((List.length all) = (List.length all))))
 (.test (decide ((0 = 0) ∧ ((List.length a) = (List.length a))))
 (.test (decide ((0 = 0) ∧ ((List.length b) = (List.length b))))
 (.test (decide ((0 = 0) ∧ ((List.length common) = (List.length common))))
 (.ret ((m, ((), ((), (five, (p, ((), ((), (seven, ((), (nine, (crossings, true))))))))))), (es, (all, (a, (b, common))))))
 .fail)
 .fail)
 .fail)
 .fail)
 .fail)
 (.test (decide ((0 = 0) ∧ ((List.length es) = (List.length es))))
 (.test (decide ((0 = 0) ∧ ((List.length all) = (List.length all))))
 (.test (decide ((0 = 0) ∧ ((List.length a) = (List.length a))))
 (.test (decide ((0 = 0) ∧ ((List.length b) = (List.length b))))
 (.test (decide ((0 = 0) ∧ ((List.length common) = (List.length common))))
 (.ret ((m, ((), ((), (five, (p, ((), ((), (seven, ((), (nine, (crossings, (! (eleven == nine))))))))))))), (es, (all, (a, (b, common))))))
 .fail)
 .fail)
 .fail)
 .fail)
 .fail)))))
 .fail)
 .fail))))))
 .fail)
 .fail))
noncomputable def l_FnFlipsChange_R43 (v : ((Int × Unit × Unit × Bool × Unit × Bool × Int × Unit × Unit × Unit × Bool × Unit × Bool × Unit × Bool × Unit × Bool × Int × Bool × Int × Bool) × (List ((Int × Int)) × List (List ((Int × Int))) × List (List ((Int × Int))) × List ((Int × Int)) × List ((Int × Int)) × (Int × Int) × (Int × Int) × List ((Int × Int)) × List ((Int × Int))))) : Option ((Int × Unit × Unit × Bool × Int × Unit × Unit × Bool × Unit × Bool × Int × Bool) × (List ((Int × Int)) × List (List ((Int × Int))) × List ((Int × Int)) × List ((Int × Int)) × List ((Int × Int)))) := (l_FnFlipsChange_R43_step v).run

def l_FnFlipsChange_R50_sh : LSh := ⟨(fun ex => match ex with | .norm => [(37, none), (38, none), (39, none), (43, none), (44, none), (45, none), (47, none), (50, none), (51, none), (54, none), (443, none), (444, none), (445, none), (467, none)] | .exit i => if i = 3 then [(37, none), (38, none), (39, none), (43, none), (44, none), (45, none), (47, none), (50, none), (51, none), (54, none), (443, none), (444, none), (445, none)] else if i = 2 then [(37, none), (39, none), (43, none), (44, none), (45, none), (47, none), (50, none), (51, none), (54, none)] else [] | .ret => [(4, none)]), [(37, (.one (.si .i64))), (38, (.one (.rw 0 0))), (39, (.one (.rw 1 0))), (43, (.one (.si .i64))), (44, (.one (.rw 2 0))), (45, (.one (.rw 3 0))), (47, (.one .sb)), (50, (.one (.rw 4 0))), (51, (.one .sb)), (54, (.one (.si .i64))), (59, (.one (.sl (.pair (.int .i64) (.int .i64)) false true))), (60, (.one (.rw 5 0))), (61, (.one .sb)), (443, (.one (.rw 1 0))), (444, (.one (.si .i64))), (445, (.one (.si .i64)))], [(.row 0 (.pair (.int .i64) (.int .i64))), (.row 0 (.list true (.pair (.int .i64) (.int .i64)))), (.row 0 (.pair (.int .i64) (.int .i64))), (.row 0 (.pair (.int .i64) (.int .i64))), (.row 0 (.pair (.int .i64) (.int .i64))), (.row 0 (.pair (.int .i64) (.int .i64)))], [⟨.norm, [(37, (.one (.si .i64))), (38, (.one (.rw 0 0))), (39, (.one (.rw 1 0))), (43, (.one (.si .i64))), (44, (.one (.rw 2 0))), (45, (.one (.rw 3 0))), (47, (.one .sb)), (50, (.one (.rw 4 0))), (51, (.one .sb)), (54, (.one (.si .i64))), (443, (.one (.rw 1 0))), (444, (.one (.si .i64))), (445, (.one (.si .i64))), (467, (.one .sb))], [(.row 0 (.pair (.int .i64) (.int .i64))), (.row 0 (.list true (.pair (.int .i64) (.int .i64)))), (.row 0 (.pair (.int .i64) (.int .i64))), (.row 0 (.pair (.int .i64) (.int .i64))), (.row 0 (.pair (.int .i64) (.int .i64)))]⟩], [], []⟩
noncomputable def l_FnFlipsChange_R50_step : ((Int × Unit × Unit × Int × Unit × Unit × Bool × Unit × Bool × Int × List ((Int × Int)) × Unit × Bool × Unit × Int × Int) × (List ((Int × Int)) × List (List ((Int × Int))) × List ((Int × Int)) × List ((Int × Int)) × List ((Int × Int)) × List ((Int × Int)))) → T ((Int × Unit × Unit × Int × Unit × Unit × Bool × Unit × Bool × Int × Unit × Int × Int × Bool) × (List ((Int × Int)) × List (List ((Int × Int))) × List ((Int × Int)) × List ((Int × Int)) × List ((Int × Int)))) := fun ((m, (), (), p, (), (), seven, (), nine, crossings, x, (), thirteen, (), t444, t445), (es, all, a, b, common, own)) =>
 (.test (! thirteen)
 (.test (decide ((0 = 0) ∧ ((List.length es) = (List.length es))))
 (.test (decide ((0 = 0) ∧ ((List.length all) = (List.length all))))
 (.test (decide ((0 = 0) ∧ ((List.length a) = (List.length a))))
 (.test (decide ((0 = 0) ∧ ((List.length b) = (List.length b))))
 (.test (decide ((0 = 0) ∧ ((List.length common) = (List.length common))))
 (.test (decide ((0 = 0) ∧ ((List.length all) = (List.length all))))
 (.ret ((m, ((), ((), (p, ((), ((), (seven, ((), (nine, (crossings, ((), (t444, (t445, true))))))))))))), (es, (all, (a, (b, common))))))
 .fail)
 .fail)
 .fail)
 .fail)
 .fail)
 .fail)
 (.test (decide ((0 + (List.length own)) ≤ (List.length own)))
 (.sub (F90 ((win own 0 (List.length own)), x)) fun z0 =>
 (.test (decide ((0 = 0) ∧ ((List.length es) = (List.length es))))
 (.test (decide ((0 = 0) ∧ ((List.length all) = (List.length all))))
 (.test (decide ((0 = 0) ∧ ((List.length a) = (List.length a))))
 (.test (decide ((0 = 0) ∧ ((List.length b) = (List.length b))))
 (.test (decide ((0 = 0) ∧ ((List.length common) = (List.length common))))
 (.test (decide ((0 = 0) ∧ ((List.length all) = (List.length all))))
 (.ret ((m, ((), ((), (p, ((), ((), (seven, ((), (nine, (crossings, ((), (t444, (t445, (! z0)))))))))))))), (es, (all, (a, (b, common))))))
 .fail)
 .fail)
 .fail)
 .fail)
 .fail)
 .fail))
 .fail))
noncomputable def l_FnFlipsChange_R50 (v : ((Int × Unit × Unit × Int × Unit × Unit × Bool × Unit × Bool × Int × List ((Int × Int)) × Unit × Bool × Unit × Int × Int) × (List ((Int × Int)) × List (List ((Int × Int))) × List ((Int × Int)) × List ((Int × Int)) × List ((Int × Int)) × List ((Int × Int))))) : Option ((Int × Unit × Unit × Int × Unit × Unit × Bool × Unit × Bool × Int × Unit × Int × Int × Bool) × (List ((Int × Int)) × List (List ((Int × Int))) × List ((Int × Int)) × List ((Int × Int)) × List ((Int × Int)))) := (l_FnFlipsChange_R50_step v).run

def l_FnFlipsChange_L47_sh : LSh := ⟨(fun ex => match ex with | .norm => [(37, none), (38, none), (39, none), (43, none), (44, none), (45, none), (47, none), (50, none), (51, none), (54, none), (443, none), (444, none), (445, none)] | .exit i => if i = 2 then [(37, none), (39, none), (43, none), (44, none), (45, none), (47, none), (50, none), (51, none), (54, none)] else [] | .ret => [(4, none)]), [(37, (.one (.si .i64))), (38, (.one (.rw 0 0))), (39, (.one (.rw 1 0))), (43, (.one (.si .i64))), (44, (.one (.rw 2 0))), (45, (.one (.rw 3 0))), (47, (.one .sb)), (50, (.one (.rw 4 0))), (51, (.one .sb)), (54, (.one (.si .i64))), (443, (.one (.rw 1 0))), (444, (.one (.si .i64))), (445, (.one (.si .i64)))], [(.row 0 (.pair (.int .i64) (.int .i64))), (.row 0 (.list true (.pair (.int .i64) (.int .i64)))), (.row 0 (.pair (.int .i64) (.int .i64))), (.row 0 (.pair (.int .i64) (.int .i64))), (.row 0 (.pair (.int .i64) (.int .i64)))], [⟨.ret, [(4, (.one .sb))], []⟩, ⟨(.exit 2), [(37, (.one (.si .i64))), (39, (.one (.rw 0 0))), (43, (.one (.si .i64))), (44, (.one (.rw 1 0))), (45, (.one (.rw 2 0))), (47, (.one .sb)), (50, (.one (.rw 3 0))), (51, (.one .sb)), (54, (.one (.si .i64)))], [(.row 0 (.list true (.pair (.int .i64) (.int .i64)))), (.row 0 (.pair (.int .i64) (.int .i64))), (.row 0 (.pair (.int .i64) (.int .i64))), (.row 0 (.pair (.int .i64) (.int .i64)))]⟩], [], []⟩
noncomputable def l_FnFlipsChange_L47_step : ((Int × Unit × Unit × Int × Unit × Unit × Bool × Unit × Bool × Int × Unit × Int × Int) × (List ((Int × Int)) × List (List ((Int × Int))) × List ((Int × Int)) × List ((Int × Int)) × List ((Int × Int)))) → T (((Int × Unit × Unit × Int × Unit × Unit × Bool × Unit × Bool × Int × Unit × Int × Int) × (List ((Int × Int)) × List (List ((Int × Int))) × List ((Int × Int)) × List ((Int × Int)) × List ((Int × Int)))) ⊕ (Bool ⊕ ((Int × Unit × Int × Unit × Unit × Bool × Unit × Bool × Int) × (List (List ((Int × Int))) × List ((Int × Int)) × List ((Int × Int)) × List ((Int × Int)))))) := fun ((m, (), (), p, (), (), seven, (), nine, crossings, (), t444, t445), (es, all, a, b, common)) =>
 (.test (decide (t445 < t444))
 (.test (decide ((0 ≤ t445) ∧ (t445 < ((List.length all) : Int))))
 (.sub (all[(0 + (Int.toNat t445))]?) fun z0 =>
 (.test (decide ((0 ≤ t445) ∧ (t445 < ((List.length es) : Int))))
 (.sub (es[(0 + (Int.toNat t445))]?) fun z1 =>
 (.test (decide ((0 + (List.length es)) ≤ (List.length es)))
 (.sub (F41 (m, ((win es 0 (List.length es)), z1))) fun z2 =>
 (.test (decide ((0 = 0) ∧ ((List.length es) = (List.length es))))
 (.test (decide ((0 = 0) ∧ ((List.length all) = (List.length all))))
 (.test (decide ((0 = 0) ∧ ((List.length a) = (List.length a))))
 (.test (decide ((0 = 0) ∧ ((List.length b) = (List.length b))))
 (.test (decide ((0 = 0) ∧ ((List.length common) = (List.length common))))
 (.test (decide ((0 = 0) ∧ ((List.length z2.2) = (List.length z2.2))))
 (.test (decide ((0 = 0) ∧ ((List.length all) = (List.length all))))
 (.sub (l_FnFlipsChange_R50 ((m, ((), ((), (p, ((), ((), (seven, ((), (nine, (crossings, (z0, ((), (z2.1.2, ((), (t444, t445))))))))))))))), (es, (all, (a, (b, (common, z2.2))))))) fun z3 =>
 (.test z3.1.2.2.2.2.2.2.2.2.2.2.2.2.2
 (.ret (Sum.inr (Sum.inl false)))
 (.test (decide ((0 = 0) ∧ ((List.length z3.2.1) = (List.length z3.2.1))))
 (.test (decide ((0 = 0) ∧ ((List.length z3.2.2.1) = (List.length z3.2.2.1))))
 (.test (decide ((0 = 0) ∧ ((List.length z3.2.2.2.1) = (List.length z3.2.2.2.1))))
 (.test (decide ((0 = 0) ∧ ((List.length z3.2.2.2.2.1) = (List.length z3.2.2.2.2.1))))
 (.test (decide ((0 = 0) ∧ ((List.length z3.2.2.2.2.2) = (List.length z3.2.2.2.2.2))))
 (.test (decide ((0 = 0) ∧ ((List.length z3.2.2.1) = (List.length z3.2.2.1))))
 (.ret (Sum.inl ((z3.1.1, ((), ((), (z3.1.2.2.2.1, ((), ((), (z3.1.2.2.2.2.2.2.1, ((), (z3.1.2.2.2.2.2.2.2.2.1, (z3.1.2.2.2.2.2.2.2.2.2.1, ((), (z3.1.2.2.2.2.2.2.2.2.2.2.2.1, (w64 (z3.1.2.2.2.2.2.2.2.2.2.2.2.2.1 + 1)))))))))))))), z3.2)))
 .fail)
 .fail)
 .fail)
 .fail)
 .fail)
 .fail)))
 .fail)
 .fail)
 .fail)
 .fail)
 .fail)
 .fail)
 .fail))
 .fail))
 .fail))
 .fail)
 (.test (decide ((0 = 0) ∧ ((List.length all) = (List.length all))))
 (.test (decide ((0 = 0) ∧ ((List.length a) = (List.length a))))
 (.test (decide ((0 = 0) ∧ ((List.length b) = (List.length b))))
 (.test (decide ((0 = 0) ∧ ((List.length common) = (List.length common))))
 (.ret (Sum.inr (Sum.inr ((m, ((), (p, ((), ((), (seven, ((), (nine, crossings)))))))), (all, (a, (b, common)))))))
 .fail)
 .fail)
 .fail)
 .fail))
noncomputable def l_FnFlipsChange_L47 (v : ((Int × Unit × Unit × Int × Unit × Unit × Bool × Unit × Bool × Int × Unit × Int × Int) × (List ((Int × Int)) × List (List ((Int × Int))) × List ((Int × Int)) × List ((Int × Int)) × List ((Int × Int))))) : Option (Bool ⊕ ((Int × Unit × Int × Unit × Unit × Bool × Unit × Bool × Int) × (List (List ((Int × Int))) × List ((Int × Int)) × List ((Int × Int)) × List ((Int × Int))))) := loopO (fun v => (l_FnFlipsChange_L47_step v).run) v

def l_FnFlipsChange_C46_sh : LSh := ⟨(fun ex => match ex with | .norm => [(43, none), (44, none), (45, none), (47, none), (50, none), (51, none), (54, none)] | .exit i => [] | .ret => [(4, none)]), [(37, (.one (.si .i64))), (38, (.one (.rw 0 0))), (39, (.one (.rw 1 0))), (40, (.one .sb)), (43, (.one (.si .i64))), (44, (.one (.rw 2 0))), (45, (.one (.rw 3 0))), (47, (.one .sb)), (50, (.one (.rw 4 0))), (51, (.one .sb)), (54, (.one (.si .i64)))], [(.row 0 (.pair (.int .i64) (.int .i64))), (.row 0 (.list true (.pair (.int .i64) (.int .i64)))), (.row 0 (.pair (.int .i64) (.int .i64))), (.row 0 (.pair (.int .i64) (.int .i64))), (.row 0 (.pair (.int .i64) (.int .i64)))], [⟨.ret, [(4, (.one .sb))], []⟩, ⟨.norm, [(43, (.one (.si .i64))), (44, (.one (.rw 0 0))), (45, (.one (.rw 1 0))), (47, (.one .sb)), (50, (.one (.rw 2 0))), (51, (.one .sb)), (54, (.one (.si .i64)))], [(.row 0 (.pair (.int .i64) (.int .i64))), (.row 0 (.pair (.int .i64) (.int .i64))), (.row 0 (.pair (.int .i64) (.int .i64)))]⟩], [], []⟩
noncomputable def l_FnFlipsChange_C46_step : ((Int × Unit × Unit × Bool × Int × Unit × Unit × Bool × Unit × Bool × Int) × (List ((Int × Int)) × List (List ((Int × Int))) × List ((Int × Int)) × List ((Int × Int)) × List ((Int × Int)))) → T (Bool ⊕ ((Int × Unit × Unit × Bool × Unit × Bool × Int) × (List ((Int × Int)) × List ((Int × Int)) × List ((Int × Int))))) := fun ((m, (), (), five, p, (), (), seven, (), nine, crossings), (es, all, a, b, common)) =>
 (.test five
 (.test (decide ((0 = 0) ∧ ((List.length es) = (List.length es))))
 (.test (decide ((0 = 0) ∧ ((List.length all) = (List.length all))))
 (.test (decide ((0 = 0) ∧ ((List.length a) = (List.length a))))
 (.test (decide ((0 = 0) ∧ ((List.length b) = (List.length b))))
 (.test (decide ((0 = 0) ∧ ((List.length common) = (List.length common))))
 (.test (decide ((0 = 0) ∧ ((List.length all) = (List.length all))))
 (.sub (l_FnFlipsChange_L47 ((m, ((), ((), (p, ((), ((), (seven, ((), (nine, (crossings, ((), (((List.length all) : Int), (0 : Int))))))))))))), (es, (all, (a, (b, common)))))) fun z0 =>
 (.test (Sum.isLeft z0)
 (.sub (Sum.getLeft? z0) fun z1 =>
 (.ret (Sum.inl z1)))
 (.sub (Sum.getRight? z0) fun z2 =>
 (.test (((List.length z2.2.1) : Int) != (w64 (z2.1.1 - 3)))
 (.ret (Sum.inl false))
 (.test (decide ((0 = 0) ∧ ((List.length z2.2.2.1) = (List.length z2.2.2.1))))
 (.test (decide ((0 = 0) ∧ ((List.length z2.2.2.2.1) = (List.length z2.2.2.2.1))))
 (.test (decide ((0 = 0) ∧ ((List.length z2.2.2.2.2) = (List.length z2.2.2.2.2))))
 (.ret (Sum.inr ((z2.1.2.2.1, ((), ((), (z2.1.2.2.2.2.2.1, ((), z2.1.2.2.2.2.2.2.2))))), z2.2.2)))
 .fail)
 .fail)
 .fail)))))
 .fail)
 .fail)
 .fail)
 .fail)
 .fail)
 .fail)
 (.test (decide ((0 = 0) ∧ ((List.length a) = (List.length a))))
 (.test (decide ((0 = 0) ∧ ((List.length b) = (List.length b))))
 (.test (decide ((0 = 0) ∧ ((List.length common) = (List.length common))))
 (.ret (Sum.inr ((p, ((), ((), (seven, ((), (nine, crossings)))))), (a, (b, common)))))
 .fail)
 .fail)
 .fail))
noncomputable def l_FnFlipsChange_C46 (v : ((Int × Unit × Unit × Bool × Int × Unit × Unit × Bool × Unit × Bool × Int) × (List ((Int × Int)) × List (List ((Int × Int))) × List ((Int × Int)) × List ((Int × Int)) × List ((Int × Int))))) : Option (Bool ⊕ ((Int × Unit × Unit × Bool × Unit × Bool × Int) × (List ((Int × Int)) × List ((Int × Int)) × List ((Int × Int))))) := (l_FnFlipsChange_C46_step v).run

def l_FnFlipsChange_R57_sh : LSh := ⟨(fun ex => match ex with | .norm => [(44, none), (45, none), (50, none), (509, none)] | .exit i => [] | .ret => [(4, none)]), [(43, (.one (.si .i64))), (44, (.one (.rw 0 0))), (45, (.one (.rw 1 0))), (47, (.one .sb)), (50, (.one (.rw 2 0))), (54, (.one (.si .i64))), (62, (.one (.si .i64))), (63, (.one .sb))], [(.row 0 (.pair (.int .i64) (.int .i64))), (.row 0 (.pair (.int .i64) (.int .i64))), (.row 0 (.pair (.int .i64) (.int .i64)))], [⟨.norm, [(44, (.one (.rw 0 0))), (45, (.one (.rw 1 0))), (50, (.one (.rw 2 0))), (509, (.one .sb))], [(.row 0 (.pair (.int .i64) (.int .i64))), (.row 0 (.pair (.int .i64) (.int .i64))), (.row 0 (.pair (.int .i64) (.int .i64)))]⟩], [], []⟩
noncomputable def l_FnFlipsChange_R57_step : ((Int × Unit × Unit × Bool × Unit × Int × Int × Bool) × (List ((Int × Int)) × List ((Int × Int)) × List ((Int × Int)))) → T ((Unit × Unit × Unit × Bool) × (List ((Int × Int)) × List ((Int × Int)) × List ((Int × Int)))) := fun ((p, (), (), seven, (), crossings, turned, thirteen), (a, b, common)) =>
 (.test (! thirteen)
 (.test (decide ((0 = 0) ∧ ((List.length a) = (List.length a))))
 (.test (decide ((0 = 0) ∧ ((List.length b) = (List.length b))))
 (.test (decide ((0 = 0) ∧ ((List.length common) = (List.length common))))
 (.ret (((), ((), ((), true))), (a, (b, common))))
 .fail)
 .fail)
 .fail)
 (.test (turned != crossings)
 (.test (decide ((0 = 0) ∧ ((List.length a) = (List.length a))))
 (.test (decide ((0 = 0) ∧ ((List.length b) = (List.length b))))
 (.test (decide ((0 = 0) ∧ ((List.length common) = (List.length common))))
 (.ret (((), ((), ((), true))), (a, (b, common))))
 .fail)
 .fail)
 .fail)
 (.test (decide ((0 + (List.length a)) ≤ (List.length a)))
 (.test (decide ((0 + (List.length b)) ≤ (List.length b)))
 (.sub (F90 ((win a 0 (List.length a)), (win b 0 (List.length b)))) fun z0 =>
 (.test (! ((crossings == 0) == z0))
 (.test (decide ((0 = 0) ∧ ((List.length a) = (List.length a))))
 (.test (decide ((0 = 0) ∧ ((List.length b) = (List.length b))))
 (.test (decide ((0 = 0) ∧ ((List.length common) = (List.length common))))
 (.ret (((), ((), ((), true))), (a, (b, common))))
 .fail)
 .fail)
 .fail)
 (.test (((List.length common) : Int) == (w64 (p - 4)))
 (.test (decide ((0 = 0) ∧ ((List.length a) = (List.length a))))
 (.test (decide ((0 = 0) ∧ ((List.length b) = (List.length b))))
 (.test (decide ((0 = 0) ∧ ((List.length common) = (List.length common))))
 (.ret (((), ((), ((), (! (seven == (decide (p > 3))))))), (a, (b, common))))
 .fail)
 .fail)
 .fail)
 (.test (decide ((0 = 0) ∧ ((List.length a) = (List.length a))))
 (.test (decide ((0 = 0) ∧ ((List.length b) = (List.length b))))
 (.test (decide ((0 = 0) ∧ ((List.length common) = (List.length common))))
 (.ret (((), ((), ((), (! (seven == false))))), (a, (b, common))))
 .fail)
 .fail)
 .fail))))
 .fail)
 .fail)))
noncomputable def l_FnFlipsChange_R57 (v : ((Int × Unit × Unit × Bool × Unit × Int × Int × Bool) × (List ((Int × Int)) × List ((Int × Int)) × List ((Int × Int))))) : Option ((Unit × Unit × Unit × Bool) × (List ((Int × Int)) × List ((Int × Int)) × List ((Int × Int)))) := (l_FnFlipsChange_R57_step v).run

def l_FnFlipsChange_R62_sh : LSh := ⟨(fun ex => match ex with | .norm => [(44, none), (45, none), (510, none), (511, none), (512, none), (525, none)] | .exit i => if i = 5 then [(44, none), (45, none), (510, none), (511, none), (512, none)] else if i = 4 then [] else [] | .ret => [(4, none)]), [(44, (.one (.rw 0 0))), (45, (.one (.rw 1 0))), (65, (.one (.pf 2 0 0))), (510, (.one (.rw 3 0))), (511, (.one (.si .i64))), (512, (.one (.si .i64)))], [(.row 0 (.pair (.int .i64) (.int .i64))), (.row 0 (.pair (.int .i64) (.int .i64))), (.rcd 0 [(.si .i64), (.si .i64)]), (.row 0 (.pair (.int .i64) (.int .i64)))], [⟨.norm, [(44, (.one (.rw 0 0))), (45, (.one (.rw 1 0))), (510, (.one (.rw 2 0))), (511, (.one (.si .i64))), (512, (.one (.si .i64))), (525, (.one .sb))], [(.row 0 (.pair (.int .i64) (.int .i64))), (.row 0 (.pair (.int .i64) (.int .i64))), (.row 0 (.pair (.int .i64) (.int .i64)))]⟩], [], []⟩
noncomputable def l_FnFlipsChange_R62_step : ((Unit × Unit × Unit × Unit × Int × Int) × (List ((Int × Int)) × List ((Int × Int)) × (Int × Int) × List ((Int × Int)))) → T ((Unit × Unit × Unit × Int × Int × Bool) × (List ((Int × Int)) × List ((Int × Int)) × List ((Int × Int)))) := fun (((), (), (), (), t511, t512), (a, b, (x_0, x_1), t510)) =>
 (.test (decide ((0 + (List.length a)) ≤ (List.length a)))
 (.sub (F112 ((win a 0 (List.length a)), (x_0, x_1))) fun z0 =>
 (.test (! z0)
 (.test (decide ((0 = 0) ∧ ((List.length a) = (List.length a))))
 (.test (decide ((0 = 0) ∧ ((List.length b) = (List.length b))))
 (.test (decide ((0 = 0) ∧ ((List.length t510) = (List.length t510))))
 (.ret (((), ((), ((), (t511, (t512, true))))), (a, (b, t510))))
 .fail)
 .fail)
 .fail)
 (.test (decide ((0 + (List.length b)) ≤ (List.length b)))
 (.sub (F112 ((win b 0 (List.length b)), (x_0, x_1))) fun z1 =>
 (.test (decide ((0 = 0) ∧ ((List.length a) = (List.length a))))
 (.test (decide ((0 = 0) ∧ ((List.length b) = (List.length b))))
 (.test (decide ((0 = 0) ∧ ((List.length t510) = (List.length t510))))
 (.ret (((), ((), ((), (t511, (t512, (! z1)))))), (a, (b, t510))))
 .fail)
 .fail)
 .fail))
 .fail)))
 .fail)
noncomputable def l_FnFlipsChange_R62 (v : ((Unit × Unit × Unit × Unit × Int × Int) × (List ((Int × Int)) × List ((Int × Int)) × (Int × Int) × List ((Int × Int))))) : Option ((Unit × Unit × Unit × Int × Int × Bool) × (List ((Int × Int)) × List ((Int × Int)) × List ((Int × Int)))) := (l_FnFlipsChange_R62_step v).run

def l_FnFlipsChange_L60_sh : LSh := ⟨(fun ex => match ex with | .norm => [(44, none), (45, none), (510, none), (511, none), (512, none)] | .exit i => if i = 4 then [] else [] | .ret => [(4, none)]), [(44, (.one (.rw 0 0))), (45, (.one (.rw 1 0))), (510, (.one (.rw 2 0))), (511, (.one (.si .i64))), (512, (.one (.si .i64)))], [(.row 0 (.pair (.int .i64) (.int .i64))), (.row 0 (.pair (.int .i64) (.int .i64))), (.row 0 (.pair (.int .i64) (.int .i64)))], [⟨.ret, [(4, (.one .sb))], []⟩, ⟨(.exit 4), [], []⟩], [], []⟩
noncomputable def l_FnFlipsChange_L60_step : ((Unit × Unit × Unit × Int × Int) × (List ((Int × Int)) × List ((Int × Int)) × List ((Int × Int)))) → T (((Unit × Unit × Unit × Int × Int) × (List ((Int × Int)) × List ((Int × Int)) × List ((Int × Int)))) ⊕ (Bool ⊕ Unit)) := fun (((), (), (), t511, t512), (a, b, t510)) =>
 (.test (decide (t512 < t511))
 (.test (decide ((0 ≤ t512) ∧ (t512 < ((List.length t510) : Int))))
 (.sub (t510[(0 + (Int.toNat t512))]?) fun z0 =>
 (.test (decide ((0 = 0) ∧ ((List.length a) = (List.length a))))
 (.test (decide ((0 = 0) ∧ ((List.length b) = (List.length b))))
 (.test (decide ((0 = 0) ∧ ((List.length t510) = (List.length t510))))
 (.sub (l_FnFlipsChange_R62 (((), ((), ((), ((), (t511, t512))))), (a, (b, (z0, t510))))) fun z1 =>
 (.test z1.1.2.2.2.2.2
 (.ret (Sum.inr (Sum.inl false)))
 (.test (decide ((0 = 0) ∧ ((List.length z1.2.1) = (List.length z1.2.1))))
 (.test (decide ((0 = 0) ∧ ((List.length z1.2.2.1) = (List.length z1.2.2.1))))
 (.test (decide ((0 = 0) ∧ ((List.length z1.2.2.2) = (List.length z1.2.2.2))))
 (.ret (Sum.inl (((), ((), ((), (z1.1.2.2.2.1, (w64 (z1.1.2.2.2.2.1 + 1)))))), z1.2)))
 .fail)
 .fail)
 .fail)))
 .fail)
 .fail)
 .fail))
 .fail)
 (.ret (Sum.inr (Sum.inr ()))))
noncomputable def l_FnFlipsChange_L60 (v : ((Unit × Unit × Unit × Int × Int) × (List ((Int × Int)) × List ((Int × Int)) × List ((Int × Int))))) : Option (Bool ⊕ Unit) := loopO (fun v => (l_FnFlipsChange_L60_step v).run) v

def l_FnFlipsChange_fo : List FO := [⟨[(.one .sb)], []⟩]
noncomputable def l_FnFlipsChange_t : (List (Int) × List (Int)) → T Bool := fun (code, more) =>
 (.sub (F107 (code, more)) fun z0 =>
 (.test z0
 (.ret true)
 (.sub (F22 code) fun z1 =>
 (.test (decide ((0 + (List.length z1.2)) ≤ (List.length z1.2)))
 (.sub (F41 (z1.1.1, ((win z1.2 0 (List.length z1.2)), z1.1.2.2))) fun z2 =>
 (.test (decide ((0 + (List.length z1.2)) ≤ (List.length z1.2)))
 (.sub (F42 (z1.1.1, ((win z1.2 0 (List.length z1.2)), z1.1.2.2))) fun z3 =>
 (.test (decide ((0 + (List.length z1.2)) ≤ (List.length z1.2)))
 (.sub (F39 (z1.1.1, ((win z1.2 0 (List.length z1.2)), z1.1.2.2))) fun z4 =>
 (.test (decide ((0 + (List.length z1.2)) ≤ (List.length z1.2)))
 (.sub (F40 (z1.1.1, ((win z1.2 0 (List.length z1.2)), z1.1.2.2))) fun z5 =>
 (.test (decide ((0 + (List.length z1.2)) ≤ (List.length z1.2)))
 (.sub (F34 (z1.1.1, ((win z1.2 0 (List.length z1.2)), z1.1.2.2))) fun z6 =>
 (.test (decide ((0 + (List.length z1.2)) ≤ (List.length z1.2)))
 (.sub (F35 (z1.1.1, ((win z1.2 0 (List.length z1.2)), z1.1.2.2))) fun z7 =>
 (.test (decide ((0 = 0) ∧ ((List.length z1.2) = (List.length z1.2))))
 (.test (decide ((0 = 0) ∧ ((List.length z2.2) = (List.length z2.2))))
 (.test (decide ((0 = 0) ∧ ((List.length z3.2) = (List.length z3.2))))
 (.test (decide ((0 = 0) ∧ ((List.length z6.2) = (List.length z6.2))))
 (.test (decide ((0 = 0) ∧ ((List.length z7.2) = (List.length z7.2))))
 (.sub (l_FnFlipsChange_R10 ((more, (z1.1.1, ((), ((), ((), (z2.1.2, ((), (z3.1.2, ((), (z4.2, ((), (z5.2, ((), (z6.1.2, ((), z7.1.2))))))))))))))), (z1.2, (z1.1.2.2, (z2.2, (z3.2, (z4.1, (z5.1, (z6.2, z7.2))))))))) fun z8 =>
 (.test z8.1.2.2.2.2.2.2.2.2
 (.ret false)
 (.test (decide ((0 = 0) ∧ ((List.length z8.2.1) = (List.length z8.2.1))))
 (.test (decide ((0 = 0) ∧ ((List.length z8.2.2.2.1) = (List.length z8.2.2.2.1))))
 (.test (decide ((0 = 0) ∧ ((List.length z8.2.2.2.2.2) = (List.length z8.2.2.2.2.2))))
 (.sub (l_FnFlipsChange_C13 ((z8.1.1, (z8.1.2.1, ((), ((), ((), (z8.1.2.2.2.2.2.1, ((), ()))))))), z8.2)) fun z9 =>
 (.test (Sum.isLeft z9)
 (.sub (Sum.getLeft? z9) fun z10 =>
 (.ret z10))
 (.sub (Sum.getRight? z9) fun z11 =>
 (.sub (F44 z11) fun z12 =>
 (.test (decide ((0 + (List.length z12.2)) ≤ (List.length z12.2)))
 (.sub (F64 (z12.1.1, (win z12.2 0 (List.length z12.2)))) fun z13 =>
 (.test (decide ((0 + (List.length z12.2)) ≤ (List.length z12.2)))
 (.sub (F65 (z12.1.1, (win z12.2 0 (List.length z12.2)))) fun z14 =>
 (.sub (F24 z11) fun z15 =>
 (.test (decide ((0 + (List.length z15.2.1)) ≤ (List.length z15.2.1)))
 (.test (decide ((0 + (List.length z15.2.2)) ≤ (List.length z15.2.2)))
 (.sub (F43 (z15.1.1, ((win z15.2.1 0 (List.length z15.2.1)), (win z15.2.2 0 (List.length z15.2.2))))) fun z16 =>
 (.test (decide ((0 + (List.length z15.2.1)) ≤ (List.length z15.2.1)))
 (.test (decide ((0 + (List.length z15.2.2)) ≤ (List.length z15.2.2)))
 (.sub (F45 (z15.1.1, ((win z15.2.1 0 (List.length z15.2.1)), (win z15.2.2 0 (List.length z15.2.2))))) fun z17 =>
 (.test (decide ((0 + (List.length z15.2.1)) ≤ (List.length z15.2.1)))
 (.test (decide ((0 + (List.length z15.2.2)) ≤ (List.length z15.2.2)))
 (.sub (F28 (z15.1.1, ((win z15.2.1 0 (List.length z15.2.1)), (win z15.2.2 0 (List.length z15.2.2))))) fun z18 =>
 (.test (decide ((0 + (List.length z15.2.1)) ≤ (List.length z15.2.1)))
 (.test (decide ((0 + (List.length z15.2.2)) ≤ (List.length z15.2.2)))
 (.sub (F30 (z15.1.1, ((win z15.2.1 0 (List.length z15.2.1)), (win z15.2.2 0 (List.length z15.2.2))))) fun z19 =>
 (.test (decide ((0 + (List.length z15.2.1)) ≤ (List.length z15.2.1)))
 (.test (decide ((0 + (List.length z15.2.2)) ≤ (List.length z15.2.2)))
 (.sub (F25 (z15.1.1, ((win z15.2.1 0 (List.length z15.2.1)), (win z15.2.2 0 (List.length z15.2.2))))) fun z20 =>
 (.test (decide ((0 + (List.length z15.2.1)) ≤ (List.length z15.2.1)))
 (.test (decide ((0 + (List.length z15.2.2)) ≤ (List.length z15.2.2)))
 (.sub (F26 (z15.1.1, ((win z15.2.1 0 (List.length z15.2.1)), (win z15.2.2 0 (List.length z15.2.2))))) fun z21 =>
 (.test (decide ((0 = 0) ∧ ((List.length z12.2) = (List.length z12.2))))
 (.test (decide ((0 = 0) ∧ ((List.length z13.2) = (List.length z13.2))))
 (.test (decide ((0 = 0) ∧ ((List.length z14.2) = (List.length z14.2))))
 (.test (decide ((0 = 0) ∧ ((List.length z15.2.1) = (List.length z15.2.1))))
 (.test (decide ((0 = 0) ∧ ((List.length z15.2.2) = (List.length z15.2.2))))
 (.test (decide ((0 = 0) ∧ ((List.length z18.2) = (List.length z18.2))))
 (.test (decide ((0 = 0) ∧ ((List.length z19.2) = (List.length z19.2))))
 (.sub (l_FnFlipsChange_R43 ((z12.1.1, ((), ((), (z13.1.2, ((), (z14.1.2, (z15.1.1, ((), ((), ((), (z16.2, ((), (z17.2, ((), (z18.1.2, ((), (z19.1.2, (z20.1, (z20.2, z21))))))))))))))))))), (z12.2, (z13.2, (z14.2, (z15.2.1, (z15.2.2, (z16.1, (z17.1, (z18.2, z19.2)))))))))) fun z22 =>
 (.test z22.1.2.2.2.2.2.2.2.2.2.2.2
 (.ret false)
 (.test (decide ((0 = 0) ∧ ((List.length z22.2.1) = (List.length z22.2.1))))
 (.test (decide ((0 = 0) ∧ ((List.length z22.2.2.1) = (List.length z22.2.2.1))))
 (.test (decide ((0 = 0) ∧ ((List.length z22.2.2.2.1) = (List.length z22.2.2.2.1))))
 (.test (decide ((0 = 0) ∧ ((List.length z22.2.2.2.2.1) = (List.length z22.2.2.2.2.1))))
 (.test (decide ((0 = 0) ∧ ((List.length z22.2.2.2.2.2) = (List.length z22.2.2.2.2.2))))
 (.sub (l_FnFlipsChange_C46 ((z22.1.1, ((), ((), (z22.1.2.2.2.1, (z22.1.2.2.2.2.1, ((), ((), (z22.1.2.2.2.2.2.2.2.1, ((), (z22.1.2.2.2.2.2.2.2.2.2.1, z22.1.2.2.2.2.2.2.2.2.2.2.1)))))))))), z22.2)) fun z23 =>
 (.test (Sum.isLeft z23)
 (.sub (Sum.getLeft? z23) fun z24 =>
 (.ret z24))
 (.sub (Sum.getRight? z23) fun z25 =>
 (.test z25.1.2.2.2.2.2.1
 (.test (decide ((0 + (List.length z25.2.2.1)) ≤ (List.length z25.2.2.1)))
 (.test (decide ((0 + (List.length z25.2.1)) ≤ (List.length z25.2.1)))
 (.sub (F25 (z25.1.1, ((win z25.2.2.1 0 (List.length z25.2.2.1)), (win z25.2.1 0 (List.length z25.2.1))))) fun z26 =>
 (.test (decide ((0 = 0) ∧ ((List.length z25.2.1) = (List.length z25.2.1))))
 (.test (decide ((0 = 0) ∧ ((List.length z25.2.2.1) = (List.length z25.2.2.1))))
 (.test (decide ((0 = 0) ∧ ((List.length z25.2.2.2) = (List.length z25.2.2.2))))
 (.sub (l_FnFlipsChange_R57 ((z25.1.1, ((), ((), (z25.1.2.2.2.1, ((), (z25.1.2.2.2.2.2.2, z26)))))), z25.2)) fun z27 =>
 (.test z27.1.2.2.2
 (.ret false)
 (.test (decide ((0 = 0) ∧ ((List.length z27.2.1) = (List.length z27.2.1))))
 (.test (decide ((0 = 0) ∧ ((List.length z27.2.2.1) = (List.length z27.2.2.1))))
 (.test (decide ((0 = 0) ∧ ((List.length z27.2.2.2) = (List.length z27.2.2.2))))
 (.sub (l_FnFlipsChange_L60 (((), ((), ((), (((List.length z27.2.2.2) : Int), (0 : Int))))), z27.2)) fun z28 =>
 (.test (Sum.isLeft z28)
 (.sub (Sum.getLeft? z28) fun z29 =>
 (.ret z29))
 (.sub (Sum.getRight? z28) fun z30 =>
 (.ret true))))
 .fail)
 .fail)
 .fail)))
 .fail)
 .fail)
 .fail))
 .fail)
 .fail)
 (.ret true)))))
 .fail)
 .fail)
 .fail)
 .fail)
 .fail)))
 .fail)
 .fail)
 .fail)
 .fail)
 .fail)
 .fail)
 .fail))
 .fail)
 .fail))
 .fail)
 .fail))
 .fail)
 .fail))
 .fail)
 .fail))
 .fail)
 .fail))
 .fail)
 .fail)))
 .fail))
 .fail)))))
 .fail)
 .fail)
 .fail)))
 .fail)
 .fail)
 .fail)
 .fail)
 .fail))
 .fail))
 .fail))
 .fail))
 .fail))
 .fail))
 .fail))))
noncomputable def l_FnFlipsChange (v : (List (Int) × List (Int))) : Option Bool := (l_FnFlipsChange_t v).run
noncomputable def l_FnFlipsChange_E : TEnv := (((((((((((((((((((((((((E0.add1 n_F107 F107_sh F107_fo F107).add1 n_F22 F22_sh F22_fo F22).add1 n_F41 F41_sh F41_fo F41).add1 n_F42 F42_sh F42_fo F42).add1 n_F39 F39_sh F39_fo F39).add1 n_F40 F40_sh F40_fo F40).add1 n_F34 F34_sh F34_fo F34).add1 n_F35 F35_sh F35_fo F35).add1 n_F90 F90_sh F90_fo F90).add1 n_F91 F91_sh F91_fo F91).add1 n_F27 F27_sh F27_fo F27).add1 n_F112 F112_sh F112_fo F112).add1 n_F28 F28_sh F28_fo F28).add1 n_F43 F43_sh F43_fo F43).add1 n_F73 F73_sh F73_fo F73).add1 n_F56 F56_sh F56_fo F56).add1 n_F44 F44_sh F44_fo F44).add1 n_F64 F64_sh F64_fo F64).add1 n_F65 F65_sh F65_fo F65).add1 n_F24 F24_sh F24_fo F24).add1 n_F45 F45_sh F45_fo F45).add1 n_F30 F30_sh F30_fo F30).add1 n_F25 F25_sh F25_fo F25).add1 n_F26 F26_sh F26_fo F26).add1 n_F82 F82_sh F82_fo F82)
theorem l_FnFlipsChange_Eok : (l_FnFlipsChange_E).OK := (((((((((((((((((((((((((E0ok.add1 F107_ok).add1 F22_ok).add1 F41_ok).add1 F42_ok).add1 F39_ok).add1 F40_ok).add1 F34_ok).add1 F35_ok).add1 F90_ok).add1 F91_ok).add1 F27_ok).add1 F112_ok).add1 F28_ok).add1 F43_ok).add1 F73_ok).add1 F56_ok).add1 F44_ok).add1 F64_ok).add1 F65_ok).add1 F24_ok).add1 F45_ok).add1 F30_ok).add1 F25_ok).add1 F26_ok).add1 F82_ok)
noncomputable def l_FnFlipsChange_told : Nat → Option SealT := fun id => if id = 2000010 then some (LSh.cut l_FnFlipsChange_R10_sh 0 [(1, none), (5, none), (6, none), (7, none), (8, none), (9, none), (10, none), (11, none), (12, none), (13, none), (14, none), (15, none), (16, none), (17, none), (18, none), (19, none)] (l_FnFlipsChange_R10)) else if id = 2000020 then some (LSh.cut l_FnFlipsChange_R20_sh 0 [(1, none), (5, none), (6, none), (7, none), (8, none), (12, none), (16, none), (20, none), (21, none), (22, none), (23, none), (24, none), (25, none), (26, none), (27, none), (28, none), (29, none), (30, none), (31, none), (32, none), (33, none)] (l_FnFlipsChange_R20)) else if id = 2000026 then some (LSh.cut l_FnFlipsChange_R26_sh 0 [(1, none), (7, none), (12, none), (30, none), (32, none), (34, none), (35, none), (36, none), (288, none), (289, none), (290, none)] (l_FnFlipsChange_R26)) else if id = 1000027 then some (LSh.cut l_FnFlipsChange_C27_sh 0 [(1, none), (7, none), (12, none), (30, none), (32, none), (34, none), (35, none), (36, none), (288, none), (289, none), (290, none)] (l_FnFlipsChange_C27)) else if id = 2000028 then some (LSh.cut l_FnFlipsChange_R28_sh 0 [(1, none), (7, none), (12, none), (30, none), (32, none), (34, none), (35, none), (36, none), (288, none), (289, none), (290, none)] (l_FnFlipsChange_R28)) else if id = 1000029 then some (LSh.cut l_FnFlipsChange_C29_sh 0 [(1, none), (7, none), (12, none), (30, none), (32, none), (34, none), (35, none), (36, none), (288, none), (289, none), (290, none)] (l_FnFlipsChange_C29)) else if id = 2000030 then some (LSh.cut l_FnFlipsChange_R30_sh 0 [(1, none), (7, none), (12, none), (30, none), (32, none), (34, none), (35, none), (36, none), (288, none), (289, none), (290, none)] (l_FnFlipsChange_R30)) else if id = 23 then some (LSh.told l_FnFlipsChange_L23_sh 0 (l_FnFlipsChange_L23_step)) else if id = 1000013 then some (LSh.cut l_FnFlipsChange_C13_sh 0 [(1, none), (5, none), (6, none), (7, none), (8, none), (9, none), (12, none), (16, none)] (l_FnFlipsChange_C13)) else if id = 2000043 then some (LSh.cut l_FnFlipsChange_R43_sh 0 [(37, none), (38, none), (39, none), (40, none), (41, none), (42, none), (43, none), (44, none), (45, none), (46, none), (47, none), (48, none), (49, none), (50, none), (51, none), (52, none), (53, none), (54, none), (55, none), (56, none), (57, none)] (l_FnFlipsChange_R43)) else if id = 2000050 then some (LSh.cut l_FnFlipsChange_R50_sh 0 [(37, none), (38, none), (39, none), (43, none), (44, none), (45, none), (47, none), (50, none), (51, none), (54, none), (59, none), (60, none), (61, none), (443, none), (444, none), (445, none)] (l_FnFlipsChange_R50)) else if id = 47 then some (LSh.told l_FnFlipsChange_L47_sh 0 (l_FnFlipsChange_L47_step)) else if id = 1000046 then some (LSh.cut l_FnFlipsChange_C46_sh 0 [(37, none), (38, none), (39, none), (40, none), (43, none), (44, none), (45, none), (47, none), (50, none), (51, none), (54, none)] (l_FnFlipsChange_C46)) else if id = 2000057 then some (LSh.cut l_FnFlipsChange_R57_sh 0 [(43, none), (44, none), (45, none), (47, none), (50, none), (54, none), (62, none), (63, none)] (l_FnFlipsChange_R57)) else if id = 2000062 then some (LSh.cut l_FnFlipsChange_R62_sh 0 [(44, none), (45, none), (65, none), (510, none), (511, none), (512, none)] (l_FnFlipsChange_R62)) else if id = 60 then some (LSh.told l_FnFlipsChange_L60_sh 0 (l_FnFlipsChange_L60_step)) else none
theorem l_FnFlipsChange_R10_ok : CutOK Tryz.prog 0 (cutAt (loopAt (bodyOf fn_l_FnFlipsChange) []) 12) (LSh.cut l_FnFlipsChange_R10_sh 0 [(1, none), (5, none), (6, none), (7, none), (8, none), (9, none), (10, none), (11, none), (12, none), (13, none), (14, none), (15, none), (16, none), (17, none), (18, none), (19, none)] (l_FnFlipsChange_R10)) :=
  cut_ok (E := l_FnFlipsChange_E) (l_FnFlipsChange_Eok) (told := l_FnFlipsChange_told) (l := l_FnFlipsChange_R10_sh) (head := [(1, none), (5, none), (6, none), (7, none), (8, none), (9, none), (10, none), (11, none), (12, none), (13, none), (14, none), (15, none), (16, none), (17, none), (18, none), (19, none)]) (F := l_FnFlipsChange_R10_step) (loopsOK_of2 (ls := []) (cs := []) (by kernel_rfl) trivial (by kernel_rfl) trivial) (fun v => by kernel_rfl)
theorem l_FnFlipsChange_R20_ok : CutOK Tryz.prog 0 (cutAt (loopAt (bodyOf fn_l_FnFlipsChange) []) 24) (LSh.cut l_FnFlipsChange_R20_sh 0 [(1, none), (5, none), (6, none), (7, none), (8, none), (12, none), (16, none), (20, none), (21, none), (22, none), (23, none), (24, none), (25, none), (26, none), (27, none), (28, none), (29, none), (30, none), (31, none), (32, none), (33, none)] (l_FnFlipsChange_R20)) :=
  cut_ok (E := l_FnFlipsChange_E) (l_FnFlipsChange_Eok) (told := l_FnFlipsChange_told) (l := l_FnFlipsChange_R20_sh) (head := [(1, none), (5, none), (6, none), (7, none), (8, none), (12, none), (16, none), (20, none), (21, none), (22, none), (23, none), (24, none), (25, none), (26, none), (27, none), (28, none), (29, none), (30, none), (31, none), (32, none), (33, none)]) (F := l_FnFlipsChange_R20_step) (loopsOK_of2 (ls := []) (cs := []) (by kernel_rfl) trivial (by kernel_rfl) trivial) (fun v => by kernel_rfl)
theorem l_FnFlipsChange_R26_ok : CutOK Tryz.prog 0 (cutAt (loopAt (bodyOf fn_l_FnFlipsChange) [0]) 5) (LSh.cut l_FnFlipsChange_R26_sh 0 [(1, none), (7, none), (12, none), (30, none), (32, none), (34, none), (35, none), (36, none), (288, none), (289, none), (290, none)] (l_FnFlipsChange_R26)) :=
  cut_ok (E := l_FnFlipsChange_E) (l_FnFlipsChange_Eok) (told := l_FnFlipsChange_told) (l := l_FnFlipsChange_R26_sh) (head := [(1, none), (7, none), (12, none), (30, none), (32, none), (34, none), (35, none), (36, none), (288, none), (289, none), (290, none)]) (F := l_FnFlipsChange_R26_step) (loopsOK_of2 (ls := []) (cs := []) (by kernel_rfl) trivial (by kernel_rfl) trivial) (fun v => by kernel_rfl)
theorem l_FnFlipsChange_C27_ok : CutOK Tryz.prog 0 (cutAt (loopAt (bodyOf fn_l_FnFlipsChange) [0]) 4) (LSh.cut l_FnFlipsChange_C27_sh 0 [(1, none), (7, none), (12, none), (30, none), (32, none), (34, none), (35, none), (36, none), (288, none), (289, none), (290, none)] (l_FnFlipsChange_C27)) :=
  cut_ok (E := l_FnFlipsChange_E) (l_FnFlipsChange_Eok) (told := l_FnFlipsChange_told) (l := l_FnFlipsChange_C27_sh) (head := [(1, none), (7, none), (12, none), (30, none), (32, none), (34, none), (35, none), (36, none), (288, none), (289, none), (290, none)]) (F := l_FnFlipsChange_C27_step) (loopsOK_of2 (ls := []) (cs := [cutAt (loopAt (bodyOf fn_l_FnFlipsChange) [0]) 5]) (by kernel_rfl) trivial (by kernel_rfl) ⟨.inr ⟨_, by kernel_rfl, l_FnFlipsChange_R26_ok⟩, trivial⟩) (fun v => by kernel_rfl)
theorem l_FnFlipsChange_R28_ok : CutOK Tryz.prog 0 (cutAt (loopAt (bodyOf fn_l_FnFlipsChange) [0]) 7) (LSh.cut l_FnFlipsChange_R28_sh 0 [(1, none), (7, none), (12, none), (30, none), (32, none), (34, none), (35, none), (36, none), (288, none), (289, none), (290, none)] (l_FnFlipsChange_R28)) :=
  cut_ok (E := l_FnFlipsChange_E) (l_FnFlipsChange_Eok) (told := l_FnFlipsChange_told) (l := l_FnFlipsChange_R28_sh) (head := [(1, none), (7, none), (12, none), (30, none), (32, none), (34, none), (35, none), (36, none), (288, none), (289, none), (290, none)]) (F := l_FnFlipsChange_R28_step) (loopsOK_of2 (ls := []) (cs := []) (by kernel_rfl) trivial (by kernel_rfl) trivial) (fun v => by kernel_rfl)
theorem l_FnFlipsChange_C29_ok : CutOK Tryz.prog 0 (cutAt (loopAt (bodyOf fn_l_FnFlipsChange) [0]) 6) (LSh.cut l_FnFlipsChange_C29_sh 0 [(1, none), (7, none), (12, none), (30, none), (32, none), (34, none), (35, none), (36, none), (288, none), (289, none), (290, none)] (l_FnFlipsChange_C29)) :=
  cut_ok (E := l_FnFlipsChange_E) (l_FnFlipsChange_Eok) (told := l_FnFlipsChange_told) (l := l_FnFlipsChange_C29_sh) (head := [(1, none), (7, none), (12, none), (30, none), (32, none), (34, none), (35, none), (36, none), (288, none), (289, none), (290, none)]) (F := l_FnFlipsChange_C29_step) (loopsOK_of2 (ls := []) (cs := [cutAt (loopAt (bodyOf fn_l_FnFlipsChange) [0]) 7]) (by kernel_rfl) trivial (by kernel_rfl) ⟨.inr ⟨_, by kernel_rfl, l_FnFlipsChange_R28_ok⟩, trivial⟩) (fun v => by kernel_rfl)
theorem l_FnFlipsChange_R30_ok : CutOK Tryz.prog 0 (cutAt (loopAt (bodyOf fn_l_FnFlipsChange) [0]) 8) (LSh.cut l_FnFlipsChange_R30_sh 0 [(1, none), (7, none), (12, none), (30, none), (32, none), (34, none), (35, none), (36, none), (288, none), (289, none), (290, none)] (l_FnFlipsChange_R30)) :=
  cut_ok (E := l_FnFlipsChange_E) (l_FnFlipsChange_Eok) (told := l_FnFlipsChange_told) (l := l_FnFlipsChange_R30_sh) (head := [(1, none), (7, none), (12, none), (30, none), (32, none), (34, none), (35, none), (36, none), (288, none), (289, none), (290, none)]) (F := l_FnFlipsChange_R30_step) (loopsOK_of2 (ls := []) (cs := []) (by kernel_rfl) trivial (by kernel_rfl) trivial) (fun v => by kernel_rfl)
theorem l_FnFlipsChange_L23_ok : ToldOK Tryz.prog 0 (loopAt (bodyOf fn_l_FnFlipsChange) [0]) (LSh.told l_FnFlipsChange_L23_sh 0 (l_FnFlipsChange_L23_step)) :=
  loop_ok (E := l_FnFlipsChange_E) (l_FnFlipsChange_Eok) (told := l_FnFlipsChange_told) (l := l_FnFlipsChange_L23_sh) (step := l_FnFlipsChange_L23_step) (loopsOK_of2 (ls := []) (cs := [cutAt (loopAt (bodyOf fn_l_FnFlipsChange) [0]) 0, cutAt (loopAt (bodyOf fn_l_FnFlipsChange) [0]) 1, cutAt (loopAt (bodyOf fn_l_FnFlipsChange) [0]) 2, cutAt (loopAt (bodyOf fn_l_FnFlipsChange) [0]) 3, cutAt (loopAt (bodyOf fn_l_FnFlipsChange) [0]) 4, cutAt (loopAt (bodyOf fn_l_FnFlipsChange) [0]) 5, cutAt (loopAt (bodyOf fn_l_FnFlipsChange) [0]) 6, cutAt (loopAt (bodyOf fn_l_FnFlipsChange) [0]) 7, cutAt (loopAt (bodyOf fn_l_FnFlipsChange) [0]) 8, cutAt (loopAt (bodyOf fn_l_FnFlipsChange) [0]) 9]) (by kernel_rfl) trivial (by kernel_rfl) ⟨.inl (by kernel_rfl), ⟨.inl (by kernel_rfl), ⟨.inl (by kernel_rfl), ⟨.inl (by kernel_rfl), ⟨.inr ⟨_, by kernel_rfl, l_FnFlipsChange_C27_ok⟩, ⟨.inr ⟨_, by kernel_rfl, l_FnFlipsChange_R26_ok⟩, ⟨.inr ⟨_, by kernel_rfl, l_FnFlipsChange_C29_ok⟩, ⟨.inr ⟨_, by kernel_rfl, l_FnFlipsChange_R28_ok⟩, ⟨.inr ⟨_, by kernel_rfl, l_FnFlipsChange_R30_ok⟩, ⟨.inl (by kernel_rfl), trivial⟩⟩⟩⟩⟩⟩⟩⟩⟩⟩) (by kernel_rfl) (fun v => by kernel_rfl)
theorem l_FnFlipsChange_C13_ok : CutOK Tryz.prog 0 (cutAt (loopAt (bodyOf fn_l_FnFlipsChange) []) 14) (LSh.cut l_FnFlipsChange_C13_sh 0 [(1, none), (5, none), (6, none), (7, none), (8, none), (9, none), (12, none), (16, none)] (l_FnFlipsChange_C13)) :=
  cut_ok (E := l_FnFlipsChange_E) (l_FnFlipsChange_Eok) (told := l_FnFlipsChange_told) (l := l_FnFlipsChange_C13_sh) (head := [(1, none), (5, none), (6, none), (7, none), (8, none), (9, none), (12, none), (16, none)]) (F := l_FnFlipsChange_C13_step) (loopsOK_of2 (ls := [loopAt (bodyOf fn_l_FnFlipsChange) [0]]) (cs := [cutAt (loopAt (bodyOf fn_l_FnFlipsChange) []) 15, cutAt (loopAt (bodyOf fn_l_FnFlipsChange) []) 16, cutAt (loopAt (bodyOf fn_l_FnFlipsChange) []) 17, cutAt (loopAt (bodyOf fn_l_FnFlipsChange) []) 18, cutAt (loopAt (bodyOf fn_l_FnFlipsChange) []) 19, cutAt (loopAt (bodyOf fn_l_FnFlipsChange) []) 20, cutAt (loopAt (bodyOf fn_l_FnFlipsChange) []) 21, cutAt (loopAt (bodyOf fn_l_FnFlipsChange) []) 22, cutAt (loopAt (bodyOf fn_l_FnFlipsChange) []) 23, cutAt (loopAt (bodyOf fn_l_FnFlipsChange) []) 24, cutAt (loopAt (bodyOf fn_l_FnFlipsChange) []) 25, cutAt (loopAt (bodyOf fn_l_FnFlipsChange) []) 26]) (by kernel_rfl) ⟨.inr ⟨_, by kernel_rfl, l_FnFlipsChange_L23_ok⟩, trivial⟩ (by kernel_rfl) ⟨.inl (by kernel_rfl), ⟨.inl (by kernel_rfl), ⟨.inl (by kernel_rfl), ⟨.inl (by kernel_rfl), ⟨.inl (by kernel_rfl), ⟨.inl (by kernel_rfl), ⟨.inl (by kernel_rfl), ⟨.inl (by kernel_rfl), ⟨.inl (by kernel_rfl), ⟨.inr ⟨_, by kernel_rfl, l_FnFlipsChange_R20_ok⟩, ⟨.inl (by kernel_rfl), ⟨.inl (by kernel_rfl), trivial⟩⟩⟩⟩⟩⟩⟩⟩⟩⟩⟩⟩) (fun v => by kernel_rfl)
theorem l_FnFlipsChange_R43_ok : CutOK Tryz.prog 0 (cutAt (loopAt (bodyOf fn_l_FnFlipsChange) []) 38) (LSh.cut l_FnFlipsChange_R43_sh 0 [(37, none), (38, none), (39, none), (40, none), (41, none), (42, none), (43, none), (44, none), (45, none), (46, none), (47, none), (48, none), (49, none), (50, none), (51, none), (52, none), (53, none), (54, none), (55, none), (56, none), (57, none)] (l_FnFlipsChange_R43)) :=
  cut_ok (E := l_FnFlipsChange_E) (l_FnFlipsChange_Eok) (told := l_FnFlipsChange_told) (l := l_FnFlipsChange_R43_sh) (head := [(37, none), (38, none), (39, none), (40, none), (41, none), (42, none), (43, none), (44, none), (45, none), (46, none), (47, none), (48, none), (49, none), (50, none), (51, none), (52, none), (53, none), (54, none), (55, none), (56, none), (57, none)]) (F := l_FnFlipsChange_R43_step) (loopsOK_of2 (ls := []) (cs := []) (by kernel_rfl) trivial (by kernel_rfl) trivial) (fun v => by kernel_rfl)
theorem l_FnFlipsChange_R50_ok : CutOK Tryz.prog 0 (cutAt (loopAt (bodyOf fn_l_FnFlipsChange) [1]) 4) (LSh.cut l_FnFlipsChange_R50_sh 0 [(37, none), (38, none), (39, none), (43, none), (44, none), (45, none), (47, none), (50, none), (51, none), (54, none), (59, none), (60, none), (61, none), (443, none), (444, none), (445, none)] (l_FnFlipsChange_R50)) :=
  cut_ok (E := l_FnFlipsChange_E) (l_FnFlipsChange_Eok) (told := l_FnFlipsChange_told) (l := l_FnFlipsChange_R50_sh) (head := [(37, none), (38, none), (39, none), (43, none), (44, none), (45, none), (47, none), (50, none), (51, none), (54, none), (59, none), (60, none), (61, none), (443, none), (444, none), (445, none)]) (F := l_FnFlipsChange_R50_step) (loopsOK_of2 (ls := []) (cs := []) (by kernel_rfl) trivial (by kernel_rfl) trivial) (fun v => by kernel_rfl)
theorem l_FnFlipsChange_L47_ok : ToldOK Tryz.prog 0 (loopAt (bodyOf fn_l_FnFlipsChange) [1]) (LSh.told l_FnFlipsChange_L47_sh 0 (l_FnFlipsChange_L47_step)) :=
  loop_ok (E := l_FnFlipsChange_E) (l_FnFlipsChange_Eok) (told := l_FnFlipsChange_told) (l := l_FnFlipsChange_L47_sh) (step := l_FnFlipsChange_L47_step) (loopsOK_of2 (ls := []) (cs := [cutAt (loopAt (bodyOf fn_l_FnFlipsChange) [1]) 0, cutAt (loopAt (bodyOf fn_l_FnFlipsChange) [1]) 1, cutAt (loopAt (bodyOf fn_l_FnFlipsChange) [1]) 2, cutAt (loopAt (bodyOf fn_l_FnFlipsChange) [1]) 3, cutAt (loopAt (bodyOf fn_l_FnFlipsChange) [1]) 4, cutAt (loopAt (bodyOf fn_l_FnFlipsChange) [1]) 5]) (by kernel_rfl) trivial (by kernel_rfl) ⟨.inl (by kernel_rfl), ⟨.inl (by kernel_rfl), ⟨.inl (by kernel_rfl), ⟨.inl (by kernel_rfl), ⟨.inr ⟨_, by kernel_rfl, l_FnFlipsChange_R50_ok⟩, ⟨.inl (by kernel_rfl), trivial⟩⟩⟩⟩⟩⟩) (by kernel_rfl) (fun v => by kernel_rfl)
theorem l_FnFlipsChange_C46_ok : CutOK Tryz.prog 0 (cutAt (loopAt (bodyOf fn_l_FnFlipsChange) []) 40) (LSh.cut l_FnFlipsChange_C46_sh 0 [(37, none), (38, none), (39, none), (40, none), (43, none), (44, none), (45, none), (47, none), (50, none), (51, none), (54, none)] (l_FnFlipsChange_C46)) :=
  cut_ok (E := l_FnFlipsChange_E) (l_FnFlipsChange_Eok) (told := l_FnFlipsChange_told) (l := l_FnFlipsChange_C46_sh) (head := [(37, none), (38, none), (39, none), (40, none), (43, none), (44, none), (45, none), (47, none), (50, none), (51, none), (54, none)]) (F := l_FnFlipsChange_C46_step) (loopsOK_of2 (ls := [loopAt (bodyOf fn_l_FnFlipsChange) [1]]) (cs := [cutAt (loopAt (bodyOf fn_l_FnFlipsChange) []) 41, cutAt (loopAt (bodyOf fn_l_FnFlipsChange) []) 42, cutAt (loopAt (bodyOf fn_l_FnFlipsChange) []) 43, cutAt (loopAt (bodyOf fn_l_FnFlipsChange) []) 44]) (by kernel_rfl) ⟨.inr ⟨_, by kernel_rfl, l_FnFlipsChange_L47_ok⟩, trivial⟩ (by kernel_rfl) ⟨.inl (by kernel_rfl), ⟨.inl (by kernel_rfl), ⟨.inl (by kernel_rfl), ⟨.inl (by kernel_rfl), trivial⟩⟩⟩⟩) (fun v => by kernel_rfl)
theorem l_FnFlipsChange_R57_ok : CutOK Tryz.prog 0 (cutAt (loopAt (bodyOf fn_l_FnFlipsChange) []) 49) (LSh.cut l_FnFlipsChange_R57_sh 0 [(43, none), (44, none), (45, none), (47, none), (50, none), (54, none), (62, none), (63, none)] (l_FnFlipsChange_R57)) :=
  cut_ok (E := l_FnFlipsChange_E) (l_FnFlipsChange_Eok) (told := l_FnFlipsChange_told) (l := l_FnFlipsChange_R57_sh) (head := [(43, none), (44, none), (45, none), (47, none), (50, none), (54, none), (62, none), (63, none)]) (F := l_FnFlipsChange_R57_step) (loopsOK_of2 (ls := []) (cs := []) (by kernel_rfl) trivial (by kernel_rfl) trivial) (fun v => by kernel_rfl)
theorem l_FnFlipsChange_R62_ok : CutOK Tryz.prog 0 (cutAt (loopAt (bodyOf fn_l_FnFlipsChange) [2]) 3) (LSh.cut l_FnFlipsChange_R62_sh 0 [(44, none), (45, none), (65, none), (510, none), (511, none), (512, none)] (l_FnFlipsChange_R62)) :=
  cut_ok (E := l_FnFlipsChange_E) (l_FnFlipsChange_Eok) (told := l_FnFlipsChange_told) (l := l_FnFlipsChange_R62_sh) (head := [(44, none), (45, none), (65, none), (510, none), (511, none), (512, none)]) (F := l_FnFlipsChange_R62_step) (loopsOK_of2 (ls := []) (cs := []) (by kernel_rfl) trivial (by kernel_rfl) trivial) (fun v => by kernel_rfl)
theorem l_FnFlipsChange_L60_ok : ToldOK Tryz.prog 0 (loopAt (bodyOf fn_l_FnFlipsChange) [2]) (LSh.told l_FnFlipsChange_L60_sh 0 (l_FnFlipsChange_L60_step)) :=
  loop_ok (E := l_FnFlipsChange_E) (l_FnFlipsChange_Eok) (told := l_FnFlipsChange_told) (l := l_FnFlipsChange_L60_sh) (step := l_FnFlipsChange_L60_step) (loopsOK_of2 (ls := []) (cs := [cutAt (loopAt (bodyOf fn_l_FnFlipsChange) [2]) 0, cutAt (loopAt (bodyOf fn_l_FnFlipsChange) [2]) 1, cutAt (loopAt (bodyOf fn_l_FnFlipsChange) [2]) 2, cutAt (loopAt (bodyOf fn_l_FnFlipsChange) [2]) 3, cutAt (loopAt (bodyOf fn_l_FnFlipsChange) [2]) 4]) (by kernel_rfl) trivial (by kernel_rfl) ⟨.inl (by kernel_rfl), ⟨.inl (by kernel_rfl), ⟨.inl (by kernel_rfl), ⟨.inr ⟨_, by kernel_rfl, l_FnFlipsChange_R62_ok⟩, ⟨.inl (by kernel_rfl), trivial⟩⟩⟩⟩⟩) (by kernel_rfl) (fun v => by kernel_rfl)
theorem l_FnFlipsChange_ok : FOK Tryz.prog n_l_FnFlipsChange l_FnFlipsChange_sh l_FnFlipsChange_fo l_FnFlipsChange :=
  fn_ok (E := l_FnFlipsChange_E) (l_FnFlipsChange_Eok) (told := l_FnFlipsChange_told) (fl := []) (c := bodyOf fn_l_FnFlipsChange) (s := l_FnFlipsChange_sh) (l := l_FnFlipsChange_fo) (tree := l_FnFlipsChange_t) fnat_l_FnFlipsChange (by kernel_rfl) (by kernel_rfl) (by kernel_rfl) (loopsOK_of2 (ls := [loopAt (bodyOf fn_l_FnFlipsChange) [0], loopAt (bodyOf fn_l_FnFlipsChange) [1], loopAt (bodyOf fn_l_FnFlipsChange) [2]]) (cs := [cutAt (loopAt (bodyOf fn_l_FnFlipsChange) []) 0, cutAt (loopAt (bodyOf fn_l_FnFlipsChange) []) 1, cutAt (loopAt (bodyOf fn_l_FnFlipsChange) []) 2, cutAt (loopAt (bodyOf fn_l_FnFlipsChange) []) 3, cutAt (loopAt (bodyOf fn_l_FnFlipsChange) []) 4, cutAt (loopAt (bodyOf fn_l_FnFlipsChange) []) 5, cutAt (loopAt (bodyOf fn_l_FnFlipsChange) []) 6, cutAt (loopAt (bodyOf fn_l_FnFlipsChange) []) 7, cutAt (loopAt (bodyOf fn_l_FnFlipsChange) []) 8, cutAt (loopAt (bodyOf fn_l_FnFlipsChange) []) 9, cutAt (loopAt (bodyOf fn_l_FnFlipsChange) []) 10, cutAt (loopAt (bodyOf fn_l_FnFlipsChange) []) 11, cutAt (loopAt (bodyOf fn_l_FnFlipsChange) []) 12, cutAt (loopAt (bodyOf fn_l_FnFlipsChange) []) 13, cutAt (loopAt (bodyOf fn_l_FnFlipsChange) []) 14, cutAt (loopAt (bodyOf fn_l_FnFlipsChange) []) 15, cutAt (loopAt (bodyOf fn_l_FnFlipsChange) []) 16, cutAt (loopAt (bodyOf fn_l_FnFlipsChange) []) 17, cutAt (loopAt (bodyOf fn_l_FnFlipsChange) []) 18, cutAt (loopAt (bodyOf fn_l_FnFlipsChange) []) 19, cutAt (loopAt (bodyOf fn_l_FnFlipsChange) []) 20, cutAt (loopAt (bodyOf fn_l_FnFlipsChange) []) 21, cutAt (loopAt (bodyOf fn_l_FnFlipsChange) []) 22, cutAt (loopAt (bodyOf fn_l_FnFlipsChange) []) 23, cutAt (loopAt (bodyOf fn_l_FnFlipsChange) []) 24, cutAt (loopAt (bodyOf fn_l_FnFlipsChange) []) 25, cutAt (loopAt (bodyOf fn_l_FnFlipsChange) []) 26, cutAt (loopAt (bodyOf fn_l_FnFlipsChange) []) 27, cutAt (loopAt (bodyOf fn_l_FnFlipsChange) []) 28, cutAt (loopAt (bodyOf fn_l_FnFlipsChange) []) 29, cutAt (loopAt (bodyOf fn_l_FnFlipsChange) []) 30, cutAt (loopAt (bodyOf fn_l_FnFlipsChange) []) 31, cutAt (loopAt (bodyOf fn_l_FnFlipsChange) []) 32, cutAt (loopAt (bodyOf fn_l_FnFlipsChange) []) 33, cutAt (loopAt (bodyOf fn_l_FnFlipsChange) []) 34, cutAt (loopAt (bodyOf fn_l_FnFlipsChange) []) 35, cutAt (loopAt (bodyOf fn_l_FnFlipsChange) []) 36, cutAt (loopAt (bodyOf fn_l_FnFlipsChange) []) 37, cutAt (loopAt (bodyOf fn_l_FnFlipsChange) []) 38, cutAt (loopAt (bodyOf fn_l_FnFlipsChange) []) 39, cutAt (loopAt (bodyOf fn_l_FnFlipsChange) []) 40, cutAt (loopAt (bodyOf fn_l_FnFlipsChange) []) 41, cutAt (loopAt (bodyOf fn_l_FnFlipsChange) []) 42, cutAt (loopAt (bodyOf fn_l_FnFlipsChange) []) 43, cutAt (loopAt (bodyOf fn_l_FnFlipsChange) []) 44, cutAt (loopAt (bodyOf fn_l_FnFlipsChange) []) 45, cutAt (loopAt (bodyOf fn_l_FnFlipsChange) []) 46, cutAt (loopAt (bodyOf fn_l_FnFlipsChange) []) 47, cutAt (loopAt (bodyOf fn_l_FnFlipsChange) []) 48, cutAt (loopAt (bodyOf fn_l_FnFlipsChange) []) 49, cutAt (loopAt (bodyOf fn_l_FnFlipsChange) []) 50, cutAt (loopAt (bodyOf fn_l_FnFlipsChange) []) 51, cutAt (loopAt (bodyOf fn_l_FnFlipsChange) []) 52]) (by kernel_rfl) ⟨.inr ⟨_, by kernel_rfl, l_FnFlipsChange_L23_ok⟩, ⟨.inr ⟨_, by kernel_rfl, l_FnFlipsChange_L47_ok⟩, ⟨.inr ⟨_, by kernel_rfl, l_FnFlipsChange_L60_ok⟩, trivial⟩⟩⟩ (by kernel_rfl) ⟨.inl (by kernel_rfl), ⟨.inl (by kernel_rfl), ⟨.inl (by kernel_rfl), ⟨.inl (by kernel_rfl), ⟨.inl (by kernel_rfl), ⟨.inl (by kernel_rfl), ⟨.inl (by kernel_rfl), ⟨.inl (by kernel_rfl), ⟨.inl (by kernel_rfl), ⟨.inl (by kernel_rfl), ⟨.inl (by kernel_rfl), ⟨.inl (by kernel_rfl), ⟨.inr ⟨_, by kernel_rfl, l_FnFlipsChange_R10_ok⟩, ⟨.inl (by kernel_rfl), ⟨.inr ⟨_, by kernel_rfl, l_FnFlipsChange_C13_ok⟩, ⟨.inl (by kernel_rfl), ⟨.inl (by kernel_rfl), ⟨.inl (by kernel_rfl), ⟨.inl (by kernel_rfl), ⟨.inl (by kernel_rfl), ⟨.inl (by kernel_rfl), ⟨.inl (by kernel_rfl), ⟨.inl (by kernel_rfl), ⟨.inl (by kernel_rfl), ⟨.inr ⟨_, by kernel_rfl, l_FnFlipsChange_R20_ok⟩, ⟨.inl (by kernel_rfl), ⟨.inl (by kernel_rfl), ⟨.inl (by kernel_rfl), ⟨.inl (by kernel_rfl), ⟨.inl (by kernel_rfl), ⟨.inl (by kernel_rfl), ⟨.inl (by kernel_rfl), ⟨.inl (by kernel_rfl), ⟨.inl (by kernel_rfl), ⟨.inl (by kernel_rfl), ⟨.inl (by kernel_rfl), ⟨.inl (by kernel_rfl), ⟨.inl (by kernel_rfl), ⟨.inr ⟨_, by kernel_rfl, l_FnFlipsChange_R43_ok⟩, ⟨.inl (by kernel_rfl), ⟨.inr ⟨_, by kernel_rfl, l_FnFlipsChange_C46_ok⟩, ⟨.inl (by kernel_rfl), ⟨.inl (by kernel_rfl), ⟨.inl (by kernel_rfl), ⟨.inl (by kernel_rfl), ⟨.inl (by kernel_rfl), ⟨.inl (by kernel_rfl), ⟨.inl (by kernel_rfl), ⟨.inl (by kernel_rfl), ⟨.inr ⟨_, by kernel_rfl, l_FnFlipsChange_R57_ok⟩, ⟨.inl (by kernel_rfl), ⟨.inl (by kernel_rfl), ⟨.inl (by kernel_rfl), trivial⟩⟩⟩⟩⟩⟩⟩⟩⟩⟩⟩⟩⟩⟩⟩⟩⟩⟩⟩⟩⟩⟩⟩⟩⟩⟩⟩⟩⟩⟩⟩⟩⟩⟩⟩⟩⟩⟩⟩⟩⟩⟩⟩⟩⟩⟩⟩⟩⟩⟩⟩⟩⟩) (fun v => by kernel_rfl)

theorem l_FnFlipsChange_R10_eq (more : List Int) (n : Int) (ds fl : List Dg) (d ot : Dg) (ch : List Int) (ok : Bool) (hds : ds.length ≤ 1000) (hfl : fl.length ≤ 1000) (hch : ch.length ≤ 1000) (hok : ok = (isTri n ds && decide (d ∈ ds))) :
    l_FnFlipsChange_R10 ((more, (n, ((), ((), ((), (ok, ((), (ok, ((), (ok, ((), (ok, ((), (ok, ((), ok))))))))))))))), (ds, (d, (fl, (fl, (ot, (ot, (ch, ch)))))))) = some ((more, (n, ((), ((), ((), (ok, ((), ((), false)))))))), (ds, (d, (fl, (ot, ch))))) := by
  obtain ⟨x, y⟩ := d
  obtain ⟨u, v⟩ := ot
  rw [l_FnFlipsChange_R10, l_FnFlipsChange_R10_step, T.run_test, if_neg (by simp), T.run_test, if_pos (by simp), T.run_test, if_pos (by simp), win_all, T.run_sub, uCuts_val fl fl (by omega), Option.bind_some, T.run_test, if_neg (by simp), T.run_test, if_neg (by simp), T.run_test, if_neg (by simp), T.run_test, if_neg (by simp), T.run_test, if_pos (by simp), T.run_test, if_pos (by simp), win_all, T.run_sub, uSame_val ch ch (by omega), Option.bind_some, T.run_test, if_neg (by simp), T.run_test, if_neg (by simp), T.run_test, if_neg (by simp), T.run_test, if_pos (by simp), win_all, T.run_sub, F27_eq n ds (by omega), Option.bind_some, T.run_test]
  subst hok
  cases h : isTri n ds with
  | true => rw [if_pos rfl, T.run_test, if_pos (by simp), T.run_sub, uIn_val ds _ (by omega), Option.bind_some, T.run_test, if_pos (by simp), T.run_test, if_pos (by simp), T.run_test, if_pos (by simp), T.run_ret]; simp
  | false => rw [if_neg (by decide), T.run_test, if_pos (by simp), T.run_test, if_pos (by simp), T.run_test, if_pos (by simp), T.run_ret]; simp
theorem l_FnFlipsChange_R20_eq (more : List Int) (n : Nat) (ds fl common : List Dg) (d ot : Dg) (ch a b : List Int) (hds : ds.length ≤ 1000) (hfl : fl.length ≤ 1000) (ht : isTri n fl = true) (hcm : (common.length : Int) = (n : Int) - 4) (hin : ot ∈ fl) (hch : ch.length = n) (hn : n ≤ 12) :
    l_FnFlipsChange_R20 ((more, ((n : Int), ((), ((), ((), ((), ((), ((), (true, ((), (true, ((), (true, ((), (true, (true, (true, ((), (true, ((), true)))))))))))))))))))), (ds, (d, (fl, (ot, (ch, (ds, (d, (common, (d, (a, b))))))))))) = some ((more, ((), ((), ((), ((), ((), false)))))), (d, (ot, (ch, (a, b))))) := by
  obtain ⟨x, y⟩ := d
  obtain ⟨u, v⟩ := ot
  have w : w64 ((n : Int) - 4) = (n : Int) - 4 := w64_id (by omega) (by omega)
  rw [l_FnFlipsChange_R20, l_FnFlipsChange_R20_step, T.run_test, if_pos (by simp), win_all, T.run_sub, F27_eq _ fl (by omega), ht, Option.bind_some, T.run_test, if_neg (by simp), T.run_test, if_neg (by simp), T.run_test, if_pos (by simp), T.run_test, if_pos (by simp), win_all, T.run_sub, uCuts_val ds ds (by omega), Option.bind_some, T.run_test, if_neg (by simp), T.run_test, if_neg (by simp), T.run_test, if_neg (by simp), T.run_test, if_neg (by simp), T.run_test, w, if_neg (by simp [hcm]), T.run_test, if_neg (by simp), T.run_test, if_neg (by simp), T.run_test, if_neg (by simp), T.run_test, if_neg (by simp), T.run_test, if_pos (by simp), T.run_sub, uIn_val fl _ (by omega), Option.bind_some, T.run_test, if_neg (by simp [hin]), T.run_test, if_neg (by simp), T.run_test, if_neg (by simp), T.run_test, if_pos (by simp), T.run_test, if_pos (by simp), T.run_test, if_pos (by simp), T.run_ret]
  simp [hch]
theorem l_FnFlipsChange_C27_eq (more : List Int) (i x due t1 t2 : Int) (d ot : Dg) (a b ch : List Int) : l_FnFlipsChange_C27 ((more, ((), ((), ((), ((), (i, (x, (due, ((), (t1, t2)))))))))), (d, (ot, (a, (b, ch))))) = some ((more, ((), ((), ((), ((), (i, (x, ((if i = d.1 ∨ i = d.2 then -1 else due), ((), (t1, t2)))))))))), (d, (ot, (a, (b, ch))))) := by
  obtain ⟨p, q⟩ := d
  obtain ⟨u, v⟩ := ot
  have hR : l_FnFlipsChange_R26 ((more, ((), ((), ((), ((), (i, (x, (due, ((), (t1, t2)))))))))), ((p, q), ((u, v), (a, (b, ch))))) = some ((more, ((), ((), ((), ((), (i, (x, (due, ((), (t1, (t2, decide (i = p ∨ i = q)))))))))))), ((p, q), ((u, v), (a, (b, ch))))) := by
    rw [l_FnFlipsChange_R26, l_FnFlipsChange_R26_step, T.run_test]
    by_cases c : i = p
    · rw [if_pos (by simp [c]), T.run_test, if_pos (by simp), T.run_test, if_pos (by simp), T.run_test, if_pos (by simp), T.run_ret, decide_eq_true (.inl c)]
    · rw [if_neg (by simp [c]), T.run_test, if_pos (by simp), T.run_test, if_pos (by simp), T.run_test, if_pos (by simp), T.run_ret]
      have : (i == q) = decide (i = p ∨ i = q) := by rw [Bool.eq_iff_iff]; simp [c]
      rw [this]
  rw [l_FnFlipsChange_C27, l_FnFlipsChange_C27_step, T.run_test, if_pos (by simp), T.run_test, if_pos (by simp), T.run_test, if_pos (by simp), T.run_sub, hR, Option.bind_some, T.run_test]
  dsimp only
  by_cases c : i = p ∨ i = q
  · rw [if_pos (decide_eq_true c), T.run_test, if_pos (by simp), T.run_test, if_pos (by simp), T.run_test, if_pos (by simp), T.run_ret, if_pos c]
  · rw [if_neg (by simpa using c), T.run_test, if_pos (by simp), T.run_test, if_pos (by simp), T.run_test, if_pos (by simp), T.run_ret, if_neg c]
theorem l_FnFlipsChange_C29_eq (more : List Int) (i x due t1 t2 : Int) (d ot : Dg) (a b ch : List Int) : l_FnFlipsChange_C29 ((more, ((), ((), ((), ((), (i, (x, (due, ((), (t1, t2)))))))))), (d, (ot, (a, (b, ch))))) = some ((more, ((), ((), ((), ((), (i, (x, ((if i = ot.1 ∨ i = ot.2 then 1 else due), ((), (t1, t2)))))))))), (d, (ot, (a, (b, ch))))) := by
  obtain ⟨p, q⟩ := d
  obtain ⟨u, v⟩ := ot
  have hR : l_FnFlipsChange_R28 ((more, ((), ((), ((), ((), (i, (x, (due, ((), (t1, t2)))))))))), ((p, q), ((u, v), (a, (b, ch))))) = some ((more, ((), ((), ((), ((), (i, (x, (due, ((), (t1, (t2, decide (i = u ∨ i = v)))))))))))), ((p, q), ((u, v), (a, (b, ch))))) := by
    rw [l_FnFlipsChange_R28, l_FnFlipsChange_R28_step, T.run_test]
    by_cases c : i = u
    · rw [if_pos (by simp [c]), T.run_test, if_pos (by simp), T.run_test, if_pos (by simp), T.run_test, if_pos (by simp), T.run_ret, decide_eq_true (.inl c)]
    · rw [if_neg (by simp [c]), T.run_test, if_pos (by simp), T.run_test, if_pos (by simp), T.run_test, if_pos (by simp), T.run_ret]
      have : (i == v) = decide (i = u ∨ i = v) := by rw [Bool.eq_iff_iff]; simp [c]
      rw [this]
  rw [l_FnFlipsChange_C29, l_FnFlipsChange_C29_step, T.run_test, if_pos (by simp), T.run_test, if_pos (by simp), T.run_test, if_pos (by simp), T.run_sub, hR, Option.bind_some, T.run_test]
  dsimp only
  by_cases c : i = u ∨ i = v
  · rw [if_pos (decide_eq_true c), T.run_test, if_pos (by simp), T.run_test, if_pos (by simp), T.run_test, if_pos (by simp), T.run_ret, if_pos c]
  · rw [if_neg (by simpa using c), T.run_test, if_pos (by simp), T.run_test, if_pos (by simp), T.run_test, if_pos (by simp), T.run_ret, if_neg c]
theorem l_FnFlipsChange_L23_eq (more : List Int) {n : Nat} {ds : List Dg} (h : isTri n ds = true) {d : Dg} (hd : d ∈ ds) : ∀ m k : Nat, k + m = n →
    l_FnFlipsChange_L23 ((more, ((), ((), ((), ((), ((), ((n : Int), (k : Int)))))))), (d, (othD n ds d, (quid n ds, (quid n (flipD n ds d), qcL n (othD n ds d) d))))) = some (.inr more) := by
  obtain ⟨p, q, ht, hp0, hqn, hpq⟩ := thirds_two h hd
  have ho : othD n ds d = (p, q) := by unfold othD; rw [ht]
  have g := tri_rng h
  have gd := g.1 d hd
  have hfc := fun i => flip_cnt h hd i
  have hfl := flip_len h hd
  rw [ho] at hfc ⊢
  intro m
  induction m with
  | zero =>
    intro k hk
    simp only [l_FnFlipsChange_L23]
    refine loopO_done ?_
    obtain ⟨x, y⟩ := d
    rw [l_FnFlipsChange_L23_step, T.run_test, if_neg (by rw [decide_eq_true_eq]; omega), T.run_ret]
  | succ m ih =>
    intro k hk
    rw [← ih (k + 1) (by omega)]
    simp only [l_FnFlipsChange_L23]
    refine loopO_next ?_
    have w1 : w64 ((k : Int) + 1) = ((k + 1 : Nat) : Int) := by rw [w64_id (by omega) (by omega)]; omega
    have qg : ∀ es : List Dg, (quid n es)[k]? = some (1 + cnt es (k : Int)) := fun es => by unfold quid; rw [List.getElem?_map, List.getElem?_range (by omega)]; rfl
    have ql : ∀ es : List Dg, (quid n es).length = n := fun es => by simp [quid]
    have cg : (qcL n (p, q) d)[k]? = some (cntD (p, q) (k : Int) - cntD d (k : Int)) := by unfold qcL; rw [List.getElem?_map, List.getElem?_range (by omega)]; rfl
    have cl : (qcL n (p, q) d).length = n := by simp [qcL]
    have c27 := l_FnFlipsChange_C27_eq more (k : Int) (cntD (p, q) (k : Int) - cntD d (k : Int)) 0 (n : Int) (k : Int) d (p, q) (quid n ds) (quid n (flipD n ds d)) (qcL n (p, q) d)
    have c29 := l_FnFlipsChange_C29_eq more (k : Int) (cntD (p, q) (k : Int) - cntD d (k : Int)) (if (k : Int) = d.1 ∨ (k : Int) = d.2 then -1 else 0) (n : Int) (k : Int) d (p, q) (quid n ds) (quid n (flipD n ds d)) (qcL n (p, q) d)
    have hdue : (if (k : Int) = ((p, q) : Dg).1 ∨ (k : Int) = ((p, q) : Dg).2 then 1 else (if (k : Int) = d.1 ∨ (k : Int) = d.2 then -1 else 0)) = cntD (p, q) (k : Int) - cntD d (k : Int) := by
      unfold cntD
      dsimp only
      split <;> split <;> (try split) <;> (try split) <;> (try split) <;> omega
    have b1 := cnt_nn ds (k : Int)
    have b2 := cnt_nn (flipD n ds d) (k : Int)
    have hv : w64 (1 + cnt (flipD n ds d) (k : Int) - (1 + cnt ds (k : Int))) = cntD (p, q) (k : Int) - cntD d (k : Int) := by
      rw [w64_id (by omega) (by omega), hfc]; omega
    have hk0 : ((qcL n (p, q) d)[k]? = some (cntD (p, q) (k : Int) - cntD d (k : Int))) := cg
    obtain ⟨x, y⟩ := d
    generalize cntD (p, q) (k : Int) - cntD (x, y) (k : Int) = X at *
    have r30 : l_FnFlipsChange_R30 ((more, ((), ((), ((), ((), ((k : Int), (X, (X, ((), ((n : Int), (k : Int))))))))))), ((x, y), ((p, q), (quid n ds, (quid n (flipD n ds (x, y)), qcL n (p, q) (x, y)))))) = some ((more, ((), ((), ((), ((), ((), ((n : Int), ((k : Int), false)))))))), ((x, y), ((p, q), (quid n ds, (quid n (flipD n ds (x, y)), qcL n (p, q) (x, y)))))) := by
      rw [l_FnFlipsChange_R30, l_FnFlipsChange_R30_step, T.run_test, if_neg (by simp), T.run_test, if_pos (decide_eq_true (by rw [ql]; omega)), T.run_sub, Nat.zero_add, Int.toNat_natCast, qg, Option.bind_some, T.run_test, if_pos (decide_eq_true (by rw [ql]; omega)), T.run_sub, qg, Option.bind_some, T.run_test, if_pos (by simp), T.run_test, if_pos (by simp), T.run_test, if_pos (by simp), T.run_ret, hv]
      simp
    rw [hdue] at c29
    rw [l_FnFlipsChange_L23_step, T.run_test, if_pos (decide_eq_true (by omega)), T.run_test, if_pos (decide_eq_true (by rw [cl]; omega)), T.run_sub, Nat.zero_add, Int.toNat_natCast, cg, Option.bind_some, T.run_test, if_pos (by simp), T.run_test, if_pos (by simp), T.run_test, if_pos (by simp), T.run_sub, c27, Option.bind_some, T.run_test, if_pos (by simp), T.run_test, if_pos (by simp), T.run_test, if_pos (by simp), T.run_sub, c29, Option.bind_some, T.run_test, if_pos (by simp), T.run_test, if_pos (by simp), T.run_test, if_pos (by simp), T.run_sub, r30, Option.bind_some, T.run_test, if_neg (by simp), T.run_test, if_pos (by simp), T.run_test, if_pos (by simp), T.run_test, if_pos (by simp), T.run_ret]
    dsimp only
    rw [w1]
theorem l_FnFlipsChange_C13_eq (more : List Int) (n : Int) (ds fl : List Dg) (d ot : Dg) (ch : List Int) (ok : Bool) (hok : ok = (isTri n ds && decide (d ∈ ds))) (hl : ds.length ≤ 1000) (h1 : ok = true → fl = flipD n.toNat ds d ∧ ot = othD n.toNat ds d ∧ ch = qcL n.toNat ot d) :
    l_FnFlipsChange_C13 ((more, (n, ((), ((), ((), (ok, ((), ()))))))), (ds, (d, (fl, (ot, ch))))) = some (.inr more) := by
  cases hc : ok with
  | false =>
    obtain ⟨x, y⟩ := d
    obtain ⟨u, v⟩ := ot
    rw [l_FnFlipsChange_C13, l_FnFlipsChange_C13_step, T.run_test, if_neg (by simp), T.run_ret]
  | true =>
    rw [hc] at hok h1
    obtain ⟨rfl, rfl, rfl⟩ := h1 rfl
    have hok := hok.symm
    rw [Bool.and_eq_true, decide_eq_true_eq] at hok
    obtain ⟨ht, hd⟩ := hok
    have hn := (isTri_iff _ _).1 ht
    obtain ⟨N, rfl⟩ := Int.eq_ofNat_of_zero_le (show 0 ≤ n by omega)
    rw [Int.toNat_natCast]
    have hft := flip_tri ht hd
    have hfl := flip_len ht hd
    have hof := (flip_mem ht (d := d) (f := othD N ds d)).2 (.inr rfl)
    have hb := flip_back ht hd
    have o := oth_facts ht hd
    have g := tri_rng ht
    have gd := g.1 d hd
    have e1 := F41_eq (N : Int) (flipD N ds d) (othD N ds d) (by omega)
    unfold flR at e1
    rw [if_pos ⟨hft, hof⟩, Int.toNat_natCast, hb.2] at e1
    have e2 := F39_eq (N : Int) (flipD N ds d) (othD N ds d) (by omega)
    unfold otR at e2
    rw [if_pos ⟨hft, hof⟩, Int.toNat_natCast, hb.1] at e2
    have e3 := F28_eq (N : Int) ds (flipD N ds d) hl (by omega)
    unfold coR at e3
    rw [if_pos ⟨ht, hft⟩] at e3
    have e4 := F43_eq (N : Int) ds (flipD N ds d) hl (by omega)
    rw [apart_fst ht hd] at e4
    have e5 := F73_eq (n := (N : Int)) (d := d) (e := othD N ds d) (inB_iff.2 (by omega)) (inDg_iff.2 (by omega)) o.2.1
    rw [o.2.2.1] at e5
    have e6 := F56_tri ht
    have e7 := F56_tri hft
    have r20 := l_FnFlipsChange_R20_eq more N ds (flipD N ds d) (ds.filter fun f => decide (f ∈ flipD N ds d)) d (othD N ds d) (qcL N (othD N ds d) d) (quid N ds) (quid N (flipD N ds d)) hl (by omega) hft (common_flip ht hd) hof (by simp [qcL]) (by omega)
    have l23 := l_FnFlipsChange_L23_eq more ht hd N 0 (by omega)
    have cl : (qcL N (othD N ds d) d).length = N := by simp [qcL]
    generalize hO : othD N ds d = ot at *
    obtain ⟨x, y⟩ := d
    obtain ⟨u, v⟩ := ot
    have l23' : l_FnFlipsChange_L23 ((more, ((), ((), ((), ((), ((), ((N : Int), (0 : Int)))))))), ((x, y), ((u, v), (quid N ds, (quid N (flipD N ds (x, y)), qcL N (u, v) (x, y)))))) = some (.inr more) := l23
    rw [l_FnFlipsChange_C13, l_FnFlipsChange_C13_step, T.run_test, if_pos rfl, T.run_test, if_pos (by simp), win_all, T.run_sub, e1, Option.bind_some, T.run_test, if_pos (by simp), T.run_sub, e2, Option.bind_some, T.run_test, if_pos (by simp), T.run_test, if_pos (by simp), win_all, T.run_sub, e3, Option.bind_some, T.run_test, if_pos (by simp), T.run_test, if_pos (by simp), T.run_sub, e4, Option.bind_some, T.run_sub, e5, Option.bind_some, T.run_test, if_pos (by simp), T.run_sub, e6, Option.bind_some, T.run_test, if_pos (by simp), T.run_sub, e7, Option.bind_some]
    repeat rw [T.run_test, if_pos (by simp)]
    rw [T.run_sub, r20, Option.bind_some, T.run_test, if_neg (by simp)]
    repeat rw [T.run_test, if_pos (by simp)]
    rw [T.run_sub]
    dsimp only
    rw [cl, l23', Option.bind_some, T.run_test, if_neg (by simp [Sum.isLeft]), T.run_sub]
    simp only [Sum.getRight?, Option.bind_some]
    rw [T.run_ret]
theorem l_FnFlipsChange_R43_eq (m p : Int) (es a b common : List Dg) (all : List (List Dg)) (five seven nine : Bool) (apart : Dg) (cr : Int) (hall : all.length ≤ 1000) (hx : ∀ x ∈ all, x.length ≤ 1000) (hcm : common.length ≤ 1000) :
    l_FnFlipsChange_R43 ((m, ((), ((), (five, ((), (five, (p, ((), ((), ((), (seven, ((), (seven, ((), (nine, ((), (nine, (cr, (nine, (cr, nine)))))))))))))))))))), (es, (all, (all, (a, (b, (apart, (apart, (common, common))))))))) = some ((m, ((), ((), (five, (p, ((), ((), (seven, ((), (nine, (cr, false))))))))))), (es, (all, (a, (b, common))))) := by
  obtain ⟨x, y⟩ := apart
  rw [l_FnFlipsChange_R43, l_FnFlipsChange_R43_step, T.run_test, if_neg (by simp), T.run_test, if_pos (by simp), T.run_test, if_pos (by simp), win_all, T.run_sub, uLists_val all all (by omega) (fun x h => by have := hx x h; omega), Option.bind_some, T.run_test, if_neg (by simp), T.run_test, if_neg (by simp), T.run_test, if_neg (by simp), T.run_test, if_neg (by simp), T.run_test, if_pos (by simp), T.run_test, if_pos (by simp), win_all, T.run_sub, uCuts_val common common (by omega), Option.bind_some, T.run_test, if_neg (by simp), T.run_test, if_neg (by simp), T.run_test, if_neg (by simp)]
  repeat rw [T.run_test, if_pos (by simp)]
  rw [T.run_ret]
  simp
theorem l_FnFlipsChange_L47_eq (p : Int) {N : Nat} {es : List Dg} (h : isTri N es = true) (a b common : List Dg) (seven nine : Bool) (cr : Int) : ∀ m k : Nat, k + m = es.length →
    l_FnFlipsChange_L47 (((N : Int), ((), ((), (p, ((), ((), (seven, ((), (nine, (cr, ((), ((es.length : Int), (k : Int))))))))))))), (es, (es.map (flipD N es), (a, (b, common))))) = some (.inr (((N : Int), ((), (p, ((), ((), (seven, ((), (nine, cr)))))))), (es.map (flipD N es), (a, (b, common))))) := by
  have g := tri_rng h
  intro m
  induction m with
  | zero =>
    intro k hk
    simp only [l_FnFlipsChange_L47]
    refine loopO_done ?_
    rw [l_FnFlipsChange_L47_step, T.run_test, if_neg (by rw [decide_eq_true_eq]; omega)]
    repeat rw [T.run_test, if_pos (by simp)]
    rw [T.run_ret]
  | succ m ih =>
    intro k hk
    rw [← ih (k + 1) (by omega)]
    simp only [l_FnFlipsChange_L47]
    refine loopO_next ?_
    have w1 : w64 ((k : Int) + 1) = ((k + 1 : Nat) : Int) := by rw [w64_id (by omega) (by omega)]; omega
    have hlt : k < es.length := by omega
    have hg := gD_some hlt
    have hm := List.mem_of_getElem? hg
    have hag : (es.map (flipD N es))[k]? = some (flipD N es (gD es k)) := by rw [List.getElem?_map, hg]; rfl
    have hal : (es.map (flipD N es)).length = es.length := List.length_map _
    have e1 := F41_eq (N : Int) es (gD es k) (by omega)
    unfold flR at e1
    rw [if_pos ⟨h, hm⟩, Int.toNat_natCast] at e1
    have hfl := flip_len h hm
    generalize gD es k = d at *
    generalize es.map (flipD N es) = all at *
    have r50 : l_FnFlipsChange_R50 (((N : Int), ((), ((), (p, ((), ((), (seven, ((), (nine, (cr, (flipD N es d, ((), (true, ((), ((es.length : Int), (k : Int)))))))))))))))), (es, (all, (a, (b, (common, flipD N es d)))))) = some (((N : Int), ((), ((), (p, ((), ((), (seven, ((), (nine, (cr, ((), ((es.length : Int), ((k : Int), false)))))))))))))  , (es, (all, (a, (b, common))))) := by
      rw [l_FnFlipsChange_R50, l_FnFlipsChange_R50_step, T.run_test, if_neg (by simp), T.run_test, if_pos (by simp), win_all, T.run_sub, uCuts_val _ _ (by omega), Option.bind_some]
      repeat rw [T.run_test, if_pos (by simp)]
      rw [T.run_ret]
      simp
    rw [l_FnFlipsChange_L47_step, T.run_test, if_pos (decide_eq_true (by omega)), T.run_test, if_pos (decide_eq_true (by omega)), T.run_sub, Nat.zero_add, Int.toNat_natCast, hag, Option.bind_some, T.run_test, if_pos (decide_eq_true (by omega)), T.run_sub, hg, Option.bind_some, T.run_test, if_pos (by simp), win_all, T.run_sub, e1, Option.bind_some]
    repeat rw [T.run_test, if_pos (by simp)]
    rw [T.run_sub, r50, Option.bind_some, T.run_test, if_neg (by simp)]
    repeat rw [T.run_test, if_pos (by simp)]
    rw [T.run_ret]
    dsimp only
    rw [w1]
theorem l_FnFlipsChange_C46_eq (m p : Int) (es a b common : List Dg) (all : List (List Dg)) (five seven nine : Bool) (cr : Int) (h5 : five = isTri m es) (hall : five = true → all = es.map (flipD m.toNat es)) :
    l_FnFlipsChange_C46 ((m, ((), ((), (five, (p, ((), ((), (seven, ((), (nine, cr)))))))))), (es, (all, (a, (b, common))))) = some (.inr ((p, ((), ((), (seven, ((), (nine, cr)))))), (a, (b, common)))) := by
  rw [l_FnFlipsChange_C46, l_FnFlipsChange_C46_step, T.run_test]
  cases hc : five with
  | false =>
    rw [if_neg (by decide)]
    repeat rw [T.run_test, if_pos (by simp)]
    rw [T.run_ret]
  | true =>
    rw [hc] at h5 hall
    obtain rfl := hall rfl
    have ht := h5.symm
    have hn := (isTri_iff _ _).1 ht
    obtain ⟨N, rfl⟩ := Int.eq_ofNat_of_zero_le (show 0 ≤ m by omega)
    rw [Int.toNat_natCast]
    have w : w64 ((N : Int) - 3) = (N : Int) - 3 := w64_id (by omega) (by omega)
    have hl := l_FnFlipsChange_L47_eq p ht a b common seven nine cr es.length 0 (by omega)
    have hal : (es.map (flipD N es)).length = es.length := List.length_map _
    rw [if_pos rfl]
    repeat rw [T.run_test, if_pos (by simp)]
    rw [T.run_sub, hal]
    have hl' : l_FnFlipsChange_L47 (((N : Int), ((), ((), (p, ((), ((), (seven, ((), (nine, (cr, ((), ((es.length : Int), (0 : Int))))))))))))), (es, (es.map (flipD N es), (a, (b, common))))) = _ := hl
    rw [hl', Option.bind_some, T.run_test, if_neg (by simp [Sum.isLeft]), T.run_sub]
    simp only [Sum.getRight?, Option.bind_some]
    rw [T.run_test, w, if_neg (by rw [hal]; simp; omega)]
    repeat rw [T.run_test, if_pos (by simp)]
    rw [T.run_ret]
theorem l_FnFlipsChange_R57_eq {n : Nat} {a b : List Dg} (ha : isTri n a = true) (hb : isTri n b = true) (seven : Bool) (h7 : seven = (decide (((a.filter fun f => decide (f ∈ b)).length : Int) = (n : Int) - 4) && decide ((n : Int) > 3))) :
    l_FnFlipsChange_R57 (((n : Int), ((), ((), (seven, ((), ((crN a b : Int), ((crN b a : Int), true))))))), (a, (b, a.filter fun f => decide (f ∈ b)))) = some (((), ((), ((), false))), (a, (b, a.filter fun f => decide (f ∈ b)))) := by
  have g := tri_rng ha
  have w : w64 ((n : Int) - 4) = (n : Int) - 4 := w64_id (by omega) (by omega)
  have hz := crN_zero ha hb
  rw [crN_comm b a]
  have hz' : (((crN a b : Int) == 0) == decide (a = b)) = true := by
    rw [beq_iff_eq, Bool.eq_iff_iff, beq_iff_eq, decide_eq_true_eq, ← hz]; omega
  generalize hcm : (a.filter fun f => decide (f ∈ b)) = common at *
  rw [l_FnFlipsChange_R57, l_FnFlipsChange_R57_step, T.run_test, if_neg (by simp), T.run_test, if_neg (by simp), T.run_test, if_pos (by simp), T.run_test, if_pos (by simp), win_all, win_all, T.run_sub, uCuts_val a b (by omega), Option.bind_some, T.run_test, hz', if_neg (by decide), T.run_test, w]
  by_cases c : (common.length : Int) = (n : Int) - 4
  · rw [if_pos (by simpa using c)]
    repeat rw [T.run_test, if_pos (by simp)]
    rw [T.run_ret, h7, decide_eq_true c]
    simp
  · rw [if_neg (by simpa using c)]
    repeat rw [T.run_test, if_pos (by simp)]
    rw [T.run_ret, h7, decide_eq_false c]
    simp
theorem l_FnFlipsChange_L60_eq (a b : List Dg) (ha : a.length ≤ 1000) (hb : b.length ≤ 1000) (cm : List Dg) (hm : ∀ x ∈ cm, x ∈ a ∧ x ∈ b) (hl : cm.length ≤ 1000) : ∀ m k : Nat, k + m = cm.length →
    l_FnFlipsChange_L60 (((), ((), ((), ((cm.length : Int), (k : Int))))), (a, (b, cm))) = some (.inr ()) := by
  intro m
  induction m with
  | zero =>
    intro k hk
    simp only [l_FnFlipsChange_L60]
    refine loopO_done ?_
    rw [l_FnFlipsChange_L60_step, T.run_test, if_neg (by rw [decide_eq_true_eq]; omega), T.run_ret]
  | succ m ih =>
    intro k hk
    rw [← ih (k + 1) (by omega)]
    simp only [l_FnFlipsChange_L60]
    refine loopO_next ?_
    have w1 : w64 ((k : Int) + 1) = ((k + 1 : Nat) : Int) := by rw [w64_id (by omega) (by omega)]; omega
    have hg := gD_some (l := cm) (p := k) (by omega)
    have hx := hm _ (List.mem_of_getElem? hg)
    generalize gD cm k = d at *
    have r62 : l_FnFlipsChange_R62 (((), ((), ((), ((), ((cm.length : Int), (k : Int)))))), (a, (b, (d, cm)))) = some (((), ((), ((), ((cm.length : Int), ((k : Int), false))))), (a, (b, cm))) := by
      have u1 := uIn_val a d (by omega)
      have u2 := uIn_val b d (by omega)
      rw [decide_eq_true hx.1] at u1
      rw [decide_eq_true hx.2] at u2
      obtain ⟨x, y⟩ := d
      rw [l_FnFlipsChange_R62, l_FnFlipsChange_R62_step, T.run_test, if_pos (by simp), win_all, T.run_sub, u1, Option.bind_some, T.run_test, if_neg (by simp), T.run_test, if_pos (by simp), win_all, T.run_sub, u2, Option.bind_some]
      repeat rw [T.run_test, if_pos (by simp)]
      rw [T.run_ret]
      rfl
    rw [l_FnFlipsChange_L60_step, T.run_test, if_pos (decide_eq_true (by omega)), T.run_test, if_pos (decide_eq_true (by omega)), T.run_sub, Nat.zero_add, Int.toNat_natCast, hg, Option.bind_some]
    repeat rw [T.run_test, if_pos (by simp)]
    rw [T.run_sub, r62, Option.bind_some, T.run_test, if_neg (by simp)]
    repeat rw [T.run_test, if_pos (by simp)]
    rw [T.run_ret]
    dsimp only
    rw [w1]
theorem l_FnFlipsChange_true (v : List Int × List Int) (hs : smallL ASh.small [.one (.sl (.int .u8) false true), .one (.sl (.int .u8) false true)] v) : l_FnFlipsChange v = some true := by
  obtain ⟨code, more⟩ := v
  have hb : ∀ l : List Int, (∀ x ∈ l, wfE (.int .u8) x) → bytesOK l := fun l h x hx => by
    have := h x hx
    simp [wfE, Lit.wf, IntKind.min, IntKind.max, IntKind.signed, IntKind.bits] at this
    omega
  have b1 : bytesOK code := hb code hs.1.2
  have b2 : bytesOK more := hb more hs.2.2
  obtain ⟨b, hbig⟩ : ∃ b, F107 (code, more) = some b := by
    rw [F107, F107_t, T.run_test]
    split
    · exact ⟨_, rfl⟩
    · exact ⟨_, rfl⟩
  obtain ⟨n, d, ds, d1, hds⟩ := F22_some b1
  obtain ⟨fl, ot, ch, hfo, hfl, hch, fi, fs, oi, osx, qi, qs⟩ : ∃ fl ot ch, ((isTri n ds && decide (d ∈ ds)) = true → fl = flipD n.toNat ds d ∧ ot = othD n.toNat ds d ∧ ch = qcL n.toNat ot d) ∧ fl.length ≤ 1000 ∧ ch.length ≤ 1000 ∧
      F41 (n, (ds, d)) = some (((), isTri n ds && decide (d ∈ ds)), fl) ∧ F42 (n, (ds, d)) = some (((), isTri n ds && decide (d ∈ ds)), fl) ∧
      F39 (n, (ds, d)) = some (ot, isTri n ds && decide (d ∈ ds)) ∧ F40 (n, (ds, d)) = some (ot, isTri n ds && decide (d ∈ ds)) ∧
      F34 (n, (ds, d)) = some (((), isTri n ds && decide (d ∈ ds)), ch) ∧ F35 (n, (ds, d)) = some (((), isTri n ds && decide (d ∈ ds)), ch) := by
    rw [F41_eq n ds d (by omega), F42_eq n ds d (by omega), F39_eq n ds d (by omega), F40_eq n ds d (by omega), F34_eq n ds d (by omega), F35_eq n ds d (by omega)]
    unfold flR otR qcR
    by_cases c : isTri n ds = true ∧ d ∈ ds
    · have hn := (isTri_iff _ _).1 c.1
      obtain ⟨N, rfl⟩ := Int.eq_ofNat_of_zero_le (show 0 ≤ n by omega)
      have := flip_len c.1 c.2
      simp only [if_pos c, Int.toNat_natCast]
      rw [c.1, decide_eq_true c.2]
      exact ⟨_, _, _, fun _ => ⟨rfl, rfl, rfl⟩, by omega, by simp [qcL]; omega, rfl, rfl, rfl, rfl, rfl, rfl⟩
    · simp only [if_neg c]
      have : (isTri n ds && decide (d ∈ ds)) = false := by rw [← Bool.not_eq_true, Bool.and_eq_true, decide_eq_true_eq]; exact c
      rw [this]
      exact ⟨[], (0, 0), [], fun h => by simp at h, by simp, by simp, rfl, rfl, rfl, rfl, rfl, rfl⟩
  have r10 := l_FnFlipsChange_R10_eq more n ds fl d ot ch _ (by omega) hfl hch rfl
  have c13 := l_FnFlipsChange_C13_eq more n ds fl d ot ch _ rfl (by omega) hfo
  obtain ⟨m, es, d2, hes⟩ := F44_some b2
  obtain ⟨all, hall, hallen, hallx, ai, asx⟩ : ∃ all, (isTri m es = true → all = es.map (flipD m.toNat es)) ∧ all.length ≤ 1000 ∧ (∀ x ∈ all, x.length ≤ 1000) ∧ F64 (m, es) = some (((), isTri m es), all) ∧ F65 (m, es) = some (((), isTri m es), all) := by
    rw [F64_eq m es (by omega), F65_eq m es (by omega)]
    unfold alR
    by_cases c : isTri m es = true
    · have hn := (isTri_iff _ _).1 c
      obtain ⟨N, rfl⟩ := Int.eq_ofNat_of_zero_le (show 0 ≤ m by omega)
      rw [c, if_pos rfl, Int.toNat_natCast]
      refine ⟨_, fun _ => rfl, by rw [List.length_map]; omega, fun x hx => ?_, rfl, rfl⟩
      obtain ⟨e, he, rfl⟩ := List.mem_map.1 hx
      have := flip_len c he
      omega
    · have c' : isTri m es = false := by simpa using c
      rw [c', if_neg (by decide)]
      exact ⟨[], fun h => by simp at h, by simp, by simp, rfl, rfl⟩
  obtain ⟨p, a, b', d3, hla, hlb⟩ := F24_some b2
  have pi := F43_eq p a b' (by omega) (by omega)
  have ps := F45_eq p a b' (by omega) (by omega)
  obtain ⟨common, hcm, hcml, ci, cs⟩ : ∃ common, ((isTri p a && isTri p b') = true → common = a.filter fun f => decide (f ∈ b')) ∧ common.length ≤ 1000 ∧ F28 (p, (a, b')) = some (((), isTri p a && isTri p b'), common) ∧ F30 (p, (a, b')) = some (((), isTri p a && isTri p b'), common) := by
    rw [F28_eq p a b' (by omega) (by omega), F30_eq p a b' (by omega) (by omega)]
    unfold coR
    by_cases c : isTri p a = true ∧ isTri p b' = true
    · rw [if_pos c, c.1, c.2]
      have := List.length_filter_le (fun f => decide (f ∈ b')) a
      exact ⟨_, fun _ => rfl, by omega, rfl, rfl⟩
    · rw [if_neg c]
      have : (isTri p a && isTri p b') = false := by rw [← Bool.not_eq_true, Bool.and_eq_true]; exact c
      rw [this]
      exact ⟨[], fun h => by simp at h, by simp, rfl, rfl⟩
  obtain ⟨cr, hcr, xi, xs⟩ : ∃ cr, ((isTri p a && isTri p b') = true → cr = (crN a b' : Int)) ∧ F25 (p, (a, b')) = some (cr, isTri p a && isTri p b') ∧ F26 (p, (a, b')) = some (cr, isTri p a && isTri p b') := by
    rw [F25_eq p a b' (by omega) (by omega), F26_eq p a b' (by omega) (by omega)]
    unfold crR
    by_cases c : isTri p a = true ∧ isTri p b' = true
    · rw [if_pos c, c.1, c.2]
      exact ⟨_, fun _ => rfl, rfl, rfl⟩
    · rw [if_neg c]
      have : (isTri p a && isTri p b') = false := by rw [← Bool.not_eq_true, Bool.and_eq_true]; exact c
      rw [this]
      exact ⟨0, fun h => by simp at h, rfl, rfl⟩
  have r43 := l_FnFlipsChange_R43_eq m p es a b' common all (isTri m es) (apR p a b').2 (isTri p a && isTri p b') (apR p a b').1 cr hallen hallx hcml
  have c46 := l_FnFlipsChange_C46_eq m p es a b' common all (isTri m es) (apR p a b').2 (isTri p a && isTri p b') cr rfl hall
  rw [l_FnFlipsChange, l_FnFlipsChange_t, T.run_sub, hbig, Option.bind_some, T.run_test]
  cases b with
  | true => rfl
  | false =>
    rw [if_neg (by simp), T.run_sub, d1, Option.bind_some, T.run_test, if_pos (by simp), win_all, T.run_sub, fi, Option.bind_some, T.run_test, if_pos (by simp), T.run_sub, fs, Option.bind_some, T.run_test, if_pos (by simp), T.run_sub, oi, Option.bind_some, T.run_test, if_pos (by simp), T.run_sub, osx, Option.bind_some, T.run_test, if_pos (by simp), T.run_sub, qi, Option.bind_some, T.run_test, if_pos (by simp), T.run_sub, qs, Option.bind_some]
    repeat rw [T.run_test, if_pos (by simp)]
    rw [T.run_sub, r10, Option.bind_some, T.run_test, if_neg (by simp)]
    repeat rw [T.run_test, if_pos (by simp)]
    rw [T.run_sub, c13, Option.bind_some, T.run_test, if_neg (by simp [Sum.isLeft]), T.run_sub]
    simp only [Sum.getRight?, Option.bind_some]
    rw [T.run_sub, d2, Option.bind_some, T.run_test, if_pos (by simp), win_all, T.run_sub, ai, Option.bind_some, T.run_test, if_pos (by simp), T.run_sub, asx, Option.bind_some, T.run_sub, d3, Option.bind_some, T.run_test, if_pos (by simp), T.run_test, if_pos (by simp), win_all, win_all, T.run_sub, pi, Option.bind_some, T.run_test, if_pos (by simp), T.run_test, if_pos (by simp), T.run_sub, ps, Option.bind_some, T.run_test, if_pos (by simp), T.run_test, if_pos (by simp), T.run_sub, ci, Option.bind_some, T.run_test, if_pos (by simp), T.run_test, if_pos (by simp), T.run_sub, cs, Option.bind_some, T.run_test, if_pos (by simp), T.run_test, if_pos (by simp), T.run_sub, xi, Option.bind_some, T.run_test, if_pos (by simp), T.run_test, if_pos (by simp), T.run_sub, xs, Option.bind_some]
    repeat rw [T.run_test, if_pos (by simp)]
    rw [T.run_sub, r43, Option.bind_some, T.run_test, if_neg (by simp)]
    repeat rw [T.run_test, if_pos (by simp)]
    rw [T.run_sub, c46, Option.bind_some, T.run_test, if_neg (by simp [Sum.isLeft]), T.run_sub]
    simp only [Sum.getRight?, Option.bind_some]
    rw [T.run_test]
    cases h9 : isTri p a && isTri p b' with
    | false => rfl
    | true =>
      obtain rfl := hcm h9
      obtain rfl := hcr h9
      rw [Bool.and_eq_true] at h9
      have hn := (isTri_iff _ _).1 h9.1
      obtain ⟨N, rfl⟩ := Int.eq_ofNat_of_zero_le (show 0 ≤ p by omega)
      have x2 := F25_eq (N : Int) b' a (by omega) (by omega)
      unfold crR at x2
      rw [if_pos ⟨h9.2, h9.1⟩] at x2
      have r57 := l_FnFlipsChange_R57_eq h9.1 h9.2 (apR (N : Int) a b').2 (apart_iff h9.1 h9.2)
      have l60 := l_FnFlipsChange_L60_eq a b' (by omega) (by omega) (a.filter fun f => decide (f ∈ b')) (fun x hx => by
        obtain ⟨x1, x2⟩ := List.mem_filter.1 hx
        exact ⟨x1, of_decide_eq_true x2⟩) hcml _ 0 (Nat.zero_add _)
      have l60' : l_FnFlipsChange_L60 (((), ((), ((), (((a.filter fun f => decide (f ∈ b')).length : Int), (0 : Int))))), (a, (b', a.filter fun f => decide (f ∈ b')))) = _ := l60
      rw [if_pos (by rfl), T.run_test, if_pos (by simp), T.run_test, if_pos (by simp), win_all, win_all, T.run_sub, x2, Option.bind_some]
      repeat rw [T.run_test, if_pos (by simp)]
      rw [T.run_sub, r57, Option.bind_some, T.run_test, if_neg (by simp)]
      repeat rw [T.run_test, if_pos (by simp)]
      rw [T.run_sub, l60', Option.bind_some]
      rfl


end Go.Proofs.W
