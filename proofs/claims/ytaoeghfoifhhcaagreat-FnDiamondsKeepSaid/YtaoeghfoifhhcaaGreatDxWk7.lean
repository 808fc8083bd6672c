/- Functions of the program, walked, and what they compute. -/
import Derived.Test.YtaoeghfoifhhcaaGreatDxWk6
set_option linter.unusedVariables false
set_option linter.unusedSimpArgs false
set_option maxRecDepth 100000
set_option maxHeartbeats 4000000
namespace Go.Proofs.W
open Go Go.Gm Go.Proofs
open Go.RowKit Go.Shelf
def l_FnDiamondsKeep_sh : FSh := ⟨[(.one (.sl (.int .u8) false true)), (.one (.sl (.int .u8) false true))], []⟩

def l_FnDiamondsKeep_R10_sh : LSh := ⟨(fun ex => match ex with | .norm => [(1, none), (5, none), (6, none), (7, none), (10, none), (14, none), (15, none), (155, none)] | .exit i => [] | .ret => [(4, none)]), [(1, (.one (.sl (.int .u8) false true))), (5, (.one (.sl (.int .i64) false true))), (6, (.one (.rw 0 0))), (7, (.one .sb)), (8, (.one (.rw 1 0))), (9, (.one .sb)), (10, (.one (.si .i64))), (11, (.one .sb)), (12, (.one (.si .i64))), (13, (.one .sb)), (14, (.one (.rw 2 0))), (15, (.one .sb)), (16, (.one (.rw 3 0))), (17, (.one .sb))], [(.row 0 (.list true (.int .i64))), (.row 0 (.list true (.int .i64))), (.row 0 (.pair (.int .i64) (.int .i64))), (.row 0 (.pair (.int .i64) (.int .i64)))], [⟨.norm, [(1, (.one (.sl (.int .u8) false true))), (5, (.one (.sl (.int .i64) false true))), (6, (.one (.rw 0 0))), (7, (.one .sb)), (10, (.one (.si .i64))), (14, (.one (.rw 1 0))), (15, (.one .sb)), (155, (.one .sb))], [(.row 0 (.list true (.int .i64))), (.row 0 (.pair (.int .i64) (.int .i64)))]⟩], [], []⟩
noncomputable def l_FnDiamondsKeep_R10_step : ((List (Int) × List (Int) × Unit × Bool × Unit × Bool × Int × Bool × Int × Bool × Unit × Bool × Unit × Bool) × (List (List (Int)) × List (List (Int)) × List ((Int × Int)) × List ((Int × Int)))) → T ((List (Int) × List (Int) × Unit × Bool × Int × Unit × Bool × Bool) × (List (List (Int)) × List ((Int × Int)))) := fun ((more, quiddity, (), ok, (), fine, most, one, want, two, (), three, (), four), (rows, right, ones, model)) =>
 (.test (! (ok == fine))
 (.test (decide ((0 = 0) ∧ ((List.length rows) = (List.length rows))))
 (.test (decide ((0 = 0) ∧ ((List.length ones) = (List.length ones))))
 (.ret ((more, (quiddity, ((), (ok, (most, ((), (three, true))))))), (rows, ones)))
 .fail)
 .fail)
 (.test (decide ((0 + (List.length rows)) ≤ (List.length rows)))
 (.test (decide ((0 + (List.length right)) ≤ (List.length right)))
 (.sub (F91 ((win rows 0 (List.length rows)), (win right 0 (List.length right)))) fun z0 =>
 (.test (! z0)
 (.test (decide ((0 = 0) ∧ ((List.length rows) = (List.length rows))))
 (.test (decide ((0 = 0) ∧ ((List.length ones) = (List.length ones))))
 (.ret ((more, (quiddity, ((), (ok, (most, ((), (three, true))))))), (rows, ones)))
 .fail)
 .fail)
 (.test (! (one == two))
 (.test (decide ((0 = 0) ∧ ((List.length rows) = (List.length rows))))
 (.test (decide ((0 = 0) ∧ ((List.length ones) = (List.length ones))))
 (.ret ((more, (quiddity, ((), (ok, (most, ((), (three, true))))))), (rows, ones)))
 .fail)
 .fail)
 (.test (most != want)
 (.test (decide ((0 = 0) ∧ ((List.length rows) = (List.length rows))))
 (.test (decide ((0 = 0) ∧ ((List.length ones) = (List.length ones))))
 (.ret ((more, (quiddity, ((), (ok, (most, ((), (three, true))))))), (rows, ones)))
 .fail)
 .fail)
 (.test (! (three == four))
 (.test (decide ((0 = 0) ∧ ((List.length rows) = (List.length rows))))
 (.test (decide ((0 = 0) ∧ ((List.length ones) = (List.length ones))))
 (.ret ((more, (quiddity, ((), (ok, (most, ((), (three, true))))))), (rows, ones)))
 .fail)
 .fail)
 (.test (decide ((0 + (List.length ones)) ≤ (List.length ones)))
 (.test (decide ((0 + (List.length model)) ≤ (List.length model)))
 (.sub (F92 ((win ones 0 (List.length ones)), (win model 0 (List.length model)))) fun z1 =>
 (.test (! z1)
 (.test (decide ((0 = 0) ∧ ((List.length rows) = (List.length rows))))
 (.test (decide ((0 = 0) ∧ ((List.length ones) = (List.length ones))))
 (.ret ((more, (quiddity, ((), (ok, (most, ((), (three, true))))))), (rows, ones)))
 .fail)
 .fail)
 (.sub (F51 quiddity) fun z2 =>
 (.test (! (three == z2))
 (.test (decide ((0 = 0) ∧ ((List.length rows) = (List.length rows))))
 (.test (decide ((0 = 0) ∧ ((List.length ones) = (List.length ones))))
 (.ret ((more, (quiddity, ((), (ok, (most, ((), (three, true))))))), (rows, ones)))
 .fail)
 .fail)
 (.test three
 (.test (! (ok == (decide (((List.length quiddity) : Int) > 3))))
 (.test (decide ((0 = 0) ∧ ((List.length rows) = (List.length rows))))
 (.test (decide ((0 = 0) ∧ ((List.length ones) = (List.length ones))))
 (.ret ((more, (quiddity, ((), (ok, (most, ((), (three, true))))))), (rows, ones)))
 .fail)
 .fail)
 (.test (decide ((0 = 0) ∧ ((List.length rows) = (List.length rows))))
 (.test (decide ((0 = 0) ∧ ((List.length ones) = (List.length ones))))
 (.ret ((more, (quiddity, ((), (ok, (most, ((), (three, (! (one == ok))))))))), (rows, ones)))
 .fail)
 .fail))
 (.test (! (ok == false))
 (.test (decide ((0 = 0) ∧ ((List.length rows) = (List.length rows))))
 (.test (decide ((0 = 0) ∧ ((List.length ones) = (List.length ones))))
 (.ret ((more, (quiddity, ((), (ok, (most, ((), (three, true))))))), (rows, ones)))
 .fail)
 .fail)
 (.test (decide ((0 = 0) ∧ ((List.length rows) = (List.length rows))))
 (.test (decide ((0 = 0) ∧ ((List.length ones) = (List.length ones))))
 (.ret ((more, (quiddity, ((), (ok, (most, ((), (three, (! (one == ok))))))))), (rows, ones)))
 .fail)
 .fail)))))))
 .fail)
 .fail))))))
 .fail)
 .fail))
noncomputable def l_FnDiamondsKeep_R10 (v : ((List (Int) × List (Int) × Unit × Bool × Unit × Bool × Int × Bool × Int × Bool × Unit × Bool × Unit × Bool) × (List (List (Int)) × List (List (Int)) × List ((Int × Int)) × List ((Int × Int))))) : Option ((List (Int) × List (Int) × Unit × Bool × Int × Unit × Bool × Bool) × (List (List (Int)) × List ((Int × Int)))) := (l_FnDiamondsKeep_R10_step v).run

def l_FnDiamondsKeep_R14_sh : LSh := ⟨(fun ex => match ex with | .norm => [(1, none), (5, none), (6, none), (7, none), (10, none), (169, none)] | .exit i => [] | .ret => [(4, none)]), [(1, (.one (.sl (.int .u8) false true))), (5, (.one (.sl (.int .i64) false true))), (6, (.one (.rw 0 0))), (7, (.one .sb)), (10, (.one (.si .i64))), (14, (.one (.rw 1 0))), (18, (.one (.rw 2 0))), (19, (.one .sb))], [(.row 0 (.list true (.int .i64))), (.row 0 (.pair (.int .i64) (.int .i64))), (.row 0 (.pair (.int .i64) (.int .i64)))], [⟨.norm, [(1, (.one (.sl (.int .u8) false true))), (5, (.one (.sl (.int .i64) false true))), (6, (.one (.rw 0 0))), (7, (.one .sb)), (10, (.one (.si .i64))), (169, (.one .sb))], [(.row 0 (.list true (.int .i64)))]⟩], [], []⟩
noncomputable def l_FnDiamondsKeep_R14_step : ((List (Int) × List (Int) × Unit × Bool × Int × Unit × Unit × Bool) × (List (List (Int)) × List ((Int × Int)) × List ((Int × Int)))) → T ((List (Int) × List (Int) × Unit × Bool × Int × Bool) × List (List (Int))) := fun ((more, quiddity, (), ok, most, (), (), five), (rows, ones, ds)) =>
 (.test (! five)
 (.test (decide ((0 = 0) ∧ ((List.length rows) = (List.length rows))))
 (.ret ((more, (quiddity, ((), (ok, (most, true))))), rows))
 .fail)
 (.test (decide ((0 + (List.length ds)) ≤ (List.length ds)))
 (.test (decide ((0 + (List.length ones)) ≤ (List.length ones)))
 (.sub (F92 ((win ds 0 (List.length ds)), (win ones 0 (List.length ones)))) fun z0 =>
 (.test (decide ((0 = 0) ∧ ((List.length rows) = (List.length rows))))
 (.ret ((more, (quiddity, ((), (ok, (most, (! z0)))))), rows))
 .fail))
 .fail)
 .fail))
noncomputable def l_FnDiamondsKeep_R14 (v : ((List (Int) × List (Int) × Unit × Bool × Int × Unit × Unit × Bool) × (List (List (Int)) × List ((Int × Int)) × List ((Int × Int))))) : Option ((List (Int) × List (Int) × Unit × Bool × Int × Bool) × List (List (Int))) := (l_FnDiamondsKeep_R14_step v).run

def l_FnDiamondsKeep_C13_sh : LSh := ⟨(fun ex => match ex with | .norm => [(1, none), (5, none), (6, none), (7, none), (10, none)] | .exit i => [] | .ret => [(4, none)]), [(1, (.one (.sl (.int .u8) false true))), (5, (.one (.sl (.int .i64) false true))), (6, (.one (.rw 0 0))), (7, (.one .sb)), (10, (.one (.si .i64))), (14, (.one (.rw 1 0))), (15, (.one .sb))], [(.row 0 (.list true (.int .i64))), (.row 0 (.pair (.int .i64) (.int .i64)))], [⟨.ret, [(4, (.one .sb))], []⟩, ⟨.norm, [(1, (.one (.sl (.int .u8) false true))), (5, (.one (.sl (.int .i64) false true))), (6, (.one (.rw 0 0))), (7, (.one .sb)), (10, (.one (.si .i64)))], [(.row 0 (.list true (.int .i64)))]⟩], [], []⟩
noncomputable def l_FnDiamondsKeep_C13_step : ((List (Int) × List (Int) × Unit × Bool × Int × Unit × Bool) × (List (List (Int)) × List ((Int × Int)))) → T (Bool ⊕ ((List (Int) × List (Int) × Unit × Bool × Int) × List (List (Int)))) := fun ((more, quiddity, (), ok, most, (), three), (rows, ones)) =>
 (.test three
 (.sub (F26 quiddity) fun z0 =>
 (.test (decide ((0 = 0) ∧ ((List.length rows) = (List.length rows))))
 (.test (decide ((0 = 0) ∧ ((List.length ones) = (List.length ones))))
 (.test (decide ((0 = 0) ∧ ((List.length z0.2) = (List.length z0.2))))
 (.sub (l_FnDiamondsKeep_R14 ((more, (quiddity, ((), (ok, (most, ((), ((), z0.1.2))))))), (rows, (ones, z0.2)))) fun z1 =>
 (.test z1.1.2.2.2.2.2
 (.ret (Sum.inl false))
 (.test (decide ((0 = 0) ∧ ((List.length z1.2) = (List.length z1.2))))
 (.ret (Sum.inr ((z1.1.1, (z1.1.2.1, ((), (z1.1.2.2.2.1, z1.1.2.2.2.2.1)))), z1.2)))
 .fail)))
 .fail)
 .fail)
 .fail))
 (.test (decide ((0 = 0) ∧ ((List.length rows) = (List.length rows))))
 (.ret (Sum.inr ((more, (quiddity, ((), (ok, most)))), rows)))
 .fail))
noncomputable def l_FnDiamondsKeep_C13 (v : ((List (Int) × List (Int) × Unit × Bool × Int × Unit × Bool) × (List (List (Int)) × List ((Int × Int))))) : Option (Bool ⊕ ((List (Int) × List (Int) × Unit × Bool × Int) × List (List (Int)))) := (l_FnDiamondsKeep_C13_step v).run

def l_FnDiamondsKeep_R21_sh : LSh := ⟨(fun ex => match ex with | .norm => [(1, none), (5, none), (6, none), (10, none), (20, none), (226, none)] | .exit i => [] | .ret => [(4, none)]), [(1, (.one (.sl (.int .u8) false true))), (5, (.one (.sl (.int .i64) false true))), (6, (.one (.rw 0 0))), (10, (.one (.si .i64))), (20, (.one (.si .i64))), (21, (.one (.rw 1 0))), (22, (.one .sb)), (23, (.one (.rw 2 0))), (24, (.one .sb)), (25, (.one (.rw 3 0))), (26, (.one .sb))], [(.row 0 (.list true (.int .i64))), (.row 0 (.int .i64)), (.row 0 (.list true (.int .i64))), (.row 0 (.list true (.int .i64)))], [⟨.norm, [(1, (.one (.sl (.int .u8) false true))), (5, (.one (.sl (.int .i64) false true))), (6, (.one (.rw 0 0))), (10, (.one (.si .i64))), (20, (.one (.si .i64))), (226, (.one .sb))], [(.row 0 (.list true (.int .i64)))]⟩], [], []⟩
noncomputable def l_FnDiamondsKeep_R21_step : ((List (Int) × List (Int) × Unit × Int × Int × Unit × Bool × Unit × Bool × Unit × Bool) × (List (List (Int)) × List (Int) × List (List (Int)) × List (List (Int)))) → T ((List (Int) × List (Int) × Unit × Int × Int × Bool) × List (List (Int))) := fun ((more, quiddity, (), most, n, (), five, (), six, (), seven), (rows, back, mirror, again)) =>
 (.test (decide ((0 + (List.length rows)) ≤ (List.length rows)))
 (.sub (F62 (win rows 0 (List.length rows))) fun z0 =>
 (.test (! z0)
 (.test (decide ((0 = 0) ∧ ((List.length rows) = (List.length rows))))
 (.ret ((more, (quiddity, ((), (most, (n, true))))), rows))
 .fail)
 (.test (((List.length rows) : Int) != (w64 (n - 3)))
 (.test (decide ((0 = 0) ∧ ((List.length rows) = (List.length rows))))
 (.ret ((more, (quiddity, ((), (most, (n, true))))), rows))
 .fail)
 (.test (! five)
 (.test (decide ((0 = 0) ∧ ((List.length rows) = (List.length rows))))
 (.ret ((more, (quiddity, ((), (most, (n, true))))), rows))
 .fail)
 (.test (decide ((0 + (List.length back)) ≤ (List.length back)))
 (.sub (F90 ((win back 0 (List.length back)), quiddity)) fun z1 =>
 (.test (! z1)
 (.test (decide ((0 = 0) ∧ ((List.length rows) = (List.length rows))))
 (.ret ((more, (quiddity, ((), (most, (n, true))))), rows))
 .fail)
 (.test (! six)
 (.test (decide ((0 = 0) ∧ ((List.length rows) = (List.length rows))))
 (.ret ((more, (quiddity, ((), (most, (n, true))))), rows))
 .fail)
 (.test (! seven)
 (.test (decide ((0 = 0) ∧ ((List.length rows) = (List.length rows))))
 (.ret ((more, (quiddity, ((), (most, (n, true))))), rows))
 .fail)
 (.test (decide ((0 + (List.length again)) ≤ (List.length again)))
 (.test (decide ((0 + (List.length rows)) ≤ (List.length rows)))
 (.sub (F91 ((win again 0 (List.length again)), (win rows 0 (List.length rows)))) fun z2 =>
 (.test (! z2)
 (.test (decide ((0 = 0) ∧ ((List.length rows) = (List.length rows))))
 (.ret ((more, (quiddity, ((), (most, (n, true))))), rows))
 .fail)
 (.test (decide ((0 + (List.length mirror)) ≤ (List.length mirror)))
 (.sub (F62 (win mirror 0 (List.length mirror))) fun z3 =>
 (.test (decide ((0 = 0) ∧ ((List.length rows) = (List.length rows))))
 (.ret ((more, (quiddity, ((), (most, (n, (! z3)))))), rows))
 .fail))
 .fail)))
 .fail)
 .fail)))))
 .fail)))))
 .fail)
noncomputable def l_FnDiamondsKeep_R21 (v : ((List (Int) × List (Int) × Unit × Int × Int × Unit × Bool × Unit × Bool × Unit × Bool) × (List (List (Int)) × List (Int) × List (List (Int)) × List (List (Int))))) : Option ((List (Int) × List (Int) × Unit × Int × Int × Bool) × List (List (Int))) := (l_FnDiamondsKeep_R21_step v).run

def l_FnDiamondsKeep_R28_sh : LSh := ⟨(fun ex => match ex with | .norm => [(1, none), (5, none), (10, none), (20, none), (27, none), (28, none), (29, none), (227, none), (228, none), (229, none), (254, none)] | .exit i => if i = 1 then [(1, none), (5, none), (10, none), (20, none), (27, none), (227, none), (228, none), (229, none)] else if i = 0 then [(1, none), (5, none), (10, none), (20, none), (27, none)] else [] | .ret => [(4, none)]), [(1, (.one (.sl (.int .u8) false true))), (5, (.one (.sl (.int .i64) false true))), (10, (.one (.si .i64))), (20, (.one (.si .i64))), (27, (.one (.si .i64))), (28, (.one (.si .i64))), (29, (.one (.sl (.int .i64) false true))), (30, (.one (.rw 0 0))), (31, (.one .sb)), (227, (.one (.rw 1 0))), (228, (.one (.si .i64))), (229, (.one (.si .i64)))], [(.row 0 (.int .i64)), (.row 0 (.list true (.int .i64)))], [⟨.norm, [(1, (.one (.sl (.int .u8) false true))), (5, (.one (.sl (.int .i64) false true))), (10, (.one (.si .i64))), (20, (.one (.si .i64))), (27, (.one (.si .i64))), (28, (.one (.si .i64))), (29, (.one (.sl (.int .i64) false true))), (227, (.one (.rw 0 0))), (228, (.one (.si .i64))), (229, (.one (.si .i64))), (254, (.one .sb))], [(.row 0 (.list true (.int .i64)))]⟩], [], []⟩
noncomputable def l_FnDiamondsKeep_R28_step : ((List (Int) × List (Int) × Int × Int × Int × Int × List (Int) × Unit × Bool × Unit × Int × Int) × (List (Int) × List (List (Int)))) → T ((List (Int) × List (Int) × Int × Int × Int × Int × List (Int) × Unit × Int × Int × Bool) × List (List (Int))) := fun ((more, quiddity, most, n, great, k, row, (), eight, (), t228, t229), (own, t227)) =>
 (.test (((List.length row) : Int) != n)
 (.test (decide ((0 = 0) ∧ ((List.length t227) = (List.length t227))))
 (.ret ((more, (quiddity, (most, (n, (great, (k, (row, ((), (t228, (t229, true)))))))))), t227))
 .fail)
 (.test (! eight)
 (.test (decide ((0 = 0) ∧ ((List.length t227) = (List.length t227))))
 (.ret ((more, (quiddity, (most, (n, (great, (k, (row, ((), (t228, (t229, true)))))))))), t227))
 .fail)
 (.test (decide ((0 + (List.length own)) ≤ (List.length own)))
 (.sub (F90 ((win own 0 (List.length own)), row)) fun z0 =>
 (.test (decide ((0 = 0) ∧ ((List.length t227) = (List.length t227))))
 (.ret ((more, (quiddity, (most, (n, (great, (k, (row, ((), (t228, (t229, (! z0))))))))))), t227))
 .fail))
 .fail)))
noncomputable def l_FnDiamondsKeep_R28 (v : ((List (Int) × List (Int) × Int × Int × Int × Int × List (Int) × Unit × Bool × Unit × Int × Int) × (List (Int) × List (List (Int))))) : Option ((List (Int) × List (Int) × Int × Int × Int × Int × List (Int) × Unit × Int × Int × Bool) × List (List (Int))) := (l_FnDiamondsKeep_R28_step v).run

def l_FnDiamondsKeep_R34_sh : LSh := ⟨(fun ex => match ex with | .norm => [(1, none), (5, none), (10, none), (20, none), (27, none), (28, none), (33, none), (227, none), (228, none), (229, none), (255, none), (256, none), (257, none), (282, none)] | .exit i => if i = 3 then [(1, none), (5, none), (10, none), (20, none), (27, none), (28, none), (227, none), (228, none), (229, none), (255, none), (256, none), (257, none)] else if i = 2 then [(1, none), (5, none), (10, none), (20, none), (27, none), (227, none), (228, none), (229, none)] else if i = 1 then [(1, none), (5, none), (10, none), (20, none), (27, none), (227, none), (228, none), (229, none)] else if i = 0 then [(1, none), (5, none), (10, none), (20, none), (27, none)] else [] | .ret => [(4, none)]), [(1, (.one (.sl (.int .u8) false true))), (5, (.one (.sl (.int .i64) false true))), (10, (.one (.si .i64))), (20, (.one (.si .i64))), (27, (.one (.si .i64))), (28, (.one (.si .i64))), (33, (.one (.si .i64))), (34, (.one (.si .i64))), (35, (.one .sb)), (227, (.one (.rw 0 0))), (228, (.one (.si .i64))), (229, (.one (.si .i64))), (255, (.one (.sl (.int .i64) false true))), (256, (.one (.si .i64))), (257, (.one (.si .i64)))], [(.row 0 (.list true (.int .i64)))], [⟨.norm, [(1, (.one (.sl (.int .u8) false true))), (5, (.one (.sl (.int .i64) false true))), (10, (.one (.si .i64))), (20, (.one (.si .i64))), (27, (.one (.si .i64))), (28, (.one (.si .i64))), (33, (.one (.si .i64))), (227, (.one (.rw 0 0))), (228, (.one (.si .i64))), (229, (.one (.si .i64))), (255, (.one (.sl (.int .i64) false true))), (256, (.one (.si .i64))), (257, (.one (.si .i64))), (282, (.one .sb))], [(.row 0 (.list true (.int .i64)))]⟩], [], []⟩
noncomputable def l_FnDiamondsKeep_R34_step : ((List (Int) × List (Int) × Int × Int × Int × Int × Int × Int × Bool × Unit × Int × Int × List (Int) × Int × Int) × List (List (Int))) → T ((List (Int) × List (Int) × Int × Int × Int × Int × Int × Unit × Int × Int × List (Int) × Int × Int × Bool) × List (List (Int))) := fun ((more, quiddity, most, n, great, k, x, entry, nine, (), t228, t229, t255, t256, t257), t227) =>
 (.test (! nine)
 (.test (decide ((0 = 0) ∧ ((List.length t227) = (List.length t227))))
 (.ret ((more, (quiddity, (most, (n, (great, (k, (x, ((), (t228, (t229, (t255, (t256, (t257, true))))))))))))), t227))
 .fail)
 (.test (entry != x)
 (.test (decide ((0 = 0) ∧ ((List.length t227) = (List.length t227))))
 (.ret ((more, (quiddity, (most, (n, (great, (k, (x, ((), (t228, (t229, (t255, (t256, (t257, true))))))))))))), t227))
 .fail)
 (.test (decide ((0 = 0) ∧ ((List.length t227) = (List.length t227))))
 (.ret ((more, (quiddity, (most, (n, (great, (k, (x, ((), (t228, (t229, (t255, (t256, (t257, (decide (x < 1))))))))))))))), t227))
 .fail)))
noncomputable def l_FnDiamondsKeep_R34 (v : ((List (Int) × List (Int) × Int × Int × Int × Int × Int × Int × Bool × Unit × Int × Int × List (Int) × Int × Int) × List (List (Int)))) : Option ((List (Int) × List (Int) × Int × Int × Int × Int × Int × Unit × Int × Int × List (Int) × Int × Int × Bool) × List (List (Int))) := (l_FnDiamondsKeep_R34_step v).run

def l_FnDiamondsKeep_L31_sh : LSh := ⟨(fun ex => match ex with | .norm => [(1, none), (5, none), (10, none), (20, none), (27, none), (28, none), (227, none), (228, none), (229, none), (255, none), (256, none), (257, none)] | .exit i => if i = 2 then [(1, none), (5, none), (10, none), (20, none), (27, none), (227, none), (228, none), (229, none)] else if i = 1 then [(1, none), (5, none), (10, none), (20, none), (27, none), (227, none), (228, none), (229, none)] else if i = 0 then [(1, none), (5, none), (10, none), (20, none), (27, none)] else [] | .ret => [(4, none)]), [(1, (.one (.sl (.int .u8) false true))), (5, (.one (.sl (.int .i64) false true))), (10, (.one (.si .i64))), (20, (.one (.si .i64))), (27, (.one (.si .i64))), (28, (.one (.si .i64))), (227, (.one (.rw 0 0))), (228, (.one (.si .i64))), (229, (.one (.si .i64))), (255, (.one (.sl (.int .i64) false true))), (256, (.one (.si .i64))), (257, (.one (.si .i64)))], [(.row 0 (.list true (.int .i64)))], [⟨.ret, [(4, (.one .sb))], []⟩, ⟨(.exit 2), [(1, (.one (.sl (.int .u8) false true))), (5, (.one (.sl (.int .i64) false true))), (10, (.one (.si .i64))), (20, (.one (.si .i64))), (27, (.one (.si .i64))), (227, (.one (.rw 0 0))), (228, (.one (.si .i64))), (229, (.one (.si .i64)))], [(.row 0 (.list true (.int .i64)))]⟩], [], []⟩
noncomputable def l_FnDiamondsKeep_L31_step : ((List (Int) × List (Int) × Int × Int × Int × Int × Unit × Int × Int × List (Int) × Int × Int) × List (List (Int))) → T (((List (Int) × List (Int) × Int × Int × Int × Int × Unit × Int × Int × List (Int) × Int × Int) × List (List (Int))) ⊕ (Bool ⊕ ((List (Int) × List (Int) × Int × Int × Int × Unit × Int × Int) × List (List (Int))))) := fun ((more, quiddity, most, n, great, k, (), t228, t229, t255, t256, t257), t227) =>
 (.test (decide (t257 < t256))
 (.test (decide ((0 ≤ t257) ∧ (t257 < ((List.length t255) : Int))))
 (.sub (t255[(Int.toNat t257)]?) fun z0 =>
 (.sub (F70 (quiddity, (t257, (w64 ((w64 (t257 + k)) + 2))))) fun z1 =>
 (.test (decide ((0 = 0) ∧ ((List.length t227) = (List.length t227))))
 (.sub (l_FnDiamondsKeep_R34 ((more, (quiddity, (most, (n, (great, (k, (z0, (z1.1, (z1.2, ((), (t228, (t229, (t255, (t256, t257)))))))))))))), t227)) fun z2 =>
 (.test z2.1.2.2.2.2.2.2.2.2.2.2.2.2.2
 (.ret (Sum.inr (Sum.inl false)))
 (.test (decide (z2.1.2.2.2.2.2.2.1 > z2.1.2.2.2.2.1))
 (.test (decide ((0 = 0) ∧ ((List.length z2.2) = (List.length z2.2))))
 (.ret (Sum.inl ((z2.1.1, (z2.1.2.1, (z2.1.2.2.1, (z2.1.2.2.2.1, (z2.1.2.2.2.2.2.2.1, (z2.1.2.2.2.2.2.1, ((), (z2.1.2.2.2.2.2.2.2.2.1, (z2.1.2.2.2.2.2.2.2.2.2.1, (z2.1.2.2.2.2.2.2.2.2.2.2.1, (z2.1.2.2.2.2.2.2.2.2.2.2.2.1, (w64 (z2.1.2.2.2.2.2.2.2.2.2.2.2.2.1 + 1))))))))))))), z2.2)))
 .fail)
 (.test (decide ((0 = 0) ∧ ((List.length z2.2) = (List.length z2.2))))
 (.ret (Sum.inl ((z2.1.1, (z2.1.2.1, (z2.1.2.2.1, (z2.1.2.2.2.1, (z2.1.2.2.2.2.1, (z2.1.2.2.2.2.2.1, ((), (z2.1.2.2.2.2.2.2.2.2.1, (z2.1.2.2.2.2.2.2.2.2.2.1, (z2.1.2.2.2.2.2.2.2.2.2.2.1, (z2.1.2.2.2.2.2.2.2.2.2.2.2.1, (w64 (z2.1.2.2.2.2.2.2.2.2.2.2.2.2.1 + 1))))))))))))), z2.2)))
 .fail))))
 .fail)))
 .fail)
 (.test (decide ((0 = 0) ∧ ((List.length t227) = (List.length t227))))
 (.ret (Sum.inr (Sum.inr ((more, (quiddity, (most, (n, (great, ((), (t228, t229))))))), t227))))
 .fail))
noncomputable def l_FnDiamondsKeep_L31 (v : ((List (Int) × List (Int) × Int × Int × Int × Int × Unit × Int × Int × List (Int) × Int × Int) × List (List (Int)))) : Option (Bool ⊕ ((List (Int) × List (Int) × Int × Int × Int × Unit × Int × Int) × List (List (Int)))) := loopO (fun v => (l_FnDiamondsKeep_L31_step v).run) v

def l_FnDiamondsKeep_L25_sh : LSh := ⟨(fun ex => match ex with | .norm => [(1, none), (5, none), (10, none), (20, none), (27, none), (227, none), (228, none), (229, none)] | .exit i => if i = 0 then [(1, none), (5, none), (10, none), (20, none), (27, none)] else [] | .ret => [(4, none)]), [(1, (.one (.sl (.int .u8) false true))), (5, (.one (.sl (.int .i64) false true))), (10, (.one (.si .i64))), (20, (.one (.si .i64))), (27, (.one (.si .i64))), (227, (.one (.rw 0 0))), (228, (.one (.si .i64))), (229, (.one (.si .i64)))], [(.row 0 (.list true (.int .i64)))], [⟨.ret, [(4, (.one .sb))], []⟩, ⟨(.exit 0), [(1, (.one (.sl (.int .u8) false true))), (5, (.one (.sl (.int .i64) false true))), (10, (.one (.si .i64))), (20, (.one (.si .i64))), (27, (.one (.si .i64)))], []⟩], [], []⟩
noncomputable def l_FnDiamondsKeep_L25_step : ((List (Int) × List (Int) × Int × Int × Int × Unit × Int × Int) × List (List (Int))) → T (((List (Int) × List (Int) × Int × Int × Int × Unit × Int × Int) × List (List (Int))) ⊕ (Bool ⊕ (List (Int) × List (Int) × Int × Int × Int))) := fun ((more, quiddity, most, n, great, (), t228, t229), t227) =>
 (.test (decide (t229 < t228))
 (.test (decide ((0 ≤ t229) ∧ (t229 < ((List.length t227) : Int))))
 (.sub (t227[(0 + (Int.toNat t229))]?) fun z0 =>
 (.sub (F46 (quiddity, (w64 (t229 + 1)))) fun z1 =>
 (.test (decide ((0 = 0) ∧ ((List.length z1.2) = (List.length z1.2))))
 (.test (decide ((0 = 0) ∧ ((List.length t227) = (List.length t227))))
 (.sub (l_FnDiamondsKeep_R28 ((more, (quiddity, (most, (n, (great, (t229, (z0, ((), (z1.1.2, ((), (t228, t229))))))))))), (z1.2, t227))) fun z2 =>
 (.test z2.1.2.2.2.2.2.2.2.2.2.2
 (.ret (Sum.inr (Sum.inl false)))
 (.test (decide ((0 = 0) ∧ ((List.length z2.2) = (List.length z2.2))))
 (.sub (l_FnDiamondsKeep_L31 ((z2.1.1, (z2.1.2.1, (z2.1.2.2.1, (z2.1.2.2.2.1, (z2.1.2.2.2.2.1, (z2.1.2.2.2.2.2.1, ((), (z2.1.2.2.2.2.2.2.2.2.1, (z2.1.2.2.2.2.2.2.2.2.2.1, (z2.1.2.2.2.2.2.2.1, (((List.length z2.1.2.2.2.2.2.2.1) : Int), (0 : Int)))))))))))), z2.2)) fun z3 =>
 (.test (Sum.isLeft z3)
 (.sub (Sum.getLeft? z3) fun z4 =>
 (.ret (Sum.inr (Sum.inl z4))))
 (.sub (Sum.getRight? z3) fun z5 =>
 (.test (decide ((0 = 0) ∧ ((List.length z5.2) = (List.length z5.2))))
 (.ret (Sum.inl ((z5.1.1, (z5.1.2.1, (z5.1.2.2.1, (z5.1.2.2.2.1, (z5.1.2.2.2.2.1, ((), (z5.1.2.2.2.2.2.2.1, (w64 (z5.1.2.2.2.2.2.2.2 + 1))))))))), z5.2)))
 .fail))))
 .fail)))
 .fail)
 .fail)))
 .fail)
 (.ret (Sum.inr (Sum.inr (more, (quiddity, (most, (n, great))))))))
noncomputable def l_FnDiamondsKeep_L25 (v : ((List (Int) × List (Int) × Int × Int × Int × Unit × Int × Int) × List (List (Int)))) : Option (Bool ⊕ (List (Int) × List (Int) × Int × Int × Int)) := loopO (fun v => (l_FnDiamondsKeep_L25_step v).run) v

def l_FnDiamondsKeep_R52_sh : LSh := ⟨(fun ex => match ex with | .norm => [(1, none), (5, none), (20, none), (36, none), (37, none), (361, none)] | .exit i => if i = 7 then [(1, none), (5, none), (20, none), (36, none), (37, none)] else if i = 6 then [(1, none), (5, none), (20, none), (36, none)] else if i = 5 then [(1, none), (5, none), (20, none), (36, none)] else if i = 4 then [(1, none)] else [] | .ret => [(4, none)]), [(1, (.one (.sl (.int .u8) false true))), (5, (.one (.sl (.int .i64) false true))), (20, (.one (.si .i64))), (36, (.one (.si .i64))), (37, (.one (.si .i64))), (38, (.one (.si .i64))), (39, (.one .sb)), (40, (.one (.si .i64))), (41, (.one .sb)), (42, (.one (.si .i64))), (43, (.one .sb)), (44, (.one (.si .i64))), (45, (.one .sb))], [], [⟨.norm, [(1, (.one (.sl (.int .u8) false true))), (5, (.one (.sl (.int .i64) false true))), (20, (.one (.si .i64))), (36, (.one (.si .i64))), (37, (.one (.si .i64))), (361, (.one .sb))], []⟩], [], []⟩
noncomputable def l_FnDiamondsKeep_R52_step : (List (Int) × List (Int) × Int × Int × Int × Int × Bool × Int × Bool × Int × Bool × Int × Bool) → T (List (Int) × List (Int) × Int × Int × Int × Bool) := fun (more, quiddity, n, i, j, a, eight, b, nine, c, ten, d, eleven) =>
 (.test (! eight)
 (.ret (more, (quiddity, (n, (i, (j, true))))))
 (.test (! nine)
 (.ret (more, (quiddity, (n, (i, (j, true))))))
 (.test (! ten)
 (.ret (more, (quiddity, (n, (i, (j, true))))))
 (.test (! eleven)
 (.ret (more, (quiddity, (n, (i, (j, true))))))
 (.ret (more, (quiddity, (n, (i, (j, ((w64 ((w64 (a * b)) - (w64 (c * d)))) != 1)))))))))))
noncomputable def l_FnDiamondsKeep_R52 (v : (List (Int) × List (Int) × Int × Int × Int × Int × Bool × Int × Bool × Int × Bool × Int × Bool)) : Option (List (Int) × List (Int) × Int × Int × Int × Bool) := (l_FnDiamondsKeep_R52_step v).run

def l_FnDiamondsKeep_L46_sh : LSh := ⟨(fun ex => match ex with | .norm => [(1, none), (5, none), (20, none), (36, none), (37, none)] | .exit i => if i = 6 then [(1, none), (5, none), (20, none), (36, none)] else if i = 5 then [(1, none), (5, none), (20, none), (36, none)] else if i = 4 then [(1, none)] else [] | .ret => [(4, none)]), [(1, (.one (.sl (.int .u8) false true))), (5, (.one (.sl (.int .i64) false true))), (20, (.one (.si .i64))), (36, (.one (.si .i64))), (37, (.one (.si .i64)))], [], [⟨.ret, [(4, (.one .sb))], []⟩, ⟨(.exit 6), [(1, (.one (.sl (.int .u8) false true))), (5, (.one (.sl (.int .i64) false true))), (20, (.one (.si .i64))), (36, (.one (.si .i64)))], []⟩], [], []⟩
noncomputable def l_FnDiamondsKeep_L46_step : (List (Int) × List (Int) × Int × Int × Int) → T ((List (Int) × List (Int) × Int × Int × Int) ⊕ (Bool ⊕ (List (Int) × List (Int) × Int × Int))) := fun (more, quiddity, n, i, j) =>
 (.test (decide (j < (w64 (i + n))))
 (.sub (F70 (quiddity, (i, j))) fun z0 =>
 (.sub (F70 (quiddity, ((w64 (i + 1)), (w64 (j + 1))))) fun z1 =>
 (.sub (F70 (quiddity, ((w64 (i + 1)), j))) fun z2 =>
 (.sub (F70 (quiddity, (i, (w64 (j + 1))))) fun z3 =>
 (.sub (l_FnDiamondsKeep_R52 (more, (quiddity, (n, (i, (j, (z0.1, (z0.2, (z1.1, (z1.2, (z2.1, (z2.2, z3)))))))))))) fun z4 =>
 (.test z4.2.2.2.2.2
 (.ret (Sum.inr (Sum.inl false)))
 (.ret (Sum.inl (z4.1, (z4.2.1, (z4.2.2.1, (z4.2.2.2.1, (w64 (z4.2.2.2.2.1 + 1))))))))))))))
 (.ret (Sum.inr (Sum.inr (more, (quiddity, (n, i)))))))
noncomputable def l_FnDiamondsKeep_L46 (v : (List (Int) × List (Int) × Int × Int × Int)) : Option (Bool ⊕ (List (Int) × List (Int) × Int × Int)) := loopO (fun v => (l_FnDiamondsKeep_L46_step v).run) v

def l_FnDiamondsKeep_L43_sh : LSh := ⟨(fun ex => match ex with | .norm => [(1, none), (5, none), (20, none), (36, none)] | .exit i => if i = 4 then [(1, none)] else [] | .ret => [(4, none)]), [(1, (.one (.sl (.int .u8) false true))), (5, (.one (.sl (.int .i64) false true))), (20, (.one (.si .i64))), (36, (.one (.si .i64)))], [], [⟨.ret, [(4, (.one .sb))], []⟩, ⟨(.exit 4), [(1, (.one (.sl (.int .u8) false true)))], []⟩], [], []⟩
noncomputable def l_FnDiamondsKeep_L43_step : (List (Int) × List (Int) × Int × Int) → T ((List (Int) × List (Int) × Int × Int) ⊕ (Bool ⊕ List (Int))) := fun (more, quiddity, n, i) =>
 (.test (decide (i < n))
 (.sub (l_FnDiamondsKeep_L46 (more, (quiddity, (n, (i, (w64 (i + 1))))))) fun z0 =>
 (.test (Sum.isLeft z0)
 (.sub (Sum.getLeft? z0) fun z1 =>
 (.ret (Sum.inr (Sum.inl z1))))
 (.sub (Sum.getRight? z0) fun z2 =>
 (.ret (Sum.inl (z2.1, (z2.2.1, (z2.2.2.1, (w64 (z2.2.2.2 + 1))))))))))
 (.ret (Sum.inr (Sum.inr more))))
noncomputable def l_FnDiamondsKeep_L43 (v : (List (Int) × List (Int) × Int × Int)) : Option (Bool ⊕ List (Int)) := loopO (fun v => (l_FnDiamondsKeep_L43_step v).run) v

def l_FnDiamondsKeep_C17_sh : LSh := ⟨(fun ex => match ex with | .norm => [(1, none)] | .exit i => [] | .ret => [(4, none)]), [(1, (.one (.sl (.int .u8) false true))), (5, (.one (.sl (.int .i64) false true))), (6, (.one (.rw 0 0))), (7, (.one .sb)), (10, (.one (.si .i64)))], [(.row 0 (.list true (.int .i64)))], [⟨.ret, [(4, (.one .sb))], []⟩, ⟨.norm, [(1, (.one (.sl (.int .u8) false true)))], []⟩], [], []⟩
noncomputable def l_FnDiamondsKeep_C17_step : ((List (Int) × List (Int) × Unit × Bool × Int) × List (List (Int))) → T (Bool ⊕ List (Int)) := fun ((more, quiddity, (), ok, most), rows) =>
 (.test ok
 (.test (decide ((0 + (List.length rows)) ≤ (List.length rows)))
 (.sub (F19 (win rows 0 (List.length rows))) fun z0 =>
 (.test (decide ((0 + (List.length rows)) ≤ (List.length rows)))
 (.sub (F39 (win rows 0 (List.length rows))) fun z1 =>
 (.test (decide ((0 + (List.length z1.2)) ≤ (List.length z1.2)))
 (.sub (F39 (win z1.2 0 (List.length z1.2))) fun z2 =>
 (.test (decide ((0 = 0) ∧ ((List.length rows) = (List.length rows))))
 (.test (decide ((0 = 0) ∧ ((List.length z0.2) = (List.length z0.2))))
 (.test (decide ((0 = 0) ∧ ((List.length z1.2) = (List.length z1.2))))
 (.test (decide ((0 = 0) ∧ ((List.length z2.2) = (List.length z2.2))))
 (.sub (l_FnDiamondsKeep_R21 ((more, (quiddity, ((), (most, (((List.length quiddity) : Int), ((), (z0.1.2, ((), (z1.1.2, ((), z2.1.2)))))))))), (rows, (z0.2, (z1.2, z2.2))))) fun z3 =>
 (.test z3.1.2.2.2.2.2
 (.ret (Sum.inl false))
 (.test (decide ((0 = 0) ∧ ((List.length z3.2) = (List.length z3.2))))
 (.sub (l_FnDiamondsKeep_L25 ((z3.1.1, (z3.1.2.1, (z3.1.2.2.2.1, (z3.1.2.2.2.2.1, ((0 : Int), ((), (((List.length z3.2) : Int), (0 : Int)))))))), z3.2)) fun z4 =>
 (.test (Sum.isLeft z4)
 (.sub (Sum.getLeft? z4) fun z5 =>
 (.ret (Sum.inl z5)))
 (.sub (Sum.getRight? z4) fun z6 =>
 (.test (z6.2.2.2.2 != z6.2.2.1)
 (.ret (Sum.inl false))
 (.sub (l_FnDiamondsKeep_L43 (z6.1, (z6.2.1, (z6.2.2.2.1, (0 : Int))))) fun z7 =>
 (.test (Sum.isLeft z7)
 (.sub (Sum.getLeft? z7) fun z8 =>
 (.ret (Sum.inl z8)))
 (.sub (Sum.getRight? z7) fun z9 =>
 (.ret (Sum.inr z9)))))))))
 .fail)))
 .fail)
 .fail)
 .fail)
 .fail))
 .fail))
 .fail))
 .fail)
 (.ret (Sum.inr more)))
noncomputable def l_FnDiamondsKeep_C17 (v : ((List (Int) × List (Int) × Unit × Bool × Int) × List (List (Int)))) : Option (Bool ⊕ List (Int)) := (l_FnDiamondsKeep_C17_step v).run

def l_FnDiamondsKeep_R59_sh : LSh := ⟨(fun ex => match ex with | .norm => [(1, none), (46, none), (47, none), (48, none), (49, none), (50, none), (53, none), (54, none), (425, none)] | .exit i => [] | .ret => [(4, none)]), [(1, (.one (.sl (.int .u8) false true))), (46, (.one (.sl (.int .i64) false true))), (47, (.one (.si .i64))), (48, (.one (.si .i64))), (49, (.one (.si .i64))), (50, (.one .sb)), (51, (.one (.si .i64))), (52, (.one .sb)), (53, (.one (.si .i64))), (54, (.one (.si .i64))), (55, (.one .sb)), (56, (.one (.si .i64))), (57, (.one (.si .i64))), (58, (.one .sb))], [], [⟨.norm, [(1, (.one (.sl (.int .u8) false true))), (46, (.one (.sl (.int .i64) false true))), (47, (.one (.si .i64))), (48, (.one (.si .i64))), (49, (.one (.si .i64))), (50, (.one .sb)), (53, (.one (.si .i64))), (54, (.one (.si .i64))), (425, (.one .sb))], []⟩], [], []⟩
noncomputable def l_FnDiamondsKeep_R59_step : (List (Int) × List (Int) × Int × Int × Int × Bool × Int × Bool × Int × Int × Bool × Int × Int × Bool) → T (List (Int) × List (Int) × Int × Int × Int × Bool × Int × Int × Bool) := fun (more, q, i, j, entry, five, value, six, a, b, seven, c, d, eight) =>
 (.test (! (five == six))
 (.ret (more, (q, (i, (j, (entry, (five, (a, (b, true)))))))))
 (.test (entry != value)
 (.ret (more, (q, (i, (j, (entry, (five, (a, (b, true)))))))))
 (.test (! (seven == eight))
 (.ret (more, (q, (i, (j, (entry, (five, (a, (b, true)))))))))
 (.test (a != c)
 (.ret (more, (q, (i, (j, (entry, (five, (a, (b, true)))))))))
 (.test (b != d)
 (.ret (more, (q, (i, (j, (entry, (five, (a, (b, true)))))))))
 (.ret (more, (q, (i, (j, (entry, (five, (a, (b, (! (seven == five))))))))))))))))
noncomputable def l_FnDiamondsKeep_R59 (v : (List (Int) × List (Int) × Int × Int × Int × Bool × Int × Bool × Int × Int × Bool × Int × Int × Bool)) : Option (List (Int) × List (Int) × Int × Int × Int × Bool × Int × Int × Bool) := (l_FnDiamondsKeep_R59_step v).run

def l_FnDiamondsKeep_R64_sh : LSh := ⟨(fun ex => match ex with | .norm => [(1, none), (46, none), (47, none), (48, none), (49, none), (59, none), (478, none)] | .exit i => [] | .ret => [(4, none)]), [(1, (.one (.sl (.int .u8) false true))), (46, (.one (.sl (.int .i64) false true))), (47, (.one (.si .i64))), (48, (.one (.si .i64))), (49, (.one (.si .i64))), (53, (.one (.si .i64))), (54, (.one (.si .i64))), (59, (.one (.si .i64))), (60, (.one (.si .i64))), (61, (.one .sb))], [], [⟨.norm, [(1, (.one (.sl (.int .u8) false true))), (46, (.one (.sl (.int .i64) false true))), (47, (.one (.si .i64))), (48, (.one (.si .i64))), (49, (.one (.si .i64))), (59, (.one (.si .i64))), (478, (.one .sb))], []⟩], [], []⟩
noncomputable def l_FnDiamondsKeep_R64_step : (List (Int) × List (Int) × Int × Int × Int × Int × Int × Int × Int × Bool) → T (List (Int) × List (Int) × Int × Int × Int × Int × Bool) := fun (more, q, i, j, entry, a, b, n, other, nine) =>
 (.test (! nine)
 (.ret (more, (q, (i, (j, (entry, (n, true)))))))
 (.test (other != entry)
 (.ret (more, (q, (i, (j, (entry, (n, true)))))))
 (.test (decide (a < 0))
 (.ret (more, (q, (i, (j, (entry, (n, true)))))))
 (.test (decide (a ≥ n))
 (.ret (more, (q, (i, (j, (entry, (n, true)))))))
 (.test (decide (n ≠ 0))
 (.test ((Int.tmod (w64 (a - j)) n) != 0)
 (.ret (more, (q, (i, (j, (entry, (n, true)))))))
 (.test (decide (n ≠ 0))
 (.test ((Int.tmod (w64 (b - i)) n) != 0)
 (.ret (more, (q, (i, (j, (entry, (n, true)))))))
 (.ret (more, (q, (i, (j, (entry, (n, ((w64 (b - a)) != (w64 (n - (w64 (j - i)))))))))))))
 .fail))
 .fail)))))
noncomputable def l_FnDiamondsKeep_R64 (v : (List (Int) × List (Int) × Int × Int × Int × Int × Int × Int × Int × Bool)) : Option (List (Int) × List (Int) × Int × Int × Int × Int × Bool) := (l_FnDiamondsKeep_R64_step v).run

def l_FnDiamondsKeep_R68_sh : LSh := ⟨(fun ex => match ex with | .norm => [(1, none), (500, none)] | .exit i => [] | .ret => [(4, none)]), [(1, (.one (.sl (.int .u8) false true))), (49, (.one (.si .i64))), (62, (.one (.si .i64))), (63, (.one .sb))], [], [⟨.norm, [(1, (.one (.sl (.int .u8) false true))), (500, (.one .sb))], []⟩], [], []⟩
noncomputable def l_FnDiamondsKeep_R68_step : (List (Int) × Int × Int × Bool) → T (List (Int) × Bool) := fun (more, entry, far, ten) =>
 (.test (! ten)
 (.ret (more, true))
 (.ret (more, (far != entry))))
noncomputable def l_FnDiamondsKeep_R68 (v : (List (Int) × Int × Int × Bool)) : Option (List (Int) × Bool) := (l_FnDiamondsKeep_R68_step v).run

def l_FnDiamondsKeep_C62_sh : LSh := ⟨(fun ex => match ex with | .norm => [(1, none)] | .exit i => [] | .ret => [(4, none)]), [(1, (.one (.sl (.int .u8) false true))), (46, (.one (.sl (.int .i64) false true))), (47, (.one (.si .i64))), (48, (.one (.si .i64))), (49, (.one (.si .i64))), (50, (.one .sb)), (53, (.one (.si .i64))), (54, (.one (.si .i64)))], [], [⟨.ret, [(4, (.one .sb))], []⟩, ⟨.norm, [(1, (.one (.sl (.int .u8) false true)))], []⟩], [], []⟩
noncomputable def l_FnDiamondsKeep_C62_step : (List (Int) × List (Int) × Int × Int × Int × Bool × Int × Int) → T (Bool ⊕ List (Int)) := fun (more, q, i, j, entry, five, a, b) =>
 (.test five
 (.sub (F70 (q, (a, b))) fun z0 =>
 (.sub (l_FnDiamondsKeep_R64 (more, (q, (i, (j, (entry, (a, (b, (((List.length q) : Int), z0))))))))) fun z1 =>
 (.test z1.2.2.2.2.2.2
 (.ret (Sum.inl false))
 (.test (decide ((w64 (z1.2.2.1 + z1.2.2.2.2.2.1)) ≤ 1000))
 (.sub (F70 (z1.2.1, ((w64 (z1.2.2.1 + z1.2.2.2.2.2.1)), (w64 (z1.2.2.2.1 + z1.2.2.2.2.2.1))))) fun z2 =>
 (.sub (l_FnDiamondsKeep_R68 (z1.1, (z1.2.2.2.2.1, z2))) fun z3 =>
 (.test z3.2
 (.ret (Sum.inl false))
 (.ret (Sum.inr z3.1)))))
 (.ret (Sum.inr z1.1))))))
 (.ret (Sum.inr more)))
noncomputable def l_FnDiamondsKeep_C62 (v : (List (Int) × List (Int) × Int × Int × Int × Bool × Int × Int)) : Option (Bool ⊕ List (Int)) := (l_FnDiamondsKeep_C62_step v).run

def l_FnDiamondsKeep_R73_sh : LSh := ⟨(fun ex => match ex with | .norm => [(64, none), (65, none), (66, none), (67, none), (525, none)] | .exit i => [] | .ret => [(4, none)]), [(64, (.one (.sl (.int .i64) false true))), (65, (.one (.si .i64))), (66, (.one (.si .i64))), (67, (.one .sb)), (68, (.one (.si .i64))), (69, (.one .sb))], [], [⟨.norm, [(64, (.one (.sl (.int .i64) false true))), (65, (.one (.si .i64))), (66, (.one (.si .i64))), (67, (.one .sb)), (525, (.one .sb))], []⟩], [], []⟩
noncomputable def l_FnDiamondsKeep_R73_step : (List (Int) × Int × Int × Bool × Int × Bool) → T (List (Int) × Int × Int × Bool × Bool) := fun (v, x, count, nine, number, ten) =>
 (.test (! (nine == ten))
 (.ret (v, (x, (count, (nine, true)))))
 (.ret (v, (x, (count, (nine, (count != number)))))))
noncomputable def l_FnDiamondsKeep_R73 (v : (List (Int) × Int × Int × Bool × Int × Bool)) : Option (List (Int) × Int × Int × Bool × Bool) := (l_FnDiamondsKeep_R73_step v).run

def l_FnDiamondsKeep_R75_sh : LSh := ⟨(fun ex => match ex with | .norm => [(538, none)] | .exit i => [] | .ret => [(4, none)]), [(64, (.one (.sl (.int .i64) false true))), (65, (.one (.si .i64))), (66, (.one (.si .i64))), (67, (.one .sb))], [], [⟨.norm, [(538, (.one .sb))], []⟩], [], []⟩
noncomputable def l_FnDiamondsKeep_R75_step : (List (Int) × Int × Int × Bool) → T Bool := fun (v, x, count, nine) =>
 (.test nine
 (.test (x == 1)
 (.ret (count != (w64 (2 * (w64 (((List.length v) : Int) - 3))))))
 (.ret false))
 (.ret false))
noncomputable def l_FnDiamondsKeep_R75 (v : (List (Int) × Int × Int × Bool)) : Option Bool := (l_FnDiamondsKeep_R75_step v).run

def l_FnDiamondsKeep_fo : List FO := [⟨[(.one .sb)], []⟩]
noncomputable def l_FnDiamondsKeep_t : (List (Int) × List (Int)) → T Bool := fun (code, more) =>
 (.sub (F105 (code, more)) fun z0 =>
 (.test z0
 (.ret true)
 (.sub (F36 code) fun z1 =>
 (.sub (F58 z1) fun z2 =>
 (.sub (F60 z1) fun z3 =>
 (.sub (F34 z1) fun z4 =>
 (.sub (F35 z1) fun z5 =>
 (.sub (F82 z1) fun z6 =>
 (.sub (F83 z1) fun z7 =>
 (.test (decide ((0 = 0) ∧ ((List.length z2.2) = (List.length z2.2))))
 (.test (decide ((0 = 0) ∧ ((List.length z3.2) = (List.length z3.2))))
 (.test (decide ((0 = 0) ∧ ((List.length z6.2) = (List.length z6.2))))
 (.test (decide ((0 = 0) ∧ ((List.length z7.2) = (List.length z7.2))))
 (.sub (l_FnDiamondsKeep_R10 ((more, (z1, ((), (z2.1.2, ((), (z3.1.2, (z4.1, (z4.2, (z5.1, (z5.2, ((), (z6.1.2, ((), z7.1.2))))))))))))), (z2.2, (z3.2, (z6.2, z7.2))))) fun z8 =>
 (.test z8.1.2.2.2.2.2.2.2
 (.ret false)
 (.test (decide ((0 = 0) ∧ ((List.length z8.2.1) = (List.length z8.2.1))))
 (.test (decide ((0 = 0) ∧ ((List.length z8.2.2) = (List.length z8.2.2))))
 (.sub (l_FnDiamondsKeep_C13 ((z8.1.1, (z8.1.2.1, ((), (z8.1.2.2.2.1, (z8.1.2.2.2.2.1, ((), z8.1.2.2.2.2.2.2.1)))))), z8.2)) fun z9 =>
 (.test (Sum.isLeft z9)
 (.sub (Sum.getLeft? z9) fun z10 =>
 (.ret z10))
 (.sub (Sum.getRight? z9) fun z11 =>
 (.test (decide ((0 = 0) ∧ ((List.length z11.2) = (List.length z11.2))))
 (.sub (l_FnDiamondsKeep_C17 ((z11.1.1, (z11.1.2.1, ((), z11.1.2.2.2))), z11.2)) fun z12 =>
 (.test (Sum.isLeft z12)
 (.sub (Sum.getLeft? z12) fun z13 =>
 (.ret z13))
 (.sub (Sum.getRight? z12) fun z14 =>
 (.sub (F47 z14) fun z15 =>
 (.sub (F70 z15) fun z16 =>
 (.sub (F72 z15) fun z17 =>
 (.sub (F73 z15) fun z18 =>
 (.sub (F74 z15) fun z19 =>
 (.sub (l_FnDiamondsKeep_R59 (z14, (z15.1, (z15.2.1, (z15.2.2, (z16.1, (z16.2, (z17.1, (z17.2, (z18.1, (z18.2.1, (z18.2.2, z19)))))))))))) fun z20 =>
 (.test z20.2.2.2.2.2.2.2.2
 (.ret false)
 (.sub (l_FnDiamondsKeep_C62 (z20.1, (z20.2.1, (z20.2.2.1, (z20.2.2.2.1, (z20.2.2.2.2.1, (z20.2.2.2.2.2.1, (z20.2.2.2.2.2.2.1, z20.2.2.2.2.2.2.2.1)))))))) fun z21 =>
 (.test (Sum.isLeft z21)
 (.sub (Sum.getLeft? z21) fun z22 =>
 (.ret z22))
 (.sub (Sum.getRight? z21) fun z23 =>
 (.sub (F21 z23) fun z24 =>
 (.sub (F40 z24) fun z25 =>
 (.sub (F41 z24) fun z26 =>
 (.sub (l_FnDiamondsKeep_R73 (z24.1, (z24.2, (z25.1, (z25.2, z26))))) fun z27 =>
 (.test z27.2.2.2.2
 (.ret false)
 (.sub (l_FnDiamondsKeep_R75 (z27.1, (z27.2.1, (z27.2.2.1, z27.2.2.2.1)))) fun z28 =>
 (.test z28
 (.ret false)
 (.ret true)))))))))))))))))))))
 .fail))))
 .fail)
 .fail)))
 .fail)
 .fail)
 .fail)
 .fail))))))))))
noncomputable def l_FnDiamondsKeep (v : (List (Int) × List (Int))) : Option Bool := (l_FnDiamondsKeep_t v).run
noncomputable def l_FnDiamondsKeep_E : TEnv := (((((((((((((((((((((((((E0.add1 n_F105 F105_sh F105_fo F105).add1 n_F36 F36_sh F36_fo F36).add1 n_F58 F58_sh F58_fo F58).add1 n_F60 F60_sh F60_fo F60).add1 n_F34 F34_sh F34_fo F34).add1 n_F35 F35_sh F35_fo F35).add1 n_F82 F82_sh F82_fo F82).add1 n_F83 F83_sh F83_fo F83).add1 n_F91 F91_sh F91_fo F91).add1 n_F92 F92_sh F92_fo F92).add1 n_F51 F51_sh F51_fo F51).add1 n_F26 F26_sh F26_fo F26).add1 n_F19 F19_sh F19_fo F19).add1 n_F39 F39_sh F39_fo F39).add1 n_F62 F62_sh F62_fo F62).add1 n_F90 F90_sh F90_fo F90).add1 n_F46 F46_sh F46_fo F46).add1 n_F70 F70_sh F70_fo F70).add1 n_F47 F47_sh F47_fo F47).add1 n_F72 F72_sh F72_fo F72).add1 n_F73 F73_sh F73_fo F73).add1 n_F74 F74_sh F74_fo F74).add1 n_F21 F21_sh F21_fo F21).add1 n_F40 F40_sh F40_fo F40).add1 n_F41 F41_sh F41_fo F41)
theorem l_FnDiamondsKeep_Eok : (l_FnDiamondsKeep_E).OK := (((((((((((((((((((((((((E0ok.add1 F105_ok).add1 F36_ok).add1 F58_ok).add1 F60_ok).add1 F34_ok).add1 F35_ok).add1 F82_ok).add1 F83_ok).add1 F91_ok).add1 F92_ok).add1 F51_ok).add1 F26_ok).add1 F19_ok).add1 F39_ok).add1 F62_ok).add1 F90_ok).add1 F46_ok).add1 F70_ok).add1 F47_ok).add1 F72_ok).add1 F73_ok).add1 F74_ok).add1 F21_ok).add1 F40_ok).add1 F41_ok)
noncomputable def l_FnDiamondsKeep_told : Nat → Option SealT := fun id => if id = 2000010 then some (LSh.cut l_FnDiamondsKeep_R10_sh 0 [(1, none), (5, none), (6, none), (7, none), (8, none), (9, none), (10, none), (11, none), (12, none), (13, none), (14, none), (15, none), (16, none), (17, none)] (l_FnDiamondsKeep_R10)) else if id = 2000014 then some (LSh.cut l_FnDiamondsKeep_R14_sh 0 [(1, none), (5, none), (6, none), (7, none), (10, none), (14, none), (18, none), (19, none)] (l_FnDiamondsKeep_R14)) else if id = 1000013 then some (LSh.cut l_FnDiamondsKeep_C13_sh 0 [(1, none), (5, none), (6, none), (7, none), (10, none), (14, none), (15, none)] (l_FnDiamondsKeep_C13)) else if id = 2000021 then some (LSh.cut l_FnDiamondsKeep_R21_sh 0 [(1, none), (5, none), (6, none), (10, none), (20, none), (21, none), (22, none), (23, none), (24, none), (25, none), (26, none)] (l_FnDiamondsKeep_R21)) else if id = 2000028 then some (LSh.cut l_FnDiamondsKeep_R28_sh 0 [(1, none), (5, none), (10, none), (20, none), (27, none), (28, none), (29, none), (30, none), (31, none), (227, none), (228, none), (229, none)] (l_FnDiamondsKeep_R28)) else if id = 2000034 then some (LSh.cut l_FnDiamondsKeep_R34_sh 0 [(1, none), (5, none), (10, none), (20, none), (27, none), (28, none), (33, none), (34, none), (35, none), (227, none), (228, none), (229, none), (255, none), (256, none), (257, none)] (l_FnDiamondsKeep_R34)) else if id = 31 then some (LSh.told l_FnDiamondsKeep_L31_sh 0 (l_FnDiamondsKeep_L31_step)) else if id = 25 then some (LSh.told l_FnDiamondsKeep_L25_sh 0 (l_FnDiamondsKeep_L25_step)) else if id = 2000052 then some (LSh.cut l_FnDiamondsKeep_R52_sh 0 [(1, none), (5, none), (20, none), (36, none), (37, none), (38, none), (39, none), (40, none), (41, none), (42, none), (43, none), (44, none), (45, none)] (l_FnDiamondsKeep_R52)) else if id = 46 then some (LSh.told l_FnDiamondsKeep_L46_sh 0 (l_FnDiamondsKeep_L46_step)) else if id = 43 then some (LSh.told l_FnDiamondsKeep_L43_sh 0 (l_FnDiamondsKeep_L43_step)) else if id = 1000017 then some (LSh.cut l_FnDiamondsKeep_C17_sh 0 [(1, none), (5, none), (6, none), (7, none), (10, none)] (l_FnDiamondsKeep_C17)) else if id = 2000059 then some (LSh.cut l_FnDiamondsKeep_R59_sh 0 [(1, none), (46, none), (47, none), (48, none), (49, none), (50, none), (51, none), (52, none), (53, none), (54, none), (55, none), (56, none), (57, none), (58, none)] (l_FnDiamondsKeep_R59)) else if id = 2000064 then some (LSh.cut l_FnDiamondsKeep_R64_sh 0 [(1, none), (46, none), (47, none), (48, none), (49, none), (53, none), (54, none), (59, none), (60, none), (61, none)] (l_FnDiamondsKeep_R64)) else if id = 2000068 then some (LSh.cut l_FnDiamondsKeep_R68_sh 0 [(1, none), (49, none), (62, none), (63, none)] (l_FnDiamondsKeep_R68)) else if id = 1000062 then some (LSh.cut l_FnDiamondsKeep_C62_sh 0 [(1, none), (46, none), (47, none), (48, none), (49, none), (50, none), (53, none), (54, none)] (l_FnDiamondsKeep_C62)) else if id = 2000073 then some (LSh.cut l_FnDiamondsKeep_R73_sh 0 [(64, none), (65, none), (66, none), (67, none), (68, none), (69, none)] (l_FnDiamondsKeep_R73)) else if id = 2000075 then some (LSh.cut l_FnDiamondsKeep_R75_sh 0 [(64, none), (65, none), (66, none), (67, none)] (l_FnDiamondsKeep_R75)) else none
theorem l_FnDiamondsKeep_R10_ok : CutOK Tryz.prog 0 (cutAt (loopAt (bodyOf fn_l_FnDiamondsKeep) []) 12) (LSh.cut l_FnDiamondsKeep_R10_sh 0 [(1, none), (5, none), (6, none), (7, none), (8, none), (9, none), (10, none), (11, none), (12, none), (13, none), (14, none), (15, none), (16, none), (17, none)] (l_FnDiamondsKeep_R10)) :=
  cut_ok (E := l_FnDiamondsKeep_E) (l_FnDiamondsKeep_Eok) (told := l_FnDiamondsKeep_told) (l := l_FnDiamondsKeep_R10_sh) (head := [(1, none), (5, none), (6, none), (7, none), (8, none), (9, none), (10, none), (11, none), (12, none), (13, none), (14, none), (15, none), (16, none), (17, none)]) (F := l_FnDiamondsKeep_R10_step) (loopsOK_of2 (ls := []) (cs := []) (by kernel_rfl) trivial (by kernel_rfl) trivial) (fun v => by kernel_rfl)
theorem l_FnDiamondsKeep_R14_ok : CutOK Tryz.prog 0 (cutAt (loopAt (bodyOf fn_l_FnDiamondsKeep) []) 17) (LSh.cut l_FnDiamondsKeep_R14_sh 0 [(1, none), (5, none), (6, none), (7, none), (10, none), (14, none), (18, none), (19, none)] (l_FnDiamondsKeep_R14)) :=
  cut_ok (E := l_FnDiamondsKeep_E) (l_FnDiamondsKeep_Eok) (told := l_FnDiamondsKeep_told) (l := l_FnDiamondsKeep_R14_sh) (head := [(1, none), (5, none), (6, none), (7, none), (10, none), (14, none), (18, none), (19, none)]) (F := l_FnDiamondsKeep_R14_step) (loopsOK_of2 (ls := []) (cs := []) (by kernel_rfl) trivial (by kernel_rfl) trivial) (fun v => by kernel_rfl)
theorem l_FnDiamondsKeep_C13_ok : CutOK Tryz.prog 0 (cutAt (loopAt (bodyOf fn_l_FnDiamondsKeep) []) 14) (LSh.cut l_FnDiamondsKeep_C13_sh 0 [(1, none), (5, none), (6, none), (7, none), (10, none), (14, none), (15, none)] (l_FnDiamondsKeep_C13)) :=
  cut_ok (E := l_FnDiamondsKeep_E) (l_FnDiamondsKeep_Eok) (told := l_FnDiamondsKeep_told) (l := l_FnDiamondsKeep_C13_sh) (head := [(1, none), (5, none), (6, none), (7, none), (10, none), (14, none), (15, none)]) (F := l_FnDiamondsKeep_C13_step) (loopsOK_of2 (ls := []) (cs := [cutAt (loopAt (bodyOf fn_l_FnDiamondsKeep) []) 15, cutAt (loopAt (bodyOf fn_l_FnDiamondsKeep) []) 16, cutAt (loopAt (bodyOf fn_l_FnDiamondsKeep) []) 17, cutAt (loopAt (bodyOf fn_l_FnDiamondsKeep) []) 18]) (by kernel_rfl) trivial (by kernel_rfl) ⟨.inl (by kernel_rfl), ⟨.inl (by kernel_rfl), ⟨.inr ⟨_, by kernel_rfl, l_FnDiamondsKeep_R14_ok⟩, ⟨.inl (by kernel_rfl), trivial⟩⟩⟩⟩) (fun v => by kernel_rfl)
theorem l_FnDiamondsKeep_R21_ok : CutOK Tryz.prog 0 (cutAt (loopAt (bodyOf fn_l_FnDiamondsKeep) []) 26) (LSh.cut l_FnDiamondsKeep_R21_sh 0 [(1, none), (5, none), (6, none), (10, none), (20, none), (21, none), (22, none), (23, none), (24, none), (25, none), (26, none)] (l_FnDiamondsKeep_R21)) :=
  cut_ok (E := l_FnDiamondsKeep_E) (l_FnDiamondsKeep_Eok) (told := l_FnDiamondsKeep_told) (l := l_FnDiamondsKeep_R21_sh) (head := [(1, none), (5, none), (6, none), (10, none), (20, none), (21, none), (22, none), (23, none), (24, none), (25, none), (26, none)]) (F := l_FnDiamondsKeep_R21_step) (loopsOK_of2 (ls := []) (cs := []) (by kernel_rfl) trivial (by kernel_rfl) trivial) (fun v => by kernel_rfl)
theorem l_FnDiamondsKeep_R28_ok : CutOK Tryz.prog 0 (cutAt (loopAt (bodyOf fn_l_FnDiamondsKeep) [0]) 5) (LSh.cut l_FnDiamondsKeep_R28_sh 0 [(1, none), (5, none), (10, none), (20, none), (27, none), (28, none), (29, none), (30, none), (31, none), (227, none), (228, none), (229, none)] (l_FnDiamondsKeep_R28)) :=
  cut_ok (E := l_FnDiamondsKeep_E) (l_FnDiamondsKeep_Eok) (told := l_FnDiamondsKeep_told) (l := l_FnDiamondsKeep_R28_sh) (head := [(1, none), (5, none), (10, none), (20, none), (27, none), (28, none), (29, none), (30, none), (31, none), (227, none), (228, none), (229, none)]) (F := l_FnDiamondsKeep_R28_step) (loopsOK_of2 (ls := []) (cs := []) (by kernel_rfl) trivial (by kernel_rfl) trivial) (fun v => by kernel_rfl)
theorem l_FnDiamondsKeep_R34_ok : CutOK Tryz.prog 0 (cutAt (loopAt (bodyOf fn_l_FnDiamondsKeep) [0, 0]) 5) (LSh.cut l_FnDiamondsKeep_R34_sh 0 [(1, none), (5, none), (10, none), (20, none), (27, none), (28, none), (33, none), (34, none), (35, none), (227, none), (228, none), (229, none), (255, none), (256, none), (257, none)] (l_FnDiamondsKeep_R34)) :=
  cut_ok (E := l_FnDiamondsKeep_E) (l_FnDiamondsKeep_Eok) (told := l_FnDiamondsKeep_told) (l := l_FnDiamondsKeep_R34_sh) (head := [(1, none), (5, none), (10, none), (20, none), (27, none), (28, none), (33, none), (34, none), (35, none), (227, none), (228, none), (229, none), (255, none), (256, none), (257, none)]) (F := l_FnDiamondsKeep_R34_step) (loopsOK_of2 (ls := []) (cs := []) (by kernel_rfl) trivial (by kernel_rfl) trivial) (fun v => by kernel_rfl)
theorem l_FnDiamondsKeep_L31_ok : ToldOK Tryz.prog 0 (loopAt (bodyOf fn_l_FnDiamondsKeep) [0, 0]) (LSh.told l_FnDiamondsKeep_L31_sh 0 (l_FnDiamondsKeep_L31_step)) :=
  loop_ok (E := l_FnDiamondsKeep_E) (l_FnDiamondsKeep_Eok) (told := l_FnDiamondsKeep_told) (l := l_FnDiamondsKeep_L31_sh) (step := l_FnDiamondsKeep_L31_step) (loopsOK_of2 (ls := []) (cs := [cutAt (loopAt (bodyOf fn_l_FnDiamondsKeep) [0, 0]) 0, cutAt (loopAt (bodyOf fn_l_FnDiamondsKeep) [0, 0]) 1, cutAt (loopAt (bodyOf fn_l_FnDiamondsKeep) [0, 0]) 2, cutAt (loopAt (bodyOf fn_l_FnDiamondsKeep) [0, 0]) 3, cutAt (loopAt (bodyOf fn_l_FnDiamondsKeep) [0, 0]) 4, cutAt (loopAt (bodyOf fn_l_FnDiamondsKeep) [0, 0]) 5, cutAt (loopAt (bodyOf fn_l_FnDiamondsKeep) [0, 0]) 6, cutAt (loopAt (bodyOf fn_l_FnDiamondsKeep) [0, 0]) 7]) (by kernel_rfl) trivial (by kernel_rfl) ⟨.inl (by kernel_rfl), ⟨.inl (by kernel_rfl), ⟨.inl (by kernel_rfl), ⟨.inl (by kernel_rfl), ⟨.inl (by kernel_rfl), ⟨.inr ⟨_, by kernel_rfl, l_FnDiamondsKeep_R34_ok⟩, ⟨.inl (by kernel_rfl), ⟨.inl (by kernel_rfl), trivial⟩⟩⟩⟩⟩⟩⟩⟩) (by kernel_rfl) (fun v => by kernel_rfl)
theorem l_FnDiamondsKeep_L25_ok : ToldOK Tryz.prog 0 (loopAt (bodyOf fn_l_FnDiamondsKeep) [0]) (LSh.told l_FnDiamondsKeep_L25_sh 0 (l_FnDiamondsKeep_L25_step)) :=
  loop_ok (E := l_FnDiamondsKeep_E) (l_FnDiamondsKeep_Eok) (told := l_FnDiamondsKeep_told) (l := l_FnDiamondsKeep_L25_sh) (step := l_FnDiamondsKeep_L25_step) (loopsOK_of2 (ls := [loopAt (bodyOf fn_l_FnDiamondsKeep) [0, 0]]) (cs := [cutAt (loopAt (bodyOf fn_l_FnDiamondsKeep) [0]) 0, cutAt (loopAt (bodyOf fn_l_FnDiamondsKeep) [0]) 1, cutAt (loopAt (bodyOf fn_l_FnDiamondsKeep) [0]) 2, cutAt (loopAt (bodyOf fn_l_FnDiamondsKeep) [0]) 3, cutAt (loopAt (bodyOf fn_l_FnDiamondsKeep) [0]) 4, cutAt (loopAt (bodyOf fn_l_FnDiamondsKeep) [0]) 5, cutAt (loopAt (bodyOf fn_l_FnDiamondsKeep) [0]) 6, cutAt (loopAt (bodyOf fn_l_FnDiamondsKeep) [0]) 7]) (by kernel_rfl) ⟨.inr ⟨_, by kernel_rfl, l_FnDiamondsKeep_L31_ok⟩, trivial⟩ (by kernel_rfl) ⟨.inl (by kernel_rfl), ⟨.inl (by kernel_rfl), ⟨.inl (by kernel_rfl), ⟨.inl (by kernel_rfl), ⟨.inl (by kernel_rfl), ⟨.inr ⟨_, by kernel_rfl, l_FnDiamondsKeep_R28_ok⟩, ⟨.inl (by kernel_rfl), ⟨.inl (by kernel_rfl), trivial⟩⟩⟩⟩⟩⟩⟩⟩) (by kernel_rfl) (fun v => by kernel_rfl)
theorem l_FnDiamondsKeep_R52_ok : CutOK Tryz.prog 0 (cutAt (loopAt (bodyOf fn_l_FnDiamondsKeep) [1, 0]) 6) (LSh.cut l_FnDiamondsKeep_R52_sh 0 [(1, none), (5, none), (20, none), (36, none), (37, none), (38, none), (39, none), (40, none), (41, none), (42, none), (43, none), (44, none), (45, none)] (l_FnDiamondsKeep_R52)) :=
  cut_ok (E := l_FnDiamondsKeep_E) (l_FnDiamondsKeep_Eok) (told := l_FnDiamondsKeep_told) (l := l_FnDiamondsKeep_R52_sh) (head := [(1, none), (5, none), (20, none), (36, none), (37, none), (38, none), (39, none), (40, none), (41, none), (42, none), (43, none), (44, none), (45, none)]) (F := l_FnDiamondsKeep_R52_step) (loopsOK_of2 (ls := []) (cs := []) (by kernel_rfl) trivial (by kernel_rfl) trivial) (fun v => by kernel_rfl)
theorem l_FnDiamondsKeep_L46_ok : ToldOK Tryz.prog 0 (loopAt (bodyOf fn_l_FnDiamondsKeep) [1, 0]) (LSh.told l_FnDiamondsKeep_L46_sh 0 (l_FnDiamondsKeep_L46_step)) :=
  loop_ok (E := l_FnDiamondsKeep_E) (l_FnDiamondsKeep_Eok) (told := l_FnDiamondsKeep_told) (l := l_FnDiamondsKeep_L46_sh) (step := l_FnDiamondsKeep_L46_step) (loopsOK_of2 (ls := []) (cs := [cutAt (loopAt (bodyOf fn_l_FnDiamondsKeep) [1, 0]) 0, cutAt (loopAt (bodyOf fn_l_FnDiamondsKeep) [1, 0]) 1, cutAt (loopAt (bodyOf fn_l_FnDiamondsKeep) [1, 0]) 2, cutAt (loopAt (bodyOf fn_l_FnDiamondsKeep) [1, 0]) 3, cutAt (loopAt (bodyOf fn_l_FnDiamondsKeep) [1, 0]) 4, cutAt (loopAt (bodyOf fn_l_FnDiamondsKeep) [1, 0]) 5, cutAt (loopAt (bodyOf fn_l_FnDiamondsKeep) [1, 0]) 6, cutAt (loopAt (bodyOf fn_l_FnDiamondsKeep) [1, 0]) 7]) (by kernel_rfl) trivial (by kernel_rfl) ⟨.inl (by kernel_rfl), ⟨.inl (by kernel_rfl), ⟨.inl (by kernel_rfl), ⟨.inl (by kernel_rfl), ⟨.inl (by kernel_rfl), ⟨.inl (by kernel_rfl), ⟨.inr ⟨_, by kernel_rfl, l_FnDiamondsKeep_R52_ok⟩, ⟨.inl (by kernel_rfl), trivial⟩⟩⟩⟩⟩⟩⟩⟩) (by kernel_rfl) (fun v => by kernel_rfl)
theorem l_FnDiamondsKeep_L43_ok : ToldOK Tryz.prog 0 (loopAt (bodyOf fn_l_FnDiamondsKeep) [1]) (LSh.told l_FnDiamondsKeep_L43_sh 0 (l_FnDiamondsKeep_L43_step)) :=
  loop_ok (E := l_FnDiamondsKeep_E) (l_FnDiamondsKeep_Eok) (told := l_FnDiamondsKeep_told) (l := l_FnDiamondsKeep_L43_sh) (step := l_FnDiamondsKeep_L43_step) (loopsOK_of2 (ls := [loopAt (bodyOf fn_l_FnDiamondsKeep) [1, 0]]) (cs := [cutAt (loopAt (bodyOf fn_l_FnDiamondsKeep) [1]) 0, cutAt (loopAt (bodyOf fn_l_FnDiamondsKeep) [1]) 1, cutAt (loopAt (bodyOf fn_l_FnDiamondsKeep) [1]) 2]) (by kernel_rfl) ⟨.inr ⟨_, by kernel_rfl, l_FnDiamondsKeep_L46_ok⟩, trivial⟩ (by kernel_rfl) ⟨.inl (by kernel_rfl), ⟨.inl (by kernel_rfl), ⟨.inl (by kernel_rfl), trivial⟩⟩⟩) (by kernel_rfl) (fun v => by kernel_rfl)
theorem l_FnDiamondsKeep_C17_ok : CutOK Tryz.prog 0 (cutAt (loopAt (bodyOf fn_l_FnDiamondsKeep) []) 19) (LSh.cut l_FnDiamondsKeep_C17_sh 0 [(1, none), (5, none), (6, none), (7, none), (10, none)] (l_FnDiamondsKeep_C17)) :=
  cut_ok (E := l_FnDiamondsKeep_E) (l_FnDiamondsKeep_Eok) (told := l_FnDiamondsKeep_told) (l := l_FnDiamondsKeep_C17_sh) (head := [(1, none), (5, none), (6, none), (7, none), (10, none)]) (F := l_FnDiamondsKeep_C17_step) (loopsOK_of2 (ls := [loopAt (bodyOf fn_l_FnDiamondsKeep) [0], loopAt (bodyOf fn_l_FnDiamondsKeep) [1]]) (cs := [cutAt (loopAt (bodyOf fn_l_FnDiamondsKeep) []) 20, cutAt (loopAt (bodyOf fn_l_FnDiamondsKeep) []) 21, cutAt (loopAt (bodyOf fn_l_FnDiamondsKeep) []) 22, cutAt (loopAt (bodyOf fn_l_FnDiamondsKeep) []) 23, cutAt (loopAt (bodyOf fn_l_FnDiamondsKeep) []) 24, cutAt (loopAt (bodyOf fn_l_FnDiamondsKeep) []) 25, cutAt (loopAt (bodyOf fn_l_FnDiamondsKeep) []) 26, cutAt (loopAt (bodyOf fn_l_FnDiamondsKeep) []) 27, cutAt (loopAt (bodyOf fn_l_FnDiamondsKeep) []) 28, cutAt (loopAt (bodyOf fn_l_FnDiamondsKeep) []) 29, cutAt (loopAt (bodyOf fn_l_FnDiamondsKeep) []) 30, cutAt (loopAt (bodyOf fn_l_FnDiamondsKeep) []) 31, cutAt (loopAt (bodyOf fn_l_FnDiamondsKeep) []) 32, cutAt (loopAt (bodyOf fn_l_FnDiamondsKeep) []) 33]) (by kernel_rfl) ⟨.inr ⟨_, by kernel_rfl, l_FnDiamondsKeep_L25_ok⟩, ⟨.inr ⟨_, by kernel_rfl, l_FnDiamondsKeep_L43_ok⟩, trivial⟩⟩ (by kernel_rfl) ⟨.inl (by kernel_rfl), ⟨.inl (by kernel_rfl), ⟨.inl (by kernel_rfl), ⟨.inl (by kernel_rfl), ⟨.inl (by kernel_rfl), ⟨.inl (by kernel_rfl), ⟨.inr ⟨_, by kernel_rfl, l_FnDiamondsKeep_R21_ok⟩, ⟨.inl (by kernel_rfl), ⟨.inl (by kernel_rfl), ⟨.inl (by kernel_rfl), ⟨.inl (by kernel_rfl), ⟨.inl (by kernel_rfl), ⟨.inl (by kernel_rfl), ⟨.inl (by kernel_rfl), trivial⟩⟩⟩⟩⟩⟩⟩⟩⟩⟩⟩⟩⟩⟩) (fun v => by kernel_rfl)
theorem l_FnDiamondsKeep_R59_ok : CutOK Tryz.prog 0 (cutAt (loopAt (bodyOf fn_l_FnDiamondsKeep) []) 40) (LSh.cut l_FnDiamondsKeep_R59_sh 0 [(1, none), (46, none), (47, none), (48, none), (49, none), (50, none), (51, none), (52, none), (53, none), (54, none), (55, none), (56, none), (57, none), (58, none)] (l_FnDiamondsKeep_R59)) :=
  cut_ok (E := l_FnDiamondsKeep_E) (l_FnDiamondsKeep_Eok) (told := l_FnDiamondsKeep_told) (l := l_FnDiamondsKeep_R59_sh) (head := [(1, none), (46, none), (47, none), (48, none), (49, none), (50, none), (51, none), (52, none), (53, none), (54, none), (55, none), (56, none), (57, none), (58, none)]) (F := l_FnDiamondsKeep_R59_step) (loopsOK_of2 (ls := []) (cs := []) (by kernel_rfl) trivial (by kernel_rfl) trivial) (fun v => by kernel_rfl)
theorem l_FnDiamondsKeep_R64_ok : CutOK Tryz.prog 0 (cutAt (loopAt (bodyOf fn_l_FnDiamondsKeep) []) 47) (LSh.cut l_FnDiamondsKeep_R64_sh 0 [(1, none), (46, none), (47, none), (48, none), (49, none), (53, none), (54, none), (59, none), (60, none), (61, none)] (l_FnDiamondsKeep_R64)) :=
  cut_ok (E := l_FnDiamondsKeep_E) (l_FnDiamondsKeep_Eok) (told := l_FnDiamondsKeep_told) (l := l_FnDiamondsKeep_R64_sh) (head := [(1, none), (46, none), (47, none), (48, none), (49, none), (53, none), (54, none), (59, none), (60, none), (61, none)]) (F := l_FnDiamondsKeep_R64_step) (loopsOK_of2 (ls := []) (cs := []) (by kernel_rfl) trivial (by kernel_rfl) trivial) (fun v => by kernel_rfl)
theorem l_FnDiamondsKeep_R68_ok : CutOK Tryz.prog 0 (cutAt (loopAt (bodyOf fn_l_FnDiamondsKeep) []) 51) (LSh.cut l_FnDiamondsKeep_R68_sh 0 [(1, none), (49, none), (62, none), (63, none)] (l_FnDiamondsKeep_R68)) :=
  cut_ok (E := l_FnDiamondsKeep_E) (l_FnDiamondsKeep_Eok) (told := l_FnDiamondsKeep_told) (l := l_FnDiamondsKeep_R68_sh) (head := [(1, none), (49, none), (62, none), (63, none)]) (F := l_FnDiamondsKeep_R68_step) (loopsOK_of2 (ls := []) (cs := []) (by kernel_rfl) trivial (by kernel_rfl) trivial) (fun v => by kernel_rfl)
theorem l_FnDiamondsKeep_C62_ok : CutOK Tryz.prog 0 (cutAt (loopAt (bodyOf fn_l_FnDiamondsKeep) []) 42) (LSh.cut l_FnDiamondsKeep_C62_sh 0 [(1, none), (46, none), (47, none), (48, none), (49, none), (50, none), (53, none), (54, none)] (l_FnDiamondsKeep_C62)) :=
  cut_ok (E := l_FnDiamondsKeep_E) (l_FnDiamondsKeep_Eok) (told := l_FnDiamondsKeep_told) (l := l_FnDiamondsKeep_C62_sh) (head := [(1, none), (46, none), (47, none), (48, none), (49, none), (50, none), (53, none), (54, none)]) (F := l_FnDiamondsKeep_C62_step) (loopsOK_of2 (ls := []) (cs := [cutAt (loopAt (bodyOf fn_l_FnDiamondsKeep) []) 43, cutAt (loopAt (bodyOf fn_l_FnDiamondsKeep) []) 44, cutAt (loopAt (bodyOf fn_l_FnDiamondsKeep) []) 45, cutAt (loopAt (bodyOf fn_l_FnDiamondsKeep) []) 46, cutAt (loopAt (bodyOf fn_l_FnDiamondsKeep) []) 47, cutAt (loopAt (bodyOf fn_l_FnDiamondsKeep) []) 48, cutAt (loopAt (bodyOf fn_l_FnDiamondsKeep) []) 49, cutAt (loopAt (bodyOf fn_l_FnDiamondsKeep) []) 50, cutAt (loopAt (bodyOf fn_l_FnDiamondsKeep) []) 51, cutAt (loopAt (bodyOf fn_l_FnDiamondsKeep) []) 52]) (by kernel_rfl) trivial (by kernel_rfl) ⟨.inl (by kernel_rfl), ⟨.inl (by kernel_rfl), ⟨.inl (by kernel_rfl), ⟨.inl (by kernel_rfl), ⟨.inr ⟨_, by kernel_rfl, l_FnDiamondsKeep_R64_ok⟩, ⟨.inl (by kernel_rfl), ⟨.inl (by kernel_rfl), ⟨.inl (by kernel_rfl), ⟨.inr ⟨_, by kernel_rfl, l_FnDiamondsKeep_R68_ok⟩, ⟨.inl (by kernel_rfl), trivial⟩⟩⟩⟩⟩⟩⟩⟩⟩⟩) (fun v => by kernel_rfl)
theorem l_FnDiamondsKeep_R73_ok : CutOK Tryz.prog 0 (cutAt (loopAt (bodyOf fn_l_FnDiamondsKeep) []) 57) (LSh.cut l_FnDiamondsKeep_R73_sh 0 [(64, none), (65, none), (66, none), (67, none), (68, none), (69, none)] (l_FnDiamondsKeep_R73)) :=
  cut_ok (E := l_FnDiamondsKeep_E) (l_FnDiamondsKeep_Eok) (told := l_FnDiamondsKeep_told) (l := l_FnDiamondsKeep_R73_sh) (head := [(64, none), (65, none), (66, none), (67, none), (68, none), (69, none)]) (F := l_FnDiamondsKeep_R73_step) (loopsOK_of2 (ls := []) (cs := []) (by kernel_rfl) trivial (by kernel_rfl) trivial) (fun v => by kernel_rfl)
theorem l_FnDiamondsKeep_R75_ok : CutOK Tryz.prog 0 (cutAt (loopAt (bodyOf fn_l_FnDiamondsKeep) []) 60) (LSh.cut l_FnDiamondsKeep_R75_sh 0 [(64, none), (65, none), (66, none), (67, none)] (l_FnDiamondsKeep_R75)) :=
  cut_ok (E := l_FnDiamondsKeep_E) (l_FnDiamondsKeep_Eok) (told := l_FnDiamondsKeep_told) (l := l_FnDiamondsKeep_R75_sh) (head := [(64, none), (65, none), (66, none), (67, none)]) (F := l_FnDiamondsKeep_R75_step) (loopsOK_of2 (ls := []) (cs := []) (by kernel_rfl) trivial (by kernel_rfl) trivial) (fun v => by kernel_rfl)
theorem l_FnDiamondsKeep_ok : FOK Tryz.prog n_l_FnDiamondsKeep l_FnDiamondsKeep_sh l_FnDiamondsKeep_fo l_FnDiamondsKeep :=
  fn_ok (E := l_FnDiamondsKeep_E) (l_FnDiamondsKeep_Eok) (told := l_FnDiamondsKeep_told) (fl := []) (c := bodyOf fn_l_FnDiamondsKeep) (s := l_FnDiamondsKeep_sh) (l := l_FnDiamondsKeep_fo) (tree := l_FnDiamondsKeep_t) fnat_l_FnDiamondsKeep (by kernel_rfl) (by kernel_rfl) (by kernel_rfl) (loopsOK_of2 (ls := [loopAt (bodyOf fn_l_FnDiamondsKeep) [0], loopAt (bodyOf fn_l_FnDiamondsKeep) [1]]) (cs := [cutAt (loopAt (bodyOf fn_l_FnDiamondsKeep) []) 0, cutAt (loopAt (bodyOf fn_l_FnDiamondsKeep) []) 1, cutAt (loopAt (bodyOf fn_l_FnDiamondsKeep) []) 2, cutAt (loopAt (bodyOf fn_l_FnDiamondsKeep) []) 3, cutAt (loopAt (bodyOf fn_l_FnDiamondsKeep) []) 4, cutAt (loopAt (bodyOf fn_l_FnDiamondsKeep) []) 5, cutAt (loopAt (bodyOf fn_l_FnDiamondsKeep) []) 6, cutAt (loopAt (bodyOf fn_l_FnDiamondsKeep) []) 7, cutAt (loopAt (bodyOf fn_l_FnDiamondsKeep) []) 8, cutAt (loopAt (bodyOf fn_l_FnDiamondsKeep) []) 9, cutAt (loopAt (bodyOf fn_l_FnDiamondsKeep) []) 10, cutAt (loopAt (bodyOf fn_l_FnDiamondsKeep) []) 11, cutAt (loopAt (bodyOf fn_l_FnDiamondsKeep) []) 12, cutAt (loopAt (bodyOf fn_l_FnDiamondsKeep) []) 13, cutAt (loopAt (bodyOf fn_l_FnDiamondsKeep) []) 14, cutAt (loopAt (bodyOf fn_l_FnDiamondsKeep) []) 15, cutAt (loopAt (bodyOf fn_l_FnDiamondsKeep) []) 16, cutAt (loopAt (bodyOf fn_l_FnDiamondsKeep) []) 17, cutAt (loopAt (bodyOf fn_l_FnDiamondsKeep) []) 18, cutAt (loopAt (bodyOf fn_l_FnDiamondsKeep) []) 19, cutAt (loopAt (bodyOf fn_l_FnDiamondsKeep) []) 20, cutAt (loopAt (bodyOf fn_l_FnDiamondsKeep) []) 21, cutAt (loopAt (bodyOf fn_l_FnDiamondsKeep) []) 22, cutAt (loopAt (bodyOf fn_l_FnDiamondsKeep) []) 23, cutAt (loopAt (bodyOf fn_l_FnDiamondsKeep) []) 24, cutAt (loopAt (bodyOf fn_l_FnDiamondsKeep) []) 25, cutAt (loopAt (bodyOf fn_l_FnDiamondsKeep) []) 26, cutAt (loopAt (bodyOf fn_l_FnDiamondsKeep) []) 27, cutAt (loopAt (bodyOf fn_l_FnDiamondsKeep) []) 28, cutAt (loopAt (bodyOf fn_l_FnDiamondsKeep) []) 29, cutAt (loopAt (bodyOf fn_l_FnDiamondsKeep) []) 30, cutAt (loopAt (bodyOf fn_l_FnDiamondsKeep) []) 31, cutAt (loopAt (bodyOf fn_l_FnDiamondsKeep) []) 32, cutAt (loopAt (bodyOf fn_l_FnDiamondsKeep) []) 33, cutAt (loopAt (bodyOf fn_l_FnDiamondsKeep) []) 34, cutAt (loopAt (bodyOf fn_l_FnDiamondsKeep) []) 35, cutAt (loopAt (bodyOf fn_l_FnDiamondsKeep) []) 36, cutAt (loopAt (bodyOf fn_l_FnDiamondsKeep) []) 37, cutAt (loopAt (bodyOf fn_l_FnDiamondsKeep) []) 38, cutAt (loopAt (bodyOf fn_l_FnDiamondsKeep) []) 39, cutAt (loopAt (bodyOf fn_l_FnDiamondsKeep) []) 40, cutAt (loopAt (bodyOf fn_l_FnDiamondsKeep) []) 41, cutAt (loopAt (bodyOf fn_l_FnDiamondsKeep) []) 42, cutAt (loopAt (bodyOf fn_l_FnDiamondsKeep) []) 43, cutAt (loopAt (bodyOf fn_l_FnDiamondsKeep) []) 44, cutAt (loopAt (bodyOf fn_l_FnDiamondsKeep) []) 45, cutAt (loopAt (bodyOf fn_l_FnDiamondsKeep) []) 46, cutAt (loopAt (bodyOf fn_l_FnDiamondsKeep) []) 47, cutAt (loopAt (bodyOf fn_l_FnDiamondsKeep) []) 48, cutAt (loopAt (bodyOf fn_l_FnDiamondsKeep) []) 49, cutAt (loopAt (bodyOf fn_l_FnDiamondsKeep) []) 50, cutAt (loopAt (bodyOf fn_l_FnDiamondsKeep) []) 51, cutAt (loopAt (bodyOf fn_l_FnDiamondsKeep) []) 52, cutAt (loopAt (bodyOf fn_l_FnDiamondsKeep) []) 53, cutAt (loopAt (bodyOf fn_l_FnDiamondsKeep) []) 54, cutAt (loopAt (bodyOf fn_l_FnDiamondsKeep) []) 55, cutAt (loopAt (bodyOf fn_l_FnDiamondsKeep) []) 56, cutAt (loopAt (bodyOf fn_l_FnDiamondsKeep) []) 57, cutAt (loopAt (bodyOf fn_l_FnDiamondsKeep) []) 58, cutAt (loopAt (bodyOf fn_l_FnDiamondsKeep) []) 59, cutAt (loopAt (bodyOf fn_l_FnDiamondsKeep) []) 60, cutAt (loopAt (bodyOf fn_l_FnDiamondsKeep) []) 61, cutAt (loopAt (bodyOf fn_l_FnDiamondsKeep) []) 62]) (by kernel_rfl) ⟨.inr ⟨_, by kernel_rfl, l_FnDiamondsKeep_L25_ok⟩, ⟨.inr ⟨_, by kernel_rfl, l_FnDiamondsKeep_L43_ok⟩, trivial⟩⟩ (by kernel_rfl) ⟨.inl (by kernel_rfl), ⟨.inl (by kernel_rfl), ⟨.inl (by kernel_rfl), ⟨.inl (by kernel_rfl), ⟨.inl (by kernel_rfl), ⟨.inl (by kernel_rfl), ⟨.inl (by kernel_rfl), ⟨.inl (by kernel_rfl), ⟨.inl (by kernel_rfl), ⟨.inl (by kernel_rfl), ⟨.inl (by kernel_rfl), ⟨.inl (by kernel_rfl), ⟨.inr ⟨_, by kernel_rfl, l_FnDiamondsKeep_R10_ok⟩, ⟨.inl (by kernel_rfl), ⟨.inr ⟨_, by kernel_rfl, l_FnDiamondsKeep_C13_ok⟩, ⟨.inl (by kernel_rfl), ⟨.inl (by kernel_rfl), ⟨.inr ⟨_, by kernel_rfl, l_FnDiamondsKeep_R14_ok⟩, ⟨.inl (by kernel_rfl), ⟨.inr ⟨_, by kernel_rfl, l_FnDiamondsKeep_C17_ok⟩, ⟨.inl (by kernel_rfl), ⟨.inl (by kernel_rfl), ⟨.inl (by kernel_rfl), ⟨.inl (by kernel_rfl), ⟨.inl (by kernel_rfl), ⟨.inl (by kernel_rfl), ⟨.inr ⟨_, by kernel_rfl, l_FnDiamondsKeep_R21_ok⟩, ⟨.inl (by kernel_rfl), ⟨.inl (by kernel_rfl), ⟨.inl (by kernel_rfl), ⟨.inl (by kernel_rfl), ⟨.inl (by kernel_rfl), ⟨.inl (by kernel_rfl), ⟨.inl (by kernel_rfl), ⟨.inl (by kernel_rfl), ⟨.inl (by kernel_rfl), ⟨.inl (by kernel_rfl), ⟨.inl (by kernel_rfl), ⟨.inl (by kernel_rfl), ⟨.inl (by kernel_rfl), ⟨.inr ⟨_, by kernel_rfl, l_FnDiamondsKeep_R59_ok⟩, ⟨.inl (by kernel_rfl), ⟨.inr ⟨_, by kernel_rfl, l_FnDiamondsKeep_C62_ok⟩, ⟨.inl (by kernel_rfl), ⟨.inl (by kernel_rfl), ⟨.inl (by kernel_rfl), ⟨.inl (by kernel_rfl), ⟨.inr ⟨_, by kernel_rfl, l_FnDiamondsKeep_R64_ok⟩, ⟨.inl (by kernel_rfl), ⟨.inl (by kernel_rfl), ⟨.inl (by kernel_rfl), ⟨.inr ⟨_, by kernel_rfl, l_FnDiamondsKeep_R68_ok⟩, ⟨.inl (by kernel_rfl), ⟨.inl (by kernel_rfl), ⟨.inl (by kernel_rfl), ⟨.inl (by kernel_rfl), ⟨.inl (by kernel_rfl), ⟨.inr ⟨_, by kernel_rfl, l_FnDiamondsKeep_R73_ok⟩, ⟨.inl (by kernel_rfl), ⟨.inl (by kernel_rfl), ⟨.inr ⟨_, by kernel_rfl, l_FnDiamondsKeep_R75_ok⟩, ⟨.inl (by kernel_rfl), ⟨.inl (by kernel_rfl), trivial⟩⟩⟩⟩⟩⟩⟩⟩⟩⟩⟩⟩⟩⟩⟩⟩⟩⟩⟩⟩⟩⟩⟩⟩⟩⟩⟩⟩⟩⟩⟩⟩⟩⟩⟩⟩⟩⟩⟩⟩⟩⟩⟩⟩⟩⟩⟩⟩⟩⟩⟩⟩⟩⟩⟩⟩⟩⟩⟩⟩⟩⟩⟩) (fun v => by kernel_rfl)

theorem mx_flat {q : List Int} (hr : rowed q = true) : (frF q).flatten.foldl mx2 0 = mxI (frF q).flatten := by
  obtain ⟨h4, ds, hd⟩ := rowed_some hr
  have hb := (trOf_bounds (l := q) (by rw [hd]; rfl)).1
  obtain ⟨f1, x, t, f2⟩ := frF_flat h4 (by omega)
  have hx : 1 ≤ x := by
    have hm : x ∈ (frF q).flatten := by rw [f2]; simp
    obtain ⟨row, hr, hx⟩ := List.mem_flatten.1 hm
    obtain ⟨k, hk⟩ := List.getElem?_of_mem hr
    have hkl := getElem?_lt hk
    rw [frF_length] at hkl
    rw [frF_get hkl] at hk
    rw [← Option.some.inj hk] at hx
    unfold rowF at hx
    obtain ⟨i, _, e⟩ := List.mem_map.1 hx
    rw [← e]
    exact (en_pos hd _ (by omega) (by omega)).1
  have : mx2 0 x = x := by unfold mx2; rw [if_neg (by omega)]
  rw [f2, List.foldl_cons, this]
  rfl
theorem l_FnDiamondsKeep_R10_eq (more q : List Int) (ok three : Bool) (most : Int) (rows : List (List Int)) (ones : List Dg) (hq : F51 q = some three) (hok : ok = (three && decide ((q.length : Int) > 3)))
    (hr : rows.length ≤ 1000 ∧ ∀ x ∈ rows, x.length ≤ 1000) (ho : ones.length ≤ 1000) :
    l_FnDiamondsKeep_R10 ((more, (q, ((), (ok, ((), (ok, (most, (ok, (most, (ok, ((), (three, ((), three))))))))))))), (rows, (rows, (ones, ones)))) = some ((more, (q, ((), (ok, (most, ((), (three, false))))))), (rows, ones)) := by
  have e1 := uRows_val rows rows (by omega) (fun x hx => by have := hr.2 x hx; omega)
  have e2 := uCuts_val ones ones (by omega)
  rw [decide_eq_true rfl] at e1 e2
  rw [l_FnDiamondsKeep_R10, l_FnDiamondsKeep_R10_step, T.run_test, if_neg (by simp), T.run_test, if_pos (by simp), T.run_test, if_pos (by simp), T.run_sub]
  simp only [win_all]
  rw [e1, Option.bind_some, T.run_test, if_neg (by simp), T.run_test, if_neg (by simp), T.run_test, if_neg (by simp), T.run_test, if_neg (by simp), T.run_test, if_pos (by simp), T.run_test, if_pos (by simp), T.run_sub, e2, Option.bind_some, T.run_test, if_neg (by simp),
    T.run_sub, hq, Option.bind_some, T.run_test, if_neg (by simp), T.run_test]
  cases three with
  | true => rw [if_pos rfl, T.run_test, if_neg (by rw [hok]; simp), T.run_test, if_pos (by simp), T.run_test, if_pos (by simp), T.run_ret]; simp
  | false => rw [if_neg (by simp), T.run_test, if_neg (by rw [hok]; simp), T.run_test, if_pos (by simp), T.run_test, if_pos (by simp), T.run_ret]; simp
def onsF (q : List Int) : List Dg := match trOf q with | some ds => ds | none => []
theorem onsF_len (q : List Int) : (onsF q).length ≤ 9 := by
  unfold onsF
  cases h : trOf q with
  | none => simp
  | some ds =>
    have := tri_rng (trOf_tri h).1
    simp only
    omega
theorem l_FnDiamondsKeep_C13_eq (more q : List Int) (hl : q.length ≤ 1000) (ok : Bool) (most : Int) (rows : List (List Int)) :
    l_FnDiamondsKeep_C13 ((more, (q, ((), (ok, (most, ((), (trOf q).isSome)))))), (rows, onsF q)) = some (.inr ((more, (q, ((), (ok, most)))), rows)) := by
  have ho := onsF_len q
  have e2 := uCuts_val (onsF q) (onsF q) (by omega)
  rw [decide_eq_true rfl] at e2
  have e1 := F26_eq q (by omega)
  rw [l_FnDiamondsKeep_C13, l_FnDiamondsKeep_C13_step, T.run_test]
  unfold onsF at *
  cases h : trOf q with
  | none => rw [if_neg (by simp), T.run_test, if_pos (by simp), T.run_ret]
  | some ds =>
    rw [h] at e1 e2
    simp only at e1 e2
    rw [if_pos (by rfl), T.run_sub, e1, Option.bind_some, T.run_test, if_pos (by simp), T.run_test, if_pos (by simp), T.run_test, if_pos (by simp), T.run_sub, l_FnDiamondsKeep_R14, l_FnDiamondsKeep_R14_step, T.run_test, if_neg (by simp), T.run_test, if_pos (by simp), T.run_test, if_pos (by simp), T.run_sub]
    simp only [win_all]
    rw [e2, Option.bind_some, T.run_test, if_pos (by simp), T.run_ret, Option.bind_some, T.run_test, if_neg (by simp), T.run_test, if_pos (by simp), T.run_ret]
theorem l_FnDiamondsKeep_R21_eq (more q : List Int) (most : Int) (hr : rowed q = true) :
    l_FnDiamondsKeep_R21 ((more, (q, ((), (most, ((q.length : Int), ((), (true, ((), (true, ((), true)))))))))), (frF q, (q, (frF q.reverse, frF q)))) = some ((more, (q, ((), (most, ((q.length : Int), false))))), frF q) := by
  obtain ⟨h4, ds, hd⟩ := rowed_some hr
  have hb := (trOf_bounds (l := q) (by rw [hd]; rfl)).1
  have hlen := frF_length q
  have e1 := uRows_val (frF q) (frF q) (by omega) (fun x hx => by
    obtain ⟨k, hk⟩ := List.getElem?_of_mem hx
    have hkl := getElem?_lt hk
    rw [hlen] at hkl
    rw [frF_get hkl] at hk
    rw [← Option.some.inj hk, rowF_length]
    omega)
  have e2 := uSame_val q q (by omega)
  rw [decide_eq_true rfl] at e1 e2
  have w : w64 ((q.length : Int) - 3) = (q.length : Int) - 3 := w64_id (by omega) (by omega)
  rw [l_FnDiamondsKeep_R21, l_FnDiamondsKeep_R21_step, T.run_test, if_pos (by simp), T.run_sub]
  simp only [win_all]
  rw [F62_eq hr, Option.bind_some, T.run_test, if_neg (by simp), w, T.run_test, if_neg (by simp [hlen]; omega), T.run_test, if_neg (by simp), T.run_test, if_pos (by simp), T.run_sub, e2, Option.bind_some, T.run_test, if_neg (by simp), T.run_test, if_neg (by simp), T.run_test, if_neg (by simp),
    T.run_test, if_pos (by simp), T.run_test, if_pos (by simp), T.run_sub, e1, Option.bind_some, T.run_test, if_neg (by simp), T.run_test, if_pos (by simp), T.run_sub, F62_eq (rowed_rev hr), Option.bind_some, T.run_test, if_pos (by simp), T.run_ret]
  rfl
theorem l_FnDiamondsKeep_L31_eq (more q : List Int) {ds : List Dg} (hd : trOf q = some ds) (most great : Int) (k : Nat) (hk : k + 3 < q.length) (t228 t229 : Int) (rows : List (List Int)) :
    l_FnDiamondsKeep_L31 ((more, (q, (most, ((q.length : Int), (great, ((k : Int), ((), (t228, (t229, (rowF q (k + 1), (((rowF q (k + 1)).length : Int), (0 : Int)))))))))))), rows) = some (.inr ((more, (q, (most, ((q.length : Int), ((rowF q (k + 1)).foldl mx2 great, ((), (t228, t229))))))), rows)) := by
  have hb := (trOf_bounds (l := q) (by rw [hd]; rfl)).1
  have hrl := rowF_length q (k + 1)
  have h := loop_fold (step := fun s => (l_FnDiamondsKeep_L31_step s).run) (xs := rowF q (k + 1)) (fun _ (_ : Int) => True)
    (fun i g => ((more, (q, (most, ((q.length : Int), (g, ((k : Int), ((), (t228, (t229, (rowF q (k + 1), (((rowF q (k + 1)).length : Int), (i : Int)))))))))))), rows)) mx2
    (fun g => .inr ((more, (q, (most, ((q.length : Int), (g, ((), (t228, t229))))))), rows))
    (fun i g x _ hx => by
      have hi := getElem?_lt hx
      have hi' : i < q.length := by omega
      have hx' := hx
      rw [rowF_get hi'] at hx'
      have hx' := Option.some.inj hx'
      have w1 : w64 ((i : Int) + 1) = ((i + 1 : Nat) : Int) := by rw [w64_id (by omega) (by omega)]; omega
      have w2 : w64 (w64 ((i : Int) + k) + 2) = (i : Int) + k + 2 := by rw [w64_id (z := (i : Int) + k) (by omega) (by omega), w64_id (by omega) (by omega)]
      have he := F70_eq q (by omega) (i : Int) ((i : Int) + k + 2)
      have hent : entR q (i : Int) ((i : Int) + k + 2) = (x, true) := by
        unfold entR
        rw [if_pos (by rw [Bool.and_eq_true, Bool.and_eq_true, inB_iff, inB_iff, hd]; exact ⟨rfl, by omega, by omega⟩), show ((i : Int) + k + 2 - i).toNat = k + 1 + 1 by omega, hx']
      rw [hent] at he
      have hx1 : 1 ≤ x := by rw [← hx']; exact (en_pos hd _ (by omega) (by omega)).1
      refine ⟨?_, trivial⟩
      rw [l_FnDiamondsKeep_L31_step, T.run_test, if_pos (decide_eq_true (by omega)), T.run_test, if_pos (decide_eq_true (by omega)), T.run_sub, Int.toNat_natCast, hx, Option.bind_some, T.run_sub, w2, he, Option.bind_some, T.run_test, if_pos (by simp), T.run_sub,
        l_FnDiamondsKeep_R34, l_FnDiamondsKeep_R34_step, T.run_test, if_neg (by simp), T.run_test, if_neg (by simp), T.run_test, if_pos (by simp), T.run_ret, decide_eq_false (by omega : ¬ x < 1), Option.bind_some, T.run_test, if_neg (by simp), T.run_test]
      dsimp only
      unfold mx2
      by_cases hg : x > g
      · rw [if_pos (decide_eq_true hg), T.run_test, if_pos (by simp), T.run_ret, w1, if_neg (by omega)]
      · rw [if_neg (by rw [decide_eq_true_eq]; exact hg), T.run_test, if_pos (by simp), T.run_ret, w1]
        by_cases hg2 : g > x
        · rw [if_pos hg2]
        · rw [if_neg hg2, show g = x by omega])
    (fun g _ => by rw [l_FnDiamondsKeep_L31_step, T.run_test, if_neg (by simp), T.run_test, if_pos (by simp), T.run_ret])
    great trivial
  exact h.1
theorem l_FnDiamondsKeep_L25_eq (more q : List Int) (hr : rowed q = true) (most : Int) :
    l_FnDiamondsKeep_L25 ((more, (q, (most, ((q.length : Int), ((0 : Int), ((), (((frF q).length : Int), (0 : Int)))))))), frF q) = some (.inr (more, (q, (most, ((q.length : Int), mxI (frF q).flatten))))) := by
  obtain ⟨h4, ds, hd⟩ := rowed_some hr
  have hb := (trOf_bounds (l := q) (by rw [hd]; rfl)).1
  have hlen := frF_length q
  have h := loop_fold (step := fun s => (l_FnDiamondsKeep_L25_step s).run) (xs := frF q) (fun _ (_ : Int) => True)
    (fun k g => ((more, (q, (most, ((q.length : Int), (g, ((), (((frF q).length : Int), (k : Int)))))))), frF q)) (fun g row => row.foldl mx2 g) (fun g => .inr (more, (q, (most, ((q.length : Int), g)))))
    (fun k g row _ hx => by
      have hk := getElem?_lt hx
      have hk' := hk
      rw [hlen] at hk'
      have hx' := hx
      rw [frF_get hk'] at hx'
      have hx' := Option.some.inj hx'
      subst hx'
      have w1 : w64 ((k : Int) + 1) = ((k + 1 : Nat) : Int) := by rw [w64_id (by omega) (by omega)]; omega
      have er := F46_eq hd (k + 1) (by omega) (by omega)
      have e2 := uSame_val (rowF q (k + 1)) (rowF q (k + 1)) (by rw [rowF_length]; omega)
      rw [decide_eq_true rfl] at e2
      have hL := l_FnDiamondsKeep_L31_eq more q hd most g k (by omega) ((frF q).length : Int) (k : Int) (frF q)
      refine ⟨?_, trivial⟩
      rw [l_FnDiamondsKeep_L25_step, T.run_test, if_pos (decide_eq_true (by omega)), T.run_test, if_pos (decide_eq_true (by omega)), T.run_sub, Nat.zero_add, Int.toNat_natCast, hx, Option.bind_some, T.run_sub, w1, er, Option.bind_some, T.run_test, if_pos (by simp), T.run_test, if_pos (by simp), T.run_sub,
        l_FnDiamondsKeep_R28, l_FnDiamondsKeep_R28_step, T.run_test, if_neg (by simp [rowF_length]), T.run_test, if_neg (by simp), T.run_test, if_pos (by simp), T.run_sub]
      simp only [win_all]
      rw [e2, Option.bind_some, T.run_test, if_pos (by simp), T.run_ret, Option.bind_some, T.run_test, if_neg (by simp), T.run_test, if_pos (by simp), T.run_sub, hL, Option.bind_some, T.run_test, if_neg (by simp [Sum.isLeft]), T.run_sub]
      simp only [Sum.getRight?, Option.bind_some]
      rw [T.run_test, if_pos (by simp), T.run_ret, w1])
    (fun g _ => by rw [l_FnDiamondsKeep_L25_step, T.run_test, if_neg (by simp), T.run_ret])
    (0 : Int) trivial
  have h1 := h.1
  rw [← List.foldl_flatten, mx_flat hr] at h1
  exact h1
theorem entR_in {q : List Int} {ds : List Dg} (hd : trOf q = some ds) (i j : Int) (k : Nat) (hi : -1000 ≤ i ∧ i ≤ 1000) (hk : k ≤ q.length) (hj : j = i + k) : entR q i j = (en (qa q) i k, true) := by
  unfold entR
  rw [if_pos (by rw [Bool.and_eq_true, Bool.and_eq_true, inB_iff, inB_iff, hd]; exact ⟨rfl, by omega, by omega⟩), show (j - i).toNat = k by omega]
theorem l_FnDiamondsKeep_L46_eq (more q : List Int) {ds : List Dg} (hd : trOf q = some ds) (i : Nat) (hi : i < q.length) : ∀ m k : Nat, k + m + 1 = q.length →
    l_FnDiamondsKeep_L46 (more, (q, ((q.length : Int), ((i : Int), (i : Int) + ((k + 1 : Nat) : Int))))) = some (.inr (more, (q, ((q.length : Int), (i : Int))))) := by
  have hb := (trOf_bounds (l := q) (by rw [hd]; rfl)).1
  have wn : w64 ((i : Int) + (q.length : Int)) = (i : Int) + q.length := w64_id (by omega) (by omega)
  intro m
  induction m with
  | zero =>
    intro k hk
    simp only [l_FnDiamondsKeep_L46]
    refine loopO_done ?_
    rw [l_FnDiamondsKeep_L46_step, wn, T.run_test, if_neg (by rw [decide_eq_true_eq]; omega), T.run_ret]
  | succ m ih =>
    intro k hk
    have w1 : w64 ((i : Int) + 1) = (i : Int) + 1 := w64_id (by omega) (by omega)
    have w2 : w64 ((i : Int) + ((k + 1 : Nat) : Int) + 1) = (i : Int) + ((k + 1 + 1 : Nat) : Int) := by rw [w64_id (by omega) (by omega)]; omega
    have ea := F70_eq q (by omega) (i : Int) ((i : Int) + ((k + 1 : Nat) : Int))
    have eb := F70_eq q (by omega) ((i : Int) + 1) ((i : Int) + ((k + 1 + 1 : Nat) : Int))
    have ec := F70_eq q (by omega) ((i : Int) + 1) ((i : Int) + ((k + 1 : Nat) : Int))
    have ed := F70_eq q (by omega) (i : Int) ((i : Int) + ((k + 1 + 1 : Nat) : Int))
    rw [entR_in hd _ _ (k + 1) (by omega) (by omega) rfl] at ea
    rw [entR_in hd _ _ (k + 1) (by omega) (by omega) (by omega)] at eb
    rw [entR_in hd _ _ k (by omega) (by omega) (by omega)] at ec
    rw [entR_in hd _ _ (k + 2) (by omega) (by omega) (by omega)] at ed
    have hdet := en_det (qa q) (i : Int) k
    have b1 := en_small hd (i : Int) (k := k + 1) (by omega)
    have b2 := en_small hd ((i : Int) + 1) (k := k + 1) (by omega)
    have b3 := en_small hd ((i : Int) + 1) (k := k) (by omega)
    have b4 := en_small hd (i : Int) (k := k + 2) (by omega)
    generalize en (qa q) (i : Int) (k + 1) = a at *
    generalize en (qa q) ((i : Int) + 1) (k + 1) = b at *
    generalize en (qa q) ((i : Int) + 1) k = c at *
    generalize en (qa q) (i : Int) (k + 2) = d at *
    have m1 := mul_le (a := a) (b := b) (A := 512) (B := 512) (by omega) (by omega) (by omega) (by omega)
    have m2 := mul_le (a := c) (b := d) (A := 512) (B := 512) (by omega) (by omega) (by omega) (by omega)
    have hw : w64 (w64 (a * b) - w64 (c * d)) = 1 := by rw [w64_id (z := a * b) (by omega) (by omega), w64_id (z := c * d) (by omega) (by omega), hdet]; decide
    rw [← ih (k + 1) (by omega)]
    simp only [l_FnDiamondsKeep_L46]
    refine loopO_next ?_
    rw [l_FnDiamondsKeep_L46_step, wn, T.run_test, if_pos (decide_eq_true (by omega)), T.run_sub, ea, Option.bind_some, T.run_sub, w1, w2, eb, Option.bind_some, T.run_sub, ec, Option.bind_some, T.run_sub, ed, Option.bind_some, T.run_sub,
      l_FnDiamondsKeep_R52, l_FnDiamondsKeep_R52_step, T.run_test, if_neg (by simp), T.run_test, if_neg (by simp), T.run_test, if_neg (by simp), T.run_test, if_neg (by simp), T.run_ret, hw, Option.bind_some, T.run_test, if_neg (by simp), T.run_ret]
    dsimp only
    rw [w2]
theorem l_FnDiamondsKeep_L43_eq (more q : List Int) {ds : List Dg} (hd : trOf q = some ds) : ∀ m i : Nat, i + m = q.length → l_FnDiamondsKeep_L43 (more, (q, ((q.length : Int), (i : Int)))) = some (.inr more) := by
  have hb := (trOf_bounds (l := q) (by rw [hd]; rfl)).1
  intro m
  induction m with
  | zero =>
    intro i hi
    simp only [l_FnDiamondsKeep_L43]
    refine loopO_done ?_
    rw [l_FnDiamondsKeep_L43_step, T.run_test, if_neg (by rw [decide_eq_true_eq]; omega), T.run_ret]
  | succ m ih =>
    intro i hi
    have w1 : w64 ((i : Int) + 1) = (i : Int) + ((0 + 1 : Nat) : Int) := by rw [w64_id (by omega) (by omega)]; omega
    have hL := l_FnDiamondsKeep_L46_eq more q hd i (by omega) (q.length - 1) 0 (by omega)
    rw [← ih (i + 1) (by omega)]
    simp only [l_FnDiamondsKeep_L43]
    refine loopO_next ?_
    rw [l_FnDiamondsKeep_L43_step, T.run_test, if_pos (decide_eq_true (by omega)), T.run_sub, w1, hL, Option.bind_some, T.run_test, if_neg (by simp [Sum.isLeft]), T.run_sub]
    simp only [Sum.getRight?, Option.bind_some]
    rw [T.run_ret, w1]
    simp
theorem l_FnDiamondsKeep_C17_eq (more q : List Int) (ok : Bool) (hok : ok = rowed q) (most : Int) (hm : ok = true → most = mxI (frF q).flatten) (rows : List (List Int)) (hrows : ok = true → rows = frF q) :
    l_FnDiamondsKeep_C17 ((more, (q, ((), (ok, most)))), rows) = some (.inr more) := by
  rw [l_FnDiamondsKeep_C17, l_FnDiamondsKeep_C17_step, T.run_test]
  cases h : ok with
  | false => rfl
  | true =>
    have hr : rowed q = true := by rw [← hok, h]
    obtain ⟨h4, ds, hd⟩ := rowed_some hr
    rw [hm h, hrows h]
    have hb := (trOf_bounds (l := q) (by rw [hd]; rfl)).1
    have hlen := frF_length q
    have e2 := F39_eq (rowed_rev hr)
    rw [List.reverse_reverse] at e2
    have hL25 := l_FnDiamondsKeep_L25_eq more q hr (mxI (frF q).flatten)
    have hL43 := l_FnDiamondsKeep_L43_eq more q hd q.length 0 (by omega)
    rw [if_pos rfl, T.run_test, if_pos (by simp), T.run_sub]
    simp only [win_all]
    rw [F19_eq hr, Option.bind_some, T.run_test, if_pos (by simp), T.run_sub, F39_eq hr, Option.bind_some, T.run_test, if_pos (by simp), T.run_sub, e2, Option.bind_some, T.run_test, if_pos (by simp), T.run_test, if_pos (by simp), T.run_test, if_pos (by simp), T.run_test, if_pos (by simp), T.run_sub,
      l_FnDiamondsKeep_R21_eq more q _ hr, Option.bind_some, T.run_test, if_neg (by simp), T.run_test, if_pos (by simp), T.run_sub, hL25, Option.bind_some, T.run_test, if_neg (by simp [Sum.isLeft]), T.run_sub]
    simp only [Sum.getRight?, Option.bind_some]
    rw [T.run_test, if_neg (by simp), T.run_sub]
    have hL43' : l_FnDiamondsKeep_L43 (more, (q, ((q.length : Int), (0 : Int)))) = some (.inr more) := hL43
    rw [hL43', Option.bind_some, T.run_test, if_neg (by simp [Sum.isLeft]), T.run_sub]
    simp only [Sum.getRight?, Option.bind_some]
    rw [T.run_ret]
theorem l_FnDiamondsKeep_C62_eq (more q : List Int) (hl : q.length ≤ 1000) (i j : Int) : l_FnDiamondsKeep_C62 (more, (q, (i, (j, ((entR q i j).1, ((entR q i j).2, ((glR q i j).1, (glR q i j).2.1))))))) = some (.inr more) := by
  rw [l_FnDiamondsKeep_C62, l_FnDiamondsKeep_C62_step, T.run_test]
  unfold glR entR
  cases hc : ((trOf q).isSome && (inB (-1000) 1000 i && inB i (i + q.length) j)) with
  | false => rfl
  | true =>
    rw [Bool.and_eq_true, Bool.and_eq_true, inB_iff, inB_iff] at hc
    obtain ⟨ds, hd⟩ := Option.isSome_iff_exists.1 hc.1
    have hb := (trOf_bounds hc.1).1
    obtain ⟨k, hk⟩ : ∃ k : Nat, j = i + k := ⟨(j - i).toNat, by omega⟩
    subst hk
    have hkl : k ≤ q.length := by omega
    have h1 := Int.emod_nonneg (i + k) (show (q.length : Int) ≠ 0 by omega)
    have h2 := Int.emod_lt_of_pos (i + k) (show 0 < (q.length : Int) by omega)
    have hdiv := Int.mul_ediv_add_emod (i + k) (q.length : Int)
    have hg := en_glide' hb.1 (quid_clo hc.1) i k hkl
    simp only [if_true]
    rw [show (i + (k : Int) - i).toNat = k by omega]
    have hAe : en (qa q) ((i + (k : Int)) % (q.length : Int)) (q.length - k) = en (qa q) i k := by rw [hg]; exact (en_mod q (i + k) _).symm
    generalize hA : (i + (k : Int)) % (q.length : Int) = A at *
    have e1 := F70_eq q (by omega) A (A + i + q.length - (i + k))
    rw [entR_in hd A _ (q.length - k) (by omega) (by omega) (by omega), hAe] at e1
    have t1 : Int.tmod (w64 (A - (i + k))) (q.length : Int) = 0 := by
      rw [w64_id (by omega) (by omega), show A - (i + (k : Int)) = (q.length : Int) * (-((i + (k : Int)) / (q.length : Int))) by rw [Int.mul_neg]; omega]
      exact Int.mul_tmod_right _ _
    have t2 : Int.tmod (w64 (A + i + q.length - (i + k) - i)) (q.length : Int) = 0 := by
      rw [w64_id (by omega) (by omega), show A + i + (q.length : Int) - (i + k) - i = (q.length : Int) * (1 - ((i + (k : Int)) / (q.length : Int))) by rw [Int.mul_sub, Int.mul_one]; omega]
      exact Int.mul_tmod_right _ _
    have w1 : w64 (A + i + q.length - (i + k) - A) = (q.length : Int) - k := by rw [w64_id (by omega) (by omega)]; omega
    have w2 : w64 ((q.length : Int) - w64 (i + k - i)) = (q.length : Int) - k := by rw [w64_id (z := i + (k : Int) - i) (by omega) (by omega), w64_id (by omega) (by omega)]; omega
    have w3 : w64 (i + q.length) = i + q.length := w64_id (by omega) (by omega)
    have w4 : w64 (i + k + q.length) = i + q.length + k := by rw [w64_id (by omega) (by omega)]; omega
    rw [T.run_sub, e1, Option.bind_some, T.run_sub, l_FnDiamondsKeep_R64, l_FnDiamondsKeep_R64_step, T.run_test, if_neg (by simp), T.run_test, if_neg (by simp), T.run_test, if_neg (by rw [decide_eq_true_eq]; omega), T.run_test, if_neg (by rw [decide_eq_true_eq]; omega),
      T.run_test, if_pos (decide_eq_true (by omega)), t1, T.run_test, if_neg (by simp), T.run_test, if_pos (decide_eq_true (by omega)), t2, T.run_test, if_neg (by simp), T.run_ret, w1, w2, Option.bind_some, T.run_test, if_neg (by simp), T.run_test]
    dsimp only
    rw [w3, w4]
    by_cases hx : i + (q.length : Int) ≤ 1000
    · have e2 := F70_eq q (by omega) (i + q.length) (i + q.length + k)
      rw [entR_in hd _ _ k (by omega) (by omega) rfl, en_per] at e2
      rw [if_pos (decide_eq_true hx), T.run_sub, e2, Option.bind_some, T.run_sub, l_FnDiamondsKeep_R68, l_FnDiamondsKeep_R68_step, T.run_test, if_neg (by simp), T.run_ret, Option.bind_some, T.run_test, if_neg (by simp), T.run_ret]
    · rw [if_neg (by rw [decide_eq_true_eq]; exact hx), T.run_ret]
theorem l_FnDiamondsKeep_true (v : List Int × List Int) (hs : smallL ASh.small [.one (.sl (.int .u8) false true), .one (.sl (.int .u8) false true)] v) : l_FnDiamondsKeep v = some true := by
  obtain ⟨code, more⟩ := v
  have hb : ∀ l : List Int, (∀ x ∈ l, wfE (.int .u8) x) → bytesOK l := fun l h x hx => by
    have := h x hx
    simp [wfE, Lit.wf, IntKind.min, IntKind.max, IntKind.signed, IntKind.bits] at this
    omega
  have b1 : bytesOK code := hb code hs.1.2
  have b2 : bytesOK more := hb more hs.2.2
  obtain ⟨b, hbig⟩ : ∃ b, F105 (code, more) = some b := by
    rw [F105, F105_t, T.run_test]
    split
    · exact ⟨_, rfl⟩
    · exact ⟨_, rfl⟩
  obtain ⟨q, d1, hq⟩ := F36_some b1
  have hl : q.length < 4611686018427387904 := by omega
  have ho := onsF_len q
  have hOi : F82 q = some (((), (trOf q).isSome), onsF q) := by
    rw [F82_eq q hl]; unfold onsF; cases trOf q <;> rfl
  have hOs : F83 q = some (((), (trOf q).isSome), onsF q) := by
    rw [F83_eq q hl]; unfold onsF; cases trOf q <;> rfl
  obtain ⟨most, hmost, gi, gs⟩ : ∃ most, (rowed q = true → most = mxI (frF q).flatten) ∧ F34 q = some (most, rowed q) ∧ F35 q = some (most, rowed q) := by
    rw [F34_eq q hl, F35_eq q hl]
    cases rowed q with
    | true => exact ⟨_, fun _ => rfl, rfl, rfl⟩
    | false => exact ⟨0, (fun h => by cases h), rfl, rfl⟩
  obtain ⟨rows, hrows, hrb, fi, fs⟩ : ∃ rows, (rowed q = true → rows = frF q) ∧ (rows.length ≤ 1000 ∧ ∀ x ∈ rows, x.length ≤ 1000) ∧ F58 q = some (((), rowed q), rows) ∧ F60 q = some (((), rowed q), rows) := by
    rw [F58_eq q hl, F60_eq q hl]
    cases rowed q with
    | true =>
      refine ⟨_, fun _ => rfl, ⟨?_, fun x hx => ?_⟩, rfl, rfl⟩
      · rw [frF_length]; omega
      · obtain ⟨k, hk⟩ := List.getElem?_of_mem hx
        have hkl := getElem?_lt hk
        rw [frF_length] at hkl
        rw [frF_get hkl] at hk
        rw [← Option.some.inj hk, rowF_length]
        omega
    | false => exact ⟨[], (fun h => by cases h), ⟨by simp, fun x hx => by cases hx⟩, rfl, rfl⟩
  have hok : rowed q = ((trOf q).isSome && decide ((q.length : Int) > 3)) := by
    unfold rowed
    rw [Bool.and_comm, show decide ((q.length : Int) ≥ 4) = decide ((q.length : Int) > 3) from by congr 1]
  have r10 := l_FnDiamondsKeep_R10_eq more q (rowed q) (trOf q).isSome most rows (onsF q) (F51_eq q hl) hok hrb (by omega)
  have c13 := l_FnDiamondsKeep_C13_eq more q (by omega) (rowed q) most rows
  have c17 := l_FnDiamondsKeep_C17_eq more q (rowed q) rfl most hmost rows hrows
  obtain ⟨p, i, j, d2, hp⟩ := F47_some b2
  have ei := F70_eq p (by omega) i j
  have es := F72_eq p (by omega) i j
  have gli := F73_eq p (by omega) i j
  have gls := F74_eq p (by omega) i j
  have c62 := l_FnDiamondsKeep_C62_eq more p (by omega) i j
  have hsame : (glR p i j).2.2 = (entR p i j).2 := by unfold glR entR; split <;> rfl
  obtain ⟨u, x, d3, hu⟩ := F21_some b2
  have ci := F40_eq u (by omega) x
  have csp := F41_eq u (by omega) x
  rw [l_FnDiamondsKeep, l_FnDiamondsKeep_t, T.run_sub, hbig, Option.bind_some, T.run_test]
  cases b with
  | true => rfl
  | false =>
    rw [if_neg (by simp), T.run_sub, d1, Option.bind_some, T.run_sub, fi, Option.bind_some, T.run_sub, fs, Option.bind_some, T.run_sub, gi, Option.bind_some, T.run_sub, gs, Option.bind_some, T.run_sub, hOi, Option.bind_some, T.run_sub, hOs, Option.bind_some, T.run_test, if_pos (by simp), T.run_test, if_pos (by simp), T.run_test, if_pos (by simp), T.run_test, if_pos (by simp), T.run_sub, r10, Option.bind_some, T.run_test, if_neg (by simp),
      T.run_test, if_pos (by simp), T.run_test, if_pos (by simp), T.run_sub, c13, Option.bind_some, T.run_test, if_neg (by simp [Sum.isLeft]), T.run_sub]
    simp only [Sum.getRight?, Option.bind_some]
    rw [T.run_test, if_pos (by simp), T.run_sub, c17, Option.bind_some, T.run_test, if_neg (by simp [Sum.isLeft]), T.run_sub]
    simp only [Sum.getRight?, Option.bind_some]
    rw [T.run_sub, d2, Option.bind_some, T.run_sub, ei, Option.bind_some, T.run_sub, es, Option.bind_some, T.run_sub, gli, Option.bind_some, T.run_sub, gls, Option.bind_some, T.run_sub,
      l_FnDiamondsKeep_R59, l_FnDiamondsKeep_R59_step, T.run_test, if_neg (by simp), T.run_test, if_neg (by simp), T.run_test, if_neg (by simp), T.run_test, if_neg (by simp), T.run_test, if_neg (by simp), T.run_ret, Option.bind_some, T.run_test, if_neg (by simp [hsame]), T.run_sub, c62, Option.bind_some, T.run_test, if_neg (by simp [Sum.isLeft]), T.run_sub]
    simp only [Sum.getRight?, Option.bind_some]
    rw [T.run_sub, d3, Option.bind_some, T.run_sub, ci, Option.bind_some, T.run_sub, csp, Option.bind_some, T.run_sub, l_FnDiamondsKeep_R73, l_FnDiamondsKeep_R73_step, T.run_test, if_neg (by simp), T.run_ret, Option.bind_some, T.run_test, if_neg (by simp), T.run_sub]
    have r75 : l_FnDiamondsKeep_R75 (u, (x, (if rowed u && !decide (x < 1) then (cntV x (frF u).flatten 0, true) else (0, false)))) = some false := by
      rw [l_FnDiamondsKeep_R75, l_FnDiamondsKeep_R75_step, T.run_test]
      cases hc : rowed u && !decide (x < 1) with
      | false => rfl
      | true =>
        rw [Bool.and_eq_true] at hc
        obtain ⟨h4, ds, hd⟩ := rowed_some hc.1
        rw [if_pos (by rfl), T.run_test]
        by_cases hx : x = 1
        · subst hx
          have := cnt_one hd h4
          rw [if_pos (by rfl), T.run_ret]
          show some (cntV 1 (frF u).flatten 0 != w64 (2 * w64 ((u.length : Int) - 3))) = _
          rw [this, w64_id (z := (u.length : Int) - 3) (by omega) (by omega), w64_id (by omega) (by omega)]
          simp
        · rw [if_neg (by rw [beq_iff_eq]; exact hx), T.run_ret]
    rw [r75, Option.bind_some, T.run_test, if_neg (by simp), T.run_ret]


end Go.Proofs.W
