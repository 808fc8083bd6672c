/- Functions of the program, walked, and what they compute. -/
import Derived.Test.YtaanfhjiihekeaaGreatPmWk6
set_option linter.unusedVariables false
set_option linter.unusedSimpArgs false
set_option maxRecDepth 100000
set_option maxHeartbeats 4000000
namespace Go.Proofs.W
open Go Go.Gm Go.Proofs
open Go.RowKit Go.Shelf
def l_FnPuzzlesMade_sh : FSh := ⟨[(.one (.sl (.int .u8) false true)), (.one (.sl (.int .u8) false true))], []⟩

def l_FnPuzzlesMade_C9_sh : LSh := ⟨(fun ex => match ex with | .norm => [(1, none)] | .exit i => [] | .ret => [(4, none)]), [(1, (.one (.sl (.int .u8) false true))), (5, (.one (.si .i64))), (6, (.one (.si .i64))), (8, (.one (.pf 0 0 0))), (9, (.one .sb))], [(.rcd 0 [(.rw 1 0)]), (.row 0 (.int .i64))], [⟨.ret, [(4, (.one .sb))], []⟩, ⟨.norm, [(1, (.one (.sl (.int .u8) false true)))], []⟩], [], []⟩
noncomputable def l_FnPuzzlesMade_C9_step : ((List (Int) × Int × Int × Unit × Bool) × (Unit × List (Int))) → T (Bool ⊕ List (Int)) := fun ((more, n, gaps, (), ok), ((), p_r)) =>
 (.test ok
 (.test (decide ((0 + (List.length p_r)) ≤ (List.length p_r)))
 (.sub (F80 (win p_r 0 (List.length p_r))) fun z0 =>
 (.test (decide ((0 + (List.length p_r)) ≤ (List.length p_r)))
 (.sub (F87 (win p_r 0 (List.length p_r))) fun z1 =>
 (.test (! z1)
 (.ret (Sum.inl false))
 (.test (((List.length p_r) : Int) != n)
 (.ret (Sum.inl false))
 (.test (! z0.2)
 (.ret (Sum.inl false))
 (.test (z0.1 != gaps)
 (.ret (Sum.inl false))
 (.test (decide ((0 + (List.length p_r)) ≤ (List.length p_r)))
 (.sub (F46 (win p_r 0 (List.length p_r))) fun z2 =>
 (.test z2.2
 (.test (decide (z2.1 < 1))
 (.ret (Sum.inl false))
 (.ret (Sum.inr more)))
 (.ret (Sum.inr more))))
 .fail))))))
 .fail))
 .fail)
 (.ret (Sum.inr more)))
noncomputable def l_FnPuzzlesMade_C9 (v : ((List (Int) × Int × Int × Unit × Bool) × (Unit × List (Int)))) : Option (Bool ⊕ List (Int)) := (l_FnPuzzlesMade_C9_step v).run

def l_FnPuzzlesMade_L26_sh : LSh := ⟨(fun ex => match ex with | .norm => [(1, none), (16, none), (17, none), (173, none), (174, none), (175, none)] | .exit i => if i = 0 then [(1, none)] else [] | .ret => [(4, none)]), [(1, (.one (.sl (.int .u8) false true))), (16, (.one (.pf 0 0 0))), (17, (.one (.pf 2 0 0))), (173, (.one (.rw 3 0))), (174, (.one (.si .i64))), (175, (.one (.si .i64)))], [(.rcd 0 [(.rw 1 0)]), (.row 0 (.int .i64)), (.rcd 0 [(.rw 3 0)]), (.row 0 (.int .i64))], [⟨.ret, [(4, (.one .sb))], []⟩, ⟨(.exit 0), [(1, (.one (.sl (.int .u8) false true)))], []⟩], [], []⟩
noncomputable def l_FnPuzzlesMade_L26_step : ((List (Int) × Unit × Unit × Unit × Int × Int) × (Unit × List (Int) × Unit × List (Int))) → T (((List (Int) × Unit × Unit × Unit × Int × Int) × (Unit × List (Int) × Unit × List (Int))) ⊕ (Bool ⊕ List (Int))) := fun ((more, (), (), (), t174, t175), ((), q_r, (), t173)) =>
 (.test (decide (t175 < t174))
 (.test (decide ((0 ≤ t175) ∧ (t175 < ((List.length t173) : Int))))
 (.sub (t173[(0 + (Int.toNat t175))]?) fun z0 =>
 (.test (z0 == 0)
 (.test (decide ((0 = 0) ∧ ((List.length t173) = (List.length t173))))
 (.test (decide ((0 = 0) ∧ ((List.length q_r) = (List.length q_r))))
 (.test (decide ((0 = 0) ∧ ((List.length t173) = (List.length t173))))
 (.ret (Sum.inl ((more, ((), ((), ((), (t174, (w64 (t175 + 1))))))), ((), (q_r, ((), t173))))))
 .fail)
 .fail)
 .fail)
 (.test (decide ((0 + (List.length t173)) ≤ (List.length t173)))
 (.sub (F94 ((win t173 0 (List.length t173)), t175)) fun z1 =>
 (.test (decide ((0 + (List.length z1.2)) ≤ (List.length z1.2)))
 (.sub (F46 (win z1.2 0 (List.length z1.2))) fun z2 =>
 (.test (decide ((0 ≤ t175) ∧ (t175 < ((List.length q_r) : Int))))
 (.sub (q_r[(0 + (Int.toNat t175))]?) fun z3 =>
 (.test (z0 != z3)
 (.ret (Sum.inr (Sum.inl false)))
 (.test (! z1.1.2)
 (.ret (Sum.inr (Sum.inl false)))
 (.test z2.2
 (.test (decide (z2.1 < 2))
 (.ret (Sum.inr (Sum.inl false)))
 (.test (decide ((0 = 0) ∧ ((List.length t173) = (List.length t173))))
 (.test (decide ((0 = 0) ∧ ((List.length q_r) = (List.length q_r))))
 (.test (decide ((0 = 0) ∧ ((List.length t173) = (List.length t173))))
 (.ret (Sum.inl ((more, ((), ((), ((), (t174, (w64 (t175 + 1))))))), ((), (q_r, ((), t173))))))
 .fail)
 .fail)
 .fail))
 (.test (decide ((0 = 0) ∧ ((List.length t173) = (List.length t173))))
 (.test (decide ((0 = 0) ∧ ((List.length q_r) = (List.length q_r))))
 (.test (decide ((0 = 0) ∧ ((List.length t173) = (List.length t173))))
 (.ret (Sum.inl ((more, ((), ((), ((), (t174, (w64 (t175 + 1))))))), ((), (q_r, ((), t173))))))
 .fail)
 .fail)
 .fail)))))
 .fail))
 .fail))
 .fail)))
 .fail)
 (.ret (Sum.inr (Sum.inr more))))
noncomputable def l_FnPuzzlesMade_L26 (v : ((List (Int) × Unit × Unit × Unit × Int × Int) × (Unit × List (Int) × Unit × List (Int)))) : Option (Bool ⊕ List (Int)) := loopO (fun v => (l_FnPuzzlesMade_L26_step v).run) v

def l_FnPuzzlesMade_C21_sh : LSh := ⟨(fun ex => match ex with | .norm => [(1, none)] | .exit i => [] | .ret => [(4, none)]), [(1, (.one (.sl (.int .u8) false true))), (16, (.one (.pf 0 0 0))), (17, (.one (.pf 2 0 0))), (18, (.one .sb))], [(.rcd 0 [(.rw 1 0)]), (.row 0 (.int .i64)), (.rcd 0 [(.rw 3 0)]), (.row 0 (.int .i64))], [⟨.ret, [(4, (.one .sb))], []⟩, ⟨.norm, [(1, (.one (.sl (.int .u8) false true)))], []⟩], [], []⟩
noncomputable def l_FnPuzzlesMade_C21_step : ((List (Int) × Unit × Unit × Bool) × (Unit × List (Int) × Unit × List (Int))) → T (Bool ⊕ List (Int)) := fun ((more, (), (), one), ((), q_r, (), harder_r)) =>
 (.test one
 (.test (decide ((0 + (List.length q_r)) ≤ (List.length q_r)))
 (.sub (F81 (win q_r 0 (List.length q_r))) fun z0 =>
 (.test (decide ((0 + (List.length harder_r)) ≤ (List.length harder_r)))
 (.sub (F81 (win harder_r 0 (List.length harder_r))) fun z1 =>
 (.test (! z0.1.2)
 (.ret (Sum.inl false))
 (.test (((List.length z0.2) : Int) != 1)
 (.ret (Sum.inl false))
 (.test (! z1.1.2)
 (.ret (Sum.inl false))
 (.test (decide ((0 + (List.length z0.2)) ≤ (List.length z0.2)))
 (.test (decide ((0 + (List.length z1.2)) ≤ (List.length z1.2)))
 (.sub (F104 ((win z0.2 0 (List.length z0.2)), (win z1.2 0 (List.length z1.2)))) fun z2 =>
 (.test (! z2)
 (.ret (Sum.inl false))
 (.test (decide ((0 = 0) ∧ ((List.length harder_r) = (List.length harder_r))))
 (.test (decide ((0 = 0) ∧ ((List.length q_r) = (List.length q_r))))
 (.test (decide ((0 = 0) ∧ ((List.length harder_r) = (List.length harder_r))))
 (.sub (l_FnPuzzlesMade_L26 ((more, ((), ((), ((), (((List.length harder_r) : Int), (0 : Int)))))), ((), (q_r, ((), harder_r))))) fun z3 =>
 (.test (Sum.isLeft z3)
 (.sub (Sum.getLeft? z3) fun z4 =>
 (.ret (Sum.inl z4)))
 (.sub (Sum.getRight? z3) fun z5 =>
 (.ret (Sum.inr z5)))))
 .fail)
 .fail)
 .fail)))
 .fail)
 .fail)))))
 .fail))
 .fail)
 (.ret (Sum.inr more)))
noncomputable def l_FnPuzzlesMade_C21 (v : ((List (Int) × Unit × Unit × Bool) × (Unit × List (Int) × Unit × List (Int)))) : Option (Bool ⊕ List (Int)) := (l_FnPuzzlesMade_C21_step v).run

def l_FnPuzzlesMade_C46_sh : LSh := ⟨(fun ex => match ex with | .norm => [(38, none), (39, none), (40, none), (41, none), (44, none), (45, none), (46, none), (47, none)] | .exit i => [] | .ret => [(4, none)]), [(31, (.one (.pf 0 0 0))), (32, (.one (.si .i64))), (34, (.one (.pf 2 0 0))), (35, (.one .sb)), (38, (.one (.pf 4 0 0))), (39, (.one (.si .i64))), (40, (.one (.pf 6 0 0))), (41, (.one .sb)), (44, (.one (.pf 8 0 0))), (45, (.one (.si .i64))), (46, (.one (.pf 10 0 0))), (47, (.one .sb))], [(.rcd 0 [(.rw 1 0)]), (.row 0 (.int .i64)), (.rcd 0 [(.rw 3 0)]), (.row 0 (.int .i64)), (.rcd 0 [(.rw 5 0)]), (.row 0 (.int .i64)), (.rcd 0 [(.rw 7 0)]), (.row 0 (.int .i64)), (.rcd 0 [(.rw 9 0)]), (.row 0 (.int .i64)), (.rcd 0 [(.rw 11 0)]), (.row 0 (.int .i64))], [⟨.ret, [(4, (.one .sb))], []⟩, ⟨.norm, [(38, (.one (.pf 0 0 0))), (39, (.one (.si .i64))), (40, (.one (.pf 2 0 0))), (41, (.one .sb)), (44, (.one (.pf 4 0 0))), (45, (.one (.si .i64))), (46, (.one (.pf 6 0 0))), (47, (.one .sb))], [(.rcd 0 [(.rw 1 0)]), (.row 0 (.int .i64)), (.rcd 0 [(.rw 3 0)]), (.row 0 (.int .i64)), (.rcd 0 [(.rw 5 0)]), (.row 0 (.int .i64)), (.rcd 0 [(.rw 7 0)]), (.row 0 (.int .i64))]⟩], [], []⟩
noncomputable def l_FnPuzzlesMade_C46_step : ((Unit × Int × Unit × Bool × Unit × Int × Unit × Bool × Unit × Int × Unit × Bool) × (Unit × List (Int) × Unit × List (Int) × Unit × List (Int) × Unit × List (Int) × Unit × List (Int) × Unit × List (Int))) → T (Bool ⊕ ((Unit × Int × Unit × Bool × Unit × Int × Unit × Bool) × (Unit × List (Int) × Unit × List (Int) × Unit × List (Int) × Unit × List (Int)))) := fun (((), at', (), three, (), place, (), five, (), k, (), seven), ((), r_r, (), filled_r, (), s_r, (), opened_r, (), t_r, (), turned_r)) =>
 (.test three
 (.test (decide ((0 + (List.length filled_r)) ≤ (List.length filled_r)))
 (.sub (F94 ((win filled_r 0 (List.length filled_r)), at')) fun z0 =>
 (.test (! z0.1.2)
 (.ret (Sum.inl false))
 (.test (decide ((0 + (List.length z0.2)) ≤ (List.length z0.2)))
 (.test (decide ((0 + (List.length r_r)) ≤ (List.length r_r)))
 (.sub (F92 ((win z0.2 0 (List.length z0.2)), (win r_r 0 (List.length r_r)))) fun z1 =>
 (.test (! z1)
 (.ret (Sum.inl false))
 (.test (decide ((0 = 0) ∧ ((List.length s_r) = (List.length s_r))))
 (.test (decide ((0 = 0) ∧ ((List.length opened_r) = (List.length opened_r))))
 (.test (decide ((0 = 0) ∧ ((List.length t_r) = (List.length t_r))))
 (.test (decide ((0 = 0) ∧ ((List.length turned_r) = (List.length turned_r))))
 (.ret (Sum.inr (((), (place, ((), (five, ((), (k, ((), seven))))))), ((), (s_r, ((), (opened_r, ((), (t_r, ((), turned_r))))))))))
 .fail)
 .fail)
 .fail)
 .fail)))
 .fail)
 .fail)))
 .fail)
 (.test (decide ((0 = 0) ∧ ((List.length s_r) = (List.length s_r))))
 (.test (decide ((0 = 0) ∧ ((List.length opened_r) = (List.length opened_r))))
 (.test (decide ((0 = 0) ∧ ((List.length t_r) = (List.length t_r))))
 (.test (decide ((0 = 0) ∧ ((List.length turned_r) = (List.length turned_r))))
 (.ret (Sum.inr (((), (place, ((), (five, ((), (k, ((), seven))))))), ((), (s_r, ((), (opened_r, ((), (t_r, ((), turned_r))))))))))
 .fail)
 .fail)
 .fail)
 .fail))
noncomputable def l_FnPuzzlesMade_C46 (v : ((Unit × Int × Unit × Bool × Unit × Int × Unit × Bool × Unit × Int × Unit × Bool) × (Unit × List (Int) × Unit × List (Int) × Unit × List (Int) × Unit × List (Int) × Unit × List (Int) × Unit × List (Int)))) : Option (Bool ⊕ ((Unit × Int × Unit × Bool × Unit × Int × Unit × Bool) × (Unit × List (Int) × Unit × List (Int) × Unit × List (Int) × Unit × List (Int)))) := (l_FnPuzzlesMade_C46_step v).run

def l_FnPuzzlesMade_fo : List FO := [⟨[(.one .sb)], []⟩]
noncomputable def l_FnPuzzlesMade_t : (List (Int) × List (Int)) → T Bool := fun (code, more) =>
 (.sub (F121 (code, more)) fun z0 =>
 (.test z0
 (.ret true)
 (.sub (F42 code) fun z1 =>
 (.sub (F71 (z1.1, (z1.2.1, z1.2.2))) fun z2 =>
 (.sub (F73 (z1.1, (z1.2.1, z1.2.2))) fun z3 =>
 (.test (! (z2.1.2 == z3.1.2))
 (.ret false)
 (.test (decide ((0 + (List.length z2.2)) ≤ (List.length z2.2)))
 (.test (decide ((0 + (List.length z3.2)) ≤ (List.length z3.2)))
 (.sub (F92 ((win z2.2 0 (List.length z2.2)), (win z3.2 0 (List.length z3.2)))) fun z4 =>
 (.test (! z4)
 (.ret false)
 (.test (decide ((0 = 0) ∧ ((List.length z2.2) = (List.length z2.2))))
 (.sub (l_FnPuzzlesMade_C9 ((more, (z1.1, (z1.2.1, ((), z2.1.2)))), ((), z2.2))) fun z5 =>
 (.test (Sum.isLeft z5)
 (.sub (Sum.getLeft? z5) fun z6 =>
 (.ret z6))
 (.sub (Sum.getRight? z5) fun z7 =>
 (.sub (F34 z7) fun z8 =>
 (.test (decide ((0 + (List.length z8.2)) ≤ (List.length z8.2)))
 (.sub (F56 (win z8.2 0 (List.length z8.2))) fun z9 =>
 (.test (decide ((0 + (List.length z8.2)) ≤ (List.length z8.2)))
 (.sub (F59 (win z8.2 0 (List.length z8.2))) fun z10 =>
 (.test (! (z9.1.2 == z10.1.2))
 (.ret false)
 (.test (decide ((0 + (List.length z9.2)) ≤ (List.length z9.2)))
 (.test (decide ((0 + (List.length z10.2)) ≤ (List.length z10.2)))
 (.sub (F92 ((win z9.2 0 (List.length z9.2)), (win z10.2 0 (List.length z10.2)))) fun z11 =>
 (.test (! z11)
 (.ret false)
 (.test (decide ((0 = 0) ∧ ((List.length z8.2) = (List.length z8.2))))
 (.test (decide ((0 = 0) ∧ ((List.length z9.2) = (List.length z9.2))))
 (.sub (l_FnPuzzlesMade_C21 ((z7, ((), ((), z9.1.2))), ((), (z8.2, ((), z9.2))))) fun z12 =>
 (.test (Sum.isLeft z12)
 (.sub (Sum.getLeft? z12) fun z13 =>
 (.ret z13))
 (.sub (Sum.getRight? z12) fun z14 =>
 (.sub (F65 z14) fun z15 =>
 (.test (decide ((0 + (List.length z15.2)) ≤ (List.length z15.2)))
 (.sub (F95 ((win z15.2 0 (List.length z15.2)), (z15.1.2.1, z15.1.2.2))) fun z16 =>
 (.test (decide ((0 + (List.length z15.2)) ≤ (List.length z15.2)))
 (.sub (F96 ((win z15.2 0 (List.length z15.2)), (z15.1.2.1, z15.1.2.2))) fun z17 =>
 (.sub (F66 z14) fun z18 =>
 (.test (decide ((0 + (List.length z18.2)) ≤ (List.length z18.2)))
 (.sub (F94 ((win z18.2 0 (List.length z18.2)), z18.1.2)) fun z19 =>
 (.test (decide ((0 + (List.length z18.2)) ≤ (List.length z18.2)))
 (.sub (F97 ((win z18.2 0 (List.length z18.2)), z18.1.2)) fun z20 =>
 (.sub (F48 z14) fun z21 =>
 (.test (decide ((0 + (List.length z21.2)) ≤ (List.length z21.2)))
 (.sub (F77 ((win z21.2 0 (List.length z21.2)), z21.1.2)) fun z22 =>
 (.test (decide ((0 + (List.length z21.2)) ≤ (List.length z21.2)))
 (.sub (F78 ((win z21.2 0 (List.length z21.2)), z21.1.2)) fun z23 =>
 (.test (! (z16.1.2 == z17.1.2))
 (.ret false)
 (.test (decide ((0 + (List.length z16.2)) ≤ (List.length z16.2)))
 (.test (decide ((0 + (List.length z17.2)) ≤ (List.length z17.2)))
 (.sub (F92 ((win z16.2 0 (List.length z16.2)), (win z17.2 0 (List.length z17.2)))) fun z24 =>
 (.test (! z24)
 (.ret false)
 (.test (! (z19.1.2 == z20.1.2))
 (.ret false)
 (.test (decide ((0 + (List.length z19.2)) ≤ (List.length z19.2)))
 (.test (decide ((0 + (List.length z20.2)) ≤ (List.length z20.2)))
 (.sub (F92 ((win z19.2 0 (List.length z19.2)), (win z20.2 0 (List.length z20.2)))) fun z25 =>
 (.test (! z25)
 (.ret false)
 (.test (! (z22.1.2 == z23.1.2))
 (.ret false)
 (.test (decide ((0 + (List.length z22.2)) ≤ (List.length z22.2)))
 (.test (decide ((0 + (List.length z23.2)) ≤ (List.length z23.2)))
 (.sub (F92 ((win z22.2 0 (List.length z22.2)), (win z23.2 0 (List.length z23.2)))) fun z26 =>
 (.test (! z26)
 (.ret false)
 (.test (decide ((0 = 0) ∧ ((List.length z15.2) = (List.length z15.2))))
 (.test (decide ((0 = 0) ∧ ((List.length z16.2) = (List.length z16.2))))
 (.test (decide ((0 = 0) ∧ ((List.length z18.2) = (List.length z18.2))))
 (.test (decide ((0 = 0) ∧ ((List.length z19.2) = (List.length z19.2))))
 (.test (decide ((0 = 0) ∧ ((List.length z21.2) = (List.length z21.2))))
 (.test (decide ((0 = 0) ∧ ((List.length z22.2) = (List.length z22.2))))
 (.sub (l_FnPuzzlesMade_C46 (((), (z15.1.2.1, ((), (z16.1.2, ((), (z18.1.2, ((), (z19.1.2, ((), (z21.1.2, ((), z22.1.2))))))))))), ((), (z15.2, ((), (z16.2, ((), (z18.2, ((), (z19.2, ((), (z21.2, ((), z22.2))))))))))))) fun z27 =>
 (.test (Sum.isLeft z27)
 (.sub (Sum.getLeft? z27) fun z28 =>
 (.ret z28))
 (.sub (Sum.getRight? z27) fun z29 =>
 (.test z29.1.2.2.2.1
 (.test (decide ((0 ≤ z29.1.2.1) ∧ (z29.1.2.1 < ((List.length z29.2.2.1) : Int))))
 (.sub (z29.2.2.1[(0 + (Int.toNat z29.1.2.1))]?) fun z30 =>
 (.test (decide ((0 + (List.length z29.2.2.2.2.1)) ≤ (List.length z29.2.2.2.2.1)))
 (.sub (F95 ((win z29.2.2.2.2.1 0 (List.length z29.2.2.2.2.1)), (z29.1.2.1, z30))) fun z31 =>
 (.test (! z31.1.2)
 (.ret false)
 (.test (decide ((0 + (List.length z31.2)) ≤ (List.length z31.2)))
 (.test (decide ((0 + (List.length z29.2.2.1)) ≤ (List.length z29.2.2.1)))
 (.sub (F92 ((win z31.2 0 (List.length z31.2)), (win z29.2.2.1 0 (List.length z29.2.2.1)))) fun z32 =>
 (.test (! z32)
 (.ret false)
 (.test z29.1.2.2.2.2.2.2.2
 (.test (decide (((List.length z29.2.2.2.2.2.2.1) : Int) ≠ 0))
 (.test (decide ((0 + (List.length z29.2.2.2.2.2.2.2.2)) ≤ (List.length z29.2.2.2.2.2.2.2.2)))
 (.sub (F77 ((win z29.2.2.2.2.2.2.2.2 0 (List.length z29.2.2.2.2.2.2.2.2)), (Int.tmod (w64 (((List.length z29.2.2.2.2.2.2.1) : Int) - z29.1.2.2.2.2.2.1)) ((List.length z29.2.2.2.2.2.2.1) : Int)))) fun z33 =>
 (.test z33.1.2
 (.test (decide ((0 + (List.length z33.2)) ≤ (List.length z33.2)))
 (.test (decide ((0 + (List.length z29.2.2.2.2.2.2.1)) ≤ (List.length z29.2.2.2.2.2.2.1)))
 (.sub (F92 ((win z33.2 0 (List.length z33.2)), (win z29.2.2.2.2.2.2.1 0 (List.length z29.2.2.2.2.2.2.1)))) fun z34 =>
 (.ret z34))
 .fail)
 .fail)
 (.ret false)))
 .fail)
 .fail)
 (.ret true))))
 .fail)
 .fail)))
 .fail))
 .fail)
 (.test z29.1.2.2.2.2.2.2.2
 (.test (decide (((List.length z29.2.2.2.2.2.2.1) : Int) ≠ 0))
 (.test (decide ((0 + (List.length z29.2.2.2.2.2.2.2.2)) ≤ (List.length z29.2.2.2.2.2.2.2.2)))
 (.sub (F77 ((win z29.2.2.2.2.2.2.2.2 0 (List.length z29.2.2.2.2.2.2.2.2)), (Int.tmod (w64 (((List.length z29.2.2.2.2.2.2.1) : Int) - z29.1.2.2.2.2.2.1)) ((List.length z29.2.2.2.2.2.2.1) : Int)))) fun z35 =>
 (.test z35.1.2
 (.test (decide ((0 + (List.length z35.2)) ≤ (List.length z35.2)))
 (.test (decide ((0 + (List.length z29.2.2.2.2.2.2.1)) ≤ (List.length z29.2.2.2.2.2.2.1)))
 (.sub (F92 ((win z35.2 0 (List.length z35.2)), (win z29.2.2.2.2.2.2.1 0 (List.length z29.2.2.2.2.2.2.1)))) fun z36 =>
 (.ret z36))
 .fail)
 .fail)
 (.ret false)))
 .fail)
 .fail)
 (.ret true))))))
 .fail)
 .fail)
 .fail)
 .fail)
 .fail)
 .fail)))
 .fail)
 .fail))))
 .fail)
 .fail))))
 .fail)
 .fail)))
 .fail))
 .fail)))
 .fail))
 .fail)))
 .fail))
 .fail)))))
 .fail)
 .fail)))
 .fail)
 .fail)))
 .fail))
 .fail)))))
 .fail)))
 .fail)
 .fail)))))))
noncomputable def l_FnPuzzlesMade (v : (List (Int) × List (Int))) : Option Bool := (l_FnPuzzlesMade_t v).run
noncomputable def l_FnPuzzlesMade_E : TEnv := ((((((((((((((((((((((E0.add1 n_F121 F121_sh F121_fo F121).add1 n_F42 F42_sh F42_fo F42).add1 n_F71 F71_sh F71_fo F71).add1 n_F73 F73_sh F73_fo F73).add1 n_F92 F92_sh F92_fo F92).add1 n_F80 F80_sh F80_fo F80).add1 n_F87 F87_sh F87_fo F87).add1 n_F46 F46_sh F46_fo F46).add1 n_F34 F34_sh F34_fo F34).add1 n_F56 F56_sh F56_fo F56).add1 n_F59 F59_sh F59_fo F59).add1 n_F81 F81_sh F81_fo F81).add1 n_F104 F104_sh F104_fo F104).add1 n_F94 F94_sh F94_fo F94).add1 n_F65 F65_sh F65_fo F65).add1 n_F95 F95_sh F95_fo F95).add1 n_F96 F96_sh F96_fo F96).add1 n_F66 F66_sh F66_fo F66).add1 n_F97 F97_sh F97_fo F97).add1 n_F48 F48_sh F48_fo F48).add1 n_F77 F77_sh F77_fo F77).add1 n_F78 F78_sh F78_fo F78)
theorem l_FnPuzzlesMade_Eok : (l_FnPuzzlesMade_E).OK := ((((((((((((((((((((((E0ok.add1 F121_ok).add1 F42_ok).add1 F71_ok).add1 F73_ok).add1 F92_ok).add1 F80_ok).add1 F87_ok).add1 F46_ok).add1 F34_ok).add1 F56_ok).add1 F59_ok).add1 F81_ok).add1 F104_ok).add1 F94_ok).add1 F65_ok).add1 F95_ok).add1 F96_ok).add1 F66_ok).add1 F97_ok).add1 F48_ok).add1 F77_ok).add1 F78_ok)
noncomputable def l_FnPuzzlesMade_told : Nat → Option SealT := fun id => if id = 1000009 then some (LSh.cut l_FnPuzzlesMade_C9_sh 0 [(1, none), (5, none), (6, none), (8, none), (9, none)] (l_FnPuzzlesMade_C9)) else if id = 26 then some (LSh.told l_FnPuzzlesMade_L26_sh 0 (l_FnPuzzlesMade_L26_step)) else if id = 1000021 then some (LSh.cut l_FnPuzzlesMade_C21_sh 0 [(1, none), (16, none), (17, none), (18, none)] (l_FnPuzzlesMade_C21)) else if id = 1000046 then some (LSh.cut l_FnPuzzlesMade_C46_sh 0 [(31, none), (32, none), (34, none), (35, none), (38, none), (39, none), (40, none), (41, none), (44, none), (45, none), (46, none), (47, none)] (l_FnPuzzlesMade_C46)) else none
theorem l_FnPuzzlesMade_C9_ok : CutOK Tryz.prog 0 (cutAt (loopAt (bodyOf fn_l_FnPuzzlesMade) []) 10) (LSh.cut l_FnPuzzlesMade_C9_sh 0 [(1, none), (5, none), (6, none), (8, none), (9, none)] (l_FnPuzzlesMade_C9)) :=
  cut_ok (E := l_FnPuzzlesMade_E) (l_FnPuzzlesMade_Eok) (told := l_FnPuzzlesMade_told) (l := l_FnPuzzlesMade_C9_sh) (head := [(1, none), (5, none), (6, none), (8, none), (9, none)]) (F := l_FnPuzzlesMade_C9_step) (loopsOK_of2 (ls := []) (cs := [cutAt (loopAt (bodyOf fn_l_FnPuzzlesMade) []) 11, cutAt (loopAt (bodyOf fn_l_FnPuzzlesMade) []) 12, cutAt (loopAt (bodyOf fn_l_FnPuzzlesMade) []) 13, cutAt (loopAt (bodyOf fn_l_FnPuzzlesMade) []) 14, cutAt (loopAt (bodyOf fn_l_FnPuzzlesMade) []) 15, cutAt (loopAt (bodyOf fn_l_FnPuzzlesMade) []) 16, cutAt (loopAt (bodyOf fn_l_FnPuzzlesMade) []) 17, cutAt (loopAt (bodyOf fn_l_FnPuzzlesMade) []) 18]) (by kernel_rfl) trivial (by kernel_rfl) ⟨.inl (by kernel_rfl), ⟨.inl (by kernel_rfl), ⟨.inl (by kernel_rfl), ⟨.inl (by kernel_rfl), ⟨.inl (by kernel_rfl), ⟨.inl (by kernel_rfl), ⟨.inl (by kernel_rfl), ⟨.inl (by kernel_rfl), trivial⟩⟩⟩⟩⟩⟩⟩⟩) (fun v => by kernel_rfl)
theorem l_FnPuzzlesMade_L26_ok : ToldOK Tryz.prog 0 (loopAt (bodyOf fn_l_FnPuzzlesMade) [0]) (LSh.told l_FnPuzzlesMade_L26_sh 0 (l_FnPuzzlesMade_L26_step)) :=
  loop_ok (E := l_FnPuzzlesMade_E) (l_FnPuzzlesMade_Eok) (told := l_FnPuzzlesMade_told) (l := l_FnPuzzlesMade_L26_sh) (step := l_FnPuzzlesMade_L26_step) (loopsOK_of2 (ls := []) (cs := [cutAt (loopAt (bodyOf fn_l_FnPuzzlesMade) [0]) 0, cutAt (loopAt (bodyOf fn_l_FnPuzzlesMade) [0]) 1, cutAt (loopAt (bodyOf fn_l_FnPuzzlesMade) [0]) 2, cutAt (loopAt (bodyOf fn_l_FnPuzzlesMade) [0]) 3, cutAt (loopAt (bodyOf fn_l_FnPuzzlesMade) [0]) 4, cutAt (loopAt (bodyOf fn_l_FnPuzzlesMade) [0]) 5, cutAt (loopAt (bodyOf fn_l_FnPuzzlesMade) [0]) 6, cutAt (loopAt (bodyOf fn_l_FnPuzzlesMade) [0]) 7, cutAt (loopAt (bodyOf fn_l_FnPuzzlesMade) [0]) 8]) (by kernel_rfl) trivial (by kernel_rfl) ⟨.inl (by kernel_rfl), ⟨.inl (by kernel_rfl), ⟨.inl (by kernel_rfl), ⟨.inl (by kernel_rfl), ⟨.inl (by kernel_rfl), ⟨.inl (by kernel_rfl), ⟨.inl (by kernel_rfl), ⟨.inl (by kernel_rfl), ⟨.inl (by kernel_rfl), trivial⟩⟩⟩⟩⟩⟩⟩⟩⟩) (by kernel_rfl) (fun v => by kernel_rfl)
theorem l_FnPuzzlesMade_C21_ok : CutOK Tryz.prog 0 (cutAt (loopAt (bodyOf fn_l_FnPuzzlesMade) []) 25) (LSh.cut l_FnPuzzlesMade_C21_sh 0 [(1, none), (16, none), (17, none), (18, none)] (l_FnPuzzlesMade_C21)) :=
  cut_ok (E := l_FnPuzzlesMade_E) (l_FnPuzzlesMade_Eok) (told := l_FnPuzzlesMade_told) (l := l_FnPuzzlesMade_C21_sh) (head := [(1, none), (16, none), (17, none), (18, none)]) (F := l_FnPuzzlesMade_C21_step) (loopsOK_of2 (ls := [loopAt (bodyOf fn_l_FnPuzzlesMade) [0]]) (cs := [cutAt (loopAt (bodyOf fn_l_FnPuzzlesMade) []) 26, cutAt (loopAt (bodyOf fn_l_FnPuzzlesMade) []) 27, cutAt (loopAt (bodyOf fn_l_FnPuzzlesMade) []) 28, cutAt (loopAt (bodyOf fn_l_FnPuzzlesMade) []) 29, cutAt (loopAt (bodyOf fn_l_FnPuzzlesMade) []) 30, cutAt (loopAt (bodyOf fn_l_FnPuzzlesMade) []) 31, cutAt (loopAt (bodyOf fn_l_FnPuzzlesMade) []) 32]) (by kernel_rfl) ⟨.inr ⟨_, by kernel_rfl, l_FnPuzzlesMade_L26_ok⟩, trivial⟩ (by kernel_rfl) ⟨.inl (by kernel_rfl), ⟨.inl (by kernel_rfl), ⟨.inl (by kernel_rfl), ⟨.inl (by kernel_rfl), ⟨.inl (by kernel_rfl), ⟨.inl (by kernel_rfl), ⟨.inl (by kernel_rfl), trivial⟩⟩⟩⟩⟩⟩⟩) (fun v => by kernel_rfl)
theorem l_FnPuzzlesMade_C46_ok : CutOK Tryz.prog 0 (cutAt (loopAt (bodyOf fn_l_FnPuzzlesMade) []) 45) (LSh.cut l_FnPuzzlesMade_C46_sh 0 [(31, none), (32, none), (34, none), (35, none), (38, none), (39, none), (40, none), (41, none), (44, none), (45, none), (46, none), (47, none)] (l_FnPuzzlesMade_C46)) :=
  cut_ok (E := l_FnPuzzlesMade_E) (l_FnPuzzlesMade_Eok) (told := l_FnPuzzlesMade_told) (l := l_FnPuzzlesMade_C46_sh) (head := [(31, none), (32, none), (34, none), (35, none), (38, none), (39, none), (40, none), (41, none), (44, none), (45, none), (46, none), (47, none)]) (F := l_FnPuzzlesMade_C46_step) (loopsOK_of2 (ls := []) (cs := [cutAt (loopAt (bodyOf fn_l_FnPuzzlesMade) []) 46, cutAt (loopAt (bodyOf fn_l_FnPuzzlesMade) []) 47, cutAt (loopAt (bodyOf fn_l_FnPuzzlesMade) []) 48, cutAt (loopAt (bodyOf fn_l_FnPuzzlesMade) []) 49]) (by kernel_rfl) trivial (by kernel_rfl) ⟨.inl (by kernel_rfl), ⟨.inl (by kernel_rfl), ⟨.inl (by kernel_rfl), ⟨.inl (by kernel_rfl), trivial⟩⟩⟩⟩) (fun v => by kernel_rfl)
theorem l_FnPuzzlesMade_ok : FOK Tryz.prog n_l_FnPuzzlesMade l_FnPuzzlesMade_sh l_FnPuzzlesMade_fo l_FnPuzzlesMade :=
  fn_ok (E := l_FnPuzzlesMade_E) (l_FnPuzzlesMade_Eok) (told := l_FnPuzzlesMade_told) (fl := []) (c := bodyOf fn_l_FnPuzzlesMade) (s := l_FnPuzzlesMade_sh) (l := l_FnPuzzlesMade_fo) (tree := l_FnPuzzlesMade_t) fnat_l_FnPuzzlesMade (by kernel_rfl) (by kernel_rfl) (by kernel_rfl) (loopsOK_of2 (ls := [loopAt (bodyOf fn_l_FnPuzzlesMade) [0]]) (cs := [cutAt (loopAt (bodyOf fn_l_FnPuzzlesMade) []) 0, cutAt (loopAt (bodyOf fn_l_FnPuzzlesMade) []) 1, cutAt (loopAt (bodyOf fn_l_FnPuzzlesMade) []) 2, cutAt (loopAt (bodyOf fn_l_FnPuzzlesMade) []) 3, cutAt (loopAt (bodyOf fn_l_FnPuzzlesMade) []) 4, cutAt (loopAt (bodyOf fn_l_FnPuzzlesMade) []) 5, cutAt (loopAt (bodyOf fn_l_FnPuzzlesMade) []) 6, cutAt (loopAt (bodyOf fn_l_FnPuzzlesMade) []) 7, cutAt (loopAt (bodyOf fn_l_FnPuzzlesMade) []) 8, cutAt (loopAt (bodyOf fn_l_FnPuzzlesMade) []) 9, cutAt (loopAt (bodyOf fn_l_FnPuzzlesMade) []) 10, cutAt (loopAt (bodyOf fn_l_FnPuzzlesMade) []) 11, cutAt (loopAt (bodyOf fn_l_FnPuzzlesMade) []) 12, cutAt (loopAt (bodyOf fn_l_FnPuzzlesMade) []) 13, cutAt (loopAt (bodyOf fn_l_FnPuzzlesMade) []) 14, cutAt (loopAt (bodyOf fn_l_FnPuzzlesMade) []) 15, cutAt (loopAt (bodyOf fn_l_FnPuzzlesMade) []) 16, cutAt (loopAt (bodyOf fn_l_FnPuzzlesMade) []) 17, cutAt (loopAt (bodyOf fn_l_FnPuzzlesMade) []) 18, cutAt (loopAt (bodyOf fn_l_FnPuzzlesMade) []) 19, cutAt (loopAt (bodyOf fn_l_FnPuzzlesMade) []) 20, cutAt (loopAt (bodyOf fn_l_FnPuzzlesMade) []) 21, cutAt (loopAt (bodyOf fn_l_FnPuzzlesMade) []) 22, cutAt (loopAt (bodyOf fn_l_FnPuzzlesMade) []) 23, cutAt (loopAt (bodyOf fn_l_FnPuzzlesMade) []) 24, cutAt (loopAt (bodyOf fn_l_FnPuzzlesMade) []) 25, cutAt (loopAt (bodyOf fn_l_FnPuzzlesMade) []) 26, cutAt (loopAt (bodyOf fn_l_FnPuzzlesMade) []) 27, cutAt (loopAt (bodyOf fn_l_FnPuzzlesMade) []) 28, cutAt (loopAt (bodyOf fn_l_FnPuzzlesMade) []) 29, cutAt (loopAt (bodyOf fn_l_FnPuzzlesMade) []) 30, cutAt (loopAt (bodyOf fn_l_FnPuzzlesMade) []) 31, cutAt (loopAt (bodyOf fn_l_FnPuzzlesMade) []) 32, cutAt (loopAt (bodyOf fn_l_FnPuzzlesMade) []) 33, cutAt (loopAt (bodyOf fn_l_FnPuzzlesMade) []) 34, cutAt (loopAt (bodyOf fn_l_FnPuzzlesMade) []) 35, cutAt (loopAt (bodyOf fn_l_FnPuzzlesMade) []) 36, cutAt (loopAt (bodyOf fn_l_FnPuzzlesMade) []) 37, cutAt (loopAt (bodyOf fn_l_FnPuzzlesMade) []) 38, cutAt (loopAt (bodyOf fn_l_FnPuzzlesMade) []) 39, cutAt (loopAt (bodyOf fn_l_FnPuzzlesMade) []) 40, cutAt (loopAt (bodyOf fn_l_FnPuzzlesMade) []) 41, cutAt (loopAt (bodyOf fn_l_FnPuzzlesMade) []) 42, cutAt (loopAt (bodyOf fn_l_FnPuzzlesMade) []) 43, cutAt (loopAt (bodyOf fn_l_FnPuzzlesMade) []) 44, cutAt (loopAt (bodyOf fn_l_FnPuzzlesMade) []) 45, cutAt (loopAt (bodyOf fn_l_FnPuzzlesMade) []) 46, cutAt (loopAt (bodyOf fn_l_FnPuzzlesMade) []) 47, cutAt (loopAt (bodyOf fn_l_FnPuzzlesMade) []) 48, cutAt (loopAt (bodyOf fn_l_FnPuzzlesMade) []) 49, cutAt (loopAt (bodyOf fn_l_FnPuzzlesMade) []) 50, cutAt (loopAt (bodyOf fn_l_FnPuzzlesMade) []) 51, cutAt (loopAt (bodyOf fn_l_FnPuzzlesMade) []) 52, cutAt (loopAt (bodyOf fn_l_FnPuzzlesMade) []) 53, cutAt (loopAt (bodyOf fn_l_FnPuzzlesMade) []) 54, cutAt (loopAt (bodyOf fn_l_FnPuzzlesMade) []) 55, cutAt (loopAt (bodyOf fn_l_FnPuzzlesMade) []) 56, cutAt (loopAt (bodyOf fn_l_FnPuzzlesMade) []) 57, cutAt (loopAt (bodyOf fn_l_FnPuzzlesMade) []) 58, cutAt (loopAt (bodyOf fn_l_FnPuzzlesMade) []) 59]) (by kernel_rfl) ⟨.inr ⟨_, by kernel_rfl, l_FnPuzzlesMade_L26_ok⟩, trivial⟩ (by kernel_rfl) ⟨.inl (by kernel_rfl), ⟨.inl (by kernel_rfl), ⟨.inl (by kernel_rfl), ⟨.inl (by kernel_rfl), ⟨.inl (by kernel_rfl), ⟨.inl (by kernel_rfl), ⟨.inl (by kernel_rfl), ⟨.inl (by kernel_rfl), ⟨.inl (by kernel_rfl), ⟨.inl (by kernel_rfl), ⟨.inr ⟨_, by kernel_rfl, l_FnPuzzlesMade_C9_ok⟩, ⟨.inl (by kernel_rfl), ⟨.inl (by kernel_rfl), ⟨.inl (by kernel_rfl), ⟨.inl (by kernel_rfl), ⟨.inl (by kernel_rfl), ⟨.inl (by kernel_rfl), ⟨.inl (by kernel_rfl), ⟨.inl (by kernel_rfl), ⟨.inl (by kernel_rfl), ⟨.inl (by kernel_rfl), ⟨.inl (by kernel_rfl), ⟨.inl (by kernel_rfl), ⟨.inl (by kernel_rfl), ⟨.inl (by kernel_rfl), ⟨.inr ⟨_, by kernel_rfl, l_FnPuzzlesMade_C21_ok⟩, ⟨.inl (by kernel_rfl), ⟨.inl (by kernel_rfl), ⟨.inl (by kernel_rfl), ⟨.inl (by kernel_rfl), ⟨.inl (by kernel_rfl), ⟨.inl (by kernel_rfl), ⟨.inl (by kernel_rfl), ⟨.inl (by kernel_rfl), ⟨.inl (by kernel_rfl), ⟨.inl (by kernel_rfl), ⟨.inl (by kernel_rfl), ⟨.inl (by kernel_rfl), ⟨.inl (by kernel_rfl), ⟨.inl (by kernel_rfl), ⟨.inl (by kernel_rfl), ⟨.inl (by kernel_rfl), ⟨.inl (by kernel_rfl), ⟨.inl (by kernel_rfl), ⟨.inl (by kernel_rfl), ⟨.inr ⟨_, by kernel_rfl, l_FnPuzzlesMade_C46_ok⟩, ⟨.inl (by kernel_rfl), ⟨.inl (by kernel_rfl), ⟨.inl (by kernel_rfl), ⟨.inl (by kernel_rfl), ⟨.inl (by kernel_rfl), ⟨.inl (by kernel_rfl), ⟨.inl (by kernel_rfl), ⟨.inl (by kernel_rfl), ⟨.inl (by kernel_rfl), ⟨.inl (by kernel_rfl), ⟨.inl (by kernel_rfl), ⟨.inl (by kernel_rfl), ⟨.inl (by kernel_rfl), ⟨.inl (by kernel_rfl), trivial⟩⟩⟩⟩⟩⟩⟩⟩⟩⟩⟩⟩⟩⟩⟩⟩⟩⟩⟩⟩⟩⟩⟩⟩⟩⟩⟩⟩⟩⟩⟩⟩⟩⟩⟩⟩⟩⟩⟩⟩⟩⟩⟩⟩⟩⟩⟩⟩⟩⟩⟩⟩⟩⟩⟩⟩⟩⟩⟩⟩) (fun v => by kernel_rfl)

theorem mkPz_good {n g s : Int} (h1 : 3 ≤ n) (h2 : n ≤ 9) (h3 : 0 ≤ g) (h4 : g ≤ n) (h5 : 0 ≤ s) (h6 : s ≤ 9999) : (mkPz n g s).1 = true := by
  unfold mkPz
  rw [if_pos]
  simp only [Bool.and_eq_true, inB_iff]
  omega
theorem puzzle_ok {K : Int} {c : List Int × Int × Int} (h : curOK K c) (hK : K < 100000000) :
    ∃ p c', F55 ((), c) = some ((), (c', p)) ∧ p.length ≤ 9 ∧ curOK (K + 12) c' := by
  obtain ⟨c0, c1, c2⟩ := c
  obtain ⟨v, ⟨d0, d1, d2⟩, e, h0, h1, _, hc⟩ := pick_ok 5 h (by omega)
  have h1 := h1 (by omega)
  have w1 : w64 (3 + v) = 3 + v := w64_id (by omega) (by omega)
  have w2 : w64 (3 + v + 1) = 3 + v + 1 := w64_id (by omega) (by omega)
  have w3 : w64 (3 + v - 1) = 3 + v - 1 := w64_id (by omega) (by omega)
  have w4 : w64 (3 + v - 2) = 3 + v - 2 := w64_id (by omega) (by omega)
  obtain ⟨g, ⟨a0, a1, a2⟩, e2, g0, g1, _, hc2⟩ := pick_ok (3 + v + 1) hc (by omega)
  have g1 := g1 (by omega)
  obtain ⟨s, ⟨b0, b1, b2⟩, e3, s0, s1, _, hc3⟩ := pick_ok 10000 hc2 (by omega)
  have s1 := s1 (by omega)
  have e4 := F73_eq (3 + v) g s
  have hm := mkPz_good (n := 3 + v) (g := g) (s := s) (by omega) (by omega) (by omega) (by omega) (by omega) (by omega)
  obtain ⟨_, hlen, _, _⟩ := mkPz_ok hm
  generalize (mkPz (3 + v) g s).2 = p at *
  obtain ⟨u, ⟨f0, f1, f2⟩, e5, _, _, _, hc5⟩ := pick_ok 14 hc3 (by omega)
  rw [F55, F55_t, T.run_sub, e, Option.bind_some, T.run_sub, w1, w2, e2, Option.bind_some, T.run_sub, e3, Option.bind_some, T.run_sub, e4, Option.bind_some, T.run_sub, e5, Option.bind_some, T.run_test]
  dsimp only
  by_cases u0 : (u == 0) = true
  · obtain ⟨x, ⟨j0, j1, j2⟩, e6, i0, i1, _, hc6⟩ := pick_ok (3 + v) hc5 (by omega)
    have i1 := i1 (by omega)
    obtain ⟨y, ⟨k0, k1, k2⟩, e7, _, hc7⟩ := among_ok [-1, 3 + v - 1, 0, 1, 4611686018427387904] hc6 (by omega) (by simp)
    have hlt : 0 + x.toNat < p.length := by omega
    have hw : (win (List.set (List.set (List.set (List.set (List.set (List.replicate 5 (0 : Int)) 0 (-1)) 1 (w64 (3 + v - 1))) 2 (0 : Int)) 3 (1 : Int)) 4 (4611686018427387904 : Int)) 0 5) = [-1, w64 (3 + v - 1), 0, 1, 4611686018427387904] := rfl
    rw [if_pos u0, T.run_sub, e6, Option.bind_some, T.run_test, if_pos (by simp), T.run_sub, hw, w3, e7, Option.bind_some, T.run_test, if_pos (decide_eq_true (by omega)), T.run_sub, List.getElem?_eq_getElem hlt, Option.bind_some, T.run_test, if_pos (by simp), T.run_ret]
    exact ⟨_, _, rfl, by rw [List.length_set]; omega, hc7.mono (by omega)⟩
  rw [if_neg u0, T.run_test]
  by_cases u1 : (u == 1) = true
  · obtain ⟨x, ⟨j0, j1, j2⟩, e6, i0, i1, _, hc6⟩ := pick_ok (3 + v) hc5 (by omega)
    have i1 := i1 (by omega)
    obtain ⟨y, ⟨k0, k1, k2⟩, e7, _, _, _, hc7⟩ := pick_ok (3 + v - 2) hc6 (by omega)
    have hlt : 0 + x.toNat < p.length := by omega
    rw [if_pos u1, T.run_sub, e6, Option.bind_some, T.run_sub, w4, e7, Option.bind_some, T.run_test, if_pos (decide_eq_true (by omega)), T.run_sub, List.getElem?_eq_getElem hlt, Option.bind_some, T.run_test, if_pos (by simp), T.run_ret]
    exact ⟨_, _, rfl, by rw [List.length_set]; omega, hc7.mono (by omega)⟩
  rw [if_neg u1, T.run_test]
  by_cases u2 : (u == 2) = true
  · rw [if_pos u2, T.run_test, if_pos (by simp), T.run_ret]
    exact ⟨_, _, rfl, by simp, hc5.mono (by omega)⟩
  rw [if_neg u2, T.run_test, if_pos (by simp), T.run_ret]
  exact ⟨_, _, rfl, by omega, hc5.mono (by omega)⟩
theorem DrawFillGap_ok {code : List Int} (h : bytesOK code) : ∃ p at' k, F65 code = some (((), (at', k)), p) ∧ p.length ≤ 9 := by
  obtain ⟨p, ⟨d0, d1, d2⟩, e, hp, hc⟩ := puzzle_ok (cur0 h) (by omega)
  obtain ⟨v, ⟨a0, a1, a2⟩, e2, _, _, _, hc2⟩ := pick_ok (w64 ((p.length : Int) + 2)) hc (by omega)
  obtain ⟨u, ⟨b0, b1, b2⟩, e3, _, _, _, hc3⟩ := pick_ok (p.length : Int) hc2 (by omega)
  rw [F65, F65_t, T.run_sub, e, Option.bind_some, T.run_sub, e2, Option.bind_some, T.run_sub, e3, Option.bind_some, T.run_test, if_pos (by simp), T.run_ret]
  exact ⟨_, _, _, rfl, hp⟩
theorem DrawOpenGap_ok {code : List Int} (h : bytesOK code) : ∃ p at', F66 code = some (((), at'), p) ∧ p.length ≤ 9 := by
  obtain ⟨p, a, k, e, hp⟩ := DrawFillGap_ok h
  rw [F66, F66_t, T.run_sub, e, Option.bind_some, T.run_test, if_pos (by simp), T.run_ret]
  exact ⟨_, _, rfl, hp⟩
theorem DrawTurnPuzzle_ok {code : List Int} (h : bytesOK code) : ∃ p at', F48 code = some (((), at'), p) ∧ p.length ≤ 9 := by
  obtain ⟨p, a, e, hp⟩ := DrawOpenGap_ok h
  rw [F48, F48_t, T.run_sub, e, Option.bind_some, T.run_test, if_pos (by simp), T.run_ret]
  exact ⟨_, _, rfl, hp⟩
theorem DrawHarderPuzzle_ok {code : List Int} (h : bytesOK code) : ∃ p, F34 code = some ((), p) ∧ p.length ≤ 9 := by
  obtain ⟨b, ⟨d0, d1, d2⟩, e, hc⟩ := one_ok 8 (cur0 h) (by omega)
  rw [F34, F34_t, T.run_sub, e, Option.bind_some, T.run_test]
  cases b with
  | true =>
    obtain ⟨p, ⟨a0, a1, a2⟩, e2, hp, _⟩ := puzzle_ok hc (by omega)
    rw [if_pos rfl, T.run_sub, e2, Option.bind_some, T.run_test, if_pos (by simp), T.run_ret]
    exact ⟨_, rfl, hp⟩
  | false =>
    obtain ⟨v, ⟨a0, a1, a2⟩, e2, v0, v1, _, hc2⟩ := pick_ok 4 hc (by omega)
    obtain ⟨g, ⟨b0, b1, b2⟩, e3, _, _, _, hc3⟩ := pick_ok 3 hc2 (by omega)
    obtain ⟨s, ⟨f0, f1, f2⟩, e4, _, _, _, hc4⟩ := pick_ok 10000 hc3 (by omega)
    have e5 := F73_eq (w64 (4 + v)) g s
    rw [if_neg (by simp), T.run_sub, e2, Option.bind_some, T.run_sub, e3, Option.bind_some, T.run_sub, e4, Option.bind_some, T.run_sub, e5, Option.bind_some, T.run_test, if_pos (by simp), T.run_ret]
    exact ⟨_, rfl, mkPz_len _ _ _⟩
theorem DrawMakePuzzle_ok {code : List Int} (h : bytesOK code) : ∃ n g s, F42 code = some (n, (g, s)) := by
  obtain ⟨n, ⟨a0, a1, a2⟩, e, _, hc⟩ := among_ok [3, 4, 5, 6, 7, 9, 10, 2] (cur0 h) (by omega) (by simp)
  have hw : (win (List.set (List.set (List.set (List.set (List.set (List.set (List.set (List.set (List.replicate 8 (0 : Int)) 0 (3 : Int)) 1 (4 : Int)) 2 (5 : Int)) 3 (6 : Int)) 4 (7 : Int)) 5 (9 : Int)) 6 (10 : Int)) 7 (2 : Int)) 0 8) = [3, 4, 5, 6, 7, 9, 10, 2] := rfl
  obtain ⟨g, ⟨b0, b1, b2⟩, e2, _, hc2⟩ := among_ok [0, 1, 2, 3, n, w64 (n + 1), -1] hc (by omega) (by simp)
  have hw2 : (win (List.set (List.set (List.set (List.set (List.set (List.set (List.set (List.replicate 7 (0 : Int)) 0 (0 : Int)) 1 (1 : Int)) 2 (2 : Int)) 3 (3 : Int)) 4 n) 5 (w64 (n + 1))) 6 (-1)) 0 7) = [0, 1, 2, 3, n, w64 (n + 1), -1] := rfl
  obtain ⟨x, ⟨d0, d1, d2⟩, e3, _, _, _, hc3⟩ := pick_ok 10000 hc2 (by omega)
  obtain ⟨y, ⟨f0, f1, f2⟩, e4, _, _, _, hc4⟩ := pick_ok 10000 hc3 (by omega)
  obtain ⟨s, ⟨j0, j1, j2⟩, e5, _, _⟩ := among_ok [0, 1, 9999, 10000, -1, x, y] hc4 (by omega) (by simp)
  have hw3 : (win (List.set (List.set (List.set (List.set (List.set (List.set (List.set (List.replicate 7 (0 : Int)) 0 (0 : Int)) 1 (1 : Int)) 2 (9999 : Int)) 3 (10000 : Int)) 4 (-1)) 5 x) 6 y) 0 7) = [0, 1, 9999, 10000, -1, x, y] := rfl
  rw [F42, F42_t, T.run_test, if_pos rfl, T.run_sub, hw, e, Option.bind_some, T.run_test, if_pos (by simp), T.run_sub, hw2, e2, Option.bind_some, T.run_sub, e3, Option.bind_some, T.run_sub, e4, Option.bind_some, T.run_test, if_pos (by simp), T.run_sub, hw3, e5, Option.bind_some, T.run_ret]
  exact ⟨_, _, _, rfl⟩
theorem l_FnPuzzlesMade_C9_eq (more : List Int) (n g s : Int) : l_FnPuzzlesMade_C9 ((more, (n, (g, ((), (mkPz n g s).1)))), ((), (mkPz n g s).2)) = some (.inr more) := by
  rw [l_FnPuzzlesMade_C9, l_FnPuzzlesMade_C9_step, T.run_test]
  have hl := mkPz_len n g s
  cases h : (mkPz n g s).1 with
  | false => rfl
  | true =>
    obtain ⟨h1, h2, h3, h4⟩ := mkPz_ok h
    generalize (mkPz n g s).2 = p at *
    have hs : (solR p).1 = true → 1 ≤ (solR p).2.length := by
      unfold solR
      rw [if_pos h1]
      split
      · exact fun _ => h4
      · intro h; cases h
    rw [if_pos rfl, T.run_test, if_pos (by simp), T.run_sub, win_all, F80_eq p (by omega), Option.bind_some, T.run_test, if_pos (by simp), T.run_sub, F87_eq p (by omega), h1, Option.bind_some, T.run_test, if_neg (by simp), T.run_test, if_neg (by rw [h2]; simp),
      T.run_test, if_neg (by simp), T.run_test, if_neg (by simp [h3]), T.run_test, if_pos (by simp), T.run_sub, F46_eq p (by omega), Option.bind_some, T.run_test]
    cases hb : (solR p).1 with
    | false => rw [if_neg (by simp), T.run_ret]
    | true =>
      have := hs hb
      rw [if_pos rfl, T.run_test, if_neg (by rw [decide_eq_true_eq]; omega), T.run_ret]
theorem solR_one {p : List Int} (h : isPz p = true) (h1 : (solL p).length = 1) : solR p = (true, solL p) := by
  unfold solR
  rw [if_pos h, if_pos (by omega)]
theorem l_FnPuzzlesMade_L26_eq (more q : List Int) (hq : (hardR q).1 = true) : ∀ (m k : Nat), k + m = (hardR q).2.length →
    l_FnPuzzlesMade_L26 ((more, ((), ((), ((), ((((hardR q).2.length : Nat) : Int), (k : Int)))))), ((), (q, ((), (hardR q).2)))) = some (.inr more) := by
  obtain ⟨h1, h2, h3, h4, h5, h6⟩ := hard_ok hq
  have h9 := isPz_len h3
  generalize (hardR q).2 = o at *
  have hlq : o.length = q.length := h5.1
  intro m
  induction m with
  | zero =>
    intro k hk
    simp only [l_FnPuzzlesMade_L26]
    refine loopO_done ?_
    rw [l_FnPuzzlesMade_L26_step, T.run_test, if_neg (by rw [decide_eq_true_eq]; omega), T.run_ret]
  | succ m ih =>
    intro k hk
    have hlt : k < o.length := by omega
    have hlt2 : k < q.length := by omega
    have w1 : w64 ((k : Int) + 1) = ((k + 1 : Nat) : Int) := by rw [w64_id (by omega) (by omega)]; omega
    have hg : o[0 + k]? = some o[k] := by rw [Nat.zero_add]; exact List.getElem?_eq_getElem _
    have hg2 : q[0 + k]? = some q[k] := by rw [Nat.zero_add]; exact List.getElem?_eq_getElem _
    have ih := ih (k + 1) (by omega)
    simp only [l_FnPuzzlesMade_L26] at ih ⊢
    rw [← ih]
    refine loopO_next ?_
    rw [l_FnPuzzlesMade_L26_step, T.run_test, if_pos (decide_eq_true (by omega)), T.run_test, if_pos (decide_eq_true (by omega)), T.run_sub, Int.toNat_natCast, hg, Option.bind_some, T.run_test]
    by_cases h0 : o[k] = 0
    · rw [if_pos (by rw [h0]; rfl), T.run_test, if_pos (by simp), T.run_test, if_pos (by simp), T.run_test, if_pos (by simp), T.run_ret, w1]
    · have hoD : o.getD k 0 = o[k] := by rw [List.getD_eq_getElem?_getD, List.getElem?_eq_getElem hlt]; rfl
      have hqD : q.getD k 0 = q[k] := by rw [List.getD_eq_getElem?_getD, List.getElem?_eq_getElem hlt2]; rfl
      have h7 := h6 k hlt (by rw [hoD]; exact h0)
      have hsame : o[k] = q[k] := by
        have := h5.2 k
        rw [hoD, hqD] at this
        rcases this with h | h
        · exact absurd h h0
        · exact h
      have hop := F94_eq o (k : Int) (by omega)
      have hcond : (isPz o && (inB 0 ((o.length : Int) - 1) (k : Int) && decide (o[((k : Int)).toNat]? ≠ some 0))) = true := by
        rw [h3, Bool.true_and, Bool.and_eq_true, inB_iff, decide_eq_true_eq, Int.toNat_natCast, List.getElem?_eq_getElem hlt]
        exact ⟨by omega, fun h => h0 (Option.some.inj h)⟩
      unfold openG at hop
      rw [if_pos hcond, Int.toNat_natCast] at hop
      have hcs := F46_eq (o.set k 0) (by rw [List.length_set]; omega)
      have hge : (solR (o.set k 0)).1 = true → 2 ≤ (solR (o.set k 0)).2.length := by
        unfold solR
        rw [if_pos (isPz_set h3 k)]
        split
        · exact fun _ => h7
        · intro h; cases h
      rw [if_neg (by rw [beq_iff_eq]; exact h0), T.run_test, if_pos (by simp), T.run_sub, win_all, hop, Option.bind_some, T.run_test, if_pos (by simp), T.run_sub, win_all, hcs, Option.bind_some, T.run_test, if_pos (decide_eq_true (by omega)), T.run_sub, hg2, Option.bind_some,
        T.run_test, if_neg (by rw [hsame]; simp), T.run_test, if_neg (by simp), T.run_test]
      cases hb : (solR (o.set k 0)).1 with
      | false => rw [if_neg (by simp), T.run_test, if_pos (by simp), T.run_test, if_pos (by simp), T.run_test, if_pos (by simp), T.run_ret, w1]
      | true =>
        have := hge hb
        rw [if_pos rfl, T.run_test, if_neg (by rw [decide_eq_true_eq]; omega), T.run_test, if_pos (by simp), T.run_test, if_pos (by simp), T.run_test, if_pos (by simp), T.run_ret, w1]
theorem l_FnPuzzlesMade_C21_eq (more q : List Int) (hl : q.length ≤ 9) : l_FnPuzzlesMade_C21 ((more, ((), ((), (hardR q).1))), ((), (q, ((), (hardR q).2)))) = some (.inr more) := by
  rw [l_FnPuzzlesMade_C21, l_FnPuzzlesMade_C21_step, T.run_test]
  cases h : (hardR q).1 with
  | false => rfl
  | true =>
    have hL := l_FnPuzzlesMade_L26_eq more q h (hardR q).2.length 0 (by omega)
    obtain ⟨h1, h2, h3, h4, h5, h6⟩ := hard_ok h
    rw [Int.natCast_zero] at hL
    generalize (hardR q).2 = o at *
    have h7 : (solL o).length = 1 := by rw [h4]; exact h2
    have hlo : o.length = q.length := h5.1
    have hS1 := F81_eq q (by omega)
    have hS2 := F81_eq o (by omega)
    rw [solR_one h1 h2] at hS1
    rw [solR_one h3 h7, h4] at hS2
    have hd := F104_self (solL q) (by omega) (fun r hr => by
      have : r ∈ (solR q).2 := by rw [solR_one h1 h2]; exact hr
      have := solR_mem this
      omega)
    rw [if_pos rfl, T.run_test, if_pos (by simp), T.run_sub, win_all, hS1, Option.bind_some, T.run_test, if_pos (by simp), T.run_sub, win_all, hS2, Option.bind_some, T.run_test, if_neg (by simp), T.run_test, if_neg (by simp [h2]), T.run_test, if_neg (by simp),
      T.run_test, if_pos (by simp), T.run_test, if_pos (by simp), T.run_sub, win_all, hd, Option.bind_some, T.run_test, if_neg (by simp), T.run_test, if_pos (by simp), T.run_test, if_pos (by simp), T.run_test, if_pos (by simp), T.run_sub, hL, Option.bind_some, T.run_test, if_neg (by simp [Sum.isLeft]), T.run_sub]
    rfl

theorem isPz_iff {l : List Int} : isPz l = true ↔ (3 ≤ l.length ∧ l.length ≤ 9) ∧ ∀ x ∈ l, 0 ≤ x ∧ x ≤ (l.length : Int) - 2 := by
  unfold isPz
  rw [Bool.and_eq_true, inB_iff, List.all_eq_true]
  simp only [inB_iff]
  constructor
  · rintro ⟨h1, h2⟩
    exact ⟨by omega, fun x hx => by have := h2 x hx; omega⟩
  · rintro ⟨h1, h2⟩
    exact ⟨by omega, fun x hx => by have := h2 x hx; omega⟩
theorem isPz_setv {l : List Int} (h : isPz l = true) (k : Nat) (v : Int) (hv : 0 ≤ v ∧ v ≤ (l.length : Int) - 2) : isPz (l.set k v) = true := by
  rw [isPz_iff] at h ⊢
  rw [List.length_set]
  refine ⟨h.1, fun x hx => ?_⟩
  rcases List.mem_or_eq_of_mem_set hx with hx | rfl
  · exact h.2 x hx
  · exact hv
theorem set_back {l : List Int} {k : Nat} {v w : Int} (h : l[k]? = some v) : (l.set k w).set k v = l := by
  apply List.ext_getElem?
  intro j
  have hlt : k < l.length := by
    rcases Nat.lt_or_ge k l.length with h' | h'
    · exact h'
    · rw [List.getElem?_eq_none h'] at h; cases h
  rw [List.getElem?_set, List.getElem?_set, List.length_set]
  by_cases e : k = j
  · subst e; rw [if_pos rfl, if_pos hlt, h]
  · rw [if_neg e, if_neg e]
theorem fill_back {l : List Int} {a n : Int} (h : (fillG l a n).1 = true) : openG (fillG l a n).2 a = (true, l) := by
  unfold fillG at h ⊢
  split at h
  · rename_i hc
    rw [if_pos hc]
    simp only [Bool.and_eq_true, inB_iff, decide_eq_true_eq] at hc
    obtain ⟨h1, h2, h3, h4⟩ := hc
    have hlt : a.toNat < l.length := by omega
    unfold openG
    rw [if_pos]
    · simp only [set_back h4]
    · simp only [Bool.and_eq_true, inB_iff, decide_eq_true_eq, List.length_set]
      refine ⟨isPz_setv h1 _ _ (by omega), by omega, ?_⟩
      rw [List.getElem?_set, if_pos rfl, if_pos hlt]
      intro e
      have := Option.some.inj e
      omega
  · simp at h
theorem open_back {l : List Int} {a x : Int} (h : (openG l a).1 = true) (hx : l[a.toNat]? = some x) : fillG (openG l a).2 a x = (true, l) := by
  unfold openG at h ⊢
  split at h
  · rename_i hc
    rw [if_pos hc]
    simp only [Bool.and_eq_true, inB_iff, decide_eq_true_eq] at hc
    obtain ⟨h1, h2, h3⟩ := hc
    have hlt : a.toNat < l.length := by omega
    have hm := (isPz_iff.1 h1).2 x (List.mem_of_getElem? hx)
    have hx0 : x ≠ 0 := fun e => h3 (by rw [hx, e])
    unfold fillG
    rw [if_pos]
    · simp only [set_back hx]
    · simp only [Bool.and_eq_true, inB_iff, decide_eq_true_eq, List.length_set]
      refine ⟨isPz_setv h1 _ _ (by omega), by omega, by omega, ?_⟩
      rw [List.getElem?_set, if_pos rfl, if_pos hlt]
  · simp at h
theorem turn_back {l : List Int} {k : Int} (h : (turnG l k).1 = true) : (l.length : Int) ≠ 0 ∧ (turnG l k).2.length = l.length ∧ turnG (turnG l k).2 (Int.tmod (w64 ((l.length : Int) - k)) (l.length : Int)) = (true, l) := by
  unfold turnG at h ⊢
  split at h
  · rename_i hc
    rw [if_pos hc]
    simp only [Bool.and_eq_true, inB_iff] at hc
    obtain ⟨h1, h2⟩ := hc
    have h9 := isPz_len h1
    obtain ⟨m, hm⟩ : ∃ m : Nat, k = (m : Int) := ⟨k.toNat, by omega⟩
    subst hm
    have hml : m < l.length := by omega
    have hlen : (l.drop m ++ l.take m).length = l.length := by rw [List.length_append, List.length_drop, List.length_take]; omega
    simp only [Int.toNat_natCast, hlen]
    have hpz : isPz (l.drop m ++ l.take m) = true := by
      rw [isPz_iff] at h1 ⊢
      rw [hlen]
      refine ⟨h1.1, fun x hx => ?_⟩
      rcases List.mem_append.1 hx with hx | hx
      · exact h1.2 x (List.mem_of_mem_drop hx)
      · exact h1.2 x (List.mem_of_mem_take hx)
    refine ⟨by omega, trivial, ?_⟩
    rw [w64_id (by omega) (by omega), Int.tmod_eq_emod_of_nonneg (by omega)]
    by_cases hm0 : m = 0
    · subst hm0
      rw [show ((l.length : Int) - ((0 : Nat) : Int)) % (l.length : Int) = 0 by rw [Int.natCast_zero, Int.sub_zero, Int.emod_self]]
      rw [if_pos (by rw [hpz, Bool.true_and, inB_iff]; omega)]
      simp
    · have e : ((l.length : Int) - (m : Int)) % (l.length : Int) = ((l.length - m : Nat) : Int) := by rw [Int.emod_eq_of_lt (by omega) (by omega)]; omega
      rw [e, if_pos (by rw [hpz, Bool.true_and, inB_iff]; omega), Int.toNat_natCast]
      have d1 : (l.drop m ++ l.take m).drop (l.length - m) = l.take m := List.drop_left' (by rw [List.length_drop])
      have d2 : (l.drop m ++ l.take m).take (l.length - m) = l.drop m := List.take_left' (by rw [List.length_drop])
      rw [d1, d2, List.take_append_drop]
  · simp at h
theorem fillG_len (l : List Int) (a n : Int) : (fillG l a n).2.length ≤ l.length := by unfold fillG; split <;> simp
theorem openG_len (l : List Int) (a : Int) : (openG l a).2.length ≤ l.length := by unfold openG; split <;> simp
theorem turnG_len (l : List Int) (k : Int) : (turnG l k).2.length ≤ l.length := by
  unfold turnG; split
  · rw [List.length_append, List.length_drop, List.length_take]; omega
  · simp
theorem l_FnPuzzlesMade_C46_eq (a n p : Int) (f : Bool) (k : Int) (v : Bool) (r s o t u : List Int) (hr : r.length ≤ 9) :
    l_FnPuzzlesMade_C46 (((), (a, ((), ((fillG r a n).1, ((), (p, ((), (f, ((), (k, ((), v))))))))))), ((), (r, ((), ((fillG r a n).2, ((), (s, ((), (o, ((), (t, ((), u)))))))))))) =
      some (.inr (((), (p, ((), (f, ((), (k, ((), v))))))), ((), (s, ((), (o, ((), (t, ((), u))))))))) := by
  rw [l_FnPuzzlesMade_C46, l_FnPuzzlesMade_C46_step, T.run_test]
  have hl := fillG_len r a n
  cases h : (fillG r a n).1 with
  | false => rw [if_neg (by simp), T.run_test, if_pos (by simp), T.run_test, if_pos (by simp), T.run_test, if_pos (by simp), T.run_test, if_pos (by simp), T.run_ret]
  | true =>
    have hb := fill_back h
    have hop := F94_eq (fillG r a n).2 a (by omega)
    rw [hb] at hop
    rw [if_pos rfl, T.run_test, if_pos (by simp), T.run_sub, win_all, hop, Option.bind_some, T.run_test, if_neg (by simp), T.run_test, if_pos (by simp), T.run_test, if_pos (by simp), T.run_sub, win_all, F92_val r r (by omega), Option.bind_some, T.run_test, if_neg (by simp),
      T.run_test, if_pos (by simp), T.run_test, if_pos (by simp), T.run_test, if_pos (by simp), T.run_test, if_pos (by simp), T.run_ret]
theorem l_FnPuzzlesMade_true (v : List Int × List Int) (hs : smallL ASh.small [.one (.sl (.int .u8) false true), .one (.sl (.int .u8) false true)] v) : l_FnPuzzlesMade v = some true := by
  obtain ⟨code, more⟩ := v
  have hb : ∀ l : List Int, (∀ x ∈ l, wfE (.int .u8) x) → bytesOK l := fun l h x hx => by
    have := h x hx
    simp [wfE, Lit.wf, IntKind.min, IntKind.max, IntKind.signed, IntKind.bits] at this
    omega
  have b1 : bytesOK code := hb code hs.1.2
  have b2 : bytesOK more := hb more hs.2.2
  obtain ⟨b, hbig⟩ : ∃ b, F121 (code, more) = some b := by
    rw [F121, F121_t, T.run_test]
    split
    · exact ⟨_, rfl⟩
    · exact ⟨_, rfl⟩
  obtain ⟨n, g, s, e1⟩ := DrawMakePuzzle_ok b1
  have i1 := F71_eq n g s
  have s1 := F73_eq n g s
  have c9 := l_FnPuzzlesMade_C9_eq more n g s
  have l1 := mkPz_len n g s
  generalize mkPz n g s = P1 at *
  obtain ⟨q, e2, hq⟩ := DrawHarderPuzzle_ok b2
  have i2 := F56_eq q (by omega)
  have s2 := F59_eq q (by omega)
  have c21 := l_FnPuzzlesMade_C21_eq more q hq
  have l2 : (hardR q).2.length ≤ 9 := by
    cases h : (hardR q).1 with
    | true => have := (hard_ok h).2.2.2.2.1.1; omega
    | false =>
      unfold hardR at h ⊢
      split at h
      · cases h
      · rename_i hc; rw [if_neg hc]; simp
  generalize hardR q = P2 at *
  obtain ⟨r, at', number, e3, hr⟩ := DrawFillGap_ok b2
  have i3 := F95_eq r at' number (by omega)
  have s3 := F96_eq r at' number (by omega)
  have l3 := fillG_len r at' number
  obtain ⟨t, place, e4, ht⟩ := DrawOpenGap_ok b2
  have i4 := F94_eq t place (by omega)
  have s4 := F97_eq t place (by omega)
  have l4 := openG_len t place
  obtain ⟨u, k, e5, hu⟩ := DrawTurnPuzzle_ok b2
  have i5 := F77_eq u k (by omega)
  have s5 := F78_eq u k (by omega)
  have l5 := turnG_len u k
  have c46 := l_FnPuzzlesMade_C46_eq at' number place (openG t place).1 k (turnG u k).1 r t (openG t place).2 u (turnG u k).2 hr
  have ob := @open_back t place
  have tb := @turn_back u k
  have ifl : ∀ x, F95 ((openG t place).2, place, x) = some (((), (fillG (openG t place).2 place x).1), (fillG (openG t place).2 place x).2) := fun x => F95_eq _ place x (by omega)
  have itr : ∀ x, F77 ((turnG u k).2, x) = some (((), (turnG (turnG u k).2 x).1), (turnG (turnG u k).2 x).2) := fun x => F77_eq _ x (by omega)
  have hop : (openG t place).1 = true → (0 ≤ place ∧ place < (t.length : Int)) := by
    unfold openG
    split
    · rename_i hc
      simp only [Bool.and_eq_true, inB_iff, decide_eq_true_eq] at hc
      intro _; omega
    · intro h; cases h
  generalize openG t place = O at *
  generalize turnG u k = U at *
  generalize fillG r at' number = F at *
  rw [l_FnPuzzlesMade, l_FnPuzzlesMade_t, T.run_sub, hbig, Option.bind_some, T.run_test]
  cases b with
  | true => rfl
  | false =>
    rw [if_neg (by simp), T.run_sub, e1, Option.bind_some, T.run_sub, i1, Option.bind_some, T.run_sub, s1, Option.bind_some, T.run_test, if_neg (by simp), T.run_test, if_pos (by simp), T.run_test, if_pos (by simp), T.run_sub, win_all, F92_val P1.2 P1.2 (by omega), Option.bind_some, T.run_test, if_neg (by simp),
      T.run_test, if_pos (by simp), T.run_sub, c9, Option.bind_some, T.run_test, if_neg (by simp [Sum.isLeft]), T.run_sub]
    simp only [Sum.getRight?, Option.bind_some]
    rw [T.run_sub, e2, Option.bind_some, T.run_test, if_pos (by simp), T.run_sub, win_all, i2, Option.bind_some, T.run_test, if_pos (by simp), T.run_sub, s2, Option.bind_some, T.run_test, if_neg (by simp), T.run_test, if_pos (by simp), T.run_test, if_pos (by simp), T.run_sub, win_all, F92_val P2.2 P2.2 (by omega), Option.bind_some, T.run_test, if_neg (by simp),
      T.run_test, if_pos (by simp), T.run_test, if_pos (by simp), T.run_sub, c21, Option.bind_some, T.run_test, if_neg (by simp [Sum.isLeft]), T.run_sub]
    simp only [Sum.getRight?, Option.bind_some]
    rw [T.run_sub, e3, Option.bind_some, T.run_test, if_pos (by simp), T.run_sub, win_all, i3, Option.bind_some, T.run_test, if_pos (by simp), T.run_sub, s3, Option.bind_some, T.run_sub, e4, Option.bind_some, T.run_test, if_pos (by simp), T.run_sub, win_all, i4, Option.bind_some, T.run_test, if_pos (by simp), T.run_sub, s4, Option.bind_some,
      T.run_sub, e5, Option.bind_some, T.run_test, if_pos (by simp), T.run_sub, win_all, i5, Option.bind_some, T.run_test, if_pos (by simp), T.run_sub, s5, Option.bind_some, T.run_test, if_neg (by simp), T.run_test, if_pos (by simp), T.run_test, if_pos (by simp), T.run_sub, win_all, F92_val F.2 F.2 (by omega), Option.bind_some, T.run_test, if_neg (by simp),
      T.run_test, if_neg (by simp), T.run_test, if_pos (by simp), T.run_test, if_pos (by simp), T.run_sub, win_all, F92_val O.2 O.2 (by omega), Option.bind_some, T.run_test, if_neg (by simp),
      T.run_test, if_neg (by simp), T.run_test, if_pos (by simp), T.run_test, if_pos (by simp), T.run_sub, win_all, F92_val U.2 U.2 (by omega), Option.bind_some, T.run_test, if_neg (by simp),
      T.run_test, if_pos (by simp), T.run_test, if_pos (by simp), T.run_test, if_pos (by simp), T.run_test, if_pos (by simp), T.run_test, if_pos (by simp), T.run_test, if_pos (by simp), T.run_sub, c46, Option.bind_some, T.run_test, if_neg (by simp [Sum.isLeft]), T.run_sub]
    simp only [Sum.getRight?, Option.bind_some]
    have fin : ∀ X : T Bool, U.1 = true → X = X → True := fun _ _ _ => trivial
    have turnpart : ∀ (h7 : U.1 = true), (T.test (decide (((u.length : Nat) : Int) ≠ 0)) (T.test (decide (0 + U.2.length ≤ U.2.length)) (.sub (F77 (win U.2 0 U.2.length, Int.tmod (w64 ((u.length : Int) - k)) (u.length : Int))) fun z33 =>
        .test z33.1.2 (.test (decide (0 + z33.2.length ≤ z33.2.length)) (.test (decide (0 + u.length ≤ u.length)) (.sub (F92 (win z33.2 0 z33.2.length, win u 0 u.length)) fun z34 => .ret z34) .fail) .fail) (.ret false)) .fail) .fail).run = some true := by
      intro h7
      obtain ⟨t1, t2, t3⟩ := tb h7
      rw [T.run_test, if_pos (decide_eq_true t1), T.run_test, if_pos (by simp), T.run_sub, win_all, itr, t3, Option.bind_some, T.run_test, if_pos rfl, T.run_test, if_pos (by simp), T.run_test, if_pos (by simp), T.run_sub, win_all, F92_val u u (by omega), Option.bind_some, T.run_ret]
      simp
    rw [T.run_test]
    cases h5 : O.1 with
    | true =>
      have hp := hop h5
      have hlt : 0 + place.toNat < t.length := by omega
      have hx : t[0 + place.toNat]? = some t[0 + place.toNat] := List.getElem?_eq_getElem hlt
      have ob := ob h5 (x := t[0 + place.toNat]) (by rw [← hx, Nat.zero_add])
      rw [if_pos rfl, T.run_test, if_pos (decide_eq_true hp), T.run_sub, hx, Option.bind_some, T.run_test, if_pos (by simp), T.run_sub, win_all, ifl, ob, Option.bind_some, T.run_test, if_neg (by simp), T.run_test, if_pos (by simp), T.run_test, if_pos (by simp), T.run_sub, win_all, F92_val t t (by omega), Option.bind_some, T.run_test, if_neg (by simp), T.run_test]
      cases h7 : U.1 with
      | false => rfl
      | true => rw [if_pos rfl]; exact turnpart h7
    | false =>
      rw [if_neg (by simp), T.run_test]
      cases h7 : U.1 with
      | false => rfl
      | true => rw [if_pos rfl]; exact turnpart h7


end Go.Proofs.W
