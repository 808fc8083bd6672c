/- The functions' numbers. -/
import Derived.Test.YtigenooglogcfaaGt15
import Derived.Test.YtigenooglogcfaaGc7
import Derived.Test.YtigenooglogcfaaProg
import Derived.Test.YtigenooglogcfaaGr2
import Derived.KernelRfl
namespace Go.Proofs.W
open Go Go.Gm Go.Proofs
abbrev n_l_FnExactHarderPuzzle : FuncId := 8
noncomputable abbrev fn_l_FnExactHarderPuzzle : Func := Try.f8
theorem fnat_l_FnExactHarderPuzzle : Try.prog.funcs[n_l_FnExactHarderPuzzle]? = some fn_l_FnExactHarderPuzzle := Try.func8
abbrev n_l_szPuzzle : FuncId := 17
noncomputable abbrev fn_l_szPuzzle : Func := Try.f17
theorem fnat_l_szPuzzle : Try.prog.funcs[n_l_szPuzzle]? = some fn_l_szPuzzle := Try.func17
abbrev n_l_toPuzzle : FuncId := 19
noncomputable abbrev fn_l_toPuzzle : Func := Try.f19
theorem fnat_l_toPuzzle : Try.prog.funcs[n_l_toPuzzle]? = some fn_l_toPuzzle := Try.func19
abbrev n_l_toIntS : FuncId := 20
noncomputable abbrev fn_l_toIntS : Func := Try.f20
theorem fnat_l_toIntS : Try.prog.funcs[n_l_toIntS]? = some fn_l_toIntS := Try.func20
abbrev n_l_eqPuzzle : FuncId := 22
noncomputable abbrev fn_l_eqPuzzle : Func := Try.f22
theorem fnat_l_eqPuzzle : Try.prog.funcs[n_l_eqPuzzle]? = some fn_l_eqPuzzle := Try.func22
abbrev n_l_eqIntS : FuncId := 23
noncomputable abbrev fn_l_eqIntS : Func := Try.f23
theorem fnat_l_eqIntS : Try.prog.funcs[n_l_eqIntS]? = some fn_l_eqIntS := Try.func23
abbrev n_l_markPuzzle : FuncId := 28
noncomputable abbrev fn_l_markPuzzle : Func := Try.f28
theorem fnat_l_markPuzzle : Try.prog.funcs[n_l_markPuzzle]? = some fn_l_markPuzzle := Try.func28
abbrev n_l_markIntS : FuncId := 29
noncomputable abbrev fn_l_markIntS : Func := Try.f29
theorem fnat_l_markIntS : Try.prog.funcs[n_l_markIntS]? = some fn_l_markIntS := Try.func29
abbrev n_l_heldIntS : FuncId := 30
noncomputable abbrev fn_l_heldIntS : Func := Try.f30
theorem fnat_l_heldIntS : Try.prog.funcs[n_l_heldIntS]? = some fn_l_heldIntS := Try.func30
abbrev n_s_HarderPuzzle : FuncId := 36
noncomputable abbrev fn_s_HarderPuzzle : Func := Try.f36
theorem fnat_s_HarderPuzzle : Try.prog.funcs[n_s_HarderPuzzle]? = some fn_s_HarderPuzzle := Try.func36
abbrev n_i_HarderPuzzle : FuncId := 37
noncomputable abbrev fn_i_HarderPuzzle : Func := Try.f37
theorem fnat_i_HarderPuzzle : Try.prog.funcs[n_i_HarderPuzzle]? = some fn_i_HarderPuzzle := Try.func37
abbrev n_l_heldPuzzle : FuncId := 38
noncomputable abbrev fn_l_heldPuzzle : Func := Try.f38
theorem fnat_l_heldPuzzle : Try.prog.funcs[n_l_heldPuzzle]? = some fn_l_heldPuzzle := Try.func38
abbrev n_l_szIntS : FuncId := 45
noncomputable abbrev fn_l_szIntS : Func := Try.f45
theorem fnat_l_szIntS : Try.prog.funcs[n_l_szIntS]? = some fn_l_szIntS := Try.func45
abbrev n_i_within : FuncId := 48
noncomputable abbrev fn_i_within : Func := Try.f48
theorem fnat_i_within : Try.prog.funcs[n_i_within]? = some fn_i_within := Try.func48
abbrev n_s_pzGood : FuncId := 49
noncomputable abbrev fn_s_pzGood : Func := Try.f49
theorem fnat_s_pzGood : Try.prog.funcs[n_s_pzGood]? = some fn_s_pzGood := Try.func49
abbrev n_s_pzFits : FuncId := 51
noncomputable abbrev fn_s_pzFits : Func := Try.f51
theorem fnat_s_pzFits : Try.prog.funcs[n_s_pzFits]? = some fn_s_pzFits := Try.func51
abbrev n_i_IsPuzzle : FuncId := 52
noncomputable abbrev fn_i_IsPuzzle : Func := Try.f52
theorem fnat_i_IsPuzzle : Try.prog.funcs[n_i_IsPuzzle]? = some fn_i_IsPuzzle := Try.func52
abbrev n_i_Puzzle_isSolution : FuncId := 53
noncomputable abbrev fn_i_Puzzle_isSolution : Func := Try.f53
theorem fnat_i_Puzzle_isSolution : Try.prog.funcs[n_i_Puzzle_isSolution]? = some fn_i_Puzzle_isSolution := Try.func53
abbrev n_s_pzAll : FuncId := 54
noncomputable abbrev fn_s_pzAll : Func := Try.f54
theorem fnat_s_pzAll : Try.prog.funcs[n_s_pzAll]? = some fn_s_pzAll := Try.func54
abbrev n_i_Puzzle_solutions : FuncId := 56
noncomputable abbrev fn_i_Puzzle_solutions : Func := Try.f56
theorem fnat_i_Puzzle_solutions : Try.prog.funcs[n_i_Puzzle_solutions]? = some fn_i_Puzzle_solutions := Try.func56
abbrev n_s_l1Own : FuncId := 58
noncomputable abbrev fn_s_l1Own : Func := Try.f58
theorem fnat_s_l1Own : Try.prog.funcs[n_s_l1Own]? = some fn_s_l1Own := Try.func58
abbrev n_s_pzPut : FuncId := 59
noncomputable abbrev fn_s_pzPut : Func := Try.f59
theorem fnat_s_pzPut : Try.prog.funcs[n_s_pzPut]? = some fn_s_pzPut := Try.func59
abbrev n_slices_Clone_int : FuncId := 60
noncomputable abbrev fn_slices_Clone_int : Func := Try.f60
theorem fnat_slices_Clone_int : Try.prog.funcs[n_slices_Clone_int]? = some fn_slices_Clone_int := Try.func60
abbrev n_i_Puzzle_with : FuncId := 61
noncomputable abbrev fn_i_Puzzle_with : Func := Try.f61
theorem fnat_i_Puzzle_with : Try.prog.funcs[n_i_Puzzle_with]? = some fn_i_Puzzle_with := Try.func61
abbrev n_s_l1In : FuncId := 63
noncomputable abbrev fn_s_l1In : Func := Try.f63
theorem fnat_s_l1In : Try.prog.funcs[n_s_l1In]? = some fn_s_l1In := Try.func63
abbrev n_s_l1All : FuncId := 68
noncomputable abbrev fn_s_l1All : Func := Try.f68
theorem fnat_s_l1All : Try.prog.funcs[n_s_l1All]? = some fn_s_l1All := Try.func68
abbrev n_slices_ContainsFunc_int : FuncId := 70
noncomputable abbrev fn_slices_ContainsFunc_int : Func := Try.f70
theorem fnat_slices_ContainsFunc_int : Try.prog.funcs[n_slices_ContainsFunc_int]? = some fn_slices_ContainsFunc_int := Try.func70
abbrev n_i_IsPuzzle_1 : FuncId := 71
noncomputable abbrev fn_i_IsPuzzle_1 : Func := Try.f71
theorem fnat_i_IsPuzzle_1 : Try.prog.funcs[n_i_IsPuzzle_1]? = some fn_i_IsPuzzle_1 := Try.func71
abbrev n_slices_EqualFunc_int : FuncId := 72
noncomputable abbrev fn_slices_EqualFunc_int : Func := Try.f72
theorem fnat_slices_EqualFunc_int : Try.prog.funcs[n_slices_EqualFunc_int]? = some fn_slices_EqualFunc_int := Try.func72
abbrev n_i_Puzzle_isSolution_1 : FuncId := 73
noncomputable abbrev fn_i_Puzzle_isSolution_1 : Func := Try.f73
theorem fnat_i_Puzzle_isSolution_1 : Try.prog.funcs[n_i_Puzzle_isSolution_1]? = some fn_i_Puzzle_isSolution_1 := Try.func73
abbrev n_s_caQuiddities : FuncId := 74
noncomputable abbrev fn_s_caQuiddities : Func := Try.f74
theorem fnat_s_caQuiddities : Try.prog.funcs[n_s_caQuiddities]? = some fn_s_caQuiddities := Try.func74
abbrev n_slices_DeleteFunc_Lint : FuncId := 75
noncomputable abbrev fn_slices_DeleteFunc_Lint : Func := Try.f75
theorem fnat_slices_DeleteFunc_Lint : Try.prog.funcs[n_slices_DeleteFunc_Lint]? = some fn_slices_DeleteFunc_Lint := Try.func75
abbrev n_i_allQuiddities : FuncId := 76
noncomputable abbrev fn_i_allQuiddities : Func := Try.f76
theorem fnat_i_allQuiddities : Try.prog.funcs[n_i_allQuiddities]? = some fn_i_allQuiddities := Try.func76
abbrev n_i_Puzzle_solutions_1 : FuncId := 77
noncomputable abbrev fn_i_Puzzle_solutions_1 : Func := Try.f77
theorem fnat_i_Puzzle_solutions_1 : Try.prog.funcs[n_i_Puzzle_solutions_1]? = some fn_i_Puzzle_solutions_1 := Try.func77
abbrev n_i_quiddity : FuncId := 86
noncomputable abbrev fn_i_quiddity : Func := Try.f86
theorem fnat_i_quiddity : Try.prog.funcs[n_i_quiddity]? = some fn_i_quiddity := Try.func86
abbrev n_s_poIs : FuncId := 87
noncomputable abbrev fn_s_poIs : Func := Try.f87
theorem fnat_s_poIs : Try.prog.funcs[n_s_poIs]? = some fn_s_poIs := Try.func87
abbrev n_slices_IndexFunc_int : FuncId := 91
noncomputable abbrev fn_slices_IndexFunc_int : Func := Try.f91
theorem fnat_slices_IndexFunc_int : Try.prog.funcs[n_slices_IndexFunc_int]? = some fn_slices_IndexFunc_int := Try.func91
abbrev n_s_poAll : FuncId := 92
noncomputable abbrev fn_s_poAll : Func := Try.f92
theorem fnat_s_poAll : Try.prog.funcs[n_s_poAll]? = some fn_s_poAll := Try.func92
abbrev n_s_poQuiddity : FuncId := 93
noncomputable abbrev fn_s_poQuiddity : Func := Try.f93
theorem fnat_s_poQuiddity : Try.prog.funcs[n_s_poQuiddity]? = some fn_s_poQuiddity := Try.func93
abbrev n_s_caListBefore : FuncId := 94
noncomputable abbrev fn_s_caListBefore : Func := Try.f94
theorem fnat_s_caListBefore : Try.prog.funcs[n_s_caListBefore]? = some fn_s_caListBefore := Try.func94
abbrev n_slices_IndexFunc_Lint : FuncId := 95
noncomputable abbrev fn_slices_IndexFunc_Lint : Func := Try.f95
theorem fnat_slices_IndexFunc_Lint : Try.prog.funcs[n_slices_IndexFunc_Lint]? = some fn_slices_IndexFunc_Lint := Try.func95
abbrev n_i_allTriangulations : FuncId := 96
noncomputable abbrev fn_i_allTriangulations : Func := Try.f96
theorem fnat_i_allTriangulations : Try.prog.funcs[n_i_allTriangulations]? = some fn_i_allTriangulations := Try.func96
abbrev n_slices_SortFunc_Lint : FuncId := 97
noncomputable abbrev fn_slices_SortFunc_Lint : Func := Try.f97
theorem fnat_slices_SortFunc_Lint : Try.prog.funcs[n_slices_SortFunc_Lint]? = some fn_slices_SortFunc_Lint := Try.func97
abbrev n_slices_Compare_int : FuncId := 98
noncomputable abbrev fn_slices_Compare_int : Func := Try.f98
theorem fnat_slices_Compare_int : Try.prog.funcs[n_slices_Compare_int]? = some fn_slices_Compare_int := Try.func98
abbrev n_i_isDiagonal : FuncId := 105
noncomputable abbrev fn_i_isDiagonal : Func := Try.f105
theorem fnat_i_isDiagonal : Try.prog.funcs[n_i_isDiagonal]? = some fn_i_isDiagonal := Try.func105
abbrev n_slices_ContainsFunc_Diagonal : FuncId := 106
noncomputable abbrev fn_slices_ContainsFunc_Diagonal : Func := Try.f106
theorem fnat_slices_ContainsFunc_Diagonal : Try.prog.funcs[n_slices_ContainsFunc_Diagonal]? = some fn_slices_ContainsFunc_Diagonal := Try.func106
abbrev n_i_doCross : FuncId := 108
noncomputable abbrev fn_i_doCross : Func := Try.f108
theorem fnat_i_doCross : Try.prog.funcs[n_i_doCross]? = some fn_i_doCross := Try.func108
abbrev n_slices_Repeat_int : FuncId := 109
noncomputable abbrev fn_slices_Repeat_int : Func := Try.f109
theorem fnat_slices_Repeat_int : Try.prog.funcs[n_slices_Repeat_int]? = some fn_slices_Repeat_int := Try.func109
abbrev n_s_poDiagonal : FuncId := 111
noncomputable abbrev fn_s_poDiagonal : Func := Try.f111
theorem fnat_s_poDiagonal : Try.prog.funcs[n_s_poDiagonal]? = some fn_s_poDiagonal := Try.func111
abbrev n_s_poLook : FuncId := 112
noncomputable abbrev fn_s_poLook : Func := Try.f112
theorem fnat_s_poLook : Try.prog.funcs[n_s_poLook]? = some fn_s_poLook := Try.func112
abbrev n_i_allDiagonals : FuncId := 113
noncomputable abbrev fn_i_allDiagonals : Func := Try.f113
theorem fnat_i_allDiagonals : Try.prog.funcs[n_i_allDiagonals]? = some fn_i_allDiagonals := Try.func113
abbrev n_i_allTriangulations_1 : FuncId := 114
noncomputable abbrev fn_i_allTriangulations_1 : Func := Try.f114
theorem fnat_i_allTriangulations_1 : Try.prog.funcs[n_i_allTriangulations_1]? = some fn_i_allTriangulations_1 := Try.func114
abbrev n_slices_Clone_Diagonal : FuncId := 115
noncomputable abbrev fn_slices_Clone_Diagonal : Func := Try.f115
theorem fnat_slices_Clone_Diagonal : Try.prog.funcs[n_slices_Clone_Diagonal]? = some fn_slices_Clone_Diagonal := Try.func115
abbrev n_i_allTriangulations_1_1 : FuncId := 116
noncomputable abbrev fn_i_allTriangulations_1_1 : Func := Try.f116
theorem fnat_i_allTriangulations_1_1 : Try.prog.funcs[n_i_allTriangulations_1_1]? = some fn_i_allTriangulations_1_1 := Try.func116
abbrev n_slices_IndexFunc_Diagonal : FuncId := 130
noncomputable abbrev fn_slices_IndexFunc_Diagonal : Func := Try.f130
theorem fnat_slices_IndexFunc_Diagonal : Try.prog.funcs[n_slices_IndexFunc_Diagonal]? = some fn_slices_IndexFunc_Diagonal := Try.func130
abbrev n_math_bits_Mul : FuncId := 131
noncomputable abbrev fn_math_bits_Mul : Func := Try.f131
theorem fnat_math_bits_Mul : Try.prog.funcs[n_math_bits_Mul]? = some fn_math_bits_Mul := Try.func131
abbrev n_s_poCross : FuncId := 132
noncomputable abbrev fn_s_poCross : Func := Try.f132
theorem fnat_s_poCross : Try.prog.funcs[n_s_poCross]? = some fn_s_poCross := Try.func132
abbrev n_slices_Delete_int : FuncId := 81
abbrev n_slices_Insert_int : FuncId := 78
abbrev n_slices_SortFunc_Diagonal : FuncId := 82
abbrev n_slices_pdqsortCmpFunc_Diagonal : FuncId := 101
abbrev n_slices_insertionSortCmpFunc_Diagonal : FuncId := 119
abbrev n_slices_pdqsortCmpFunc_Lint : FuncId := 117
abbrev n_slices_insertionSortCmpFunc_Lint : FuncId := 133
abbrev n_slices_Reverse_int : FuncId := 141
noncomputable def E0 : TEnv := { P := Try.prog, lib := fun _ => none, raw := fun _ _ _ => none, modes := fun f => if f = n_slices_Reverse_int then [true, false, false, false] else if f = n_slices_DeleteFunc_Lint then [true, true] else if f = n_slices_insertionSortCmpFunc_Lint then [true, false, false, false, false] else if f = n_slices_pdqsortCmpFunc_Lint then [true, false, false, false, false] else if f = n_slices_SortFunc_Lint then [true, false] else if f = n_slices_insertionSortCmpFunc_Diagonal then [true, false, false, false, false] else if f = n_slices_pdqsortCmpFunc_Diagonal then [true, false, false, false, false] else if f = n_slices_SortFunc_Diagonal then [true, false] else if f = n_slices_Insert_int then [true, false, true] else if f = n_slices_Delete_int then [true, false, false] else if f = n_l_markPuzzle then [true] else if f = n_l_markIntS then [true] else [], gives := fun _ => [] }
theorem E0ok : E0.OK := ⟨by kernel_rfl, (fun f L h => by cases h), (fun f args R res R' h => by cases h)⟩
end Go.Proofs.W
