/- The functions' numbers. -/
import Derived.Test.YtigenooglogcfaaGreatGt15
import Derived.Test.YtigenooglogcfaaGreatGc7
import Derived.Test.YtigenooglogcfaaGreatProg
import Derived.Test.YtigenooglogcfaaGreatGr2
import Derived.KernelRfl
namespace Go.Proofs.W
open Go Go.Gm Go.Proofs
abbrev n_l_FnExactSureDiagonals : FuncId := 3
noncomputable abbrev fn_l_FnExactSureDiagonals : Func := Tryz.f3
theorem fnat_l_FnExactSureDiagonals : Tryz.prog.funcs[n_l_FnExactSureDiagonals]? = some fn_l_FnExactSureDiagonals := Tryz.func3
abbrev n_l_szPuzzle : FuncId := 4
noncomputable abbrev fn_l_szPuzzle : Func := Tryz.f4
theorem fnat_l_szPuzzle : Tryz.prog.funcs[n_l_szPuzzle]? = some fn_l_szPuzzle := Tryz.func4
abbrev n_s_SureDiagonals : FuncId := 5
noncomputable abbrev fn_s_SureDiagonals : Func := Tryz.f5
theorem fnat_s_SureDiagonals : Tryz.prog.funcs[n_s_SureDiagonals]? = some fn_s_SureDiagonals := Tryz.func5
abbrev n_l_toPuzzle : FuncId := 6
noncomputable abbrev fn_l_toPuzzle : Func := Tryz.f6
theorem fnat_l_toPuzzle : Tryz.prog.funcs[n_l_toPuzzle]? = some fn_l_toPuzzle := Tryz.func6
abbrev n_i_SureDiagonals : FuncId := 7
noncomputable abbrev fn_i_SureDiagonals : Func := Tryz.f7
theorem fnat_i_SureDiagonals : Tryz.prog.funcs[n_i_SureDiagonals]? = some fn_i_SureDiagonals := Tryz.func7
abbrev n_l_eqDiagonalS : FuncId := 8
noncomputable abbrev fn_l_eqDiagonalS : Func := Tryz.f8
theorem fnat_l_eqDiagonalS : Tryz.prog.funcs[n_l_eqDiagonalS]? = some fn_l_eqDiagonalS := Tryz.func8
abbrev n_l_eqPuzzle : FuncId := 9
noncomputable abbrev fn_l_eqPuzzle : Func := Tryz.f9
theorem fnat_l_eqPuzzle : Tryz.prog.funcs[n_l_eqPuzzle]? = some fn_l_eqPuzzle := Tryz.func9
abbrev n_l_markPuzzle : FuncId := 10
noncomputable abbrev fn_l_markPuzzle : Func := Tryz.f10
theorem fnat_l_markPuzzle : Tryz.prog.funcs[n_l_markPuzzle]? = some fn_l_markPuzzle := Tryz.func10
abbrev n_l_markDiagonalS : FuncId := 11
noncomputable abbrev fn_l_markDiagonalS : Func := Tryz.f11
theorem fnat_l_markDiagonalS : Tryz.prog.funcs[n_l_markDiagonalS]? = some fn_l_markDiagonalS := Tryz.func11
abbrev n_l_heldDiagonalS : FuncId := 12
noncomputable abbrev fn_l_heldDiagonalS : Func := Tryz.f12
theorem fnat_l_heldDiagonalS : Tryz.prog.funcs[n_l_heldDiagonalS]? = some fn_l_heldDiagonalS := Tryz.func12
abbrev n_l_szIntS : FuncId := 13
noncomputable abbrev fn_l_szIntS : Func := Tryz.f13
theorem fnat_l_szIntS : Tryz.prog.funcs[n_l_szIntS]? = some fn_l_szIntS := Tryz.func13
abbrev n_s_pzAll : FuncId := 14
noncomputable abbrev fn_s_pzAll : Func := Tryz.f14
theorem fnat_s_pzAll : Tryz.prog.funcs[n_s_pzAll]? = some fn_s_pzAll := Tryz.func14
abbrev n_s_TriangulationOf : FuncId := 15
noncomputable abbrev fn_s_TriangulationOf : Func := Tryz.f15
theorem fnat_s_TriangulationOf : Tryz.prog.funcs[n_s_TriangulationOf]? = some fn_s_TriangulationOf := Tryz.func15
abbrev n_l_toIntS : FuncId := 16
noncomputable abbrev fn_l_toIntS : Func := Tryz.f16
theorem fnat_l_toIntS : Tryz.prog.funcs[n_l_toIntS]? = some fn_l_toIntS := Tryz.func16
abbrev n_i_someSolutions : FuncId := 17
noncomputable abbrev fn_i_someSolutions : Func := Tryz.f17
theorem fnat_i_someSolutions : Tryz.prog.funcs[n_i_someSolutions]? = some fn_i_someSolutions := Tryz.func17
abbrev n_i_triangulation : FuncId := 18
noncomputable abbrev fn_i_triangulation : Func := Tryz.f18
theorem fnat_i_triangulation : Tryz.prog.funcs[n_i_triangulation]? = some fn_i_triangulation := Tryz.func18
abbrev n_slices_DeleteFunc_Diagonal : FuncId := 19
noncomputable abbrev fn_slices_DeleteFunc_Diagonal : Func := Tryz.f19
theorem fnat_slices_DeleteFunc_Diagonal : Tryz.prog.funcs[n_slices_DeleteFunc_Diagonal]? = some fn_slices_DeleteFunc_Diagonal := Tryz.func19
abbrev n_i_SureDiagonals_1 : FuncId := 20
noncomputable abbrev fn_i_SureDiagonals_1 : Func := Tryz.f20
theorem fnat_i_SureDiagonals_1 : Tryz.prog.funcs[n_i_SureDiagonals_1]? = some fn_i_SureDiagonals_1 := Tryz.func20
abbrev n_slices_Contains_Diagonal : FuncId := 21
noncomputable abbrev fn_slices_Contains_Diagonal : Func := Tryz.f21
theorem fnat_slices_Contains_Diagonal : Tryz.prog.funcs[n_slices_Contains_Diagonal]? = some fn_slices_Contains_Diagonal := Tryz.func21
abbrev n_l_eqDiagonal : FuncId := 22
noncomputable abbrev fn_l_eqDiagonal : Func := Tryz.f22
theorem fnat_l_eqDiagonal : Tryz.prog.funcs[n_l_eqDiagonal]? = some fn_l_eqDiagonal := Tryz.func22
abbrev n_l_eqIntS : FuncId := 23
noncomputable abbrev fn_l_eqIntS : Func := Tryz.f23
theorem fnat_l_eqIntS : Tryz.prog.funcs[n_l_eqIntS]? = some fn_l_eqIntS := Tryz.func23
abbrev n_l_markIntS : FuncId := 24
noncomputable abbrev fn_l_markIntS : Func := Tryz.f24
theorem fnat_l_markIntS : Tryz.prog.funcs[n_l_markIntS]? = some fn_l_markIntS := Tryz.func24
abbrev n_s_pzGood : FuncId := 25
noncomputable abbrev fn_s_pzGood : Func := Tryz.f25
theorem fnat_s_pzGood : Tryz.prog.funcs[n_s_pzGood]? = some fn_s_pzGood := Tryz.func25
abbrev n_s_caQuiddities : FuncId := 26
noncomputable abbrev fn_s_caQuiddities : Func := Tryz.f26
theorem fnat_s_caQuiddities : Tryz.prog.funcs[n_s_caQuiddities]? = some fn_s_caQuiddities := Tryz.func26
abbrev n_s_pzFits : FuncId := 27
noncomputable abbrev fn_s_pzFits : Func := Tryz.f27
theorem fnat_s_pzFits : Tryz.prog.funcs[n_s_pzFits]? = some fn_s_pzFits := Tryz.func27
abbrev n_s_poOf : FuncId := 28
noncomputable abbrev fn_s_poOf : Func := Tryz.f28
theorem fnat_s_poOf : Tryz.prog.funcs[n_s_poOf]? = some fn_s_poOf := Tryz.func28
abbrev n_i_Solutions : FuncId := 29
noncomputable abbrev fn_i_Solutions : Func := Tryz.f29
theorem fnat_i_Solutions : Tryz.prog.funcs[n_i_Solutions]? = some fn_i_Solutions := Tryz.func29
abbrev n_i_isPolygon : FuncId := 30
noncomputable abbrev fn_i_isPolygon : Func := Tryz.f30
theorem fnat_i_isPolygon : Tryz.prog.funcs[n_i_isPolygon]? = some fn_i_isPolygon := Tryz.func30
abbrev n_slices_Clone_int : FuncId := 31
noncomputable abbrev fn_slices_Clone_int : Func := Tryz.f31
theorem fnat_slices_Clone_int : Tryz.prog.funcs[n_slices_Clone_int]? = some fn_slices_Clone_int := Tryz.func31
abbrev n_slices_Index_int : FuncId := 32
noncomputable abbrev fn_slices_Index_int : Func := Tryz.f32
theorem fnat_slices_Index_int : Tryz.prog.funcs[n_slices_Index_int]? = some fn_slices_Index_int := Tryz.func32
abbrev n_slices_Delete_int : FuncId := 33
noncomputable abbrev fn_slices_Delete_int : Func := Tryz.f33
theorem fnat_slices_Delete_int : Tryz.prog.funcs[n_slices_Delete_int]? = some fn_slices_Delete_int := Tryz.func33
abbrev n_slices_SortFunc_Diagonal : FuncId := 34
noncomputable abbrev fn_slices_SortFunc_Diagonal : Func := Tryz.f34
theorem fnat_slices_SortFunc_Diagonal : Tryz.prog.funcs[n_slices_SortFunc_Diagonal]? = some fn_slices_SortFunc_Diagonal := Tryz.func34
abbrev n_i_compareDiagonals : FuncId := 35
noncomputable abbrev fn_i_compareDiagonals : Func := Tryz.f35
theorem fnat_i_compareDiagonals : Tryz.prog.funcs[n_i_compareDiagonals]? = some fn_i_compareDiagonals := Tryz.func35
abbrev n_slices_Equal_int : FuncId := 36
noncomputable abbrev fn_slices_Equal_int : Func := Tryz.f36
theorem fnat_slices_Equal_int : Tryz.prog.funcs[n_slices_Equal_int]? = some fn_slices_Equal_int := Tryz.func36
abbrev n_i_IsTriangulation : FuncId := 37
noncomputable abbrev fn_i_IsTriangulation : Func := Tryz.f37
theorem fnat_i_IsTriangulation : Tryz.prog.funcs[n_i_IsTriangulation]? = some fn_i_IsTriangulation := Tryz.func37
abbrev n_i_quiddity : FuncId := 38
noncomputable abbrev fn_i_quiddity : Func := Tryz.f38
theorem fnat_i_quiddity : Tryz.prog.funcs[n_i_quiddity]? = some fn_i_quiddity := Tryz.func38
abbrev n_slices_IndexFunc_Diagonal : FuncId := 39
noncomputable abbrev fn_slices_IndexFunc_Diagonal : Func := Tryz.f39
theorem fnat_slices_IndexFunc_Diagonal : Tryz.prog.funcs[n_slices_IndexFunc_Diagonal]? = some fn_slices_IndexFunc_Diagonal := Tryz.func39
abbrev n_slices_Index_Diagonal : FuncId := 40
noncomputable abbrev fn_slices_Index_Diagonal : Func := Tryz.f40
theorem fnat_slices_Index_Diagonal : Tryz.prog.funcs[n_slices_Index_Diagonal]? = some fn_slices_Index_Diagonal := Tryz.func40
abbrev n_s_l1In : FuncId := 41
noncomputable abbrev fn_s_l1In : Func := Tryz.f41
theorem fnat_s_l1In : Tryz.prog.funcs[n_s_l1In]? = some fn_s_l1In := Tryz.func41
abbrev n_s_l1All : FuncId := 42
noncomputable abbrev fn_s_l1All : Func := Tryz.f42
theorem fnat_s_l1All : Tryz.prog.funcs[n_s_l1All]? = some fn_s_l1All := Tryz.func42
abbrev n_s_poAll : FuncId := 43
noncomputable abbrev fn_s_poAll : Func := Tryz.f43
theorem fnat_s_poAll : Tryz.prog.funcs[n_s_poAll]? = some fn_s_poAll := Tryz.func43
abbrev n_s_poQuiddity : FuncId := 44
noncomputable abbrev fn_s_poQuiddity : Func := Tryz.f44
theorem fnat_s_poQuiddity : Tryz.prog.funcs[n_s_poQuiddity]? = some fn_s_poQuiddity := Tryz.func44
abbrev n_s_caListBefore : FuncId := 45
noncomputable abbrev fn_s_caListBefore : Func := Tryz.f45
theorem fnat_s_caListBefore : Tryz.prog.funcs[n_s_caListBefore]? = some fn_s_caListBefore := Tryz.func45
abbrev n_s_poIs : FuncId := 46
noncomputable abbrev fn_s_poIs : Func := Tryz.f46
theorem fnat_s_poIs : Tryz.prog.funcs[n_s_poIs]? = some fn_s_poIs := Tryz.func46
abbrev n_s_l1Own : FuncId := 47
noncomputable abbrev fn_s_l1Own : Func := Tryz.f47
theorem fnat_s_l1Own : Tryz.prog.funcs[n_s_l1Own]? = some fn_s_l1Own := Tryz.func47
abbrev n_s_l1Least : FuncId := 48
noncomputable abbrev fn_s_l1Least : Func := Tryz.f48
theorem fnat_s_l1Least : Tryz.prog.funcs[n_s_l1Least]? = some fn_s_l1Least := Tryz.func48
abbrev n_s_l1Most : FuncId := 49
noncomputable abbrev fn_s_l1Most : Func := Tryz.f49
theorem fnat_s_l1Most : Tryz.prog.funcs[n_s_l1Most]? = some fn_s_l1Most := Tryz.func49
abbrev n_s_poSorted : FuncId := 50
noncomputable abbrev fn_s_poSorted : Func := Tryz.f50
theorem fnat_s_poSorted : Tryz.prog.funcs[n_s_poSorted]? = some fn_s_poSorted := Tryz.func50
abbrev n_i_IsPuzzle : FuncId := 51
noncomputable abbrev fn_i_IsPuzzle : Func := Tryz.f51
theorem fnat_i_IsPuzzle : Tryz.prog.funcs[n_i_IsPuzzle]? = some fn_i_IsPuzzle := Tryz.func51
abbrev n_i_Puzzle_solutions : FuncId := 52
noncomputable abbrev fn_i_Puzzle_solutions : Func := Tryz.f52
theorem fnat_i_Puzzle_solutions : Tryz.prog.funcs[n_i_Puzzle_solutions]? = some fn_i_Puzzle_solutions := Tryz.func52
abbrev n_slices_Clone_Lint : FuncId := 53
noncomputable abbrev fn_slices_Clone_Lint : Func := Tryz.f53
theorem fnat_slices_Clone_Lint : Tryz.prog.funcs[n_slices_Clone_Lint]? = some fn_slices_Clone_Lint := Tryz.func53
abbrev n_i_within : FuncId := 54
noncomputable abbrev fn_i_within : Func := Tryz.f54
theorem fnat_i_within : Tryz.prog.funcs[n_i_within]? = some fn_i_within := Tryz.func54
abbrev n_slices_pdqsortCmpFunc_Diagonal : FuncId := 55
noncomputable abbrev fn_slices_pdqsortCmpFunc_Diagonal : Func := Tryz.f55
theorem fnat_slices_pdqsortCmpFunc_Diagonal : Tryz.prog.funcs[n_slices_pdqsortCmpFunc_Diagonal]? = some fn_slices_pdqsortCmpFunc_Diagonal := Tryz.func55
abbrev n_math_bits_Len : FuncId := 56
noncomputable abbrev fn_math_bits_Len : Func := Tryz.f56
theorem fnat_math_bits_Len : Tryz.prog.funcs[n_math_bits_Len]? = some fn_math_bits_Len := Tryz.func56
abbrev n_cmp_Or_int : FuncId := 57
noncomputable abbrev fn_cmp_Or_int : Func := Tryz.f57
theorem fnat_cmp_Or_int : Tryz.prog.funcs[n_cmp_Or_int]? = some fn_cmp_Or_int := Tryz.func57
abbrev n_cmp_Compare_int : FuncId := 58
noncomputable abbrev fn_cmp_Compare_int : Func := Tryz.f58
theorem fnat_cmp_Compare_int : Tryz.prog.funcs[n_cmp_Compare_int]? = some fn_cmp_Compare_int := Tryz.func58
abbrev n_i_isDiagonal : FuncId := 59
noncomputable abbrev fn_i_isDiagonal : Func := Tryz.f59
theorem fnat_i_isDiagonal : Tryz.prog.funcs[n_i_isDiagonal]? = some fn_i_isDiagonal := Tryz.func59
abbrev n_slices_ContainsFunc_Diagonal : FuncId := 60
noncomputable abbrev fn_slices_ContainsFunc_Diagonal : Func := Tryz.f60
theorem fnat_slices_ContainsFunc_Diagonal : Tryz.prog.funcs[n_slices_ContainsFunc_Diagonal]? = some fn_slices_ContainsFunc_Diagonal := Tryz.func60
abbrev n_i_IsTriangulation_1 : FuncId := 61
noncomputable abbrev fn_i_IsTriangulation_1 : Func := Tryz.f61
theorem fnat_i_IsTriangulation_1 : Tryz.prog.funcs[n_i_IsTriangulation_1]? = some fn_i_IsTriangulation_1 := Tryz.func61
abbrev n_i_doCross : FuncId := 62
noncomputable abbrev fn_i_doCross : Func := Tryz.f62
theorem fnat_i_doCross : Tryz.prog.funcs[n_i_doCross]? = some fn_i_doCross := Tryz.func62
abbrev n_slices_Repeat_int : FuncId := 63
noncomputable abbrev fn_slices_Repeat_int : Func := Tryz.f63
theorem fnat_slices_Repeat_int : Tryz.prog.funcs[n_slices_Repeat_int]? = some fn_slices_Repeat_int := Tryz.func63
abbrev n_s_poDiagonal : FuncId := 64
noncomputable abbrev fn_s_poDiagonal : Func := Tryz.f64
theorem fnat_s_poDiagonal : Tryz.prog.funcs[n_s_poDiagonal]? = some fn_s_poDiagonal := Tryz.func64
abbrev n_s_poLook : FuncId := 65
noncomputable abbrev fn_s_poLook : Func := Tryz.f65
theorem fnat_s_poLook : Tryz.prog.funcs[n_s_poLook]? = some fn_s_poLook := Tryz.func65
abbrev n_s_poLess : FuncId := 66
noncomputable abbrev fn_s_poLess : Func := Tryz.f66
theorem fnat_s_poLess : Tryz.prog.funcs[n_s_poLess]? = some fn_s_poLess := Tryz.func66
abbrev n_slices_ContainsFunc_int : FuncId := 67
noncomputable abbrev fn_slices_ContainsFunc_int : Func := Tryz.f67
theorem fnat_slices_ContainsFunc_int : Tryz.prog.funcs[n_slices_ContainsFunc_int]? = some fn_slices_ContainsFunc_int := Tryz.func67
abbrev n_i_IsPuzzle_1 : FuncId := 68
noncomputable abbrev fn_i_IsPuzzle_1 : Func := Tryz.f68
theorem fnat_i_IsPuzzle_1 : Tryz.prog.funcs[n_i_IsPuzzle_1]? = some fn_i_IsPuzzle_1 := Tryz.func68
abbrev n_slices_DeleteFunc_Lint : FuncId := 69
noncomputable abbrev fn_slices_DeleteFunc_Lint : Func := Tryz.f69
theorem fnat_slices_DeleteFunc_Lint : Tryz.prog.funcs[n_slices_DeleteFunc_Lint]? = some fn_slices_DeleteFunc_Lint := Tryz.func69
abbrev n_i_allQuiddities : FuncId := 70
noncomputable abbrev fn_i_allQuiddities : Func := Tryz.f70
theorem fnat_i_allQuiddities : Tryz.prog.funcs[n_i_allQuiddities]? = some fn_i_allQuiddities := Tryz.func70
abbrev n_i_Puzzle_solutions_1 : FuncId := 71
noncomputable abbrev fn_i_Puzzle_solutions_1 : Func := Tryz.f71
theorem fnat_i_Puzzle_solutions_1 : Tryz.prog.funcs[n_i_Puzzle_solutions_1]? = some fn_i_Puzzle_solutions_1 := Tryz.func71
abbrev n_i_Puzzle_isSolution : FuncId := 72
noncomputable abbrev fn_i_Puzzle_isSolution : Func := Tryz.f72
theorem fnat_i_Puzzle_isSolution : Tryz.prog.funcs[n_i_Puzzle_isSolution]? = some fn_i_Puzzle_isSolution := Tryz.func72
abbrev n_slices_insertionSortCmpFunc_Diagonal : FuncId := 73
noncomputable abbrev fn_slices_insertionSortCmpFunc_Diagonal : Func := Tryz.f73
theorem fnat_slices_insertionSortCmpFunc_Diagonal : Tryz.prog.funcs[n_slices_insertionSortCmpFunc_Diagonal]? = some fn_slices_insertionSortCmpFunc_Diagonal := Tryz.func73
abbrev n_cmp_isNaN_int : FuncId := 83
noncomputable abbrev fn_cmp_isNaN_int : Func := Tryz.f83
theorem fnat_cmp_isNaN_int : Tryz.prog.funcs[n_cmp_isNaN_int]? = some fn_cmp_isNaN_int := Tryz.func83
abbrev n_math_bits_Mul : FuncId := 84
noncomputable abbrev fn_math_bits_Mul : Func := Tryz.f84
theorem fnat_math_bits_Mul : Tryz.prog.funcs[n_math_bits_Mul]? = some fn_math_bits_Mul := Tryz.func84
abbrev n_s_poCross : FuncId := 85
noncomputable abbrev fn_s_poCross : Func := Tryz.f85
theorem fnat_s_poCross : Tryz.prog.funcs[n_s_poCross]? = some fn_s_poCross := Tryz.func85
abbrev n_slices_IndexFunc_int : FuncId := 86
noncomputable abbrev fn_slices_IndexFunc_int : Func := Tryz.f86
theorem fnat_slices_IndexFunc_int : Tryz.prog.funcs[n_slices_IndexFunc_int]? = some fn_slices_IndexFunc_int := Tryz.func86
abbrev n_slices_IndexFunc_Lint : FuncId := 87
noncomputable abbrev fn_slices_IndexFunc_Lint : Func := Tryz.f87
theorem fnat_slices_IndexFunc_Lint : Tryz.prog.funcs[n_slices_IndexFunc_Lint]? = some fn_slices_IndexFunc_Lint := Tryz.func87
abbrev n_i_allTriangulations : FuncId := 88
noncomputable abbrev fn_i_allTriangulations : Func := Tryz.f88
theorem fnat_i_allTriangulations : Tryz.prog.funcs[n_i_allTriangulations]? = some fn_i_allTriangulations := Tryz.func88
abbrev n_slices_SortFunc_Lint : FuncId := 89
noncomputable abbrev fn_slices_SortFunc_Lint : Func := Tryz.f89
theorem fnat_slices_SortFunc_Lint : Tryz.prog.funcs[n_slices_SortFunc_Lint]? = some fn_slices_SortFunc_Lint := Tryz.func89
abbrev n_slices_Compare_int : FuncId := 90
noncomputable abbrev fn_slices_Compare_int : Func := Tryz.f90
theorem fnat_slices_Compare_int : Tryz.prog.funcs[n_slices_Compare_int]? = some fn_slices_Compare_int := Tryz.func90
abbrev n_slices_EqualFunc_int : FuncId := 91
noncomputable abbrev fn_slices_EqualFunc_int : Func := Tryz.f91
theorem fnat_slices_EqualFunc_int : Tryz.prog.funcs[n_slices_EqualFunc_int]? = some fn_slices_EqualFunc_int := Tryz.func91
abbrev n_i_Puzzle_isSolution_1 : FuncId := 92
noncomputable abbrev fn_i_Puzzle_isSolution_1 : Func := Tryz.f92
theorem fnat_i_Puzzle_isSolution_1 : Tryz.prog.funcs[n_i_Puzzle_isSolution_1]? = some fn_i_Puzzle_isSolution_1 := Tryz.func92
abbrev n_i_allDiagonals : FuncId := 100
noncomputable abbrev fn_i_allDiagonals : Func := Tryz.f100
theorem fnat_i_allDiagonals : Tryz.prog.funcs[n_i_allDiagonals]? = some fn_i_allDiagonals := Tryz.func100
abbrev n_i_allTriangulations_1 : FuncId := 101
noncomputable abbrev fn_i_allTriangulations_1 : Func := Tryz.f101
theorem fnat_i_allTriangulations_1 : Tryz.prog.funcs[n_i_allTriangulations_1]? = some fn_i_allTriangulations_1 := Tryz.func101
abbrev n_slices_Clone_Diagonal : FuncId := 102
noncomputable abbrev fn_slices_Clone_Diagonal : Func := Tryz.f102
theorem fnat_slices_Clone_Diagonal : Tryz.prog.funcs[n_slices_Clone_Diagonal]? = some fn_slices_Clone_Diagonal := Tryz.func102
abbrev n_i_allTriangulations_1_1 : FuncId := 103
noncomputable abbrev fn_i_allTriangulations_1_1 : Func := Tryz.f103
theorem fnat_i_allTriangulations_1_1 : Tryz.prog.funcs[n_i_allTriangulations_1_1]? = some fn_i_allTriangulations_1_1 := Tryz.func103
abbrev n_slices_pdqsortCmpFunc_Lint : FuncId := 104
abbrev n_slices_insertionSortCmpFunc_Lint : FuncId := 106
noncomputable def E0 : TEnv := { P := Tryz.prog, lib := fun _ => none, raw := fun _ _ _ => none, modes := fun f => if f = n_slices_DeleteFunc_Lint then [true, true] else if f = n_slices_insertionSortCmpFunc_Lint then [true, false, false, false, false] else if f = n_slices_pdqsortCmpFunc_Lint then [true, false, false, false, false] else if f = n_slices_SortFunc_Lint then [true, false] else if f = n_slices_DeleteFunc_Diagonal then [true, false] else if f = n_slices_insertionSortCmpFunc_Diagonal then [true, false, false, false, false] else if f = n_slices_pdqsortCmpFunc_Diagonal then [true, false, false, false, false] else if f = n_slices_SortFunc_Diagonal then [true, false] else if f = n_slices_Delete_int then [true, false, false] else if f = n_l_markPuzzle then [true] else if f = n_l_markDiagonalS then [true] else if f = n_l_markIntS then [true] else [], gives := fun _ => [] }
theorem E0ok : E0.OK := ⟨by kernel_rfl, (fun f L h => by cases h), (fun f args R res R' h => by cases h)⟩
end Go.Proofs.W
