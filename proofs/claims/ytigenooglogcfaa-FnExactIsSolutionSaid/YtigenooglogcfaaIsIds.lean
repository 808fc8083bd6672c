/- The functions' numbers. -/
import Derived.Test.YtigenooglogcfaaGc6
import Derived.Test.YtigenooglogcfaaProg
import Derived.Test.YtigenooglogcfaaGr2
import Derived.KernelRfl
namespace Go.Proofs.W
open Go Go.Gm Go.Proofs
abbrev n_l_FnExactIsSolution : FuncId := 4
noncomputable abbrev fn_l_FnExactIsSolution : Func := Try.f4
theorem fnat_l_FnExactIsSolution : Try.prog.funcs[n_l_FnExactIsSolution]? = some fn_l_FnExactIsSolution := Try.func4
abbrev n_l_szPuzzle : FuncId := 17
noncomputable abbrev fn_l_szPuzzle : Func := Try.f17
theorem fnat_l_szPuzzle : Try.prog.funcs[n_l_szPuzzle]? = some fn_l_szPuzzle := Try.func17
abbrev n_s_IsSolution : FuncId := 18
noncomputable abbrev fn_s_IsSolution : Func := Try.f18
theorem fnat_s_IsSolution : Try.prog.funcs[n_s_IsSolution]? = some fn_s_IsSolution := Try.func18
abbrev n_l_toPuzzle : FuncId := 19
noncomputable abbrev fn_l_toPuzzle : Func := Try.f19
theorem fnat_l_toPuzzle : Try.prog.funcs[n_l_toPuzzle]? = some fn_l_toPuzzle := Try.func19
abbrev n_l_toIntS : FuncId := 20
noncomputable abbrev fn_l_toIntS : Func := Try.f20
theorem fnat_l_toIntS : Try.prog.funcs[n_l_toIntS]? = some fn_l_toIntS := Try.func20
abbrev n_i_IsSolution : FuncId := 21
noncomputable abbrev fn_i_IsSolution : Func := Try.f21
theorem fnat_i_IsSolution : Try.prog.funcs[n_i_IsSolution]? = some fn_i_IsSolution := Try.func21
abbrev n_l_eqPuzzle : FuncId := 22
noncomputable abbrev fn_l_eqPuzzle : Func := Try.f22
theorem fnat_l_eqPuzzle : Try.prog.funcs[n_l_eqPuzzle]? = some fn_l_eqPuzzle := Try.func22
abbrev n_l_eqIntS : FuncId := 23
noncomputable abbrev fn_l_eqIntS : Func := Try.f23
theorem fnat_l_eqIntS : Try.prog.funcs[n_l_eqIntS]? = some fn_l_eqIntS := Try.func23
abbrev n_l_szIntS : FuncId := 45
noncomputable abbrev fn_l_szIntS : Func := Try.f45
theorem fnat_l_szIntS : Try.prog.funcs[n_l_szIntS]? = some fn_l_szIntS := Try.func45
abbrev n_i_IsQuiddity : FuncId := 47
noncomputable abbrev fn_i_IsQuiddity : Func := Try.f47
theorem fnat_i_IsQuiddity : Try.prog.funcs[n_i_IsQuiddity]? = some fn_i_IsQuiddity := Try.func47
abbrev n_i_within : FuncId := 48
noncomputable abbrev fn_i_within : Func := Try.f48
theorem fnat_i_within : Try.prog.funcs[n_i_within]? = some fn_i_within := Try.func48
abbrev n_s_pzGood : FuncId := 49
noncomputable abbrev fn_s_pzGood : Func := Try.f49
theorem fnat_s_pzGood : Try.prog.funcs[n_s_pzGood]? = some fn_s_pzGood := Try.func49
abbrev n_s_IsQuiddity : FuncId := 50
noncomputable abbrev fn_s_IsQuiddity : Func := Try.f50
theorem fnat_s_IsQuiddity : Try.prog.funcs[n_s_IsQuiddity]? = some fn_s_IsQuiddity := Try.func50
abbrev n_s_pzFits : FuncId := 51
noncomputable abbrev fn_s_pzFits : Func := Try.f51
theorem fnat_s_pzFits : Try.prog.funcs[n_s_pzFits]? = some fn_s_pzFits := Try.func51
abbrev n_i_IsPuzzle : FuncId := 52
noncomputable abbrev fn_i_IsPuzzle : Func := Try.f52
theorem fnat_i_IsPuzzle : Try.prog.funcs[n_i_IsPuzzle]? = some fn_i_IsPuzzle := Try.func52
abbrev n_i_Puzzle_isSolution : FuncId := 53
noncomputable abbrev fn_i_Puzzle_isSolution : Func := Try.f53
theorem fnat_i_Puzzle_isSolution : Try.prog.funcs[n_i_Puzzle_isSolution]? = some fn_i_Puzzle_isSolution := Try.func53
abbrev n_s_l1Own : FuncId := 58
noncomputable abbrev fn_s_l1Own : Func := Try.f58
theorem fnat_s_l1Own : Try.prog.funcs[n_s_l1Own]? = some fn_s_l1Own := Try.func58
abbrev n_slices_Clone_int : FuncId := 60
noncomputable abbrev fn_slices_Clone_int : Func := Try.f60
theorem fnat_slices_Clone_int : Try.prog.funcs[n_slices_Clone_int]? = some fn_slices_Clone_int := Try.func60
abbrev n_s_l1In : FuncId := 63
noncomputable abbrev fn_s_l1In : Func := Try.f63
theorem fnat_s_l1In : Try.prog.funcs[n_s_l1In]? = some fn_s_l1In := Try.func63
abbrev n_i_triangulation : FuncId := 67
noncomputable abbrev fn_i_triangulation : Func := Try.f67
theorem fnat_i_triangulation : Try.prog.funcs[n_i_triangulation]? = some fn_i_triangulation := Try.func67
abbrev n_s_l1All : FuncId := 68
noncomputable abbrev fn_s_l1All : Func := Try.f68
theorem fnat_s_l1All : Try.prog.funcs[n_s_l1All]? = some fn_s_l1All := Try.func68
abbrev n_s_poOf : FuncId := 69
noncomputable abbrev fn_s_poOf : Func := Try.f69
theorem fnat_s_poOf : Try.prog.funcs[n_s_poOf]? = some fn_s_poOf := Try.func69
abbrev n_slices_ContainsFunc_int : FuncId := 70
noncomputable abbrev fn_slices_ContainsFunc_int : Func := Try.f70
theorem fnat_slices_ContainsFunc_int : Try.prog.funcs[n_slices_ContainsFunc_int]? = some fn_slices_ContainsFunc_int := Try.func70
abbrev n_i_IsPuzzle_1 : FuncId := 71
noncomputable abbrev fn_i_IsPuzzle_1 : Func := Try.f71
theorem fnat_i_IsPuzzle_1 : Try.prog.funcs[n_i_IsPuzzle_1]? = some fn_i_IsPuzzle_1 := Try.func71
abbrev n_slices_EqualFunc_int : FuncId := 72
noncomputable abbrev fn_slices_EqualFunc_int : Func := Try.f72
theorem fnat_slices_EqualFunc_int : Try.prog.funcs[n_slices_EqualFunc_int]? = some fn_slices_EqualFunc_int := Try.func72
abbrev n_i_Puzzle_isSolution_1 : FuncId := 73
noncomputable abbrev fn_i_Puzzle_isSolution_1 : Func := Try.f73
theorem fnat_i_Puzzle_isSolution_1 : Try.prog.funcs[n_i_Puzzle_isSolution_1]? = some fn_i_Puzzle_isSolution_1 := Try.func73
abbrev n_i_isPolygon : FuncId := 79
noncomputable abbrev fn_i_isPolygon : Func := Try.f79
theorem fnat_i_isPolygon : Try.prog.funcs[n_i_isPolygon]? = some fn_i_isPolygon := Try.func79
abbrev n_slices_Index_int : FuncId := 80
noncomputable abbrev fn_slices_Index_int : Func := Try.f80
theorem fnat_slices_Index_int : Try.prog.funcs[n_slices_Index_int]? = some fn_slices_Index_int := Try.func80
abbrev n_slices_Delete_int : FuncId := 81
noncomputable abbrev fn_slices_Delete_int : Func := Try.f81
theorem fnat_slices_Delete_int : Try.prog.funcs[n_slices_Delete_int]? = some fn_slices_Delete_int := Try.func81
abbrev n_slices_SortFunc_Diagonal : FuncId := 82
noncomputable abbrev fn_slices_SortFunc_Diagonal : Func := Try.f82
theorem fnat_slices_SortFunc_Diagonal : Try.prog.funcs[n_slices_SortFunc_Diagonal]? = some fn_slices_SortFunc_Diagonal := Try.func82
abbrev n_i_compareDiagonals : FuncId := 83
noncomputable abbrev fn_i_compareDiagonals : Func := Try.f83
theorem fnat_i_compareDiagonals : Try.prog.funcs[n_i_compareDiagonals]? = some fn_i_compareDiagonals := Try.func83
abbrev n_slices_Equal_int : FuncId := 84
noncomputable abbrev fn_slices_Equal_int : Func := Try.f84
theorem fnat_slices_Equal_int : Try.prog.funcs[n_slices_Equal_int]? = some fn_slices_Equal_int := Try.func84
abbrev n_i_IsTriangulation : FuncId := 85
noncomputable abbrev fn_i_IsTriangulation : Func := Try.f85
theorem fnat_i_IsTriangulation : Try.prog.funcs[n_i_IsTriangulation]? = some fn_i_IsTriangulation := Try.func85
abbrev n_i_quiddity : FuncId := 86
noncomputable abbrev fn_i_quiddity : Func := Try.f86
theorem fnat_i_quiddity : Try.prog.funcs[n_i_quiddity]? = some fn_i_quiddity := Try.func86
abbrev n_s_poIs : FuncId := 87
noncomputable abbrev fn_s_poIs : Func := Try.f87
theorem fnat_s_poIs : Try.prog.funcs[n_s_poIs]? = some fn_s_poIs := Try.func87
abbrev n_s_l1Least : FuncId := 88
noncomputable abbrev fn_s_l1Least : Func := Try.f88
theorem fnat_s_l1Least : Try.prog.funcs[n_s_l1Least]? = some fn_s_l1Least := Try.func88
abbrev n_s_l1Most : FuncId := 89
noncomputable abbrev fn_s_l1Most : Func := Try.f89
theorem fnat_s_l1Most : Try.prog.funcs[n_s_l1Most]? = some fn_s_l1Most := Try.func89
abbrev n_s_poSorted : FuncId := 90
noncomputable abbrev fn_s_poSorted : Func := Try.f90
theorem fnat_s_poSorted : Try.prog.funcs[n_s_poSorted]? = some fn_s_poSorted := Try.func90
abbrev n_slices_IndexFunc_int : FuncId := 91
noncomputable abbrev fn_slices_IndexFunc_int : Func := Try.f91
theorem fnat_slices_IndexFunc_int : Try.prog.funcs[n_slices_IndexFunc_int]? = some fn_slices_IndexFunc_int := Try.func91
abbrev n_slices_pdqsortCmpFunc_Diagonal : FuncId := 101
noncomputable abbrev fn_slices_pdqsortCmpFunc_Diagonal : Func := Try.f101
theorem fnat_slices_pdqsortCmpFunc_Diagonal : Try.prog.funcs[n_slices_pdqsortCmpFunc_Diagonal]? = some fn_slices_pdqsortCmpFunc_Diagonal := Try.func101
abbrev n_math_bits_Len : FuncId := 102
noncomputable abbrev fn_math_bits_Len : Func := Try.f102
theorem fnat_math_bits_Len : Try.prog.funcs[n_math_bits_Len]? = some fn_math_bits_Len := Try.func102
abbrev n_cmp_Or_int : FuncId := 103
noncomputable abbrev fn_cmp_Or_int : Func := Try.f103
theorem fnat_cmp_Or_int : Try.prog.funcs[n_cmp_Or_int]? = some fn_cmp_Or_int := Try.func103
abbrev n_cmp_Compare_int : FuncId := 104
noncomputable abbrev fn_cmp_Compare_int : Func := Try.f104
theorem fnat_cmp_Compare_int : Try.prog.funcs[n_cmp_Compare_int]? = some fn_cmp_Compare_int := Try.func104
abbrev n_i_isDiagonal : FuncId := 105
noncomputable abbrev fn_i_isDiagonal : Func := Try.f105
theorem fnat_i_isDiagonal : Try.prog.funcs[n_i_isDiagonal]? = some fn_i_isDiagonal := Try.func105
abbrev n_slices_ContainsFunc_Diagonal : FuncId := 106
noncomputable abbrev fn_slices_ContainsFunc_Diagonal : Func := Try.f106
theorem fnat_slices_ContainsFunc_Diagonal : Try.prog.funcs[n_slices_ContainsFunc_Diagonal]? = some fn_slices_ContainsFunc_Diagonal := Try.func106
abbrev n_i_IsTriangulation_1 : FuncId := 107
noncomputable abbrev fn_i_IsTriangulation_1 : Func := Try.f107
theorem fnat_i_IsTriangulation_1 : Try.prog.funcs[n_i_IsTriangulation_1]? = some fn_i_IsTriangulation_1 := Try.func107
abbrev n_i_doCross : FuncId := 108
noncomputable abbrev fn_i_doCross : Func := Try.f108
theorem fnat_i_doCross : Try.prog.funcs[n_i_doCross]? = some fn_i_doCross := Try.func108
abbrev n_slices_Repeat_int : FuncId := 109
noncomputable abbrev fn_slices_Repeat_int : Func := Try.f109
theorem fnat_slices_Repeat_int : Try.prog.funcs[n_slices_Repeat_int]? = some fn_slices_Repeat_int := Try.func109
abbrev n_s_poLess : FuncId := 110
noncomputable abbrev fn_s_poLess : Func := Try.f110
theorem fnat_s_poLess : Try.prog.funcs[n_s_poLess]? = some fn_s_poLess := Try.func110
abbrev n_slices_insertionSortCmpFunc_Diagonal : FuncId := 119
noncomputable abbrev fn_slices_insertionSortCmpFunc_Diagonal : Func := Try.f119
theorem fnat_slices_insertionSortCmpFunc_Diagonal : Try.prog.funcs[n_slices_insertionSortCmpFunc_Diagonal]? = some fn_slices_insertionSortCmpFunc_Diagonal := Try.func119
abbrev n_cmp_isNaN_int : FuncId := 129
noncomputable abbrev fn_cmp_isNaN_int : Func := Try.f129
theorem fnat_cmp_isNaN_int : Try.prog.funcs[n_cmp_isNaN_int]? = some fn_cmp_isNaN_int := Try.func129
abbrev n_slices_IndexFunc_Diagonal : FuncId := 130
noncomputable abbrev fn_slices_IndexFunc_Diagonal : Func := Try.f130
theorem fnat_slices_IndexFunc_Diagonal : Try.prog.funcs[n_slices_IndexFunc_Diagonal]? = some fn_slices_IndexFunc_Diagonal := Try.func130
abbrev n_math_bits_Mul : FuncId := 131
noncomputable abbrev fn_math_bits_Mul : Func := Try.f131
theorem fnat_math_bits_Mul : Try.prog.funcs[n_math_bits_Mul]? = some fn_math_bits_Mul := Try.func131
abbrev n_l_markIntS : FuncId := 29
abbrev n_l_markPuzzle : FuncId := 28
abbrev n_slices_Insert_int : FuncId := 78
abbrev n_slices_SortFunc_Lint : FuncId := 97
abbrev n_slices_pdqsortCmpFunc_Lint : FuncId := 117
abbrev n_slices_insertionSortCmpFunc_Lint : FuncId := 133
abbrev n_slices_DeleteFunc_Lint : FuncId := 75
abbrev n_slices_Reverse_int : FuncId := 141
noncomputable def E0 : TEnv := { P := Try.prog, lib := fun _ => none, raw := fun _ _ _ => none, modes := fun f => if f = n_slices_Reverse_int then [true, false, false, false] else if f = n_slices_DeleteFunc_Lint then [true, false] else if f = n_slices_insertionSortCmpFunc_Lint then [true, false, false, false, false] else if f = n_slices_pdqsortCmpFunc_Lint then [true, false, false, false, false] else if f = n_slices_SortFunc_Lint then [true, false] else if f = n_slices_insertionSortCmpFunc_Diagonal then [true, false, false, false, false] else if f = n_slices_pdqsortCmpFunc_Diagonal then [true, false, false, false, false] else if f = n_slices_SortFunc_Diagonal then [true, false] else if f = n_slices_Insert_int then [true, false, true] else if f = n_slices_Delete_int then [true, false, false] else if f = n_l_markPuzzle then [true] else if f = n_l_markIntS then [true] else [], gives := fun _ => [] }
theorem E0ok : E0.OK := ⟨by kernel_rfl, (fun f L h => by cases h), (fun f args R res R' h => by cases h)⟩
end Go.Proofs.W
