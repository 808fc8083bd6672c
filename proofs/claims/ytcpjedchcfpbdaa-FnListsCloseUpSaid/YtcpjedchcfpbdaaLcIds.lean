/- The functions' numbers. -/
import Derived.Test.YtcpjedchcfpbdaaGc6
import Derived.Test.YtcpjedchcfpbdaaProg
import Derived.Test.YtcpjedchcfpbdaaGr2
import Derived.KernelRfl
namespace Go.Proofs.W
open Go Go.Gm Go.Proofs
abbrev n_l_FnListsCloseUp : FuncId := 4
noncomputable abbrev fn_l_FnListsCloseUp : Func := Try.f4
theorem fnat_l_FnListsCloseUp : Try.prog.funcs[n_l_FnListsCloseUp]? = some fn_l_FnListsCloseUp := Try.func4
abbrev n_l_big : FuncId := 5
noncomputable abbrev fn_l_big : Func := Try.f5
theorem fnat_l_big : Try.prog.funcs[n_l_big]? = some fn_l_big := Try.func5
abbrev n_i_PutOne : FuncId := 7
noncomputable abbrev fn_i_PutOne : Func := Try.f7
theorem fnat_i_PutOne : Try.prog.funcs[n_i_PutOne]? = some fn_i_PutOne := Try.func7
abbrev n_s_PutOne : FuncId := 8
noncomputable abbrev fn_s_PutOne : Func := Try.f8
theorem fnat_s_PutOne : Try.prog.funcs[n_s_PutOne]? = some fn_s_PutOne := Try.func8
abbrev n_i_ContinuantOf : FuncId := 10
noncomputable abbrev fn_i_ContinuantOf : Func := Try.f10
theorem fnat_i_ContinuantOf : Try.prog.funcs[n_i_ContinuantOf]? = some fn_i_ContinuantOf := Try.func10
abbrev n_s_DrawMatrixOfList : FuncId := 29
noncomputable abbrev fn_s_DrawMatrixOfList : Func := Try.f29
theorem fnat_s_DrawMatrixOfList : Try.prog.funcs[n_s_DrawMatrixOfList]? = some fn_s_DrawMatrixOfList := Try.func29
abbrev n_i_MatrixOfList : FuncId := 30
noncomputable abbrev fn_i_MatrixOfList : Func := Try.f30
theorem fnat_i_MatrixOfList : Try.prog.funcs[n_i_MatrixOfList]? = some fn_i_MatrixOfList := Try.func30
abbrev n_s_MatrixOfList : FuncId := 31
noncomputable abbrev fn_s_MatrixOfList : Func := Try.f31
theorem fnat_s_MatrixOfList : Try.prog.funcs[n_s_MatrixOfList]? = some fn_s_MatrixOfList := Try.func31
abbrev n_i_IsMatrix : FuncId := 32
noncomputable abbrev fn_i_IsMatrix : Func := Try.f32
theorem fnat_i_IsMatrix : Try.prog.funcs[n_i_IsMatrix]? = some fn_i_IsMatrix := Try.func32
abbrev n_s_DrawClosesUp : FuncId := 33
noncomputable abbrev fn_s_DrawClosesUp : Func := Try.f33
theorem fnat_s_DrawClosesUp : Try.prog.funcs[n_s_DrawClosesUp]? = some fn_s_DrawClosesUp := Try.func33
abbrev n_i_ClosesUp : FuncId := 34
noncomputable abbrev fn_i_ClosesUp : Func := Try.f34
theorem fnat_i_ClosesUp : Try.prog.funcs[n_i_ClosesUp]? = some fn_i_ClosesUp := Try.func34
abbrev n_s_ClosesUp : FuncId := 35
noncomputable abbrev fn_s_ClosesUp : Func := Try.f35
theorem fnat_s_ClosesUp : Try.prog.funcs[n_s_ClosesUp]? = some fn_s_ClosesUp := Try.func35
abbrev n_i_IsTermList : FuncId := 36
noncomputable abbrev fn_i_IsTermList : Func := Try.f36
theorem fnat_i_IsTermList : Try.prog.funcs[n_i_IsTermList]? = some fn_i_IsTermList := Try.func36
abbrev n_i_IsQuiddity : FuncId := 37
noncomputable abbrev fn_i_IsQuiddity : Func := Try.f37
theorem fnat_i_IsQuiddity : Try.prog.funcs[n_i_IsQuiddity]? = some fn_i_IsQuiddity := Try.func37
abbrev n_l_dSum : FuncId := 38
noncomputable abbrev fn_l_dSum : Func := Try.f38
theorem fnat_l_dSum : Try.prog.funcs[n_l_dSum]? = some fn_l_dSum := Try.func38
abbrev n_l_dBack : FuncId := 39
noncomputable abbrev fn_l_dBack : Func := Try.f39
theorem fnat_l_dBack : Try.prog.funcs[n_l_dBack]? = some fn_l_dBack := Try.func39
abbrev n_s_l1Cur_terms : FuncId := 40
noncomputable abbrev fn_s_l1Cur_terms : Func := Try.f40
theorem fnat_s_l1Cur_terms : Try.prog.funcs[n_s_l1Cur_terms]? = some fn_s_l1Cur_terms := Try.func40
abbrev n_s_l1Cur_pick : FuncId := 41
noncomputable abbrev fn_s_l1Cur_pick : Func := Try.f41
theorem fnat_s_l1Cur_pick : Try.prog.funcs[n_s_l1Cur_pick]? = some fn_s_l1Cur_pick := Try.func41
abbrev n_i_within : FuncId := 42
noncomputable abbrev fn_i_within : Func := Try.f42
theorem fnat_i_within : Try.prog.funcs[n_i_within]? = some fn_i_within := Try.func42
abbrev n_slices_Insert_int : FuncId := 43
noncomputable abbrev fn_slices_Insert_int : Func := Try.f43
theorem fnat_slices_Insert_int : Try.prog.funcs[n_slices_Insert_int]? = some fn_slices_Insert_int := Try.func43
abbrev n_slices_Clone_int : FuncId := 44
noncomputable abbrev fn_slices_Clone_int : Func := Try.f44
theorem fnat_slices_Clone_int : Try.prog.funcs[n_slices_Clone_int]? = some fn_slices_Clone_int := Try.func44
abbrev n_i_listed : FuncId := 45
noncomputable abbrev fn_i_listed : Func := Try.f45
theorem fnat_i_listed : Try.prog.funcs[n_i_listed]? = some fn_i_listed := Try.func45
abbrev n_s_ctGood : FuncId := 46
noncomputable abbrev fn_s_ctGood : Func := Try.f46
theorem fnat_s_ctGood : Try.prog.funcs[n_s_ctGood]? = some fn_s_ctGood := Try.func46
abbrev n_s_l1In : FuncId := 47
noncomputable abbrev fn_s_l1In : Func := Try.f47
theorem fnat_s_l1In : Try.prog.funcs[n_s_l1In]? = some fn_s_l1In := Try.func47
abbrev n_s_l1Own : FuncId := 48
noncomputable abbrev fn_s_l1Own : Func := Try.f48
theorem fnat_s_l1Own : Try.prog.funcs[n_s_l1Own]? = some fn_s_l1Own := Try.func48
abbrev n_i_continuant : FuncId := 49
noncomputable abbrev fn_i_continuant : Func := Try.f49
theorem fnat_i_continuant : Try.prog.funcs[n_i_continuant]? = some fn_i_continuant := Try.func49
abbrev n_s_l1Cur_one : FuncId := 51
noncomputable abbrev fn_s_l1Cur_one : Func := Try.f51
theorem fnat_s_l1Cur_one : Try.prog.funcs[n_s_l1Cur_one]? = some fn_s_l1Cur_one := Try.func51
abbrev n_slices_Index_int : FuncId := 53
noncomputable abbrev fn_slices_Index_int : Func := Try.f53
theorem fnat_slices_Index_int : Try.prog.funcs[n_slices_Index_int]? = some fn_slices_Index_int := Try.func53
abbrev n_s_l1Cur_among : FuncId := 54
noncomputable abbrev fn_s_l1Cur_among : Func := Try.f54
theorem fnat_s_l1Cur_among : Try.prog.funcs[n_s_l1Cur_among]? = some fn_s_l1Cur_among := Try.func54
abbrev n_i_checked : FuncId := 63
noncomputable abbrev fn_i_checked : Func := Try.f63
theorem fnat_i_checked : Try.prog.funcs[n_i_checked]? = some fn_i_checked := Try.func63
abbrev n_i_matrixOfList : FuncId := 64
noncomputable abbrev fn_i_matrixOfList : Func := Try.f64
theorem fnat_i_matrixOfList : Try.prog.funcs[n_i_matrixOfList]? = some fn_i_matrixOfList := Try.func64
abbrev n_s_mxIf : FuncId := 65
noncomputable abbrev fn_s_mxIf : Func := Try.f65
theorem fnat_s_mxIf : Try.prog.funcs[n_s_mxIf]? = some fn_s_mxIf := Try.func65
abbrev n_s_mxList : FuncId := 66
noncomputable abbrev fn_s_mxList : Func := Try.f66
theorem fnat_s_mxList : Try.prog.funcs[n_s_mxList]? = some fn_s_mxList := Try.func66
abbrev n_i_isEntry : FuncId := 67
noncomputable abbrev fn_i_isEntry : Func := Try.f67
theorem fnat_i_isEntry : Try.prog.funcs[n_i_isEntry]? = some fn_i_isEntry := Try.func67
abbrev n_s_l1Cur_quiddity : FuncId := 68
noncomputable abbrev fn_s_l1Cur_quiddity : Func := Try.f68
theorem fnat_s_l1Cur_quiddity : Try.prog.funcs[n_s_l1Cur_quiddity]? = some fn_s_l1Cur_quiddity := Try.func68
abbrev n_slices_ContainsFunc_int : FuncId := 69
noncomputable abbrev fn_slices_ContainsFunc_int : Func := Try.f69
theorem fnat_slices_ContainsFunc_int : Try.prog.funcs[n_slices_ContainsFunc_int]? = some fn_slices_ContainsFunc_int := Try.func69
abbrev n_i_IsTermList_1 : FuncId := 70
noncomputable abbrev fn_i_IsTermList_1 : Func := Try.f70
theorem fnat_i_IsTermList_1 : Try.prog.funcs[n_i_IsTermList_1]? = some fn_i_IsTermList_1 := Try.func70
abbrev n_i_triangulation : FuncId := 71
noncomputable abbrev fn_i_triangulation : Func := Try.f71
theorem fnat_i_triangulation : Try.prog.funcs[n_i_triangulation]? = some fn_i_triangulation := Try.func71
abbrev n_s_l1Cur_next : FuncId := 72
noncomputable abbrev fn_s_l1Cur_next : Func := Try.f72
theorem fnat_s_l1Cur_next : Try.prog.funcs[n_s_l1Cur_next]? = some fn_s_l1Cur_next := Try.func72
abbrev n_s_l1All : FuncId := 75
noncomputable abbrev fn_s_l1All : Func := Try.f75
theorem fnat_s_l1All : Try.prog.funcs[n_s_l1All]? = some fn_s_l1All := Try.func75
abbrev n_slices_Delete_int : FuncId := 76
noncomputable abbrev fn_slices_Delete_int : Func := Try.f76
theorem fnat_slices_Delete_int : Try.prog.funcs[n_slices_Delete_int]? = some fn_slices_Delete_int := Try.func76
abbrev n_i_one : FuncId := 79
noncomputable abbrev fn_i_one : Func := Try.f79
theorem fnat_i_one : Try.prog.funcs[n_i_one]? = some fn_i_one := Try.func79
abbrev n_i_times : FuncId := 80
noncomputable abbrev fn_i_times : Func := Try.f80
theorem fnat_i_times : Try.prog.funcs[n_i_times]? = some fn_i_times := Try.func80
abbrev n_s_mxGood : FuncId := 81
noncomputable abbrev fn_s_mxGood : Func := Try.f81
theorem fnat_s_mxGood : Try.prog.funcs[n_s_mxGood]? = some fn_s_mxGood := Try.func81
abbrev n_s_mxOne : FuncId := 82
noncomputable abbrev fn_s_mxOne : Func := Try.f82
theorem fnat_s_mxOne : Try.prog.funcs[n_s_mxOne]? = some fn_s_mxOne := Try.func82
abbrev n_s_ctValue : FuncId := 83
noncomputable abbrev fn_s_ctValue : Func := Try.f83
theorem fnat_s_ctValue : Try.prog.funcs[n_s_ctValue]? = some fn_s_ctValue := Try.func83
abbrev n_s_l1Cur_sureQuiddity : FuncId := 84
noncomputable abbrev fn_s_l1Cur_sureQuiddity : Func := Try.f84
theorem fnat_s_l1Cur_sureQuiddity : Try.prog.funcs[n_s_l1Cur_sureQuiddity]? = some fn_s_l1Cur_sureQuiddity := Try.func84
abbrev n_slices_IndexFunc_int : FuncId := 85
noncomputable abbrev fn_slices_IndexFunc_int : Func := Try.f85
theorem fnat_slices_IndexFunc_int : Try.prog.funcs[n_slices_IndexFunc_int]? = some fn_slices_IndexFunc_int := Try.func85
abbrev n_i_isPolygon : FuncId := 86
noncomputable abbrev fn_i_isPolygon : Func := Try.f86
theorem fnat_i_isPolygon : Try.prog.funcs[n_i_isPolygon]? = some fn_i_isPolygon := Try.func86
abbrev n_slices_SortFunc_Diagonal : FuncId := 87
noncomputable abbrev fn_slices_SortFunc_Diagonal : Func := Try.f87
theorem fnat_slices_SortFunc_Diagonal : Try.prog.funcs[n_slices_SortFunc_Diagonal]? = some fn_slices_SortFunc_Diagonal := Try.func87
abbrev n_i_compareDiagonals : FuncId := 88
noncomputable abbrev fn_i_compareDiagonals : Func := Try.f88
theorem fnat_i_compareDiagonals : Try.prog.funcs[n_i_compareDiagonals]? = some fn_i_compareDiagonals := Try.func88
abbrev n_slices_Equal_int : FuncId := 89
noncomputable abbrev fn_slices_Equal_int : Func := Try.f89
theorem fnat_slices_Equal_int : Try.prog.funcs[n_slices_Equal_int]? = some fn_slices_Equal_int := Try.func89
abbrev n_i_IsTriangulation : FuncId := 90
noncomputable abbrev fn_i_IsTriangulation : Func := Try.f90
theorem fnat_i_IsTriangulation : Try.prog.funcs[n_i_IsTriangulation]? = some fn_i_IsTriangulation := Try.func90
abbrev n_i_quiddity : FuncId := 91
noncomputable abbrev fn_i_quiddity : Func := Try.f91
theorem fnat_i_quiddity : Try.prog.funcs[n_i_quiddity]? = some fn_i_quiddity := Try.func91
abbrev n_slices_pdqsortCmpFunc_Diagonal : FuncId := 93
noncomputable abbrev fn_slices_pdqsortCmpFunc_Diagonal : Func := Try.f93
theorem fnat_slices_pdqsortCmpFunc_Diagonal : Try.prog.funcs[n_slices_pdqsortCmpFunc_Diagonal]? = some fn_slices_pdqsortCmpFunc_Diagonal := Try.func93
abbrev n_math_bits_Len : FuncId := 94
noncomputable abbrev fn_math_bits_Len : Func := Try.f94
theorem fnat_math_bits_Len : Try.prog.funcs[n_math_bits_Len]? = some fn_math_bits_Len := Try.func94
abbrev n_cmp_Or_int : FuncId := 95
noncomputable abbrev fn_cmp_Or_int : Func := Try.f95
theorem fnat_cmp_Or_int : Try.prog.funcs[n_cmp_Or_int]? = some fn_cmp_Or_int := Try.func95
abbrev n_cmp_Compare_int : FuncId := 96
noncomputable abbrev fn_cmp_Compare_int : Func := Try.f96
theorem fnat_cmp_Compare_int : Try.prog.funcs[n_cmp_Compare_int]? = some fn_cmp_Compare_int := Try.func96
abbrev n_i_isDiagonal : FuncId := 97
noncomputable abbrev fn_i_isDiagonal : Func := Try.f97
theorem fnat_i_isDiagonal : Try.prog.funcs[n_i_isDiagonal]? = some fn_i_isDiagonal := Try.func97
abbrev n_slices_ContainsFunc_Diagonal : FuncId := 98
noncomputable abbrev fn_slices_ContainsFunc_Diagonal : Func := Try.f98
theorem fnat_slices_ContainsFunc_Diagonal : Try.prog.funcs[n_slices_ContainsFunc_Diagonal]? = some fn_slices_ContainsFunc_Diagonal := Try.func98
abbrev n_i_IsTriangulation_1 : FuncId := 99
noncomputable abbrev fn_i_IsTriangulation_1 : Func := Try.f99
theorem fnat_i_IsTriangulation_1 : Try.prog.funcs[n_i_IsTriangulation_1]? = some fn_i_IsTriangulation_1 := Try.func99
abbrev n_i_doCross : FuncId := 100
noncomputable abbrev fn_i_doCross : Func := Try.f100
theorem fnat_i_doCross : Try.prog.funcs[n_i_doCross]? = some fn_i_doCross := Try.func100
abbrev n_slices_Repeat_int : FuncId := 101
noncomputable abbrev fn_slices_Repeat_int : Func := Try.f101
theorem fnat_slices_Repeat_int : Try.prog.funcs[n_slices_Repeat_int]? = some fn_slices_Repeat_int := Try.func101
abbrev n_slices_insertionSortCmpFunc_Diagonal : FuncId := 103
noncomputable abbrev fn_slices_insertionSortCmpFunc_Diagonal : Func := Try.f103
theorem fnat_slices_insertionSortCmpFunc_Diagonal : Try.prog.funcs[n_slices_insertionSortCmpFunc_Diagonal]? = some fn_slices_insertionSortCmpFunc_Diagonal := Try.func103
abbrev n_cmp_isNaN_int : FuncId := 113
noncomputable abbrev fn_cmp_isNaN_int : Func := Try.f113
theorem fnat_cmp_isNaN_int : Try.prog.funcs[n_cmp_isNaN_int]? = some fn_cmp_isNaN_int := Try.func113
abbrev n_slices_IndexFunc_Diagonal : FuncId := 114
noncomputable abbrev fn_slices_IndexFunc_Diagonal : Func := Try.f114
theorem fnat_slices_IndexFunc_Diagonal : Try.prog.funcs[n_slices_IndexFunc_Diagonal]? = some fn_slices_IndexFunc_Diagonal := Try.func114
abbrev n_math_bits_Mul : FuncId := 115
noncomputable abbrev fn_math_bits_Mul : Func := Try.f115
theorem fnat_math_bits_Mul : Try.prog.funcs[n_math_bits_Mul]? = some fn_math_bits_Mul := Try.func115
abbrev n_i_takeOne : FuncId := 50
abbrev n_slices_Reverse_int : FuncId := 102
noncomputable def E0 : TEnv := { P := Try.prog, lib := fun _ => none, raw := fun _ _ _ => none, modes := fun f => if f = n_slices_Reverse_int then [true, false, false, false] else if f = n_slices_insertionSortCmpFunc_Diagonal then [true, false, false, false, false] else if f = n_slices_pdqsortCmpFunc_Diagonal then [true, false, false, false, false] else if f = n_slices_SortFunc_Diagonal then [true, false] else if f = n_slices_Insert_int then [true, false, true] else if f = n_i_takeOne then [false, false] else if f = n_slices_Delete_int then [true, false, false] else if f = n_i_listed then [true, false] else [], gives := fun _ => [] }
theorem E0ok : E0.OK := ⟨by kernel_rfl, (fun f L h => by cases h), (fun f args R res R' h => by cases h)⟩
end Go.Proofs.W
