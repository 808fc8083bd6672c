/- The functions' numbers. -/
import Derived.Test.YtfecbmipnehmnaaGc7
import Derived.Test.YtfecbmipnehmnaaProg
import Derived.Test.YtfecbmipnehmnaaGr2
import Derived.KernelRfl
namespace Go.Proofs.W
open Go Go.Gm Go.Proofs
abbrev n_l_FnExactIsEqualCut : FuncId := 4
noncomputable abbrev fn_l_FnExactIsEqualCut : Func := Try.f4
theorem fnat_l_FnExactIsEqualCut : Try.prog.funcs[n_l_FnExactIsEqualCut]? = some fn_l_FnExactIsEqualCut := Try.func4
abbrev n_l_szDiagonalS : FuncId := 9
noncomputable abbrev fn_l_szDiagonalS : Func := Try.f9
theorem fnat_l_szDiagonalS : Try.prog.funcs[n_l_szDiagonalS]? = some fn_l_szDiagonalS := Try.func9
abbrev n_l_toDiagonalS : FuncId := 11
noncomputable abbrev fn_l_toDiagonalS : Func := Try.f11
theorem fnat_l_toDiagonalS : Try.prog.funcs[n_l_toDiagonalS]? = some fn_l_toDiagonalS := Try.func11
abbrev n_l_eqDiagonalS : FuncId := 14
noncomputable abbrev fn_l_eqDiagonalS : Func := Try.f14
theorem fnat_l_eqDiagonalS : Try.prog.funcs[n_l_eqDiagonalS]? = some fn_l_eqDiagonalS := Try.func14
abbrev n_s_IsEqualCut : FuncId := 18
noncomputable abbrev fn_s_IsEqualCut : Func := Try.f18
theorem fnat_s_IsEqualCut : Try.prog.funcs[n_s_IsEqualCut]? = some fn_s_IsEqualCut := Try.func18
abbrev n_i_IsEqualCut : FuncId := 19
noncomputable abbrev fn_i_IsEqualCut : Func := Try.f19
theorem fnat_i_IsEqualCut : Try.prog.funcs[n_i_IsEqualCut]? = some fn_i_IsEqualCut := Try.func19
abbrev n_s_cuGood : FuncId := 32
noncomputable abbrev fn_s_cuGood : Func := Try.f32
theorem fnat_s_cuGood : Try.prog.funcs[n_s_cuGood]? = some fn_s_cuGood := Try.func32
abbrev n_s_cuPieces : FuncId := 33
noncomputable abbrev fn_s_cuPieces : Func := Try.f33
theorem fnat_s_cuPieces : Try.prog.funcs[n_s_cuPieces]? = some fn_s_cuPieces := Try.func33
abbrev n_l_toDiagonal : FuncId := 34
noncomputable abbrev fn_l_toDiagonal : Func := Try.f34
theorem fnat_l_toDiagonal : Try.prog.funcs[n_l_toDiagonal]? = some fn_l_toDiagonal := Try.func34
abbrev n_i_IsCut : FuncId := 35
noncomputable abbrev fn_i_IsCut : Func := Try.f35
theorem fnat_i_IsCut : Try.prog.funcs[n_i_IsCut]? = some fn_i_IsCut := Try.func35
abbrev n_i_pieces : FuncId := 36
noncomputable abbrev fn_i_pieces : Func := Try.f36
theorem fnat_i_pieces : Try.prog.funcs[n_i_pieces]? = some fn_i_pieces := Try.func36
abbrev n_l_eqDiagonal : FuncId := 37
noncomputable abbrev fn_l_eqDiagonal : Func := Try.f37
theorem fnat_l_eqDiagonal : Try.prog.funcs[n_l_eqDiagonal]? = some fn_l_eqDiagonal := Try.func37
abbrev n_s_cuEqual : FuncId := 38
noncomputable abbrev fn_s_cuEqual : Func := Try.f38
theorem fnat_s_cuEqual : Try.prog.funcs[n_s_cuEqual]? = some fn_s_cuEqual := Try.func38
abbrev n_i_isEqual : FuncId := 39
noncomputable abbrev fn_i_isEqual : Func := Try.f39
theorem fnat_i_isEqual : Try.prog.funcs[n_i_isEqual]? = some fn_i_isEqual := Try.func39
abbrev n_i_sizes : FuncId := 41
noncomputable abbrev fn_i_sizes : Func := Try.f41
theorem fnat_i_sizes : Try.prog.funcs[n_i_sizes]? = some fn_i_sizes := Try.func41
abbrev n_s_l1In : FuncId := 43
noncomputable abbrev fn_s_l1In : Func := Try.f43
theorem fnat_s_l1In : Try.prog.funcs[n_s_l1In]? = some fn_s_l1In := Try.func43
abbrev n_s_poIs : FuncId := 52
noncomputable abbrev fn_s_poIs : Func := Try.f52
theorem fnat_s_poIs : Try.prog.funcs[n_s_poIs]? = some fn_s_poIs := Try.func52
abbrev n_s_poDiagonal : FuncId := 53
noncomputable abbrev fn_s_poDiagonal : Func := Try.f53
theorem fnat_s_poDiagonal : Try.prog.funcs[n_s_poDiagonal]? = some fn_s_poDiagonal := Try.func53
abbrev n_s_poLess : FuncId := 54
noncomputable abbrev fn_s_poLess : Func := Try.f54
theorem fnat_s_poLess : Try.prog.funcs[n_s_poLess]? = some fn_s_poLess := Try.func54
abbrev n_s_poCross : FuncId := 55
noncomputable abbrev fn_s_poCross : Func := Try.f55
theorem fnat_s_poCross : Try.prog.funcs[n_s_poCross]? = some fn_s_poCross := Try.func55
abbrev n_s_poJoined : FuncId := 56
noncomputable abbrev fn_s_poJoined : Func := Try.f56
theorem fnat_s_poJoined : Try.prog.funcs[n_s_poJoined]? = some fn_s_poJoined := Try.func56
abbrev n_s_cuSorted : FuncId := 57
noncomputable abbrev fn_s_cuSorted : Func := Try.f57
theorem fnat_s_cuSorted : Try.prog.funcs[n_s_cuSorted]? = some fn_s_cuSorted := Try.func57
abbrev n_i_isPolygon : FuncId := 58
noncomputable abbrev fn_i_isPolygon : Func := Try.f58
theorem fnat_i_isPolygon : Try.prog.funcs[n_i_isPolygon]? = some fn_i_isPolygon := Try.func58
abbrev n_i_isDiagonal : FuncId := 59
noncomputable abbrev fn_i_isDiagonal : Func := Try.f59
theorem fnat_i_isDiagonal : Try.prog.funcs[n_i_isDiagonal]? = some fn_i_isDiagonal := Try.func59
abbrev n_i_compareDiagonals : FuncId := 60
noncomputable abbrev fn_i_compareDiagonals : Func := Try.f60
theorem fnat_i_compareDiagonals : Try.prog.funcs[n_i_compareDiagonals]? = some fn_i_compareDiagonals := Try.func60
abbrev n_i_crosses : FuncId := 61
noncomputable abbrev fn_i_crosses : Func := Try.f61
theorem fnat_i_crosses : Try.prog.funcs[n_i_crosses]? = some fn_i_crosses := Try.func61
abbrev n_slices_Index_int : FuncId := 62
noncomputable abbrev fn_slices_Index_int : Func := Try.f62
theorem fnat_slices_Index_int : Try.prog.funcs[n_slices_Index_int]? = some fn_slices_Index_int := Try.func62
abbrev n_slices_Concat_int : FuncId := 63
noncomputable abbrev fn_slices_Concat_int : Func := Try.f63
theorem fnat_slices_Concat_int : Try.prog.funcs[n_slices_Concat_int]? = some fn_slices_Concat_int := Try.func63
abbrev n_slices_Clone_int : FuncId := 64
noncomputable abbrev fn_slices_Clone_int : Func := Try.f64
theorem fnat_slices_Clone_int : Try.prog.funcs[n_slices_Clone_int]? = some fn_slices_Clone_int := Try.func64
abbrev n_slices_SortFunc_Lint : FuncId := 65
noncomputable abbrev fn_slices_SortFunc_Lint : Func := Try.f65
theorem fnat_slices_SortFunc_Lint : Try.prog.funcs[n_slices_SortFunc_Lint]? = some fn_slices_SortFunc_Lint := Try.func65
abbrev n_slices_Compare_int : FuncId := 66
noncomputable abbrev fn_slices_Compare_int : Func := Try.f66
theorem fnat_slices_Compare_int : Try.prog.funcs[n_slices_Compare_int]? = some fn_slices_Compare_int := Try.func66
abbrev n_slices_Sort_int : FuncId := 67
noncomputable abbrev fn_slices_Sort_int : Func := Try.f67
theorem fnat_slices_Sort_int : Try.prog.funcs[n_slices_Sort_int]? = some fn_slices_Sort_int := Try.func67
abbrev n_i_within : FuncId := 70
noncomputable abbrev fn_i_within : Func := Try.f70
theorem fnat_i_within : Try.prog.funcs[n_i_within]? = some fn_i_within := Try.func70
abbrev n_s_cuLess : FuncId := 72
noncomputable abbrev fn_s_cuLess : Func := Try.f72
theorem fnat_s_cuLess : Try.prog.funcs[n_s_cuLess]? = some fn_s_cuLess := Try.func72
abbrev n_cmp_Or_int : FuncId := 73
noncomputable abbrev fn_cmp_Or_int : Func := Try.f73
theorem fnat_cmp_Or_int : Try.prog.funcs[n_cmp_Or_int]? = some fn_cmp_Or_int := Try.func73
abbrev n_cmp_Compare_int : FuncId := 74
noncomputable abbrev fn_cmp_Compare_int : Func := Try.f74
theorem fnat_cmp_Compare_int : Try.prog.funcs[n_cmp_Compare_int]? = some fn_cmp_Compare_int := Try.func74
abbrev n_slices_ContainsFunc_Diagonal : FuncId := 75
noncomputable abbrev fn_slices_ContainsFunc_Diagonal : Func := Try.f75
theorem fnat_slices_ContainsFunc_Diagonal : Try.prog.funcs[n_slices_ContainsFunc_Diagonal]? = some fn_slices_ContainsFunc_Diagonal := Try.func75
abbrev n_i_crosses_1 : FuncId := 76
noncomputable abbrev fn_i_crosses_1 : Func := Try.f76
theorem fnat_i_crosses_1 : Try.prog.funcs[n_i_crosses_1]? = some fn_i_crosses_1 := Try.func76
abbrev n_i_doCross : FuncId := 77
noncomputable abbrev fn_i_doCross : Func := Try.f77
theorem fnat_i_doCross : Try.prog.funcs[n_i_doCross]? = some fn_i_doCross := Try.func77
abbrev n_slices_Grow_int : FuncId := 78
noncomputable abbrev fn_slices_Grow_int : Func := Try.f78
theorem fnat_slices_Grow_int : Try.prog.funcs[n_slices_Grow_int]? = some fn_slices_Grow_int := Try.func78
abbrev n_math_bits_Len : FuncId := 80
noncomputable abbrev fn_math_bits_Len : Func := Try.f80
theorem fnat_math_bits_Len : Try.prog.funcs[n_math_bits_Len]? = some fn_math_bits_Len := Try.func80
abbrev n_slices_pdqsortOrdered_int : FuncId := 81
noncomputable abbrev fn_slices_pdqsortOrdered_int : Func := Try.f81
theorem fnat_slices_pdqsortOrdered_int : Try.prog.funcs[n_slices_pdqsortOrdered_int]? = some fn_slices_pdqsortOrdered_int := Try.func81
abbrev n_cmp_isNaN_int : FuncId := 82
noncomputable abbrev fn_cmp_isNaN_int : Func := Try.f82
theorem fnat_cmp_isNaN_int : Try.prog.funcs[n_cmp_isNaN_int]? = some fn_cmp_isNaN_int := Try.func82
abbrev n_slices_IndexFunc_Diagonal : FuncId := 83
noncomputable abbrev fn_slices_IndexFunc_Diagonal : Func := Try.f83
theorem fnat_slices_IndexFunc_Diagonal : Try.prog.funcs[n_slices_IndexFunc_Diagonal]? = some fn_slices_IndexFunc_Diagonal := Try.func83
abbrev n_slices_insertionSortOrdered_int : FuncId := 94
noncomputable abbrev fn_slices_insertionSortOrdered_int : Func := Try.f94
theorem fnat_slices_insertionSortOrdered_int : Try.prog.funcs[n_slices_insertionSortOrdered_int]? = some fn_slices_insertionSortOrdered_int := Try.func94
abbrev n_cmp_Less_int : FuncId := 100
noncomputable abbrev fn_cmp_Less_int : Func := Try.f100
theorem fnat_cmp_Less_int : Try.prog.funcs[n_cmp_Less_int]? = some fn_cmp_Less_int := Try.func100
abbrev n_l_markIntS : FuncId := 28
abbrev n_l_markDiagonalS : FuncId := 15
abbrev n_slices_pdqsortCmpFunc_Lint : FuncId := 79
abbrev n_slices_insertionSortCmpFunc_Lint : FuncId := 84
noncomputable def E0 : TEnv := { P := Try.prog, lib := fun _ => none, raw := fun _ _ _ => none, modes := fun f => if f = n_slices_insertionSortOrdered_int then [true, false, false, false] else if f = n_slices_pdqsortOrdered_int then [true, false, false, false] else if f = n_slices_Sort_int then [true, false, false, false] else if f = n_slices_insertionSortCmpFunc_Lint then [true, false, false, false, false] else if f = n_slices_pdqsortCmpFunc_Lint then [true, false, false, false, false] else if f = n_slices_SortFunc_Lint then [true, false] else if f = n_l_markDiagonalS then [true] else if f = n_l_markIntS then [true] else [], gives := fun _ => [] }
theorem E0ok : E0.OK := ⟨by kernel_rfl, (fun f L h => by cases h), (fun f args R res R' h => by cases h)⟩
end Go.Proofs.W
