/- The functions' numbers. -/
import Derived.Test.YtigenooglogcfaaGt15
import Derived.Test.YtigenooglogcfaaGc6
import Derived.Test.YtigenooglogcfaaProg
import Derived.Test.YtigenooglogcfaaGr2
import Derived.KernelRfl
namespace Go.Proofs.W
open Go Go.Gm Go.Proofs
abbrev n_l_FnExactMakePuzzle : FuncId := 11
noncomputable abbrev fn_l_FnExactMakePuzzle : Func := Try.f11
theorem fnat_l_FnExactMakePuzzle : Try.prog.funcs[n_l_FnExactMakePuzzle]? = some fn_l_FnExactMakePuzzle := Try.func11
abbrev n_l_eqPuzzle : FuncId := 22
noncomputable abbrev fn_l_eqPuzzle : Func := Try.f22
theorem fnat_l_eqPuzzle : Try.prog.funcs[n_l_eqPuzzle]? = some fn_l_eqPuzzle := Try.func22
abbrev n_l_eqIntS : FuncId := 23
noncomputable abbrev fn_l_eqIntS : Func := Try.f23
theorem fnat_l_eqIntS : Try.prog.funcs[n_l_eqIntS]? = some fn_l_eqIntS := Try.func23
abbrev n_l_markPuzzle : FuncId := 28
noncomputable abbrev fn_l_markPuzzle : Func := Try.f28
theorem fnat_l_markPuzzle : Try.prog.funcs[n_l_markPuzzle]? = some fn_l_markPuzzle := Try.func28
abbrev n_l_markIntS : FuncId := 29
noncomputable abbrev fn_l_markIntS : Func := Try.f29
theorem fnat_l_markIntS : Try.prog.funcs[n_l_markIntS]? = some fn_l_markIntS := Try.func29
abbrev n_l_heldIntS : FuncId := 30
noncomputable abbrev fn_l_heldIntS : Func := Try.f30
theorem fnat_l_heldIntS : Try.prog.funcs[n_l_heldIntS]? = some fn_l_heldIntS := Try.func30
abbrev n_l_heldPuzzle : FuncId := 38
noncomputable abbrev fn_l_heldPuzzle : Func := Try.f38
theorem fnat_l_heldPuzzle : Try.prog.funcs[n_l_heldPuzzle]? = some fn_l_heldPuzzle := Try.func38
abbrev n_s_MakePuzzle : FuncId := 43
noncomputable abbrev fn_s_MakePuzzle : Func := Try.f43
theorem fnat_s_MakePuzzle : Try.prog.funcs[n_s_MakePuzzle]? = some fn_s_MakePuzzle := Try.func43
abbrev n_i_MakePuzzle : FuncId := 44
noncomputable abbrev fn_i_MakePuzzle : Func := Try.f44
theorem fnat_i_MakePuzzle : Try.prog.funcs[n_i_MakePuzzle]? = some fn_i_MakePuzzle := Try.func44
abbrev n_i_IsQuiddity : FuncId := 47
noncomputable abbrev fn_i_IsQuiddity : Func := Try.f47
theorem fnat_i_IsQuiddity : Try.prog.funcs[n_i_IsQuiddity]? = some fn_i_IsQuiddity := Try.func47
abbrev n_i_within : FuncId := 48
noncomputable abbrev fn_i_within : Func := Try.f48
theorem fnat_i_within : Try.prog.funcs[n_i_within]? = some fn_i_within := Try.func48
abbrev n_s_IsQuiddity : FuncId := 50
noncomputable abbrev fn_s_IsQuiddity : Func := Try.f50
theorem fnat_s_IsQuiddity : Try.prog.funcs[n_s_IsQuiddity]? = some fn_s_IsQuiddity := Try.func50
abbrev n_s_l1Own : FuncId := 58
noncomputable abbrev fn_s_l1Own : Func := Try.f58
theorem fnat_s_l1Own : Try.prog.funcs[n_s_l1Own]? = some fn_s_l1Own := Try.func58
abbrev n_s_pzPut : FuncId := 59
noncomputable abbrev fn_s_pzPut : Func := Try.f59
theorem fnat_s_pzPut : Try.prog.funcs[n_s_pzPut]? = some fn_s_pzPut := Try.func59
abbrev n_slices_Clone_int : FuncId := 60
noncomputable abbrev fn_slices_Clone_int : Func := Try.f60
theorem fnat_slices_Clone_int : Try.prog.funcs[n_slices_Clone_int]? = some fn_slices_Clone_int := Try.func60
abbrev n_s_l1In : FuncId := 63
noncomputable abbrev fn_s_l1In : Func := Try.f63
theorem fnat_s_l1In : Try.prog.funcs[n_s_l1In]? = some fn_s_l1In := Try.func63
abbrev n_s_GlueEar : FuncId := 64
noncomputable abbrev fn_s_GlueEar : Func := Try.f64
theorem fnat_s_GlueEar : Try.prog.funcs[n_s_GlueEar]? = some fn_s_GlueEar := Try.func64
abbrev n_i_MakePuzzle_1 : FuncId := 65
noncomputable abbrev fn_i_MakePuzzle_1 : Func := Try.f65
theorem fnat_i_MakePuzzle_1 : Try.prog.funcs[n_i_MakePuzzle_1]? = some fn_i_MakePuzzle_1 := Try.func65
abbrev n_i_GlueEar : FuncId := 66
noncomputable abbrev fn_i_GlueEar : Func := Try.f66
theorem fnat_i_GlueEar : Try.prog.funcs[n_i_GlueEar]? = some fn_i_GlueEar := Try.func66
abbrev n_i_triangulation : FuncId := 67
noncomputable abbrev fn_i_triangulation : Func := Try.f67
theorem fnat_i_triangulation : Try.prog.funcs[n_i_triangulation]? = some fn_i_triangulation := Try.func67
abbrev n_s_l1All : FuncId := 68
noncomputable abbrev fn_s_l1All : Func := Try.f68
theorem fnat_s_l1All : Try.prog.funcs[n_s_l1All]? = some fn_s_l1All := Try.func68
abbrev n_s_poOf : FuncId := 69
noncomputable abbrev fn_s_poOf : Func := Try.f69
theorem fnat_s_poOf : Try.prog.funcs[n_s_poOf]? = some fn_s_poOf := Try.func69
abbrev n_slices_Insert_int : FuncId := 78
noncomputable abbrev fn_slices_Insert_int : Func := Try.f78
theorem fnat_slices_Insert_int : Try.prog.funcs[n_slices_Insert_int]? = some fn_slices_Insert_int := Try.func78
abbrev n_i_isPolygon : FuncId := 79
noncomputable abbrev fn_i_isPolygon : Func := Try.f79
theorem fnat_i_isPolygon : Try.prog.funcs[n_i_isPolygon]? = some fn_i_isPolygon := Try.func79
abbrev n_slices_Index_int : FuncId := 80
noncomputable abbrev fn_slices_Index_int : Func := Try.f80
theorem fnat_slices_Index_int : Try.prog.funcs[n_slices_Index_int]? = some fn_slices_Index_int := Try.func80
abbrev n_slices_Delete_int : FuncId := 81
noncomputable abbrev fn_slices_Delete_int : Func := Try.f81
theorem fnat_slices_Delete_int : Try.prog.funcs[n_slices_Delete_int]? = some fn_slices_Delete_int := Try.func81
abbrev n_slices_SortFunc_Diagonal : FuncId := 82
noncomputable abbrev fn_slices_SortFunc_Diagonal : Func := Try.f82
theorem fnat_slices_SortFunc_Diagonal : Try.prog.funcs[n_slices_SortFunc_Diagonal]? = some fn_slices_SortFunc_Diagonal := Try.func82
abbrev n_i_compareDiagonals : FuncId := 83
noncomputable abbrev fn_i_compareDiagonals : Func := Try.f83
theorem fnat_i_compareDiagonals : Try.prog.funcs[n_i_compareDiagonals]? = some fn_i_compareDiagonals := Try.func83
abbrev n_slices_Equal_int : FuncId := 84
noncomputable abbrev fn_slices_Equal_int : Func := Try.f84
theorem fnat_slices_Equal_int : Try.prog.funcs[n_slices_Equal_int]? = some fn_slices_Equal_int := Try.func84
abbrev n_i_IsTriangulation : FuncId := 85
noncomputable abbrev fn_i_IsTriangulation : Func := Try.f85
theorem fnat_i_IsTriangulation : Try.prog.funcs[n_i_IsTriangulation]? = some fn_i_IsTriangulation := Try.func85
abbrev n_i_quiddity : FuncId := 86
noncomputable abbrev fn_i_quiddity : Func := Try.f86
theorem fnat_i_quiddity : Try.prog.funcs[n_i_quiddity]? = some fn_i_quiddity := Try.func86
abbrev n_s_poIs : FuncId := 87
noncomputable abbrev fn_s_poIs : Func := Try.f87
theorem fnat_s_poIs : Try.prog.funcs[n_s_poIs]? = some fn_s_poIs := Try.func87
abbrev n_s_l1Least : FuncId := 88
noncomputable abbrev fn_s_l1Least : Func := Try.f88
theorem fnat_s_l1Least : Try.prog.funcs[n_s_l1Least]? = some fn_s_l1Least := Try.func88
abbrev n_s_l1Most : FuncId := 89
noncomputable abbrev fn_s_l1Most : Func := Try.f89
theorem fnat_s_l1Most : Try.prog.funcs[n_s_l1Most]? = some fn_s_l1Most := Try.func89
abbrev n_s_poSorted : FuncId := 90
noncomputable abbrev fn_s_poSorted : Func := Try.f90
theorem fnat_s_poSorted : Try.prog.funcs[n_s_poSorted]? = some fn_s_poSorted := Try.func90
abbrev n_slices_pdqsortCmpFunc_Diagonal : FuncId := 101
noncomputable abbrev fn_slices_pdqsortCmpFunc_Diagonal : Func := Try.f101
theorem fnat_slices_pdqsortCmpFunc_Diagonal : Try.prog.funcs[n_slices_pdqsortCmpFunc_Diagonal]? = some fn_slices_pdqsortCmpFunc_Diagonal := Try.func101
abbrev n_math_bits_Len : FuncId := 102
noncomputable abbrev fn_math_bits_Len : Func := Try.f102
theorem fnat_math_bits_Len : Try.prog.funcs[n_math_bits_Len]? = some fn_math_bits_Len := Try.func102
abbrev n_cmp_Or_int : FuncId := 103
noncomputable abbrev fn_cmp_Or_int : Func := Try.f103
theorem fnat_cmp_Or_int : Try.prog.funcs[n_cmp_Or_int]? = some fn_cmp_Or_int := Try.func103
abbrev n_cmp_Compare_int : FuncId := 104
noncomputable abbrev fn_cmp_Compare_int : Func := Try.f104
theorem fnat_cmp_Compare_int : Try.prog.funcs[n_cmp_Compare_int]? = some fn_cmp_Compare_int := Try.func104
abbrev n_i_isDiagonal : FuncId := 105
noncomputable abbrev fn_i_isDiagonal : Func := Try.f105
theorem fnat_i_isDiagonal : Try.prog.funcs[n_i_isDiagonal]? = some fn_i_isDiagonal := Try.func105
abbrev n_slices_ContainsFunc_Diagonal : FuncId := 106
noncomputable abbrev fn_slices_ContainsFunc_Diagonal : Func := Try.f106
theorem fnat_slices_ContainsFunc_Diagonal : Try.prog.funcs[n_slices_ContainsFunc_Diagonal]? = some fn_slices_ContainsFunc_Diagonal := Try.func106
abbrev n_i_IsTriangulation_1 : FuncId := 107
noncomputable abbrev fn_i_IsTriangulation_1 : Func := Try.f107
theorem fnat_i_IsTriangulation_1 : Try.prog.funcs[n_i_IsTriangulation_1]? = some fn_i_IsTriangulation_1 := Try.func107
abbrev n_i_doCross : FuncId := 108
noncomputable abbrev fn_i_doCross : Func := Try.f108
theorem fnat_i_doCross : Try.prog.funcs[n_i_doCross]? = some fn_i_doCross := Try.func108
abbrev n_slices_Repeat_int : FuncId := 109
noncomputable abbrev fn_slices_Repeat_int : Func := Try.f109
theorem fnat_slices_Repeat_int : Try.prog.funcs[n_slices_Repeat_int]? = some fn_slices_Repeat_int := Try.func109
abbrev n_s_poLess : FuncId := 110
noncomputable abbrev fn_s_poLess : Func := Try.f110
theorem fnat_s_poLess : Try.prog.funcs[n_s_poLess]? = some fn_s_poLess := Try.func110
abbrev n_slices_insertionSortCmpFunc_Diagonal : FuncId := 119
noncomputable abbrev fn_slices_insertionSortCmpFunc_Diagonal : Func := Try.f119
theorem fnat_slices_insertionSortCmpFunc_Diagonal : Try.prog.funcs[n_slices_insertionSortCmpFunc_Diagonal]? = some fn_slices_insertionSortCmpFunc_Diagonal := Try.func119
abbrev n_cmp_isNaN_int : FuncId := 129
noncomputable abbrev fn_cmp_isNaN_int : Func := Try.f129
theorem fnat_cmp_isNaN_int : Try.prog.funcs[n_cmp_isNaN_int]? = some fn_cmp_isNaN_int := Try.func129
abbrev n_slices_IndexFunc_Diagonal : FuncId := 130
noncomputable abbrev fn_slices_IndexFunc_Diagonal : Func := Try.f130
theorem fnat_slices_IndexFunc_Diagonal : Try.prog.funcs[n_slices_IndexFunc_Diagonal]? = some fn_slices_IndexFunc_Diagonal := Try.func130
abbrev n_math_bits_Mul : FuncId := 131
noncomputable abbrev fn_math_bits_Mul : Func := Try.f131
theorem fnat_math_bits_Mul : Try.prog.funcs[n_math_bits_Mul]? = some fn_math_bits_Mul := Try.func131
abbrev n_slices_SortFunc_Lint : FuncId := 97
abbrev n_slices_pdqsortCmpFunc_Lint : FuncId := 117
abbrev n_slices_insertionSortCmpFunc_Lint : FuncId := 133
abbrev n_slices_DeleteFunc_Lint : FuncId := 75
abbrev n_slices_Reverse_int : FuncId := 141
noncomputable def E0 : TEnv := { P := Try.prog, lib := fun _ => none, raw := fun _ _ _ => none, modes := fun f => if f = n_slices_Reverse_int then [true, false, false, false] else if f = n_slices_DeleteFunc_Lint then [true, false] else if f = n_slices_insertionSortCmpFunc_Lint then [true, false, false, false, false] else if f = n_slices_pdqsortCmpFunc_Lint then [true, false, false, false, false] else if f = n_slices_SortFunc_Lint then [true, false] else if f = n_slices_insertionSortCmpFunc_Diagonal then [true, false, false, false, false] else if f = n_slices_pdqsortCmpFunc_Diagonal then [true, false, false, false, false] else if f = n_slices_SortFunc_Diagonal then [true, false] else if f = n_slices_Insert_int then [true, false, true] else if f = n_slices_Delete_int then [true, false, false] else if f = n_l_markPuzzle then [true] else if f = n_l_markIntS then [true] else [], gives := fun _ => [] }
theorem E0ok : E0.OK := ⟨by kernel_rfl, (fun f L h => by cases h), (fun f args R res R' h => by cases h)⟩
end Go.Proofs.W
