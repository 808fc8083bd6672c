/- The functions' numbers. -/
import Derived.Test.YtbheicnppelllaaProg
import Derived.Test.YtbheicnppelllaaGr2
import Derived.KernelRfl
namespace Go.Proofs.W
open Go Go.Gm Go.Proofs
abbrev n_l_FnExactPlusTerms : FuncId := 3
noncomputable abbrev fn_l_FnExactPlusTerms : Func := Try.f3
theorem fnat_l_FnExactPlusTerms : Try.prog.funcs[n_l_FnExactPlusTerms]? = some fn_l_FnExactPlusTerms := Try.func3
abbrev n_l_FnExactMatrixOfList : FuncId := 7
noncomputable abbrev fn_l_FnExactMatrixOfList : Func := Try.f7
theorem fnat_l_FnExactMatrixOfList : Try.prog.funcs[n_l_FnExactMatrixOfList]? = some fn_l_FnExactMatrixOfList := Try.func7
abbrev n_s_PlusTerms : FuncId := 14
noncomputable abbrev fn_s_PlusTerms : Func := Try.f14
theorem fnat_s_PlusTerms : Try.prog.funcs[n_s_PlusTerms]? = some fn_s_PlusTerms := Try.func14
abbrev n_i_PlusTerms : FuncId := 15
noncomputable abbrev fn_i_PlusTerms : Func := Try.f15
theorem fnat_i_PlusTerms : Try.prog.funcs[n_i_PlusTerms]? = some fn_i_PlusTerms := Try.func15
abbrev n_l_eqIntS : FuncId := 16
noncomputable abbrev fn_l_eqIntS : Func := Try.f16
theorem fnat_l_eqIntS : Try.prog.funcs[n_l_eqIntS]? = some fn_l_eqIntS := Try.func16
abbrev n_l_markIntS : FuncId := 17
noncomputable abbrev fn_l_markIntS : Func := Try.f17
theorem fnat_l_markIntS : Try.prog.funcs[n_l_markIntS]? = some fn_l_markIntS := Try.func17
abbrev n_l_heldIntS : FuncId := 18
noncomputable abbrev fn_l_heldIntS : Func := Try.f18
theorem fnat_l_heldIntS : Try.prog.funcs[n_l_heldIntS]? = some fn_l_heldIntS := Try.func18
abbrev n_l_toIntS : FuncId := 25
noncomputable abbrev fn_l_toIntS : Func := Try.f25
theorem fnat_l_toIntS : Try.prog.funcs[n_l_toIntS]? = some fn_l_toIntS := Try.func25
abbrev n_s_MatrixOfList : FuncId := 29
noncomputable abbrev fn_s_MatrixOfList : Func := Try.f29
theorem fnat_s_MatrixOfList : Try.prog.funcs[n_s_MatrixOfList]? = some fn_s_MatrixOfList := Try.func29
abbrev n_i_MatrixOfList : FuncId := 30
noncomputable abbrev fn_i_MatrixOfList : Func := Try.f30
theorem fnat_i_MatrixOfList : Try.prog.funcs[n_i_MatrixOfList]? = some fn_i_MatrixOfList := Try.func30
abbrev n_l_eqMatrix : FuncId := 31
noncomputable abbrev fn_l_eqMatrix : Func := Try.f31
theorem fnat_l_eqMatrix : Try.prog.funcs[n_l_eqMatrix]? = some fn_l_eqMatrix := Try.func31
abbrev n_s_ctPair : FuncId := 46
noncomputable abbrev fn_s_ctPair : Func := Try.f46
theorem fnat_s_ctPair : Try.prog.funcs[n_s_ctPair]? = some fn_s_ctPair := Try.func46
abbrev n_s_ctGood : FuncId := 47
noncomputable abbrev fn_s_ctGood : Func := Try.f47
theorem fnat_s_ctGood : Try.prog.funcs[n_s_ctGood]? = some fn_s_ctGood := Try.func47
abbrev n_i_isLowest : FuncId := 48
noncomputable abbrev fn_i_isLowest : Func := Try.f48
theorem fnat_i_isLowest : Try.prog.funcs[n_i_isLowest]? = some fn_i_isLowest := Try.func48
abbrev n_i_listed : FuncId := 49
noncomputable abbrev fn_i_listed : Func := Try.f49
theorem fnat_i_listed : Try.prog.funcs[n_i_listed]? = some fn_i_listed := Try.func49
abbrev n_i_IsTermList : FuncId := 50
noncomputable abbrev fn_i_IsTermList : Func := Try.f50
theorem fnat_i_IsTermList : Try.prog.funcs[n_i_IsTermList]? = some fn_i_IsTermList := Try.func50
abbrev n_s_l1In : FuncId := 53
noncomputable abbrev fn_s_l1In : Func := Try.f53
theorem fnat_s_l1In : Try.prog.funcs[n_s_l1In]? = some fn_s_l1In := Try.func53
abbrev n_i_within : FuncId := 55
noncomputable abbrev fn_i_within : Func := Try.f55
theorem fnat_i_within : Try.prog.funcs[n_i_within]? = some fn_i_within := Try.func55
abbrev n_s_mxIf : FuncId := 59
noncomputable abbrev fn_s_mxIf : Func := Try.f59
theorem fnat_s_mxIf : Try.prog.funcs[n_s_mxIf]? = some fn_s_mxIf := Try.func59
abbrev n_s_mxList : FuncId := 60
noncomputable abbrev fn_s_mxList : Func := Try.f60
theorem fnat_s_mxList : Try.prog.funcs[n_s_mxList]? = some fn_s_mxList := Try.func60
abbrev n_i_checked : FuncId := 61
noncomputable abbrev fn_i_checked : Func := Try.f61
theorem fnat_i_checked : Try.prog.funcs[n_i_checked]? = some fn_i_checked := Try.func61
abbrev n_i_matrixOfList : FuncId := 62
noncomputable abbrev fn_i_matrixOfList : Func := Try.f62
theorem fnat_i_matrixOfList : Try.prog.funcs[n_i_matrixOfList]? = some fn_i_matrixOfList := Try.func62
abbrev n_s_l1All : FuncId := 75
noncomputable abbrev fn_s_l1All : Func := Try.f75
theorem fnat_s_l1All : Try.prog.funcs[n_s_l1All]? = some fn_s_l1All := Try.func75
abbrev n_i_divisor : FuncId := 76
noncomputable abbrev fn_i_divisor : Func := Try.f76
theorem fnat_i_divisor : Try.prog.funcs[n_i_divisor]? = some fn_i_divisor := Try.func76
abbrev n_slices_ContainsFunc_int : FuncId := 77
noncomputable abbrev fn_slices_ContainsFunc_int : Func := Try.f77
theorem fnat_slices_ContainsFunc_int : Try.prog.funcs[n_slices_ContainsFunc_int]? = some fn_slices_ContainsFunc_int := Try.func77
abbrev n_i_IsTermList_1 : FuncId := 78
noncomputable abbrev fn_i_IsTermList_1 : Func := Try.f78
theorem fnat_i_IsTermList_1 : Try.prog.funcs[n_i_IsTermList_1]? = some fn_i_IsTermList_1 := Try.func78
abbrev n_s_mxGood : FuncId := 81
noncomputable abbrev fn_s_mxGood : Func := Try.f81
theorem fnat_s_mxGood : Try.prog.funcs[n_s_mxGood]? = some fn_s_mxGood := Try.func81
abbrev n_s_mxOne : FuncId := 82
noncomputable abbrev fn_s_mxOne : Func := Try.f82
theorem fnat_s_mxOne : Try.prog.funcs[n_s_mxOne]? = some fn_s_mxOne := Try.func82
abbrev n_s_ctValue : FuncId := 83
noncomputable abbrev fn_s_ctValue : Func := Try.f83
theorem fnat_s_ctValue : Try.prog.funcs[n_s_ctValue]? = some fn_s_ctValue := Try.func83
abbrev n_i_IsMatrix : FuncId := 84
noncomputable abbrev fn_i_IsMatrix : Func := Try.f84
theorem fnat_i_IsMatrix : Try.prog.funcs[n_i_IsMatrix]? = some fn_i_IsMatrix := Try.func84
abbrev n_i_one : FuncId := 85
noncomputable abbrev fn_i_one : Func := Try.f85
theorem fnat_i_one : Try.prog.funcs[n_i_one]? = some fn_i_one := Try.func85
abbrev n_i_times : FuncId := 86
noncomputable abbrev fn_i_times : Func := Try.f86
theorem fnat_i_times : Try.prog.funcs[n_i_times]? = some fn_i_times := Try.func86
abbrev n_slices_IndexFunc_int : FuncId := 92
noncomputable abbrev fn_slices_IndexFunc_int : Func := Try.f92
theorem fnat_slices_IndexFunc_int : Try.prog.funcs[n_slices_IndexFunc_int]? = some fn_slices_IndexFunc_int := Try.func92
abbrev n_i_isEntry : FuncId := 93
noncomputable abbrev fn_i_isEntry : Func := Try.f93
theorem fnat_i_isEntry : Try.prog.funcs[n_i_isEntry]? = some fn_i_isEntry := Try.func93
noncomputable def E0 : TEnv := { P := Try.prog, lib := fun _ => none, raw := fun _ _ _ => none, modes := fun f => if f = n_i_listed then [true, false] else if f = n_l_markIntS then [true] else [], gives := fun _ => [] }
theorem E0ok : E0.OK := ⟨by kernel_rfl, (fun f L h => by cases h), (fun f args R res R' h => by cases h)⟩
end Go.Proofs.W
