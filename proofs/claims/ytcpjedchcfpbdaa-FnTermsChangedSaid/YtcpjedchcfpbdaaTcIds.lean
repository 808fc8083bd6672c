/- The functions' numbers. -/
import Derived.Test.YtcpjedchcfpbdaaGc4
import Derived.Test.YtcpjedchcfpbdaaProg
import Derived.Test.YtcpjedchcfpbdaaGr2
import Derived.KernelRfl
namespace Go.Proofs.W
open Go Go.Gm Go.Proofs
abbrev n_l_FnTermsChanged : FuncId := 3
noncomputable abbrev fn_l_FnTermsChanged : Func := Try.f3
theorem fnat_l_FnTermsChanged : Try.prog.funcs[n_l_FnTermsChanged]? = some fn_l_FnTermsChanged := Try.func3
abbrev n_l_big : FuncId := 5
noncomputable abbrev fn_l_big : Func := Try.f5
theorem fnat_l_big : Try.prog.funcs[n_l_big]? = some fn_l_big := Try.func5
abbrev n_s_DrawPutOne : FuncId := 6
noncomputable abbrev fn_s_DrawPutOne : Func := Try.f6
theorem fnat_s_DrawPutOne : Try.prog.funcs[n_s_DrawPutOne]? = some fn_s_DrawPutOne := Try.func6
abbrev n_i_PutOne : FuncId := 7
noncomputable abbrev fn_i_PutOne : Func := Try.f7
theorem fnat_i_PutOne : Try.prog.funcs[n_i_PutOne]? = some fn_i_PutOne := Try.func7
abbrev n_s_PutOne : FuncId := 8
noncomputable abbrev fn_s_PutOne : Func := Try.f8
theorem fnat_s_PutOne : Try.prog.funcs[n_s_PutOne]? = some fn_s_PutOne := Try.func8
abbrev n_l_dSame : FuncId := 9
noncomputable abbrev fn_l_dSame : Func := Try.f9
theorem fnat_l_dSame : Try.prog.funcs[n_l_dSame]? = some fn_l_dSame := Try.func9
abbrev n_i_ContinuantOf : FuncId := 10
noncomputable abbrev fn_i_ContinuantOf : Func := Try.f10
theorem fnat_i_ContinuantOf : Try.prog.funcs[n_i_ContinuantOf]? = some fn_i_ContinuantOf := Try.func10
abbrev n_i_TakeOne : FuncId := 11
noncomputable abbrev fn_i_TakeOne : Func := Try.f11
theorem fnat_i_TakeOne : Try.prog.funcs[n_i_TakeOne]? = some fn_i_TakeOne := Try.func11
abbrev n_s_DrawTakeOne : FuncId := 12
noncomputable abbrev fn_s_DrawTakeOne : Func := Try.f12
theorem fnat_s_DrawTakeOne : Try.prog.funcs[n_s_DrawTakeOne]? = some fn_s_DrawTakeOne := Try.func12
abbrev n_s_TakeOne : FuncId := 13
noncomputable abbrev fn_s_TakeOne : Func := Try.f13
theorem fnat_s_TakeOne : Try.prog.funcs[n_s_TakeOne]? = some fn_s_TakeOne := Try.func13
abbrev n_s_DrawReduceOnes : FuncId := 14
noncomputable abbrev fn_s_DrawReduceOnes : Func := Try.f14
theorem fnat_s_DrawReduceOnes : Try.prog.funcs[n_s_DrawReduceOnes]? = some fn_s_DrawReduceOnes := Try.func14
abbrev n_i_ReduceOnes : FuncId := 15
noncomputable abbrev fn_i_ReduceOnes : Func := Try.f15
theorem fnat_i_ReduceOnes : Try.prog.funcs[n_i_ReduceOnes]? = some fn_i_ReduceOnes := Try.func15
abbrev n_s_ReduceOnes : FuncId := 16
noncomputable abbrev fn_s_ReduceOnes : Func := Try.f16
theorem fnat_s_ReduceOnes : Try.prog.funcs[n_s_ReduceOnes]? = some fn_s_ReduceOnes := Try.func16
abbrev n_s_DrawMinusTerms : FuncId := 17
noncomputable abbrev fn_s_DrawMinusTerms : Func := Try.f17
theorem fnat_s_DrawMinusTerms : Try.prog.funcs[n_s_DrawMinusTerms]? = some fn_s_DrawMinusTerms := Try.func17
abbrev n_i_MinusTerms : FuncId := 18
noncomputable abbrev fn_i_MinusTerms : Func := Try.f18
theorem fnat_i_MinusTerms : Try.prog.funcs[n_i_MinusTerms]? = some fn_i_MinusTerms := Try.func18
abbrev n_s_MinusTerms : FuncId := 19
noncomputable abbrev fn_s_MinusTerms : Func := Try.f19
theorem fnat_s_MinusTerms : Try.prog.funcs[n_s_MinusTerms]? = some fn_s_MinusTerms := Try.func19
abbrev n_i_PlusTerms : FuncId := 20
noncomputable abbrev fn_i_PlusTerms : Func := Try.f20
theorem fnat_i_PlusTerms : Try.prog.funcs[n_i_PlusTerms]? = some fn_i_PlusTerms := Try.func20
abbrev n_s_PlusTerms : FuncId := 21
noncomputable abbrev fn_s_PlusTerms : Func := Try.f21
theorem fnat_s_PlusTerms : Try.prog.funcs[n_s_PlusTerms]? = some fn_s_PlusTerms := Try.func21
abbrev n_s_DrawFractionOfPlus : FuncId := 22
noncomputable abbrev fn_s_DrawFractionOfPlus : Func := Try.f22
theorem fnat_s_DrawFractionOfPlus : Try.prog.funcs[n_s_DrawFractionOfPlus]? = some fn_s_DrawFractionOfPlus := Try.func22
abbrev n_i_FractionOfPlus : FuncId := 23
noncomputable abbrev fn_i_FractionOfPlus : Func := Try.f23
theorem fnat_i_FractionOfPlus : Try.prog.funcs[n_i_FractionOfPlus]? = some fn_i_FractionOfPlus := Try.func23
abbrev n_s_FractionOfPlus : FuncId := 24
noncomputable abbrev fn_s_FractionOfPlus : Func := Try.f24
theorem fnat_s_FractionOfPlus : Try.prog.funcs[n_s_FractionOfPlus]? = some fn_s_FractionOfPlus := Try.func24
abbrev n_i_MinusOfPlus : FuncId := 25
noncomputable abbrev fn_i_MinusOfPlus : Func := Try.f25
theorem fnat_i_MinusOfPlus : Try.prog.funcs[n_i_MinusOfPlus]? = some fn_i_MinusOfPlus := Try.func25
abbrev n_s_MinusOfPlus : FuncId := 26
noncomputable abbrev fn_s_MinusOfPlus : Func := Try.f26
theorem fnat_s_MinusOfPlus : Try.prog.funcs[n_s_MinusOfPlus]? = some fn_s_MinusOfPlus := Try.func26
abbrev n_i_FractionOfMinus : FuncId := 27
noncomputable abbrev fn_i_FractionOfMinus : Func := Try.f27
theorem fnat_i_FractionOfMinus : Try.prog.funcs[n_i_FractionOfMinus]? = some fn_i_FractionOfMinus := Try.func27
abbrev n_i_PlusContinuantOf : FuncId := 28
noncomputable abbrev fn_i_PlusContinuantOf : Func := Try.f28
theorem fnat_i_PlusContinuantOf : Try.prog.funcs[n_i_PlusContinuantOf]? = some fn_i_PlusContinuantOf := Try.func28
abbrev n_i_IsTermList : FuncId := 36
noncomputable abbrev fn_i_IsTermList : Func := Try.f36
theorem fnat_i_IsTermList : Try.prog.funcs[n_i_IsTermList]? = some fn_i_IsTermList := Try.func36
abbrev n_s_l1Cur_terms : FuncId := 40
noncomputable abbrev fn_s_l1Cur_terms : Func := Try.f40
theorem fnat_s_l1Cur_terms : Try.prog.funcs[n_s_l1Cur_terms]? = some fn_s_l1Cur_terms := Try.func40
abbrev n_s_l1Cur_pick : FuncId := 41
noncomputable abbrev fn_s_l1Cur_pick : Func := Try.f41
theorem fnat_s_l1Cur_pick : Try.prog.funcs[n_s_l1Cur_pick]? = some fn_s_l1Cur_pick := Try.func41
abbrev n_i_within : FuncId := 42
noncomputable abbrev fn_i_within : Func := Try.f42
theorem fnat_i_within : Try.prog.funcs[n_i_within]? = some fn_i_within := Try.func42
abbrev n_slices_Insert_int : FuncId := 43
noncomputable abbrev fn_slices_Insert_int : Func := Try.f43
theorem fnat_slices_Insert_int : Try.prog.funcs[n_slices_Insert_int]? = some fn_slices_Insert_int := Try.func43
abbrev n_slices_Clone_int : FuncId := 44
noncomputable abbrev fn_slices_Clone_int : Func := Try.f44
theorem fnat_slices_Clone_int : Try.prog.funcs[n_slices_Clone_int]? = some fn_slices_Clone_int := Try.func44
abbrev n_i_listed : FuncId := 45
noncomputable abbrev fn_i_listed : Func := Try.f45
theorem fnat_i_listed : Try.prog.funcs[n_i_listed]? = some fn_i_listed := Try.func45
abbrev n_s_ctGood : FuncId := 46
noncomputable abbrev fn_s_ctGood : Func := Try.f46
theorem fnat_s_ctGood : Try.prog.funcs[n_s_ctGood]? = some fn_s_ctGood := Try.func46
abbrev n_s_l1In : FuncId := 47
noncomputable abbrev fn_s_l1In : Func := Try.f47
theorem fnat_s_l1In : Try.prog.funcs[n_s_l1In]? = some fn_s_l1In := Try.func47
abbrev n_s_l1Own : FuncId := 48
noncomputable abbrev fn_s_l1Own : Func := Try.f48
theorem fnat_s_l1Own : Try.prog.funcs[n_s_l1Own]? = some fn_s_l1Own := Try.func48
abbrev n_i_continuant : FuncId := 49
noncomputable abbrev fn_i_continuant : Func := Try.f49
theorem fnat_i_continuant : Try.prog.funcs[n_i_continuant]? = some fn_i_continuant := Try.func49
abbrev n_i_takeOne : FuncId := 50
noncomputable abbrev fn_i_takeOne : Func := Try.f50
theorem fnat_i_takeOne : Try.prog.funcs[n_i_takeOne]? = some fn_i_takeOne := Try.func50
abbrev n_s_l1Cur_one : FuncId := 51
noncomputable abbrev fn_s_l1Cur_one : Func := Try.f51
theorem fnat_s_l1Cur_one : Try.prog.funcs[n_s_l1Cur_one]? = some fn_s_l1Cur_one := Try.func51
abbrev n_s_ctTake : FuncId := 52
noncomputable abbrev fn_s_ctTake : Func := Try.f52
theorem fnat_s_ctTake : Try.prog.funcs[n_s_ctTake]? = some fn_s_ctTake := Try.func52
abbrev n_slices_Index_int : FuncId := 53
noncomputable abbrev fn_slices_Index_int : Func := Try.f53
theorem fnat_slices_Index_int : Try.prog.funcs[n_slices_Index_int]? = some fn_slices_Index_int := Try.func53
abbrev n_s_l1Cur_among : FuncId := 54
noncomputable abbrev fn_s_l1Cur_among : Func := Try.f54
theorem fnat_s_l1Cur_among : Try.prog.funcs[n_s_l1Cur_among]? = some fn_s_l1Cur_among := Try.func54
abbrev n_s_ctPair : FuncId := 55
noncomputable abbrev fn_s_ctPair : Func := Try.f55
theorem fnat_s_ctPair : Try.prog.funcs[n_s_ctPair]? = some fn_s_ctPair := Try.func55
abbrev n_i_isLowest : FuncId := 56
noncomputable abbrev fn_i_isLowest : Func := Try.f56
theorem fnat_i_isLowest : Try.prog.funcs[n_i_isLowest]? = some fn_i_isLowest := Try.func56
abbrev n_i_minusTerms : FuncId := 57
noncomputable abbrev fn_i_minusTerms : Func := Try.f57
theorem fnat_i_minusTerms : Try.prog.funcs[n_i_minusTerms]? = some fn_i_minusTerms := Try.func57
abbrev n_s_ctMinus : FuncId := 58
noncomputable abbrev fn_s_ctMinus : Func := Try.f58
theorem fnat_s_ctMinus : Try.prog.funcs[n_s_ctMinus]? = some fn_s_ctMinus := Try.func58
abbrev n_i_areFrom : FuncId := 59
noncomputable abbrev fn_i_areFrom : Func := Try.f59
theorem fnat_i_areFrom : Try.prog.funcs[n_i_areFrom]? = some fn_i_areFrom := Try.func59
abbrev n_i_fraction : FuncId := 60
noncomputable abbrev fn_i_fraction : Func := Try.f60
theorem fnat_i_fraction : Try.prog.funcs[n_i_fraction]? = some fn_i_fraction := Try.func60
abbrev n_s_ctPositive : FuncId := 61
noncomputable abbrev fn_s_ctPositive : Func := Try.f61
theorem fnat_s_ctPositive : Try.prog.funcs[n_s_ctPositive]? = some fn_s_ctPositive := Try.func61
abbrev n_s_ctFraction : FuncId := 62
noncomputable abbrev fn_s_ctFraction : Func := Try.f62
theorem fnat_s_ctFraction : Try.prog.funcs[n_s_ctFraction]? = some fn_s_ctFraction := Try.func62
abbrev n_slices_ContainsFunc_int : FuncId := 69
noncomputable abbrev fn_slices_ContainsFunc_int : Func := Try.f69
theorem fnat_slices_ContainsFunc_int : Try.prog.funcs[n_slices_ContainsFunc_int]? = some fn_slices_ContainsFunc_int := Try.func69
abbrev n_i_IsTermList_1 : FuncId := 70
noncomputable abbrev fn_i_IsTermList_1 : Func := Try.f70
theorem fnat_i_IsTermList_1 : Try.prog.funcs[n_i_IsTermList_1]? = some fn_i_IsTermList_1 := Try.func70
abbrev n_s_l1Cur_next : FuncId := 72
noncomputable abbrev fn_s_l1Cur_next : Func := Try.f72
theorem fnat_s_l1Cur_next : Try.prog.funcs[n_s_l1Cur_next]? = some fn_s_l1Cur_next := Try.func72
abbrev n_s_l1All : FuncId := 75
noncomputable abbrev fn_s_l1All : Func := Try.f75
theorem fnat_s_l1All : Try.prog.funcs[n_s_l1All]? = some fn_s_l1All := Try.func75
abbrev n_slices_Delete_int : FuncId := 76
noncomputable abbrev fn_slices_Delete_int : Func := Try.f76
theorem fnat_slices_Delete_int : Try.prog.funcs[n_slices_Delete_int]? = some fn_slices_Delete_int := Try.func76
abbrev n_i_divisor : FuncId := 77
noncomputable abbrev fn_i_divisor : Func := Try.f77
theorem fnat_i_divisor : Try.prog.funcs[n_i_divisor]? = some fn_i_divisor := Try.func77
abbrev n_slices_Min_int : FuncId := 78
noncomputable abbrev fn_slices_Min_int : Func := Try.f78
theorem fnat_slices_Min_int : Try.prog.funcs[n_slices_Min_int]? = some fn_slices_Min_int := Try.func78
abbrev n_slices_IndexFunc_int : FuncId := 85
noncomputable abbrev fn_slices_IndexFunc_int : Func := Try.f85
theorem fnat_slices_IndexFunc_int : Try.prog.funcs[n_slices_IndexFunc_int]? = some fn_slices_IndexFunc_int := Try.func85
abbrev n_slices_SortFunc_Diagonal : FuncId := 87
abbrev n_slices_pdqsortCmpFunc_Diagonal : FuncId := 93
abbrev n_slices_insertionSortCmpFunc_Diagonal : FuncId := 103
abbrev n_slices_Reverse_int : FuncId := 102
noncomputable def E0 : TEnv := { P := Try.prog, lib := fun _ => none, raw := fun _ _ _ => none, modes := fun f => if f = n_slices_Reverse_int then [true, false, false, false] else if f = n_slices_insertionSortCmpFunc_Diagonal then [true, false, false, false, false] else if f = n_slices_pdqsortCmpFunc_Diagonal then [true, false, false, false, false] else if f = n_slices_SortFunc_Diagonal then [true, false] else if f = n_slices_Insert_int then [true, false, true] else if f = n_i_takeOne then [false, false] else if f = n_slices_Delete_int then [true, false, false] else if f = n_i_listed then [true, false] else [], gives := fun _ => [] }
theorem E0ok : E0.OK := ⟨by kernel_rfl, (fun f L h => by cases h), (fun f args R res R' h => by cases h)⟩
end Go.Proofs.W
