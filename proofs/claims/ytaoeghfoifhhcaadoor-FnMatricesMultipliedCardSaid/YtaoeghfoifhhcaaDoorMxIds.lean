/- The functions' numbers. -/
import Derived.Test.YtaoeghfoifhhcaaDoorGc10
import Derived.Test.YtaoeghfoifhhcaaDoorProg
import Derived.Test.YtaoeghfoifhhcaaDoorGr2
import Derived.KernelRfl
namespace Go.Proofs.W
open Go Go.Gm Go.Proofs
abbrev n_l_FnMatricesMultiplied : FuncId := 3
noncomputable abbrev fn_l_FnMatricesMultiplied : Func := Tryd.f3
theorem fnat_l_FnMatricesMultiplied : Tryd.prog.funcs[n_l_FnMatricesMultiplied]? = some fn_l_FnMatricesMultiplied := Tryd.func3
abbrev n_l_big : FuncId := 4
noncomputable abbrev fn_l_big : Func := Tryd.f4
theorem fnat_l_big : Tryd.prog.funcs[n_l_big]? = some fn_l_big := Tryd.func4
abbrev n_s_DrawTimesMatrix : FuncId := 5
noncomputable abbrev fn_s_DrawTimesMatrix : Func := Tryd.f5
theorem fnat_s_DrawTimesMatrix : Tryd.prog.funcs[n_s_DrawTimesMatrix]? = some fn_s_DrawTimesMatrix := Tryd.func5
abbrev n_i_TimesMatrix : FuncId := 6
noncomputable abbrev fn_i_TimesMatrix : Func := Tryd.f6
theorem fnat_i_TimesMatrix : Tryd.prog.funcs[n_i_TimesMatrix]? = some fn_i_TimesMatrix := Tryd.func6
abbrev n_s_TimesMatrix : FuncId := 7
noncomputable abbrev fn_s_TimesMatrix : Func := Tryd.f7
theorem fnat_s_TimesMatrix : Tryd.prog.funcs[n_s_TimesMatrix]? = some fn_s_TimesMatrix := Tryd.func7
abbrev n_i_IsMatrix : FuncId := 8
noncomputable abbrev fn_i_IsMatrix : Func := Tryd.f8
theorem fnat_i_IsMatrix : Tryd.prog.funcs[n_i_IsMatrix]? = some fn_i_IsMatrix := Tryd.func8
abbrev n_i_InverseMatrix : FuncId := 9
noncomputable abbrev fn_i_InverseMatrix : Func := Tryd.f9
theorem fnat_i_InverseMatrix : Tryd.prog.funcs[n_i_InverseMatrix]? = some fn_i_InverseMatrix := Tryd.func9
abbrev n_i_TraceOf : FuncId := 10
noncomputable abbrev fn_i_TraceOf : Func := Tryd.f10
theorem fnat_i_TraceOf : Tryd.prog.funcs[n_i_TraceOf]? = some fn_i_TraceOf := Tryd.func10
abbrev n_s_DrawPowerMatrix : FuncId := 11
noncomputable abbrev fn_s_DrawPowerMatrix : Func := Tryd.f11
theorem fnat_s_DrawPowerMatrix : Tryd.prog.funcs[n_s_DrawPowerMatrix]? = some fn_s_DrawPowerMatrix := Tryd.func11
abbrev n_i_PowerMatrix : FuncId := 12
noncomputable abbrev fn_i_PowerMatrix : Func := Tryd.f12
theorem fnat_i_PowerMatrix : Tryd.prog.funcs[n_i_PowerMatrix]? = some fn_i_PowerMatrix := Tryd.func12
abbrev n_s_PowerMatrix : FuncId := 13
noncomputable abbrev fn_s_PowerMatrix : Func := Tryd.f13
theorem fnat_s_PowerMatrix : Tryd.prog.funcs[n_s_PowerMatrix]? = some fn_s_PowerMatrix := Tryd.func13
abbrev n_s_DrawOrderOf : FuncId := 14
noncomputable abbrev fn_s_DrawOrderOf : Func := Tryd.f14
theorem fnat_s_DrawOrderOf : Tryd.prog.funcs[n_s_DrawOrderOf]? = some fn_s_DrawOrderOf := Tryd.func14
abbrev n_i_OrderOf : FuncId := 15
noncomputable abbrev fn_i_OrderOf : Func := Tryd.f15
theorem fnat_i_OrderOf : Tryd.prog.funcs[n_i_OrderOf]? = some fn_i_OrderOf := Tryd.func15
abbrev n_s_OrderOf : FuncId := 16
noncomputable abbrev fn_s_OrderOf : Func := Tryd.f16
theorem fnat_s_OrderOf : Tryd.prog.funcs[n_s_OrderOf]? = some fn_s_OrderOf := Tryd.func16
abbrev n_s_InverseMatrix : FuncId := 17
noncomputable abbrev fn_s_InverseMatrix : Func := Tryd.f17
theorem fnat_s_InverseMatrix : Tryd.prog.funcs[n_s_InverseMatrix]? = some fn_s_InverseMatrix := Tryd.func17
abbrev n_i_NegateMatrix : FuncId := 18
noncomputable abbrev fn_i_NegateMatrix : Func := Tryd.f18
theorem fnat_i_NegateMatrix : Tryd.prog.funcs[n_i_NegateMatrix]? = some fn_i_NegateMatrix := Tryd.func18
abbrev n_s_NegateMatrix : FuncId := 19
noncomputable abbrev fn_s_NegateMatrix : Func := Tryd.f19
theorem fnat_s_NegateMatrix : Tryd.prog.funcs[n_s_NegateMatrix]? = some fn_s_NegateMatrix := Tryd.func19
abbrev n_s_TraceOf : FuncId := 20
noncomputable abbrev fn_s_TraceOf : Func := Tryd.f20
theorem fnat_s_TraceOf : Tryd.prog.funcs[n_s_TraceOf]? = some fn_s_TraceOf := Tryd.func20
abbrev n_i_FixedSign : FuncId := 21
noncomputable abbrev fn_i_FixedSign : Func := Tryd.f21
theorem fnat_i_FixedSign : Tryd.prog.funcs[n_i_FixedSign]? = some fn_i_FixedSign := Tryd.func21
abbrev n_s_FixedSign : FuncId := 22
noncomputable abbrev fn_s_FixedSign : Func := Tryd.f22
theorem fnat_s_FixedSign : Tryd.prog.funcs[n_s_FixedSign]? = some fn_s_FixedSign := Tryd.func22
abbrev n_i_MatrixText : FuncId := 23
noncomputable abbrev fn_i_MatrixText : Func := Tryd.f23
theorem fnat_i_MatrixText : Tryd.prog.funcs[n_i_MatrixText]? = some fn_i_MatrixText := Tryd.func23
abbrev n_s_MatrixText : FuncId := 24
noncomputable abbrev fn_s_MatrixText : Func := Tryd.f24
theorem fnat_s_MatrixText : Tryd.prog.funcs[n_s_MatrixText]? = some fn_s_MatrixText := Tryd.func24
abbrev n_s_IsMatrix : FuncId := 25
noncomputable abbrev fn_s_IsMatrix : Func := Tryd.f25
theorem fnat_s_IsMatrix : Tryd.prog.funcs[n_s_IsMatrix]? = some fn_s_IsMatrix := Tryd.func25
abbrev n_s_DrawIsConjugateBy : FuncId := 26
noncomputable abbrev fn_s_DrawIsConjugateBy : Func := Tryd.f26
theorem fnat_s_DrawIsConjugateBy : Tryd.prog.funcs[n_s_DrawIsConjugateBy]? = some fn_s_DrawIsConjugateBy := Tryd.func26
abbrev n_i_IsConjugateBy : FuncId := 27
noncomputable abbrev fn_i_IsConjugateBy : Func := Tryd.f27
theorem fnat_i_IsConjugateBy : Tryd.prog.funcs[n_i_IsConjugateBy]? = some fn_i_IsConjugateBy := Tryd.func27
abbrev n_s_IsConjugateBy : FuncId := 28
noncomputable abbrev fn_s_IsConjugateBy : Func := Tryd.f28
theorem fnat_s_IsConjugateBy : Tryd.prog.funcs[n_s_IsConjugateBy]? = some fn_s_IsConjugateBy := Tryd.func28
abbrev n_s_l1Cur_matrix : FuncId := 29
noncomputable abbrev fn_s_l1Cur_matrix : Func := Tryd.f29
theorem fnat_s_l1Cur_matrix : Tryd.prog.funcs[n_s_l1Cur_matrix]? = some fn_s_l1Cur_matrix := Tryd.func29
abbrev n_i_checked : FuncId := 30
noncomputable abbrev fn_i_checked : Func := Tryd.f30
theorem fnat_i_checked : Tryd.prog.funcs[n_i_checked]? = some fn_i_checked := Tryd.func30
abbrev n_i_times : FuncId := 31
noncomputable abbrev fn_i_times : Func := Tryd.f31
theorem fnat_i_times : Tryd.prog.funcs[n_i_times]? = some fn_i_times := Tryd.func31
abbrev n_s_mxGood : FuncId := 32
noncomputable abbrev fn_s_mxGood : Func := Tryd.f32
theorem fnat_s_mxGood : Tryd.prog.funcs[n_s_mxGood]? = some fn_s_mxGood := Tryd.func32
abbrev n_s_mxIf : FuncId := 33
noncomputable abbrev fn_s_mxIf : Func := Tryd.f33
theorem fnat_s_mxIf : Tryd.prog.funcs[n_s_mxIf]? = some fn_s_mxIf := Tryd.func33
abbrev n_s_mxTimes : FuncId := 34
noncomputable abbrev fn_s_mxTimes : Func := Tryd.f34
theorem fnat_s_mxTimes : Tryd.prog.funcs[n_s_mxTimes]? = some fn_s_mxTimes := Tryd.func34
abbrev n_i_isEntry : FuncId := 35
noncomputable abbrev fn_i_isEntry : Func := Tryd.f35
theorem fnat_i_isEntry : Tryd.prog.funcs[n_i_isEntry]? = some fn_i_isEntry := Tryd.func35
abbrev n_i_inverse : FuncId := 36
noncomputable abbrev fn_i_inverse : Func := Tryd.f36
theorem fnat_i_inverse : Tryd.prog.funcs[n_i_inverse]? = some fn_i_inverse := Tryd.func36
abbrev n_s_l1Cur_among : FuncId := 37
noncomputable abbrev fn_s_l1Cur_among : Func := Tryd.f37
theorem fnat_s_l1Cur_among : Tryd.prog.funcs[n_s_l1Cur_among]? = some fn_s_l1Cur_among := Tryd.func37
abbrev n_i_within : FuncId := 38
noncomputable abbrev fn_i_within : Func := Tryd.f38
theorem fnat_i_within : Tryd.prog.funcs[n_i_within]? = some fn_i_within := Tryd.func38
abbrev n_i_power : FuncId := 39
noncomputable abbrev fn_i_power : Func := Tryd.f39
theorem fnat_i_power : Tryd.prog.funcs[n_i_power]? = some fn_i_power := Tryd.func39
abbrev n_s_l1In : FuncId := 40
noncomputable abbrev fn_s_l1In : Func := Tryd.f40
theorem fnat_s_l1In : Tryd.prog.funcs[n_s_l1In]? = some fn_s_l1In := Tryd.func40
abbrev n_s_mxInverse : FuncId := 41
noncomputable abbrev fn_s_mxInverse : Func := Tryd.f41
theorem fnat_s_mxInverse : Tryd.prog.funcs[n_s_mxInverse]? = some fn_s_mxInverse := Tryd.func41
abbrev n_s_mxOne : FuncId := 42
noncomputable abbrev fn_s_mxOne : Func := Tryd.f42
theorem fnat_s_mxOne : Tryd.prog.funcs[n_s_mxOne]? = some fn_s_mxOne := Tryd.func42
abbrev n_s_DrawIsMatrix : FuncId := 43
noncomputable abbrev fn_s_DrawIsMatrix : Func := Tryd.f43
theorem fnat_s_DrawIsMatrix : Tryd.prog.funcs[n_s_DrawIsMatrix]? = some fn_s_DrawIsMatrix := Tryd.func43
abbrev n_i_one : FuncId := 44
noncomputable abbrev fn_i_one : Func := Tryd.f44
theorem fnat_i_one : Tryd.prog.funcs[n_i_one]? = some fn_i_one := Tryd.func44
abbrev n_i_size : FuncId := 45
noncomputable abbrev fn_i_size : Func := Tryd.f45
theorem fnat_i_size : Tryd.prog.funcs[n_i_size]? = some fn_i_size := Tryd.func45
abbrev n_s_l1Abs : FuncId := 46
noncomputable abbrev fn_s_l1Abs : Func := Tryd.f46
theorem fnat_s_l1Abs : Tryd.prog.funcs[n_s_l1Abs]? = some fn_s_l1Abs := Tryd.func46
abbrev n_s_l1Sign : FuncId := 47
noncomputable abbrev fn_s_l1Sign : Func := Tryd.f47
theorem fnat_s_l1Sign : Tryd.prog.funcs[n_s_l1Sign]? = some fn_s_l1Sign := Tryd.func47
abbrev n_i_numbersText : FuncId := 48
noncomputable abbrev fn_i_numbersText : Func := Tryd.f48
theorem fnat_i_numbersText : Tryd.prog.funcs[n_i_numbersText]? = some fn_i_numbersText := Tryd.func48
abbrev n_s_l1Int : FuncId := 49
noncomputable abbrev fn_s_l1Int : Func := Tryd.f49
theorem fnat_s_l1Int : Tryd.prog.funcs[n_s_l1Int]? = some fn_s_l1Int := Tryd.func49
abbrev n_s_l1Cur_one : FuncId := 50
noncomputable abbrev fn_s_l1Cur_one : Func := Tryd.f50
theorem fnat_s_l1Cur_one : Tryd.prog.funcs[n_s_l1Cur_one]? = some fn_s_l1Cur_one := Tryd.func50
abbrev n_s_l1Cur_pick : FuncId := 51
noncomputable abbrev fn_s_l1Cur_pick : Func := Tryd.f51
theorem fnat_s_l1Cur_pick : Tryd.prog.funcs[n_s_l1Cur_pick]? = some fn_s_l1Cur_pick := Tryd.func51
abbrev n_s_MatrixOfWord : FuncId := 52
noncomputable abbrev fn_s_MatrixOfWord : Func := Tryd.f52
theorem fnat_s_MatrixOfWord : Tryd.prog.funcs[n_s_MatrixOfWord]? = some fn_s_MatrixOfWord := Tryd.func52
abbrev n_s_l1Cur_word : FuncId := 53
noncomputable abbrev fn_s_l1Cur_word : Func := Tryd.f53
theorem fnat_s_l1Cur_word : Tryd.prog.funcs[n_s_l1Cur_word]? = some fn_s_l1Cur_word := Tryd.func53
abbrev n_s_MatrixOfList : FuncId := 54
noncomputable abbrev fn_s_MatrixOfList : Func := Tryd.f54
theorem fnat_s_MatrixOfList : Tryd.prog.funcs[n_s_MatrixOfList]? = some fn_s_MatrixOfList := Tryd.func54
abbrev n_s_l1Cur_terms : FuncId := 55
noncomputable abbrev fn_s_l1Cur_terms : Func := Tryd.f55
theorem fnat_s_l1Cur_terms : Tryd.prog.funcs[n_s_l1Cur_terms]? = some fn_s_l1Cur_terms := Tryd.func55
abbrev n_s_l1All : FuncId := 56
noncomputable abbrev fn_s_l1All : Func := Tryd.f56
theorem fnat_s_l1All : Tryd.prog.funcs[n_s_l1All]? = some fn_s_l1All := Tryd.func56
abbrev n_s_l1Most : FuncId := 57
noncomputable abbrev fn_s_l1Most : Func := Tryd.f57
theorem fnat_s_l1Most : Tryd.prog.funcs[n_s_l1Most]? = some fn_s_l1Most := Tryd.func57
abbrev n_strconv_Itoa : FuncId := 58
noncomputable abbrev fn_strconv_Itoa : Func := Tryd.f58
theorem fnat_strconv_Itoa : Tryd.prog.funcs[n_strconv_Itoa]? = some fn_strconv_Itoa := Tryd.func58
abbrev n_strings_Join : FuncId := 59
noncomputable abbrev fn_strings_Join : Func := Tryd.f59
theorem fnat_strings_Join : Tryd.prog.funcs[n_strings_Join]? = some fn_strings_Join := Tryd.func59
abbrev n_s_l1Num : FuncId := 60
noncomputable abbrev fn_s_l1Num : Func := Tryd.f60
theorem fnat_s_l1Num : Tryd.prog.funcs[n_s_l1Num]? = some fn_s_l1Num := Tryd.func60
abbrev n_s_l1Cur_next : FuncId := 61
noncomputable abbrev fn_s_l1Cur_next : Func := Tryd.f61
theorem fnat_s_l1Cur_next : Tryd.prog.funcs[n_s_l1Cur_next]? = some fn_s_l1Cur_next := Tryd.func61
abbrev n_s_mxLetter : FuncId := 62
noncomputable abbrev fn_s_mxLetter : Func := Tryd.f62
theorem fnat_s_mxLetter : Tryd.prog.funcs[n_s_mxLetter]? = some fn_s_mxLetter := Tryd.func62
abbrev n_s_l1Cur_of : FuncId := 63
noncomputable abbrev fn_s_l1Cur_of : Func := Tryd.f63
theorem fnat_s_l1Cur_of : Tryd.prog.funcs[n_s_l1Cur_of]? = some fn_s_l1Cur_of := Tryd.func63
abbrev n_s_l1Cur_spoilt : FuncId := 64
noncomputable abbrev fn_s_l1Cur_spoilt : Func := Tryd.f64
theorem fnat_s_l1Cur_spoilt : Tryd.prog.funcs[n_s_l1Cur_spoilt]? = some fn_s_l1Cur_spoilt := Tryd.func64
abbrev n_s_ctGood : FuncId := 65
noncomputable abbrev fn_s_ctGood : Func := Tryd.f65
theorem fnat_s_ctGood : Tryd.prog.funcs[n_s_ctGood]? = some fn_s_ctGood := Tryd.func65
abbrev n_s_mxList : FuncId := 66
noncomputable abbrev fn_s_mxList : Func := Tryd.f66
theorem fnat_s_mxList : Tryd.prog.funcs[n_s_mxList]? = some fn_s_mxList := Tryd.func66
abbrev n_s_ctValue : FuncId := 71
noncomputable abbrev fn_s_ctValue : Func := Tryd.f71
theorem fnat_s_ctValue : Tryd.prog.funcs[n_s_ctValue]? = some fn_s_ctValue := Tryd.func71
noncomputable def E0 : TEnv := { P := Tryd.prog, lib := fun _ => none, raw := fun _ _ _ => none, modes := fun f => if f = n_strings_Join then [true, false] else [], gives := fun _ => [] }
theorem E0ok : E0.OK := ⟨by kernel_rfl, (fun f L h => by cases h), (fun f args R res R' h => by cases h)⟩
end Go.Proofs.W
