/- The functions' numbers. -/
import Derived.Test.YtaanfhjiihekeaaDoorGc8
import Derived.Test.YtaanfhjiihekeaaDoorProg
import Derived.Test.YtaanfhjiihekeaaDoorGr2
import Derived.KernelRfl
namespace Go.Proofs.W
open Go Go.Gm Go.Proofs
abbrev n_l_FnWordsTold : FuncId := 5
noncomputable abbrev fn_l_FnWordsTold : Func := Tryd.f5
theorem fnat_l_FnWordsTold : Tryd.prog.funcs[n_l_FnWordsTold]? = some fn_l_FnWordsTold := Tryd.func5
abbrev n_s_MatrixOfWord : FuncId := 7
noncomputable abbrev fn_s_MatrixOfWord : Func := Tryd.f7
theorem fnat_s_MatrixOfWord : Tryd.prog.funcs[n_s_MatrixOfWord]? = some fn_s_MatrixOfWord := Tryd.func7
abbrev n_i_MatrixOfWord : FuncId := 8
noncomputable abbrev fn_i_MatrixOfWord : Func := Tryd.f8
theorem fnat_i_MatrixOfWord : Tryd.prog.funcs[n_i_MatrixOfWord]? = some fn_i_MatrixOfWord := Tryd.func8
abbrev n_l_big : FuncId := 15
noncomputable abbrev fn_l_big : Func := Tryd.f15
theorem fnat_l_big : Tryd.prog.funcs[n_l_big]? = some fn_l_big := Tryd.func15
abbrev n_s_DrawMatrixOfWord : FuncId := 16
noncomputable abbrev fn_s_DrawMatrixOfWord : Func := Tryd.f16
theorem fnat_s_DrawMatrixOfWord : Tryd.prog.funcs[n_s_DrawMatrixOfWord]? = some fn_s_DrawMatrixOfWord := Tryd.func16
abbrev n_i_WordOfMatrix : FuncId := 17
noncomputable abbrev fn_i_WordOfMatrix : Func := Tryd.f17
theorem fnat_i_WordOfMatrix : Tryd.prog.funcs[n_i_WordOfMatrix]? = some fn_i_WordOfMatrix := Tryd.func17
abbrev n_i_TimesMatrix : FuncId := 18
noncomputable abbrev fn_i_TimesMatrix : Func := Tryd.f18
theorem fnat_i_TimesMatrix : Tryd.prog.funcs[n_i_TimesMatrix]? = some fn_i_TimesMatrix := Tryd.func18
abbrev n_s_DrawWordOfMatrix : FuncId := 19
noncomputable abbrev fn_s_DrawWordOfMatrix : Func := Tryd.f19
theorem fnat_s_DrawWordOfMatrix : Tryd.prog.funcs[n_s_DrawWordOfMatrix]? = some fn_s_DrawWordOfMatrix := Tryd.func19
abbrev n_s_WordOfMatrix : FuncId := 20
noncomputable abbrev fn_s_WordOfMatrix : Func := Tryd.f20
theorem fnat_s_WordOfMatrix : Tryd.prog.funcs[n_s_WordOfMatrix]? = some fn_s_WordOfMatrix := Tryd.func20
abbrev n_s_DrawMoveFraction : FuncId := 21
noncomputable abbrev fn_s_DrawMoveFraction : Func := Tryd.f21
theorem fnat_s_DrawMoveFraction : Tryd.prog.funcs[n_s_DrawMoveFraction]? = some fn_s_DrawMoveFraction := Tryd.func21
abbrev n_i_MoveFraction : FuncId := 22
noncomputable abbrev fn_i_MoveFraction : Func := Tryd.f22
theorem fnat_i_MoveFraction : Tryd.prog.funcs[n_i_MoveFraction]? = some fn_i_MoveFraction := Tryd.func22
abbrev n_s_MoveFraction : FuncId := 23
noncomputable abbrev fn_s_MoveFraction : Func := Tryd.f23
theorem fnat_s_MoveFraction : Tryd.prog.funcs[n_s_MoveFraction]? = some fn_s_MoveFraction := Tryd.func23
abbrev n_i_InverseMatrix : FuncId := 24
noncomputable abbrev fn_i_InverseMatrix : Func := Tryd.f24
theorem fnat_i_InverseMatrix : Tryd.prog.funcs[n_i_InverseMatrix]? = some fn_i_InverseMatrix := Tryd.func24
abbrev n_i_IsFraction : FuncId := 25
noncomputable abbrev fn_i_IsFraction : Func := Tryd.f25
theorem fnat_i_IsFraction : Tryd.prog.funcs[n_i_IsFraction]? = some fn_i_IsFraction := Tryd.func25
abbrev n_i_IsMatrix : FuncId := 28
noncomputable abbrev fn_i_IsMatrix : Func := Tryd.f28
theorem fnat_i_IsMatrix : Tryd.prog.funcs[n_i_IsMatrix]? = some fn_i_IsMatrix := Tryd.func28
abbrev n_s_mxOne : FuncId := 48
noncomputable abbrev fn_s_mxOne : Func := Tryd.f48
theorem fnat_s_mxOne : Tryd.prog.funcs[n_s_mxOne]? = some fn_s_mxOne := Tryd.func48
abbrev n_s_mxLetter : FuncId := 49
noncomputable abbrev fn_s_mxLetter : Func := Tryd.f49
theorem fnat_s_mxLetter : Tryd.prog.funcs[n_s_mxLetter]? = some fn_s_mxLetter := Tryd.func49
abbrev n_s_mxTimes : FuncId := 50
noncomputable abbrev fn_s_mxTimes : Func := Tryd.f50
theorem fnat_s_mxTimes : Tryd.prog.funcs[n_s_mxTimes]? = some fn_s_mxTimes := Tryd.func50
abbrev n_s_mxIf : FuncId := 51
noncomputable abbrev fn_s_mxIf : Func := Tryd.f51
theorem fnat_s_mxIf : Tryd.prog.funcs[n_s_mxIf]? = some fn_s_mxIf := Tryd.func51
abbrev n_i_isWord : FuncId := 52
noncomputable abbrev fn_i_isWord : Func := Tryd.f52
theorem fnat_i_isWord : Tryd.prog.funcs[n_i_isWord]? = some fn_i_isWord := Tryd.func52
abbrev n_i_one : FuncId := 53
noncomputable abbrev fn_i_one : Func := Tryd.f53
theorem fnat_i_one : Tryd.prog.funcs[n_i_one]? = some fn_i_one := Tryd.func53
abbrev n_i_times : FuncId := 54
noncomputable abbrev fn_i_times : Func := Tryd.f54
theorem fnat_i_times : Tryd.prog.funcs[n_i_times]? = some fn_i_times := Tryd.func54
abbrev n_i_checked : FuncId := 55
noncomputable abbrev fn_i_checked : Func := Tryd.f55
theorem fnat_i_checked : Tryd.prog.funcs[n_i_checked]? = some fn_i_checked := Tryd.func55
abbrev n_s_l1Cur_word : FuncId := 64
noncomputable abbrev fn_s_l1Cur_word : Func := Tryd.f64
theorem fnat_s_l1Cur_word : Tryd.prog.funcs[n_s_l1Cur_word]? = some fn_s_l1Cur_word := Tryd.func64
abbrev n_s_DrawIsMatrix : FuncId := 65
noncomputable abbrev fn_s_DrawIsMatrix : Func := Tryd.f65
theorem fnat_s_DrawIsMatrix : Tryd.prog.funcs[n_s_DrawIsMatrix]? = some fn_s_DrawIsMatrix := Tryd.func65
abbrev n_s_mxGood : FuncId := 66
noncomputable abbrev fn_s_mxGood : Func := Tryd.f66
theorem fnat_s_mxGood : Tryd.prog.funcs[n_s_mxGood]? = some fn_s_mxGood := Tryd.func66
abbrev n_s_l1Cur_matrix : FuncId := 67
noncomputable abbrev fn_s_l1Cur_matrix : Func := Tryd.f67
theorem fnat_s_l1Cur_matrix : Tryd.prog.funcs[n_s_l1Cur_matrix]? = some fn_s_l1Cur_matrix := Tryd.func67
abbrev n_s_l1Cur_fraction : FuncId := 68
noncomputable abbrev fn_s_l1Cur_fraction : Func := Tryd.f68
theorem fnat_s_l1Cur_fraction : Tryd.prog.funcs[n_s_l1Cur_fraction]? = some fn_s_l1Cur_fraction := Tryd.func68
abbrev n_i_size : FuncId := 69
noncomputable abbrev fn_i_size : Func := Tryd.f69
theorem fnat_i_size : Tryd.prog.funcs[n_i_size]? = some fn_i_size := Tryd.func69
abbrev n_s_nbGood : FuncId := 70
noncomputable abbrev fn_s_nbGood : Func := Tryd.f70
theorem fnat_s_nbGood : Tryd.prog.funcs[n_s_nbGood]? = some fn_s_nbGood := Tryd.func70
abbrev n_s_l1Abs : FuncId := 71
noncomputable abbrev fn_s_l1Abs : Func := Tryd.f71
theorem fnat_s_l1Abs : Tryd.prog.funcs[n_s_l1Abs]? = some fn_s_l1Abs := Tryd.func71
abbrev n_i_inverse : FuncId := 72
noncomputable abbrev fn_i_inverse : Func := Tryd.f72
theorem fnat_i_inverse : Tryd.prog.funcs[n_i_inverse]? = some fn_i_inverse := Tryd.func72
abbrev n_i_within : FuncId := 73
noncomputable abbrev fn_i_within : Func := Tryd.f73
theorem fnat_i_within : Tryd.prog.funcs[n_i_within]? = some fn_i_within := Tryd.func73
abbrev n_i_divisor : FuncId := 74
noncomputable abbrev fn_i_divisor : Func := Tryd.f74
theorem fnat_i_divisor : Tryd.prog.funcs[n_i_divisor]? = some fn_i_divisor := Tryd.func74
abbrev n_i_isEntry : FuncId := 75
noncomputable abbrev fn_i_isEntry : Func := Tryd.f75
theorem fnat_i_isEntry : Tryd.prog.funcs[n_i_isEntry]? = some fn_i_isEntry := Tryd.func75
abbrev n_s_l1Cur_among : FuncId := 76
noncomputable abbrev fn_s_l1Cur_among : Func := Tryd.f76
theorem fnat_s_l1Cur_among : Tryd.prog.funcs[n_s_l1Cur_among]? = some fn_s_l1Cur_among := Tryd.func76
abbrev n_s_l1In : FuncId := 78
noncomputable abbrev fn_s_l1In : Func := Tryd.f78
theorem fnat_s_l1In : Tryd.prog.funcs[n_s_l1In]? = some fn_s_l1In := Tryd.func78
abbrev n_s_l1Cur_one : FuncId := 82
noncomputable abbrev fn_s_l1Cur_one : Func := Tryd.f82
theorem fnat_s_l1Cur_one : Tryd.prog.funcs[n_s_l1Cur_one]? = some fn_s_l1Cur_one := Tryd.func82
abbrev n_strings_Trim : FuncId := 83
noncomputable abbrev fn_strings_Trim : Func := Tryd.f83
theorem fnat_strings_Trim : Tryd.prog.funcs[n_strings_Trim]? = some fn_strings_Trim := Tryd.func83
abbrev n_s_l1All : FuncId := 84
noncomputable abbrev fn_s_l1All : Func := Tryd.f84
theorem fnat_s_l1All : Tryd.prog.funcs[n_s_l1All]? = some fn_s_l1All := Tryd.func84
abbrev n_s_l1Cur_pick : FuncId := 90
noncomputable abbrev fn_s_l1Cur_pick : Func := Tryd.f90
theorem fnat_s_l1Cur_pick : Tryd.prog.funcs[n_s_l1Cur_pick]? = some fn_s_l1Cur_pick := Tryd.func90
abbrev n_s_l1Cur_of : FuncId := 91
noncomputable abbrev fn_s_l1Cur_of : Func := Tryd.f91
theorem fnat_s_l1Cur_of : Tryd.prog.funcs[n_s_l1Cur_of]? = some fn_s_l1Cur_of := Tryd.func91
abbrev n_s_l1Cur_spoilt : FuncId := 92
noncomputable abbrev fn_s_l1Cur_spoilt : Func := Tryd.f92
theorem fnat_s_l1Cur_spoilt : Tryd.prog.funcs[n_s_l1Cur_spoilt]? = some fn_s_l1Cur_spoilt := Tryd.func92
abbrev n_s_MatrixOfList : FuncId := 93
noncomputable abbrev fn_s_MatrixOfList : Func := Tryd.f93
theorem fnat_s_MatrixOfList : Tryd.prog.funcs[n_s_MatrixOfList]? = some fn_s_MatrixOfList := Tryd.func93
abbrev n_s_l1Cur_terms : FuncId := 94
noncomputable abbrev fn_s_l1Cur_terms : Func := Tryd.f94
theorem fnat_s_l1Cur_terms : Tryd.prog.funcs[n_s_l1Cur_terms]? = some fn_s_l1Cur_terms := Tryd.func94
abbrev n_s_nbMediant : FuncId := 95
noncomputable abbrev fn_s_nbMediant : Func := Tryd.f95
theorem fnat_s_nbMediant : Tryd.prog.funcs[n_s_nbMediant]? = some fn_s_nbMediant := Tryd.func95
abbrev n_s_l1Most : FuncId := 96
noncomputable abbrev fn_s_l1Most : Func := Tryd.f96
theorem fnat_s_l1Most : Tryd.prog.funcs[n_s_l1Most]? = some fn_s_l1Most := Tryd.func96
abbrev n_s_l1Cur_next : FuncId := 112
noncomputable abbrev fn_s_l1Cur_next : Func := Tryd.f112
theorem fnat_s_l1Cur_next : Tryd.prog.funcs[n_s_l1Cur_next]? = some fn_s_l1Cur_next := Tryd.func112
abbrev n_s_ctGood : FuncId := 113
noncomputable abbrev fn_s_ctGood : Func := Tryd.f113
theorem fnat_s_ctGood : Tryd.prog.funcs[n_s_ctGood]? = some fn_s_ctGood := Tryd.func113
abbrev n_s_mxList : FuncId := 114
noncomputable abbrev fn_s_mxList : Func := Tryd.f114
theorem fnat_s_mxList : Tryd.prog.funcs[n_s_mxList]? = some fn_s_mxList := Tryd.func114
abbrev n_s_ctValue : FuncId := 125
noncomputable abbrev fn_s_ctValue : Func := Tryd.f125
theorem fnat_s_ctValue : Tryd.prog.funcs[n_s_ctValue]? = some fn_s_ctValue := Tryd.func125
noncomputable def E0 : TEnv := { P := Tryd.prog, lib := fun _ => none, raw := fun _ _ _ => none, modes := fun f => [], gives := fun _ => [] }
theorem E0ok : E0.OK := ⟨by kernel_rfl, (fun f L h => by cases h), (fun f args R res R' h => by cases h)⟩
end Go.Proofs.W
