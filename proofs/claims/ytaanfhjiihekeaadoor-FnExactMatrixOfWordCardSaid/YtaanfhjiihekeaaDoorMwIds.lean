/- The functions' numbers. -/
import Derived.Test.YtaanfhjiihekeaaDoorGc8
import Derived.Test.YtaanfhjiihekeaaDoorProg
import Derived.Test.YtaanfhjiihekeaaDoorGr2
import Derived.KernelRfl
namespace Go.Proofs.W
open Go Go.Gm Go.Proofs
abbrev n_l_FnExactMatrixOfWord : FuncId := 3
noncomputable abbrev fn_l_FnExactMatrixOfWord : Func := Tryd.f3
theorem fnat_l_FnExactMatrixOfWord : Tryd.prog.funcs[n_l_FnExactMatrixOfWord]? = some fn_l_FnExactMatrixOfWord := Tryd.func3
abbrev n_s_MatrixOfWord : FuncId := 7
noncomputable abbrev fn_s_MatrixOfWord : Func := Tryd.f7
theorem fnat_s_MatrixOfWord : Tryd.prog.funcs[n_s_MatrixOfWord]? = some fn_s_MatrixOfWord := Tryd.func7
abbrev n_i_MatrixOfWord : FuncId := 8
noncomputable abbrev fn_i_MatrixOfWord : Func := Tryd.f8
theorem fnat_i_MatrixOfWord : Tryd.prog.funcs[n_i_MatrixOfWord]? = some fn_i_MatrixOfWord := Tryd.func8
abbrev n_l_eqMatrix : FuncId := 9
noncomputable abbrev fn_l_eqMatrix : Func := Tryd.f9
theorem fnat_l_eqMatrix : Tryd.prog.funcs[n_l_eqMatrix]? = some fn_l_eqMatrix := Tryd.func9
abbrev n_i_IsMatrix : FuncId := 28
noncomputable abbrev fn_i_IsMatrix : Func := Tryd.f28
theorem fnat_i_IsMatrix : Tryd.prog.funcs[n_i_IsMatrix]? = some fn_i_IsMatrix := Tryd.func28
abbrev n_s_mxOne : FuncId := 48
noncomputable abbrev fn_s_mxOne : Func := Tryd.f48
theorem fnat_s_mxOne : Tryd.prog.funcs[n_s_mxOne]? = some fn_s_mxOne := Tryd.func48
abbrev n_s_mxLetter : FuncId := 49
noncomputable abbrev fn_s_mxLetter : Func := Tryd.f49
theorem fnat_s_mxLetter : Tryd.prog.funcs[n_s_mxLetter]? = some fn_s_mxLetter := Tryd.func49
abbrev n_s_mxTimes : FuncId := 50
noncomputable abbrev fn_s_mxTimes : Func := Tryd.f50
theorem fnat_s_mxTimes : Tryd.prog.funcs[n_s_mxTimes]? = some fn_s_mxTimes := Tryd.func50
abbrev n_s_mxIf : FuncId := 51
noncomputable abbrev fn_s_mxIf : Func := Tryd.f51
theorem fnat_s_mxIf : Tryd.prog.funcs[n_s_mxIf]? = some fn_s_mxIf := Tryd.func51
abbrev n_i_isWord : FuncId := 52
noncomputable abbrev fn_i_isWord : Func := Tryd.f52
theorem fnat_i_isWord : Tryd.prog.funcs[n_i_isWord]? = some fn_i_isWord := Tryd.func52
abbrev n_i_one : FuncId := 53
noncomputable abbrev fn_i_one : Func := Tryd.f53
theorem fnat_i_one : Tryd.prog.funcs[n_i_one]? = some fn_i_one := Tryd.func53
abbrev n_i_times : FuncId := 54
noncomputable abbrev fn_i_times : Func := Tryd.f54
theorem fnat_i_times : Tryd.prog.funcs[n_i_times]? = some fn_i_times := Tryd.func54
abbrev n_i_checked : FuncId := 55
noncomputable abbrev fn_i_checked : Func := Tryd.f55
theorem fnat_i_checked : Tryd.prog.funcs[n_i_checked]? = some fn_i_checked := Tryd.func55
abbrev n_s_mxGood : FuncId := 66
noncomputable abbrev fn_s_mxGood : Func := Tryd.f66
theorem fnat_s_mxGood : Tryd.prog.funcs[n_s_mxGood]? = some fn_s_mxGood := Tryd.func66
abbrev n_i_within : FuncId := 73
noncomputable abbrev fn_i_within : Func := Tryd.f73
theorem fnat_i_within : Tryd.prog.funcs[n_i_within]? = some fn_i_within := Tryd.func73
abbrev n_i_isEntry : FuncId := 75
noncomputable abbrev fn_i_isEntry : Func := Tryd.f75
theorem fnat_i_isEntry : Tryd.prog.funcs[n_i_isEntry]? = some fn_i_isEntry := Tryd.func75
abbrev n_s_l1In : FuncId := 78
noncomputable abbrev fn_s_l1In : Func := Tryd.f78
theorem fnat_s_l1In : Tryd.prog.funcs[n_s_l1In]? = some fn_s_l1In := Tryd.func78
abbrev n_strings_Trim : FuncId := 83
noncomputable abbrev fn_strings_Trim : Func := Tryd.f83
theorem fnat_strings_Trim : Tryd.prog.funcs[n_strings_Trim]? = some fn_strings_Trim := Tryd.func83
abbrev n_s_l1All : FuncId := 84
noncomputable abbrev fn_s_l1All : Func := Tryd.f84
theorem fnat_s_l1All : Tryd.prog.funcs[n_s_l1All]? = some fn_s_l1All := Tryd.func84
noncomputable def E0 : TEnv := { P := Tryd.prog, lib := fun _ => none, raw := fun _ _ _ => none, modes := fun f => [], gives := fun _ => [] }
theorem E0ok : E0.OK := ⟨by kernel_rfl, (fun f L h => by cases h), (fun f args R res R' h => by cases h)⟩
end Go.Proofs.W
