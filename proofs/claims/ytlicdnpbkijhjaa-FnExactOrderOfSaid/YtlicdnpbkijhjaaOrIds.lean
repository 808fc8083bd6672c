/- The functions' numbers. -/
import Derived.Test.YtlicdnpbkijhjaaProg
import Derived.Test.YtlicdnpbkijhjaaGr2
import Derived.KernelRfl
namespace Go.Proofs.W
open Go Go.Gm Go.Proofs
abbrev n_l_FnExactOrderOf : FuncId := 6
noncomputable abbrev fn_l_FnExactOrderOf : Func := Try.f6
theorem fnat_l_FnExactOrderOf : Try.prog.funcs[n_l_FnExactOrderOf]? = some fn_l_FnExactOrderOf := Try.func6
abbrev n_l_toMatrix : FuncId := 15
noncomputable abbrev fn_l_toMatrix : Func := Try.f15
theorem fnat_l_toMatrix : Try.prog.funcs[n_l_toMatrix]? = some fn_l_toMatrix := Try.func15
abbrev n_s_OrderOf : FuncId := 22
noncomputable abbrev fn_s_OrderOf : Func := Try.f22
theorem fnat_s_OrderOf : Try.prog.funcs[n_s_OrderOf]? = some fn_s_OrderOf := Try.func22
abbrev n_i_OrderOf : FuncId := 23
noncomputable abbrev fn_i_OrderOf : Func := Try.f23
theorem fnat_i_OrderOf : Try.prog.funcs[n_i_OrderOf]? = some fn_i_OrderOf := Try.func23
abbrev n_s_mxGood : FuncId := 32
noncomputable abbrev fn_s_mxGood : Func := Try.f32
theorem fnat_s_mxGood : Try.prog.funcs[n_s_mxGood]? = some fn_s_mxGood := Try.func32
abbrev n_s_mxOne : FuncId := 33
noncomputable abbrev fn_s_mxOne : Func := Try.f33
theorem fnat_s_mxOne : Try.prog.funcs[n_s_mxOne]? = some fn_s_mxOne := Try.func33
abbrev n_i_IsMatrix : FuncId := 34
noncomputable abbrev fn_i_IsMatrix : Func := Try.f34
theorem fnat_i_IsMatrix : Try.prog.funcs[n_i_IsMatrix]? = some fn_i_IsMatrix := Try.func34
abbrev n_i_one : FuncId := 35
noncomputable abbrev fn_i_one : Func := Try.f35
theorem fnat_i_one : Try.prog.funcs[n_i_one]? = some fn_i_one := Try.func35
abbrev n_i_within : FuncId := 38
noncomputable abbrev fn_i_within : Func := Try.f38
theorem fnat_i_within : Try.prog.funcs[n_i_within]? = some fn_i_within := Try.func38
abbrev n_s_mxIf : FuncId := 41
noncomputable abbrev fn_s_mxIf : Func := Try.f41
theorem fnat_s_mxIf : Try.prog.funcs[n_s_mxIf]? = some fn_s_mxIf := Try.func41
abbrev n_s_mxTimes : FuncId := 42
noncomputable abbrev fn_s_mxTimes : Func := Try.f42
theorem fnat_s_mxTimes : Try.prog.funcs[n_s_mxTimes]? = some fn_s_mxTimes := Try.func42
abbrev n_i_power : FuncId := 43
noncomputable abbrev fn_i_power : Func := Try.f43
theorem fnat_i_power : Try.prog.funcs[n_i_power]? = some fn_i_power := Try.func43
abbrev n_s_l1All : FuncId := 48
noncomputable abbrev fn_s_l1All : Func := Try.f48
theorem fnat_s_l1All : Try.prog.funcs[n_s_l1All]? = some fn_s_l1All := Try.func48
abbrev n_i_isEntry : FuncId := 49
noncomputable abbrev fn_i_isEntry : Func := Try.f49
theorem fnat_i_isEntry : Try.prog.funcs[n_i_isEntry]? = some fn_i_isEntry := Try.func49
abbrev n_s_l1In : FuncId := 50
noncomputable abbrev fn_s_l1In : Func := Try.f50
theorem fnat_s_l1In : Try.prog.funcs[n_s_l1In]? = some fn_s_l1In := Try.func50
abbrev n_i_size : FuncId := 52
noncomputable abbrev fn_i_size : Func := Try.f52
theorem fnat_i_size : Try.prog.funcs[n_i_size]? = some fn_i_size := Try.func52
abbrev n_i_checked : FuncId := 53
noncomputable abbrev fn_i_checked : Func := Try.f53
theorem fnat_i_checked : Try.prog.funcs[n_i_checked]? = some fn_i_checked := Try.func53
abbrev n_l_markIntS : FuncId := 30
noncomputable def E0 : TEnv := { P := Try.prog, lib := fun _ => none, raw := fun _ _ _ => none, modes := fun f => if f = n_l_markIntS then [true] else [], gives := fun _ => [] }
theorem E0ok : E0.OK := ⟨by kernel_rfl, (fun f L h => by cases h), (fun f args R res R' h => by cases h)⟩
end Go.Proofs.W
