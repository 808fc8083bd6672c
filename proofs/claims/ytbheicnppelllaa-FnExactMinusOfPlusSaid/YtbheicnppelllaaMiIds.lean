/- The functions' numbers. -/
import Derived.Test.YtbheicnppelllaaProg
import Derived.Test.YtbheicnppelllaaGr2
import Derived.KernelRfl
namespace Go.Proofs.W
open Go Go.Gm Go.Proofs
abbrev n_l_FnExactMinusTerms : FuncId := 6
noncomputable abbrev fn_l_FnExactMinusTerms : Func := Try.f6
theorem fnat_l_FnExactMinusTerms : Try.prog.funcs[n_l_FnExactMinusTerms]? = some fn_l_FnExactMinusTerms := Try.func6
abbrev n_l_FnExactMinusOfPlus : FuncId := 12
noncomputable abbrev fn_l_FnExactMinusOfPlus : Func := Try.f12
theorem fnat_l_FnExactMinusOfPlus : Try.prog.funcs[n_l_FnExactMinusOfPlus]? = some fn_l_FnExactMinusOfPlus := Try.func12
abbrev n_l_eqIntS : FuncId := 16
noncomputable abbrev fn_l_eqIntS : Func := Try.f16
theorem fnat_l_eqIntS : Try.prog.funcs[n_l_eqIntS]? = some fn_l_eqIntS := Try.func16
abbrev n_l_markIntS : FuncId := 17
noncomputable abbrev fn_l_markIntS : Func := Try.f17
theorem fnat_l_markIntS : Try.prog.funcs[n_l_markIntS]? = some fn_l_markIntS := Try.func17
abbrev n_l_heldIntS : FuncId := 18
noncomputable abbrev fn_l_heldIntS : Func := Try.f18
theorem fnat_l_heldIntS : Try.prog.funcs[n_l_heldIntS]? = some fn_l_heldIntS := Try.func18
abbrev n_l_toIntS : FuncId := 25
noncomputable abbrev fn_l_toIntS : Func := Try.f25
theorem fnat_l_toIntS : Try.prog.funcs[n_l_toIntS]? = some fn_l_toIntS := Try.func25
abbrev n_s_MinusTerms : FuncId := 27
noncomputable abbrev fn_s_MinusTerms : Func := Try.f27
theorem fnat_s_MinusTerms : Try.prog.funcs[n_s_MinusTerms]? = some fn_s_MinusTerms := Try.func27
abbrev n_i_MinusTerms : FuncId := 28
noncomputable abbrev fn_i_MinusTerms : Func := Try.f28
theorem fnat_i_MinusTerms : Try.prog.funcs[n_i_MinusTerms]? = some fn_i_MinusTerms := Try.func28
abbrev n_s_MinusOfPlus : FuncId := 42
noncomputable abbrev fn_s_MinusOfPlus : Func := Try.f42
theorem fnat_s_MinusOfPlus : Try.prog.funcs[n_s_MinusOfPlus]? = some fn_s_MinusOfPlus := Try.func42
abbrev n_i_MinusOfPlus : FuncId := 43
noncomputable abbrev fn_i_MinusOfPlus : Func := Try.f43
theorem fnat_i_MinusOfPlus : Try.prog.funcs[n_i_MinusOfPlus]? = some fn_i_MinusOfPlus := Try.func43
abbrev n_s_ctPair : FuncId := 46
noncomputable abbrev fn_s_ctPair : Func := Try.f46
theorem fnat_s_ctPair : Try.prog.funcs[n_s_ctPair]? = some fn_s_ctPair := Try.func46
abbrev n_s_ctGood : FuncId := 47
noncomputable abbrev fn_s_ctGood : Func := Try.f47
theorem fnat_s_ctGood : Try.prog.funcs[n_s_ctGood]? = some fn_s_ctGood := Try.func47
abbrev n_i_isLowest : FuncId := 48
noncomputable abbrev fn_i_isLowest : Func := Try.f48
theorem fnat_i_isLowest : Try.prog.funcs[n_i_isLowest]? = some fn_i_isLowest := Try.func48
abbrev n_i_listed : FuncId := 49
noncomputable abbrev fn_i_listed : Func := Try.f49
theorem fnat_i_listed : Try.prog.funcs[n_i_listed]? = some fn_i_listed := Try.func49
abbrev n_i_IsTermList : FuncId := 50
noncomputable abbrev fn_i_IsTermList : Func := Try.f50
theorem fnat_i_IsTermList : Try.prog.funcs[n_i_IsTermList]? = some fn_i_IsTermList := Try.func50
abbrev n_s_l1In : FuncId := 53
noncomputable abbrev fn_s_l1In : Func := Try.f53
theorem fnat_s_l1In : Try.prog.funcs[n_s_l1In]? = some fn_s_l1In := Try.func53
abbrev n_i_within : FuncId := 55
noncomputable abbrev fn_i_within : Func := Try.f55
theorem fnat_i_within : Try.prog.funcs[n_i_within]? = some fn_i_within := Try.func55
abbrev n_s_ctMinus : FuncId := 57
noncomputable abbrev fn_s_ctMinus : Func := Try.f57
theorem fnat_s_ctMinus : Try.prog.funcs[n_s_ctMinus]? = some fn_s_ctMinus := Try.func57
abbrev n_i_minusTerms : FuncId := 58
noncomputable abbrev fn_i_minusTerms : Func := Try.f58
theorem fnat_i_minusTerms : Try.prog.funcs[n_i_minusTerms]? = some fn_i_minusTerms := Try.func58
abbrev n_s_ctPositive : FuncId := 71
noncomputable abbrev fn_s_ctPositive : Func := Try.f71
theorem fnat_s_ctPositive : Try.prog.funcs[n_s_ctPositive]? = some fn_s_ctPositive := Try.func71
abbrev n_s_ctFraction : FuncId := 72
noncomputable abbrev fn_s_ctFraction : Func := Try.f72
theorem fnat_s_ctFraction : Try.prog.funcs[n_s_ctFraction]? = some fn_s_ctFraction := Try.func72
abbrev n_i_FractionOfPlus : FuncId := 73
noncomputable abbrev fn_i_FractionOfPlus : Func := Try.f73
theorem fnat_i_FractionOfPlus : Try.prog.funcs[n_i_FractionOfPlus]? = some fn_i_FractionOfPlus := Try.func73
abbrev n_s_l1All : FuncId := 75
noncomputable abbrev fn_s_l1All : Func := Try.f75
theorem fnat_s_l1All : Try.prog.funcs[n_s_l1All]? = some fn_s_l1All := Try.func75
abbrev n_i_divisor : FuncId := 76
noncomputable abbrev fn_i_divisor : Func := Try.f76
theorem fnat_i_divisor : Try.prog.funcs[n_i_divisor]? = some fn_i_divisor := Try.func76
abbrev n_slices_ContainsFunc_int : FuncId := 77
noncomputable abbrev fn_slices_ContainsFunc_int : Func := Try.f77
theorem fnat_slices_ContainsFunc_int : Try.prog.funcs[n_slices_ContainsFunc_int]? = some fn_slices_ContainsFunc_int := Try.func77
abbrev n_i_IsTermList_1 : FuncId := 78
noncomputable abbrev fn_i_IsTermList_1 : Func := Try.f78
theorem fnat_i_IsTermList_1 : Try.prog.funcs[n_i_IsTermList_1]? = some fn_i_IsTermList_1 := Try.func78
abbrev n_i_areFrom : FuncId := 88
noncomputable abbrev fn_i_areFrom : Func := Try.f88
theorem fnat_i_areFrom : Try.prog.funcs[n_i_areFrom]? = some fn_i_areFrom := Try.func88
abbrev n_i_fraction : FuncId := 89
noncomputable abbrev fn_i_fraction : Func := Try.f89
theorem fnat_i_fraction : Try.prog.funcs[n_i_fraction]? = some fn_i_fraction := Try.func89
abbrev n_slices_IndexFunc_int : FuncId := 92
noncomputable abbrev fn_slices_IndexFunc_int : Func := Try.f92
theorem fnat_slices_IndexFunc_int : Try.prog.funcs[n_slices_IndexFunc_int]? = some fn_slices_IndexFunc_int := Try.func92
abbrev n_slices_Min_int : FuncId := 94
noncomputable abbrev fn_slices_Min_int : Func := Try.f94
theorem fnat_slices_Min_int : Try.prog.funcs[n_slices_Min_int]? = some fn_slices_Min_int := Try.func94
noncomputable def E0 : TEnv := { P := Try.prog, lib := fun _ => none, raw := fun _ _ _ => none, modes := fun f => if f = n_i_listed then [true, false] else if f = n_l_markIntS then [true] else [], gives := fun _ => [] }
theorem E0ok : E0.OK := ⟨by kernel_rfl, (fun f L h => by cases h), (fun f args R res R' h => by cases h)⟩
end Go.Proofs.W
