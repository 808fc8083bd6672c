/- The functions' numbers. -/
import Derived.Test.YtbheicnppelllaaGc4
import Derived.Test.YtbheicnppelllaaProg
import Derived.Test.YtbheicnppelllaaGr2
import Derived.KernelRfl
namespace Go.Proofs.W
open Go Go.Gm Go.Proofs
abbrev n_l_FnExactPutOne : FuncId := 13
noncomputable abbrev fn_l_FnExactPutOne : Func := Try.f13
theorem fnat_l_FnExactPutOne : Try.prog.funcs[n_l_FnExactPutOne]? = some fn_l_FnExactPutOne := Try.func13
abbrev n_l_eqIntS : FuncId := 16
noncomputable abbrev fn_l_eqIntS : Func := Try.f16
theorem fnat_l_eqIntS : Try.prog.funcs[n_l_eqIntS]? = some fn_l_eqIntS := Try.func16
abbrev n_l_markIntS : FuncId := 17
noncomputable abbrev fn_l_markIntS : Func := Try.f17
theorem fnat_l_markIntS : Try.prog.funcs[n_l_markIntS]? = some fn_l_markIntS := Try.func17
abbrev n_l_heldIntS : FuncId := 18
noncomputable abbrev fn_l_heldIntS : Func := Try.f18
theorem fnat_l_heldIntS : Try.prog.funcs[n_l_heldIntS]? = some fn_l_heldIntS := Try.func18
abbrev n_l_toIntS : FuncId := 25
noncomputable abbrev fn_l_toIntS : Func := Try.f25
theorem fnat_l_toIntS : Try.prog.funcs[n_l_toIntS]? = some fn_l_toIntS := Try.func25
abbrev n_s_PutOne : FuncId := 44
noncomputable abbrev fn_s_PutOne : Func := Try.f44
theorem fnat_s_PutOne : Try.prog.funcs[n_s_PutOne]? = some fn_s_PutOne := Try.func44
abbrev n_i_PutOne : FuncId := 45
noncomputable abbrev fn_i_PutOne : Func := Try.f45
theorem fnat_i_PutOne : Try.prog.funcs[n_i_PutOne]? = some fn_i_PutOne := Try.func45
abbrev n_s_ctGood : FuncId := 47
noncomputable abbrev fn_s_ctGood : Func := Try.f47
theorem fnat_s_ctGood : Try.prog.funcs[n_s_ctGood]? = some fn_s_ctGood := Try.func47
abbrev n_i_listed : FuncId := 49
noncomputable abbrev fn_i_listed : Func := Try.f49
theorem fnat_i_listed : Try.prog.funcs[n_i_listed]? = some fn_i_listed := Try.func49
abbrev n_i_IsTermList : FuncId := 50
noncomputable abbrev fn_i_IsTermList : Func := Try.f50
theorem fnat_i_IsTermList : Try.prog.funcs[n_i_IsTermList]? = some fn_i_IsTermList := Try.func50
abbrev n_s_l1In : FuncId := 53
noncomputable abbrev fn_s_l1In : Func := Try.f53
theorem fnat_s_l1In : Try.prog.funcs[n_s_l1In]? = some fn_s_l1In := Try.func53
abbrev n_i_within : FuncId := 55
noncomputable abbrev fn_i_within : Func := Try.f55
theorem fnat_i_within : Try.prog.funcs[n_i_within]? = some fn_i_within := Try.func55
abbrev n_s_l1Own : FuncId := 67
noncomputable abbrev fn_s_l1Own : Func := Try.f67
theorem fnat_s_l1Own : Try.prog.funcs[n_s_l1Own]? = some fn_s_l1Own := Try.func67
abbrev n_slices_Clone_int : FuncId := 69
noncomputable abbrev fn_slices_Clone_int : Func := Try.f69
theorem fnat_slices_Clone_int : Try.prog.funcs[n_slices_Clone_int]? = some fn_slices_Clone_int := Try.func69
abbrev n_slices_Insert_int : FuncId := 74
noncomputable abbrev fn_slices_Insert_int : Func := Try.f74
theorem fnat_slices_Insert_int : Try.prog.funcs[n_slices_Insert_int]? = some fn_slices_Insert_int := Try.func74
abbrev n_s_l1All : FuncId := 75
noncomputable abbrev fn_s_l1All : Func := Try.f75
theorem fnat_s_l1All : Try.prog.funcs[n_s_l1All]? = some fn_s_l1All := Try.func75
abbrev n_slices_ContainsFunc_int : FuncId := 77
noncomputable abbrev fn_slices_ContainsFunc_int : Func := Try.f77
theorem fnat_slices_ContainsFunc_int : Try.prog.funcs[n_slices_ContainsFunc_int]? = some fn_slices_ContainsFunc_int := Try.func77
abbrev n_i_IsTermList_1 : FuncId := 78
noncomputable abbrev fn_i_IsTermList_1 : Func := Try.f78
theorem fnat_i_IsTermList_1 : Try.prog.funcs[n_i_IsTermList_1]? = some fn_i_IsTermList_1 := Try.func78
abbrev n_slices_IndexFunc_int : FuncId := 92
noncomputable abbrev fn_slices_IndexFunc_int : Func := Try.f92
theorem fnat_slices_IndexFunc_int : Try.prog.funcs[n_slices_IndexFunc_int]? = some fn_slices_IndexFunc_int := Try.func92
abbrev n_l_markPuzzle : FuncId := 22
abbrev n_slices_Delete_int : FuncId := 80
abbrev n_i_takeOne : FuncId := 56
noncomputable def E0 : TEnv := { P := Try.prog, lib := fun _ => none, raw := fun _ _ _ => none, modes := fun f => if f = n_slices_Insert_int then [true, false, true] else if f = n_i_takeOne then [false, false] else if f = n_slices_Delete_int then [true, false, false] else if f = n_l_markPuzzle then [true] else if f = n_i_listed then [true, false] else if f = n_l_markIntS then [true] else [], gives := fun _ => [] }
theorem E0ok : E0.OK := ⟨by kernel_rfl, (fun f L h => by cases h), (fun f args R res R' h => by cases h)⟩
end Go.Proofs.W
