/- The functions' numbers. -/
import Derived.Test.YtlicdnpbkijhjaaProg
import Derived.Test.YtlicdnpbkijhjaaGr2
import Derived.KernelRfl
namespace Go.Proofs.W
open Go Go.Gm Go.Proofs
abbrev n_l_FnExactIsPuzzle : FuncId := 5
noncomputable abbrev fn_l_FnExactIsPuzzle : Func := Try.f5
theorem fnat_l_FnExactIsPuzzle : Try.prog.funcs[n_l_FnExactIsPuzzle]? = some fn_l_FnExactIsPuzzle := Try.func5
abbrev n_l_szPuzzle : FuncId := 17
noncomputable abbrev fn_l_szPuzzle : Func := Try.f17
theorem fnat_l_szPuzzle : Try.prog.funcs[n_l_szPuzzle]? = some fn_l_szPuzzle := Try.func17
abbrev n_s_IsPuzzle : FuncId := 18
noncomputable abbrev fn_s_IsPuzzle : Func := Try.f18
theorem fnat_s_IsPuzzle : Try.prog.funcs[n_s_IsPuzzle]? = some fn_s_IsPuzzle := Try.func18
abbrev n_l_toPuzzle : FuncId := 19
noncomputable abbrev fn_l_toPuzzle : Func := Try.f19
theorem fnat_l_toPuzzle : Try.prog.funcs[n_l_toPuzzle]? = some fn_l_toPuzzle := Try.func19
abbrev n_i_IsPuzzle : FuncId := 20
noncomputable abbrev fn_i_IsPuzzle : Func := Try.f20
theorem fnat_i_IsPuzzle : Try.prog.funcs[n_i_IsPuzzle]? = some fn_i_IsPuzzle := Try.func20
abbrev n_l_eqPuzzle : FuncId := 21
noncomputable abbrev fn_l_eqPuzzle : Func := Try.f21
theorem fnat_l_eqPuzzle : Try.prog.funcs[n_l_eqPuzzle]? = some fn_l_eqPuzzle := Try.func21
abbrev n_l_toIntS : FuncId := 25
noncomputable abbrev fn_l_toIntS : Func := Try.f25
theorem fnat_l_toIntS : Try.prog.funcs[n_l_toIntS]? = some fn_l_toIntS := Try.func25
abbrev n_l_eqIntS : FuncId := 27
noncomputable abbrev fn_l_eqIntS : Func := Try.f27
theorem fnat_l_eqIntS : Try.prog.funcs[n_l_eqIntS]? = some fn_l_eqIntS := Try.func27
abbrev n_l_szIntS : FuncId := 36
noncomputable abbrev fn_l_szIntS : Func := Try.f36
theorem fnat_l_szIntS : Try.prog.funcs[n_l_szIntS]? = some fn_l_szIntS := Try.func36
abbrev n_s_pzGood : FuncId := 37
noncomputable abbrev fn_s_pzGood : Func := Try.f37
theorem fnat_s_pzGood : Try.prog.funcs[n_s_pzGood]? = some fn_s_pzGood := Try.func37
abbrev n_i_within : FuncId := 38
noncomputable abbrev fn_i_within : Func := Try.f38
theorem fnat_i_within : Try.prog.funcs[n_i_within]? = some fn_i_within := Try.func38
abbrev n_slices_ContainsFunc_int : FuncId := 39
noncomputable abbrev fn_slices_ContainsFunc_int : Func := Try.f39
theorem fnat_slices_ContainsFunc_int : Try.prog.funcs[n_slices_ContainsFunc_int]? = some fn_slices_ContainsFunc_int := Try.func39
abbrev n_i_IsPuzzle_1 : FuncId := 40
noncomputable abbrev fn_i_IsPuzzle_1 : Func := Try.f40
theorem fnat_i_IsPuzzle_1 : Try.prog.funcs[n_i_IsPuzzle_1]? = some fn_i_IsPuzzle_1 := Try.func40
abbrev n_s_l1All : FuncId := 48
noncomputable abbrev fn_s_l1All : Func := Try.f48
theorem fnat_s_l1All : Try.prog.funcs[n_s_l1All]? = some fn_s_l1All := Try.func48
abbrev n_s_l1In : FuncId := 50
noncomputable abbrev fn_s_l1In : Func := Try.f50
theorem fnat_s_l1In : Try.prog.funcs[n_s_l1In]? = some fn_s_l1In := Try.func50
abbrev n_slices_IndexFunc_int : FuncId := 51
noncomputable abbrev fn_slices_IndexFunc_int : Func := Try.f51
theorem fnat_slices_IndexFunc_int : Try.prog.funcs[n_slices_IndexFunc_int]? = some fn_slices_IndexFunc_int := Try.func51
abbrev n_l_markIntS : FuncId := 30
noncomputable def E0 : TEnv := { P := Try.prog, lib := fun _ => none, raw := fun _ _ _ => none, modes := fun f => if f = n_l_markIntS then [true] else [], gives := fun _ => [] }
theorem E0ok : E0.OK := ⟨by kernel_rfl, (fun f L h => by cases h), (fun f args R res R' h => by cases h)⟩
end Go.Proofs.W
