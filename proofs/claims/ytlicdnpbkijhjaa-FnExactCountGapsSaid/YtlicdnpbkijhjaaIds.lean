/- The functions' numbers. -/
import Derived.Test.YtlicdnpbkijhjaaProg
import Derived.Test.YtlicdnpbkijhjaaGr2
import Derived.KernelRfl
namespace Go.Proofs.W
open Go Go.Gm Go.Proofs
abbrev n_l_FnExactWordOfMatrix : FuncId := 4
noncomputable abbrev fn_l_FnExactWordOfMatrix : Func := Try.f4
theorem fnat_l_FnExactWordOfMatrix : Try.prog.funcs[n_l_FnExactWordOfMatrix]? = some fn_l_FnExactWordOfMatrix := Try.func4
abbrev n_l_FnExactClosesUp : FuncId := 7
noncomputable abbrev fn_l_FnExactClosesUp : Func := Try.f7
theorem fnat_l_FnExactClosesUp : Try.prog.funcs[n_l_FnExactClosesUp]? = some fn_l_FnExactClosesUp := Try.func7
abbrev n_l_FnExactCountGaps : FuncId := 8
noncomputable abbrev fn_l_FnExactCountGaps : Func := Try.f8
theorem fnat_l_FnExactCountGaps : Try.prog.funcs[n_l_FnExactCountGaps]? = some fn_l_FnExactCountGaps := Try.func8
abbrev n_s_WordOfMatrix : FuncId := 14
noncomputable abbrev fn_s_WordOfMatrix : Func := Try.f14
theorem fnat_s_WordOfMatrix : Try.prog.funcs[n_s_WordOfMatrix]? = some fn_s_WordOfMatrix := Try.func14
abbrev n_l_toMatrix : FuncId := 15
noncomputable abbrev fn_l_toMatrix : Func := Try.f15
theorem fnat_l_toMatrix : Try.prog.funcs[n_l_toMatrix]? = some fn_l_toMatrix := Try.func15
abbrev n_i_WordOfMatrix : FuncId := 16
noncomputable abbrev fn_i_WordOfMatrix : Func := Try.f16
theorem fnat_i_WordOfMatrix : Try.prog.funcs[n_i_WordOfMatrix]? = some fn_i_WordOfMatrix := Try.func16
abbrev n_l_szPuzzle : FuncId := 17
noncomputable abbrev fn_l_szPuzzle : Func := Try.f17
theorem fnat_l_szPuzzle : Try.prog.funcs[n_l_szPuzzle]? = some fn_l_szPuzzle := Try.func17
abbrev n_l_toPuzzle : FuncId := 19
noncomputable abbrev fn_l_toPuzzle : Func := Try.f19
theorem fnat_l_toPuzzle : Try.prog.funcs[n_l_toPuzzle]? = some fn_l_toPuzzle := Try.func19
abbrev n_i_IsPuzzle : FuncId := 20
noncomputable abbrev fn_i_IsPuzzle : Func := Try.f20
theorem fnat_i_IsPuzzle : Try.prog.funcs[n_i_IsPuzzle]? = some fn_i_IsPuzzle := Try.func20
abbrev n_l_eqPuzzle : FuncId := 21
noncomputable abbrev fn_l_eqPuzzle : Func := Try.f21
theorem fnat_l_eqPuzzle : Try.prog.funcs[n_l_eqPuzzle]? = some fn_l_eqPuzzle := Try.func21
abbrev n_s_ClosesUp : FuncId := 24
noncomputable abbrev fn_s_ClosesUp : Func := Try.f24
theorem fnat_s_ClosesUp : Try.prog.funcs[n_s_ClosesUp]? = some fn_s_ClosesUp := Try.func24
abbrev n_l_toIntS : FuncId := 25
noncomputable abbrev fn_l_toIntS : Func := Try.f25
theorem fnat_l_toIntS : Try.prog.funcs[n_l_toIntS]? = some fn_l_toIntS := Try.func25
abbrev n_i_ClosesUp : FuncId := 26
noncomputable abbrev fn_i_ClosesUp : Func := Try.f26
theorem fnat_i_ClosesUp : Try.prog.funcs[n_i_ClosesUp]? = some fn_i_ClosesUp := Try.func26
abbrev n_l_eqIntS : FuncId := 27
noncomputable abbrev fn_l_eqIntS : Func := Try.f27
theorem fnat_l_eqIntS : Try.prog.funcs[n_l_eqIntS]? = some fn_l_eqIntS := Try.func27
abbrev n_s_CountGaps : FuncId := 28
noncomputable abbrev fn_s_CountGaps : Func := Try.f28
theorem fnat_s_CountGaps : Try.prog.funcs[n_s_CountGaps]? = some fn_s_CountGaps := Try.func28
abbrev n_i_CountGaps : FuncId := 29
noncomputable abbrev fn_i_CountGaps : Func := Try.f29
theorem fnat_i_CountGaps : Try.prog.funcs[n_i_CountGaps]? = some fn_i_CountGaps := Try.func29
abbrev n_s_mxGood : FuncId := 32
noncomputable abbrev fn_s_mxGood : Func := Try.f32
theorem fnat_s_mxGood : Try.prog.funcs[n_s_mxGood]? = some fn_s_mxGood := Try.func32
abbrev n_s_mxOne : FuncId := 33
noncomputable abbrev fn_s_mxOne : Func := Try.f33
theorem fnat_s_mxOne : Try.prog.funcs[n_s_mxOne]? = some fn_s_mxOne := Try.func33
abbrev n_i_IsMatrix : FuncId := 34
noncomputable abbrev fn_i_IsMatrix : Func := Try.f34
theorem fnat_i_IsMatrix : Try.prog.funcs[n_i_IsMatrix]? = some fn_i_IsMatrix := Try.func34
abbrev n_i_one : FuncId := 35
noncomputable abbrev fn_i_one : Func := Try.f35
theorem fnat_i_one : Try.prog.funcs[n_i_one]? = some fn_i_one := Try.func35
abbrev n_l_szIntS : FuncId := 36
noncomputable abbrev fn_l_szIntS : Func := Try.f36
theorem fnat_l_szIntS : Try.prog.funcs[n_l_szIntS]? = some fn_l_szIntS := Try.func36
abbrev n_s_pzGood : FuncId := 37
noncomputable abbrev fn_s_pzGood : Func := Try.f37
theorem fnat_s_pzGood : Try.prog.funcs[n_s_pzGood]? = some fn_s_pzGood := Try.func37
abbrev n_i_within : FuncId := 38
noncomputable abbrev fn_i_within : Func := Try.f38
theorem fnat_i_within : Try.prog.funcs[n_i_within]? = some fn_i_within := Try.func38
abbrev n_slices_ContainsFunc_int : FuncId := 39
noncomputable abbrev fn_slices_ContainsFunc_int : Func := Try.f39
theorem fnat_slices_ContainsFunc_int : Try.prog.funcs[n_slices_ContainsFunc_int]? = some fn_slices_ContainsFunc_int := Try.func39
abbrev n_i_IsPuzzle_1 : FuncId := 40
noncomputable abbrev fn_i_IsPuzzle_1 : Func := Try.f40
theorem fnat_i_IsPuzzle_1 : Try.prog.funcs[n_i_IsPuzzle_1]? = some fn_i_IsPuzzle_1 := Try.func40
abbrev n_s_ctGood : FuncId := 44
noncomputable abbrev fn_s_ctGood : Func := Try.f44
theorem fnat_s_ctGood : Try.prog.funcs[n_s_ctGood]? = some fn_s_ctGood := Try.func44
abbrev n_s_mxList : FuncId := 45
noncomputable abbrev fn_s_mxList : Func := Try.f45
theorem fnat_s_mxList : Try.prog.funcs[n_s_mxList]? = some fn_s_mxList := Try.func45
abbrev n_i_IsTermList : FuncId := 46
noncomputable abbrev fn_i_IsTermList : Func := Try.f46
theorem fnat_i_IsTermList : Try.prog.funcs[n_i_IsTermList]? = some fn_i_IsTermList := Try.func46
abbrev n_i_matrixOfList : FuncId := 47
noncomputable abbrev fn_i_matrixOfList : Func := Try.f47
theorem fnat_i_matrixOfList : Try.prog.funcs[n_i_matrixOfList]? = some fn_i_matrixOfList := Try.func47
abbrev n_s_l1All : FuncId := 48
noncomputable abbrev fn_s_l1All : Func := Try.f48
theorem fnat_s_l1All : Try.prog.funcs[n_s_l1All]? = some fn_s_l1All := Try.func48
abbrev n_i_isEntry : FuncId := 49
noncomputable abbrev fn_i_isEntry : Func := Try.f49
theorem fnat_i_isEntry : Try.prog.funcs[n_i_isEntry]? = some fn_i_isEntry := Try.func49
abbrev n_s_l1In : FuncId := 50
noncomputable abbrev fn_s_l1In : Func := Try.f50
theorem fnat_s_l1In : Try.prog.funcs[n_s_l1In]? = some fn_s_l1In := Try.func50
abbrev n_slices_IndexFunc_int : FuncId := 51
noncomputable abbrev fn_slices_IndexFunc_int : Func := Try.f51
theorem fnat_slices_IndexFunc_int : Try.prog.funcs[n_slices_IndexFunc_int]? = some fn_slices_IndexFunc_int := Try.func51
abbrev n_s_ctValue : FuncId := 54
noncomputable abbrev fn_s_ctValue : Func := Try.f54
theorem fnat_s_ctValue : Try.prog.funcs[n_s_ctValue]? = some fn_s_ctValue := Try.func54
abbrev n_i_IsTermList_1 : FuncId := 55
noncomputable abbrev fn_i_IsTermList_1 : Func := Try.f55
theorem fnat_i_IsTermList_1 : Try.prog.funcs[n_i_IsTermList_1]? = some fn_i_IsTermList_1 := Try.func55
abbrev n_i_times : FuncId := 56
noncomputable abbrev fn_i_times : Func := Try.f56
theorem fnat_i_times : Try.prog.funcs[n_i_times]? = some fn_i_times := Try.func56
abbrev n_l_markIntS : FuncId := 30
noncomputable def E0 : TEnv := { P := Try.prog, lib := fun _ => none, raw := fun _ _ _ => none, modes := fun f => if f = n_l_markIntS then [true] else [], gives := fun _ => [] }
theorem E0ok : E0.OK := ⟨by kernel_rfl, (fun f L h => by cases h), (fun f args R res R' h => by cases h)⟩
end Go.Proofs.W
