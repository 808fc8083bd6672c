/- The functions' numbers. -/
import Derived.Test.YtaanfhjiihekeaaDoorGc9
import Derived.Test.YtaanfhjiihekeaaDoorProg
import Derived.Test.YtaanfhjiihekeaaDoorGr2
import Derived.KernelRfl
namespace Go.Proofs.W
open Go Go.Gm Go.Proofs
abbrev n_l_FnExactPuzzleText : FuncId := 4
noncomputable abbrev fn_l_FnExactPuzzleText : Func := Tryd.f4
theorem fnat_l_FnExactPuzzleText : Tryd.prog.funcs[n_l_FnExactPuzzleText]? = some fn_l_FnExactPuzzleText := Tryd.func4
abbrev n_l_szPuzzle : FuncId := 10
noncomputable abbrev fn_l_szPuzzle : Func := Tryd.f10
theorem fnat_l_szPuzzle : Tryd.prog.funcs[n_l_szPuzzle]? = some fn_l_szPuzzle := Tryd.func10
abbrev n_s_PuzzleText : FuncId := 11
noncomputable abbrev fn_s_PuzzleText : Func := Tryd.f11
theorem fnat_s_PuzzleText : Tryd.prog.funcs[n_s_PuzzleText]? = some fn_s_PuzzleText := Tryd.func11
abbrev n_l_toPuzzle : FuncId := 12
noncomputable abbrev fn_l_toPuzzle : Func := Tryd.f12
theorem fnat_l_toPuzzle : Tryd.prog.funcs[n_l_toPuzzle]? = some fn_l_toPuzzle := Tryd.func12
abbrev n_i_PuzzleText : FuncId := 13
noncomputable abbrev fn_i_PuzzleText : Func := Tryd.f13
theorem fnat_i_PuzzleText : Tryd.prog.funcs[n_i_PuzzleText]? = some fn_i_PuzzleText := Tryd.func13
abbrev n_l_eqPuzzle : FuncId := 14
noncomputable abbrev fn_l_eqPuzzle : Func := Tryd.f14
theorem fnat_l_eqPuzzle : Tryd.prog.funcs[n_l_eqPuzzle]? = some fn_l_eqPuzzle := Tryd.func14
abbrev n_l_szIntS : FuncId := 56
noncomputable abbrev fn_l_szIntS : Func := Tryd.f56
theorem fnat_l_szIntS : Tryd.prog.funcs[n_l_szIntS]? = some fn_l_szIntS := Tryd.func56
abbrev n_s_pzGood : FuncId := 57
noncomputable abbrev fn_s_pzGood : Func := Tryd.f57
theorem fnat_s_pzGood : Tryd.prog.funcs[n_s_pzGood]? = some fn_s_pzGood := Tryd.func57
abbrev n_s_l1Num : FuncId := 58
noncomputable abbrev fn_s_l1Num : Func := Tryd.f58
theorem fnat_s_l1Num : Tryd.prog.funcs[n_s_l1Num]? = some fn_s_l1Num := Tryd.func58
abbrev n_l_toIntS : FuncId := 59
noncomputable abbrev fn_l_toIntS : Func := Tryd.f59
theorem fnat_l_toIntS : Tryd.prog.funcs[n_l_toIntS]? = some fn_l_toIntS := Tryd.func59
abbrev n_i_IsPuzzle : FuncId := 60
noncomputable abbrev fn_i_IsPuzzle : Func := Tryd.f60
theorem fnat_i_IsPuzzle : Tryd.prog.funcs[n_i_IsPuzzle]? = some fn_i_IsPuzzle := Tryd.func60
abbrev n_strings_ReplaceAll : FuncId := 61
noncomputable abbrev fn_strings_ReplaceAll : Func := Tryd.f61
theorem fnat_strings_ReplaceAll : Tryd.prog.funcs[n_strings_ReplaceAll]? = some fn_strings_ReplaceAll := Tryd.func61
abbrev n_i_numbersText : FuncId := 62
noncomputable abbrev fn_i_numbersText : Func := Tryd.f62
theorem fnat_i_numbersText : Tryd.prog.funcs[n_i_numbersText]? = some fn_i_numbersText := Tryd.func62
abbrev n_l_eqIntS : FuncId := 63
noncomputable abbrev fn_l_eqIntS : Func := Tryd.f63
theorem fnat_l_eqIntS : Tryd.prog.funcs[n_l_eqIntS]? = some fn_l_eqIntS := Tryd.func63
abbrev n_i_within : FuncId := 73
noncomputable abbrev fn_i_within : Func := Tryd.f73
theorem fnat_i_within : Tryd.prog.funcs[n_i_within]? = some fn_i_within := Tryd.func73
abbrev n_s_l1In : FuncId := 78
noncomputable abbrev fn_s_l1In : Func := Tryd.f78
theorem fnat_s_l1In : Tryd.prog.funcs[n_s_l1In]? = some fn_s_l1In := Tryd.func78
abbrev n_s_l1All : FuncId := 84
noncomputable abbrev fn_s_l1All : Func := Tryd.f84
theorem fnat_s_l1All : Tryd.prog.funcs[n_s_l1All]? = some fn_s_l1All := Tryd.func84
abbrev n_slices_ContainsFunc_int : FuncId := 85
noncomputable abbrev fn_slices_ContainsFunc_int : Func := Tryd.f85
theorem fnat_slices_ContainsFunc_int : Tryd.prog.funcs[n_slices_ContainsFunc_int]? = some fn_slices_ContainsFunc_int := Tryd.func85
abbrev n_i_IsPuzzle_1 : FuncId := 86
noncomputable abbrev fn_i_IsPuzzle_1 : Func := Tryd.f86
theorem fnat_i_IsPuzzle_1 : Tryd.prog.funcs[n_i_IsPuzzle_1]? = some fn_i_IsPuzzle_1 := Tryd.func86
abbrev n_strconv_Itoa : FuncId := 88
noncomputable abbrev fn_strconv_Itoa : Func := Tryd.f88
theorem fnat_strconv_Itoa : Tryd.prog.funcs[n_strconv_Itoa]? = some fn_strconv_Itoa := Tryd.func88
abbrev n_strings_Join : FuncId := 89
noncomputable abbrev fn_strings_Join : Func := Tryd.f89
theorem fnat_strings_Join : Tryd.prog.funcs[n_strings_Join]? = some fn_strings_Join := Tryd.func89
abbrev n_slices_IndexFunc_int : FuncId := 104
noncomputable abbrev fn_slices_IndexFunc_int : Func := Tryd.f104
theorem fnat_slices_IndexFunc_int : Tryd.prog.funcs[n_slices_IndexFunc_int]? = some fn_slices_IndexFunc_int := Tryd.func104
noncomputable def E0 : TEnv := { P := Tryd.prog, lib := fun _ => none, raw := fun _ _ _ => none, modes := fun f => if f = n_strings_Join then [true, false] else [], gives := fun _ => [] }
theorem E0ok : E0.OK := ⟨by kernel_rfl, (fun f L h => by cases h), (fun f args R res R' h => by cases h)⟩
end Go.Proofs.W
