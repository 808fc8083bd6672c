/- The functions' numbers. -/
import Derived.Test.YtbheicnppelllaaGt15
import Derived.Test.YtbheicnppelllaaGc5
import Derived.Test.YtbheicnppelllaaProg
import Derived.Test.YtbheicnppelllaaGr2
import Derived.KernelRfl
namespace Go.Proofs.W
open Go Go.Gm Go.Proofs
abbrev n_l_FnExactTurnPuzzle : FuncId := 10
noncomputable abbrev fn_l_FnExactTurnPuzzle : Func := Try.f10
theorem fnat_l_FnExactTurnPuzzle : Try.prog.funcs[n_l_FnExactTurnPuzzle]? = some fn_l_FnExactTurnPuzzle := Try.func10
abbrev n_l_eqIntS : FuncId := 16
noncomputable abbrev fn_l_eqIntS : Func := Try.f16
theorem fnat_l_eqIntS : Try.prog.funcs[n_l_eqIntS]? = some fn_l_eqIntS := Try.func16
abbrev n_l_markIntS : FuncId := 17
noncomputable abbrev fn_l_markIntS : Func := Try.f17
theorem fnat_l_markIntS : Try.prog.funcs[n_l_markIntS]? = some fn_l_markIntS := Try.func17
abbrev n_l_heldIntS : FuncId := 18
noncomputable abbrev fn_l_heldIntS : Func := Try.f18
theorem fnat_l_heldIntS : Try.prog.funcs[n_l_heldIntS]? = some fn_l_heldIntS := Try.func18
abbrev n_l_eqPuzzle : FuncId := 21
noncomputable abbrev fn_l_eqPuzzle : Func := Try.f21
theorem fnat_l_eqPuzzle : Try.prog.funcs[n_l_eqPuzzle]? = some fn_l_eqPuzzle := Try.func21
abbrev n_l_markPuzzle : FuncId := 22
noncomputable abbrev fn_l_markPuzzle : Func := Try.f22
theorem fnat_l_markPuzzle : Try.prog.funcs[n_l_markPuzzle]? = some fn_l_markPuzzle := Try.func22
abbrev n_l_heldPuzzle : FuncId := 23
noncomputable abbrev fn_l_heldPuzzle : Func := Try.f23
theorem fnat_l_heldPuzzle : Try.prog.funcs[n_l_heldPuzzle]? = some fn_l_heldPuzzle := Try.func23
abbrev n_l_toIntS : FuncId := 25
noncomputable abbrev fn_l_toIntS : Func := Try.f25
theorem fnat_l_toIntS : Try.prog.funcs[n_l_toIntS]? = some fn_l_toIntS := Try.func25
abbrev n_l_szPuzzle : FuncId := 32
noncomputable abbrev fn_l_szPuzzle : Func := Try.f32
theorem fnat_l_szPuzzle : Try.prog.funcs[n_l_szPuzzle]? = some fn_l_szPuzzle := Try.func32
abbrev n_l_toPuzzle : FuncId := 34
noncomputable abbrev fn_l_toPuzzle : Func := Try.f34
theorem fnat_l_toPuzzle : Try.prog.funcs[n_l_toPuzzle]? = some fn_l_toPuzzle := Try.func34
abbrev n_s_TurnPuzzle : FuncId := 38
noncomputable abbrev fn_s_TurnPuzzle : Func := Try.f38
theorem fnat_s_TurnPuzzle : Try.prog.funcs[n_s_TurnPuzzle]? = some fn_s_TurnPuzzle := Try.func38
abbrev n_i_TurnPuzzle : FuncId := 39
noncomputable abbrev fn_i_TurnPuzzle : Func := Try.f39
theorem fnat_i_TurnPuzzle : Try.prog.funcs[n_i_TurnPuzzle]? = some fn_i_TurnPuzzle := Try.func39
abbrev n_s_pzGood : FuncId := 51
noncomputable abbrev fn_s_pzGood : Func := Try.f51
theorem fnat_s_pzGood : Try.prog.funcs[n_s_pzGood]? = some fn_s_pzGood := Try.func51
abbrev n_i_IsPuzzle : FuncId := 52
noncomputable abbrev fn_i_IsPuzzle : Func := Try.f52
theorem fnat_i_IsPuzzle : Try.prog.funcs[n_i_IsPuzzle]? = some fn_i_IsPuzzle := Try.func52
abbrev n_s_l1In : FuncId := 53
noncomputable abbrev fn_s_l1In : Func := Try.f53
theorem fnat_s_l1In : Try.prog.funcs[n_s_l1In]? = some fn_s_l1In := Try.func53
abbrev n_i_within : FuncId := 55
noncomputable abbrev fn_i_within : Func := Try.f55
theorem fnat_i_within : Try.prog.funcs[n_i_within]? = some fn_i_within := Try.func55
abbrev n_l_szIntS : FuncId := 63
noncomputable abbrev fn_l_szIntS : Func := Try.f63
theorem fnat_l_szIntS : Try.prog.funcs[n_l_szIntS]? = some fn_l_szIntS := Try.func63
abbrev n_i_Puzzle_isPlace : FuncId := 65
noncomputable abbrev fn_i_Puzzle_isPlace : Func := Try.f65
theorem fnat_i_Puzzle_isPlace : Try.prog.funcs[n_i_Puzzle_isPlace]? = some fn_i_Puzzle_isPlace := Try.func65
abbrev n_s_l1Own : FuncId := 67
noncomputable abbrev fn_s_l1Own : Func := Try.f67
theorem fnat_s_l1Own : Try.prog.funcs[n_s_l1Own]? = some fn_s_l1Own := Try.func67
abbrev n_slices_Concat_int : FuncId := 68
noncomputable abbrev fn_slices_Concat_int : Func := Try.f68
theorem fnat_slices_Concat_int : Try.prog.funcs[n_slices_Concat_int]? = some fn_slices_Concat_int := Try.func68
abbrev n_s_l1All : FuncId := 75
noncomputable abbrev fn_s_l1All : Func := Try.f75
theorem fnat_s_l1All : Try.prog.funcs[n_s_l1All]? = some fn_s_l1All := Try.func75
abbrev n_slices_ContainsFunc_int : FuncId := 77
noncomputable abbrev fn_slices_ContainsFunc_int : Func := Try.f77
theorem fnat_slices_ContainsFunc_int : Try.prog.funcs[n_slices_ContainsFunc_int]? = some fn_slices_ContainsFunc_int := Try.func77
abbrev n_i_IsPuzzle_1 : FuncId := 79
noncomputable abbrev fn_i_IsPuzzle_1 : Func := Try.f79
theorem fnat_i_IsPuzzle_1 : Try.prog.funcs[n_i_IsPuzzle_1]? = some fn_i_IsPuzzle_1 := Try.func79
abbrev n_slices_Grow_int : FuncId := 87
noncomputable abbrev fn_slices_Grow_int : Func := Try.f87
theorem fnat_slices_Grow_int : Try.prog.funcs[n_slices_Grow_int]? = some fn_slices_Grow_int := Try.func87
abbrev n_slices_IndexFunc_int : FuncId := 92
noncomputable abbrev fn_slices_IndexFunc_int : Func := Try.f92
theorem fnat_slices_IndexFunc_int : Try.prog.funcs[n_slices_IndexFunc_int]? = some fn_slices_IndexFunc_int := Try.func92
abbrev n_i_listed : FuncId := 49
abbrev n_slices_Delete_int : FuncId := 80
abbrev n_i_takeOne : FuncId := 56
abbrev n_slices_Insert_int : FuncId := 74
abbrev n_slices_Reverse_int : FuncId := 96
noncomputable def E0 : TEnv := { P := Try.prog, lib := fun _ => none, raw := fun _ _ _ => none, modes := fun f => if f = n_slices_Reverse_int then [true, false, false, false] else if f = n_slices_Insert_int then [true, false, true] else if f = n_i_takeOne then [false, false] else if f = n_slices_Delete_int then [true, false, false] else if f = n_l_markPuzzle then [true] else if f = n_i_listed then [true, false] else if f = n_l_markIntS then [true] else [], gives := fun _ => [] }
theorem E0ok : E0.OK := ⟨by kernel_rfl, (fun f L h => by cases h), (fun f args R res R' h => by cases h)⟩
end Go.Proofs.W
