/- The functions' numbers. -/
import Derived.Test.YtppalpflejcjeaaGt15
import Derived.Test.YtppalpflejcjeaaGt16
import Derived.Test.YtppalpflejcjeaaGc7
import Derived.Test.YtppalpflejcjeaaProg
import Derived.Test.YtppalpflejcjeaaGr2
import Derived.KernelRfl
namespace Go.Proofs.W
open Go Go.Gm Go.Proofs
abbrev n_l_FnExactFirstEqualCut : FuncId := 6
noncomputable abbrev fn_l_FnExactFirstEqualCut : Func := Try.f6
theorem fnat_l_FnExactFirstEqualCut : Try.prog.funcs[n_l_FnExactFirstEqualCut]? = some fn_l_FnExactFirstEqualCut := Try.func6
abbrev n_F27 : FuncId := 12
noncomputable abbrev fn_F27 : Func := Try.f12
theorem fnat_F27 : Try.prog.funcs[n_F27]? = some fn_F27 := Try.func12
abbrev n_F21 : FuncId := 13
noncomputable abbrev fn_F21 : Func := Try.f13
theorem fnat_F21 : Try.prog.funcs[n_F21]? = some fn_F21 := Try.func13
abbrev n_F20 : FuncId := 27
noncomputable abbrev fn_F20 : Func := Try.f27
theorem fnat_F20 : Try.prog.funcs[n_F20]? = some fn_F20 := Try.func27
abbrev n_F19 : FuncId := 28
noncomputable abbrev fn_F19 : Func := Try.f28
theorem fnat_F19 : Try.prog.funcs[n_F19]? = some fn_F19 := Try.func28
abbrev n_F22 : FuncId := 29
noncomputable abbrev fn_F22 : Func := Try.f29
theorem fnat_F22 : Try.prog.funcs[n_F22]? = some fn_F22 := Try.func29
abbrev n_F36 : FuncId := 31
noncomputable abbrev fn_F36 : Func := Try.f31
theorem fnat_F36 : Try.prog.funcs[n_F36]? = some fn_F36 := Try.func31
abbrev n_F44 : FuncId := 34
noncomputable abbrev fn_F44 : Func := Try.f34
theorem fnat_F44 : Try.prog.funcs[n_F44]? = some fn_F44 := Try.func34
abbrev n_F31 : FuncId := 35
noncomputable abbrev fn_F31 : Func := Try.f35
theorem fnat_F31 : Try.prog.funcs[n_F31]? = some fn_F31 := Try.func35
abbrev n_F54 : FuncId := 43
noncomputable abbrev fn_F54 : Func := Try.f43
theorem fnat_F54 : Try.prog.funcs[n_F54]? = some fn_F54 := Try.func43
abbrev n_F47 : FuncId := 44
noncomputable abbrev fn_F47 : Func := Try.f44
theorem fnat_F47 : Try.prog.funcs[n_F47]? = some fn_F47 := Try.func44
abbrev n_F38 : FuncId := 45
noncomputable abbrev fn_F38 : Func := Try.f45
theorem fnat_F38 : Try.prog.funcs[n_F38]? = some fn_F38 := Try.func45
abbrev n_F26 : FuncId := 46
noncomputable abbrev fn_F26 : Func := Try.f46
theorem fnat_F26 : Try.prog.funcs[n_F26]? = some fn_F26 := Try.func46
abbrev n_F65 : FuncId := 47
noncomputable abbrev fn_F65 : Func := Try.f47
theorem fnat_F65 : Try.prog.funcs[n_F65]? = some fn_F65 := Try.func47
abbrev n_F23 : FuncId := 48
noncomputable abbrev fn_F23 : Func := Try.f48
theorem fnat_F23 : Try.prog.funcs[n_F23]? = some fn_F23 := Try.func48
abbrev n_F14 : FuncId := 49
noncomputable abbrev fn_F14 : Func := Try.f49
theorem fnat_F14 : Try.prog.funcs[n_F14]? = some fn_F14 := Try.func49
abbrev n_F39 : FuncId := 50
noncomputable abbrev fn_F39 : Func := Try.f50
theorem fnat_F39 : Try.prog.funcs[n_F39]? = some fn_F39 := Try.func50
abbrev n_F9 : FuncId := 51
noncomputable abbrev fn_F9 : Func := Try.f51
theorem fnat_F9 : Try.prog.funcs[n_F9]? = some fn_F9 := Try.func51
abbrev n_F55 : FuncId := 52
noncomputable abbrev fn_F55 : Func := Try.f52
theorem fnat_F55 : Try.prog.funcs[n_F55]? = some fn_F55 := Try.func52
abbrev n_F28 : FuncId := 53
noncomputable abbrev fn_F28 : Func := Try.f53
theorem fnat_F28 : Try.prog.funcs[n_F28]? = some fn_F28 := Try.func53
abbrev n_F37 : FuncId := 55
noncomputable abbrev fn_F37 : Func := Try.f55
theorem fnat_F37 : Try.prog.funcs[n_F37]? = some fn_F37 := Try.func55
abbrev n_F34 : FuncId := 56
noncomputable abbrev fn_F34 : Func := Try.f56
theorem fnat_F34 : Try.prog.funcs[n_F34]? = some fn_F34 := Try.func56
abbrev n_F35 : FuncId := 57
noncomputable abbrev fn_F35 : Func := Try.f57
theorem fnat_F35 : Try.prog.funcs[n_F35]? = some fn_F35 := Try.func57
abbrev n_F30 : FuncId := 59
noncomputable abbrev fn_F30 : Func := Try.f59
theorem fnat_F30 : Try.prog.funcs[n_F30]? = some fn_F30 := Try.func59
abbrev n_F41 : FuncId := 61
noncomputable abbrev fn_F41 : Func := Try.f61
theorem fnat_F41 : Try.prog.funcs[n_F41]? = some fn_F41 := Try.func61
abbrev n_F15 : FuncId := 62
noncomputable abbrev fn_F15 : Func := Try.f62
theorem fnat_F15 : Try.prog.funcs[n_F15]? = some fn_F15 := Try.func62
abbrev n_F13 : FuncId := 63
noncomputable abbrev fn_F13 : Func := Try.f63
theorem fnat_F13 : Try.prog.funcs[n_F13]? = some fn_F13 := Try.func63
abbrev n_F16 : FuncId := 64
noncomputable abbrev fn_F16 : Func := Try.f64
theorem fnat_F16 : Try.prog.funcs[n_F16]? = some fn_F16 := Try.func64
abbrev n_F11 : FuncId := 65
noncomputable abbrev fn_F11 : Func := Try.f65
theorem fnat_F11 : Try.prog.funcs[n_F11]? = some fn_F11 := Try.func65
abbrev n_F12 : FuncId := 66
noncomputable abbrev fn_F12 : Func := Try.f66
theorem fnat_F12 : Try.prog.funcs[n_F12]? = some fn_F12 := Try.func66
abbrev n_F45 : FuncId := 70
noncomputable abbrev fn_F45 : Func := Try.f70
theorem fnat_F45 : Try.prog.funcs[n_F45]? = some fn_F45 := Try.func70
abbrev n_F42 : FuncId := 77
noncomputable abbrev fn_F42 : Func := Try.f77
theorem fnat_F42 : Try.prog.funcs[n_F42]? = some fn_F42 := Try.func77
abbrev n_F51 : FuncId := 78
noncomputable abbrev fn_F51 : Func := Try.f78
theorem fnat_F51 : Try.prog.funcs[n_F51]? = some fn_F51 := Try.func78
abbrev n_F43 : FuncId := 79
noncomputable abbrev fn_F43 : Func := Try.f79
theorem fnat_F43 : Try.prog.funcs[n_F43]? = some fn_F43 := Try.func79
abbrev n_F5 : FuncId := 82
noncomputable abbrev fn_F5 : Func := Try.f82
theorem fnat_F5 : Try.prog.funcs[n_F5]? = some fn_F5 := Try.func82
abbrev n_F33 : FuncId := 83
noncomputable abbrev fn_F33 : Func := Try.f83
theorem fnat_F33 : Try.prog.funcs[n_F33]? = some fn_F33 := Try.func83
abbrev n_F40 : FuncId := 84
noncomputable abbrev fn_F40 : Func := Try.f84
theorem fnat_F40 : Try.prog.funcs[n_F40]? = some fn_F40 := Try.func84
abbrev n_F17 : FuncId := 85
noncomputable abbrev fn_F17 : Func := Try.f85
theorem fnat_F17 : Try.prog.funcs[n_F17]? = some fn_F17 := Try.func85
abbrev n_F24 : FuncId := 87
noncomputable abbrev fn_F24 : Func := Try.f87
theorem fnat_F24 : Try.prog.funcs[n_F24]? = some fn_F24 := Try.func87
abbrev n_F18 : FuncId := 98
noncomputable abbrev fn_F18 : Func := Try.f98
theorem fnat_F18 : Try.prog.funcs[n_F18]? = some fn_F18 := Try.func98
abbrev n_F25 : FuncId := 99
noncomputable abbrev fn_F25 : Func := Try.f99
theorem fnat_F25 : Try.prog.funcs[n_F25]? = some fn_F25 := Try.func99
abbrev n_F8 : FuncId := 100
noncomputable abbrev fn_F8 : Func := Try.f100
theorem fnat_F8 : Try.prog.funcs[n_F8]? = some fn_F8 := Try.func100
abbrev n_F6 : FuncId := 115
noncomputable abbrev fn_F6 : Func := Try.f115
theorem fnat_F6 : Try.prog.funcs[n_F6]? = some fn_F6 := Try.func115
abbrev n_F3 : FuncId := 122
noncomputable abbrev fn_F3 : Func := Try.f122
theorem fnat_F3 : Try.prog.funcs[n_F3]? = some fn_F3 := Try.func122
abbrev n_F29 : FuncId := 128
noncomputable abbrev fn_F29 : Func := Try.f128
theorem fnat_F29 : Try.prog.funcs[n_F29]? = some fn_F29 := Try.func128
abbrev n_l_markIntS : FuncId := 23
abbrev n_l_markPuzzle : FuncId := 22
abbrev n_slices_pdqsortCmpFunc_Lint : FuncId := 86
abbrev n_slices_insertionSortCmpFunc_Lint : FuncId := 101
abbrev n_slices_DeleteFunc_Lint : FuncId := 73
noncomputable def E0 : TEnv := { P := Try.prog, lib := fun _ => none, raw := fun _ _ _ => none, modes := fun f => if f = n_F3 then [true, false, false, false] else if f = n_F6 then [true, false, false, false] else if f = n_F18 then [true, false, false, false] else if f = n_slices_DeleteFunc_Lint then [true, true] else if f = n_slices_insertionSortCmpFunc_Lint then [true, false, false, false, false] else if f = n_slices_pdqsortCmpFunc_Lint then [true, false, false, false, false] else if f = n_F11 then [true, false] else if f = n_l_markPuzzle then [true] else if f = n_F21 then [true] else if f = n_l_markIntS then [true] else [], gives := fun _ => [] }
theorem E0ok : E0.OK := ⟨by kernel_rfl, (fun f L h => by cases h), (fun f args R res R' h => by cases h)⟩
end Go.Proofs.W
