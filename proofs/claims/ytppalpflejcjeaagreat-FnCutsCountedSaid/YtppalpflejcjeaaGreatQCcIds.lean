import Derived.Test.YtppalpflejcjeaaGreatQGt15
import Derived.Test.YtppalpflejcjeaaGreatQGt16
import Derived.Test.YtppalpflejcjeaaGreatQGc7
import Derived.Test.YtppalpflejcjeaaGreatProg
import Derived.Test.YtppalpflejcjeaaGreatQGr2
import Derived.KernelRfl
namespace Go.Proofs.W
open Go Go.Gm Go.Proofs
abbrev n_l_FnCutsCounted : FuncId := 3
noncomputable abbrev fn_l_FnCutsCounted : Func := Tryz.f3
theorem fnat_l_FnCutsCounted : Tryz.prog.funcs[n_l_FnCutsCounted]? = some fn_l_FnCutsCounted := Tryz.func3
abbrev n_F117 : FuncId := 5
noncomputable abbrev fn_F117 : Func := Tryz.f5
theorem fnat_F117 : Tryz.prog.funcs[n_F117]? = some fn_F117 := Tryz.func5
abbrev n_F38 : FuncId := 6
noncomputable abbrev fn_F38 : Func := Tryz.f6
theorem fnat_F38 : Tryz.prog.funcs[n_F38]? = some fn_F38 := Tryz.func6
abbrev n_F70 : FuncId := 7
noncomputable abbrev fn_F70 : Func := Tryz.f7
theorem fnat_F70 : Tryz.prog.funcs[n_F70]? = some fn_F70 := Tryz.func7
abbrev n_F72 : FuncId := 8
noncomputable abbrev fn_F72 : Func := Tryz.f8
theorem fnat_F72 : Tryz.prog.funcs[n_F72]? = some fn_F72 := Tryz.func8
abbrev n_F58 : FuncId := 9
noncomputable abbrev fn_F58 : Func := Tryz.f9
theorem fnat_F58 : Tryz.prog.funcs[n_F58]? = some fn_F58 := Tryz.func9
abbrev n_F83 : FuncId := 10
noncomputable abbrev fn_F83 : Func := Tryz.f10
theorem fnat_F83 : Tryz.prog.funcs[n_F83]? = some fn_F83 := Tryz.func10
abbrev n_F98 : FuncId := 11
noncomputable abbrev fn_F98 : Func := Tryz.f11
theorem fnat_F98 : Tryz.prog.funcs[n_F98]? = some fn_F98 := Tryz.func11
abbrev n_F99 : FuncId := 12
noncomputable abbrev fn_F99 : Func := Tryz.f12
theorem fnat_F99 : Tryz.prog.funcs[n_F99]? = some fn_F99 := Tryz.func12
abbrev n_F47 : FuncId := 13
noncomputable abbrev fn_F47 : Func := Tryz.f13
theorem fnat_F47 : Tryz.prog.funcs[n_F47]? = some fn_F47 := Tryz.func13
abbrev n_F23 : FuncId := 14
noncomputable abbrev fn_F23 : Func := Tryz.f14
theorem fnat_F23 : Tryz.prog.funcs[n_F23]? = some fn_F23 := Tryz.func14
abbrev n_F30 : FuncId := 15
noncomputable abbrev fn_F30 : Func := Tryz.f15
theorem fnat_F30 : Tryz.prog.funcs[n_F30]? = some fn_F30 := Tryz.func15
abbrev n_F59 : FuncId := 16
noncomputable abbrev fn_F59 : Func := Tryz.f16
theorem fnat_F59 : Tryz.prog.funcs[n_F59]? = some fn_F59 := Tryz.func16
abbrev n_F17 : FuncId := 17
noncomputable abbrev fn_F17 : Func := Tryz.f17
theorem fnat_F17 : Tryz.prog.funcs[n_F17]? = some fn_F17 := Tryz.func17
abbrev n_F35 : FuncId := 18
noncomputable abbrev fn_F35 : Func := Tryz.f18
theorem fnat_F35 : Tryz.prog.funcs[n_F35]? = some fn_F35 := Tryz.func18
abbrev n_F36 : FuncId := 19
noncomputable abbrev fn_F36 : Func := Tryz.f19
theorem fnat_F36 : Tryz.prog.funcs[n_F36]? = some fn_F36 := Tryz.func19
abbrev n_F66 : FuncId := 20
noncomputable abbrev fn_F66 : Func := Tryz.f20
theorem fnat_F66 : Tryz.prog.funcs[n_F66]? = some fn_F66 := Tryz.func20
abbrev n_F10 : FuncId := 21
noncomputable abbrev fn_F10 : Func := Tryz.f21
theorem fnat_F10 : Tryz.prog.funcs[n_F10]? = some fn_F10 := Tryz.func21
abbrev n_F24 : FuncId := 22
noncomputable abbrev fn_F24 : Func := Tryz.f22
theorem fnat_F24 : Tryz.prog.funcs[n_F24]? = some fn_F24 := Tryz.func22
abbrev n_F15 : FuncId := 23
noncomputable abbrev fn_F15 : Func := Tryz.f23
theorem fnat_F15 : Tryz.prog.funcs[n_F15]? = some fn_F15 := Tryz.func23
abbrev n_F31 : FuncId := 24
noncomputable abbrev fn_F31 : Func := Tryz.f24
theorem fnat_F31 : Tryz.prog.funcs[n_F31]? = some fn_F31 := Tryz.func24
abbrev n_F32 : FuncId := 25
noncomputable abbrev fn_F32 : Func := Tryz.f25
theorem fnat_F32 : Tryz.prog.funcs[n_F32]? = some fn_F32 := Tryz.func25
abbrev n_F25 : FuncId := 26
noncomputable abbrev fn_F25 : Func := Tryz.f26
theorem fnat_F25 : Tryz.prog.funcs[n_F25]? = some fn_F25 := Tryz.func26
abbrev n_F48 : FuncId := 27
noncomputable abbrev fn_F48 : Func := Tryz.f27
theorem fnat_F48 : Tryz.prog.funcs[n_F48]? = some fn_F48 := Tryz.func27
abbrev n_F26 : FuncId := 28
noncomputable abbrev fn_F26 : Func := Tryz.f28
theorem fnat_F26 : Tryz.prog.funcs[n_F26]? = some fn_F26 := Tryz.func28
abbrev n_F49 : FuncId := 29
noncomputable abbrev fn_F49 : Func := Tryz.f29
theorem fnat_F49 : Tryz.prog.funcs[n_F49]? = some fn_F49 := Tryz.func29
abbrev n_F50 : FuncId := 30
noncomputable abbrev fn_F50 : Func := Tryz.f30
theorem fnat_F50 : Tryz.prog.funcs[n_F50]? = some fn_F50 := Tryz.func30
abbrev n_F97 : FuncId := 31
noncomputable abbrev fn_F97 : Func := Tryz.f31
theorem fnat_F97 : Tryz.prog.funcs[n_F97]? = some fn_F97 := Tryz.func31
abbrev n_F51 : FuncId := 32
noncomputable abbrev fn_F51 : Func := Tryz.f32
theorem fnat_F51 : Tryz.prog.funcs[n_F51]? = some fn_F51 := Tryz.func32
abbrev n_F115 : FuncId := 33
noncomputable abbrev fn_F115 : Func := Tryz.f33
theorem fnat_F115 : Tryz.prog.funcs[n_F115]? = some fn_F115 := Tryz.func33
abbrev n_F37 : FuncId := 58
noncomputable abbrev fn_F37 : Func := Tryz.f58
theorem fnat_F37 : Tryz.prog.funcs[n_F37]? = some fn_F37 := Tryz.func58
abbrev n_F43 : FuncId := 59
noncomputable abbrev fn_F43 : Func := Tryz.f59
theorem fnat_F43 : Tryz.prog.funcs[n_F43]? = some fn_F43 := Tryz.func59
abbrev n_F39 : FuncId := 60
noncomputable abbrev fn_F39 : Func := Tryz.f60
theorem fnat_F39 : Tryz.prog.funcs[n_F39]? = some fn_F39 := Tryz.func60
abbrev n_F77 : FuncId := 61
noncomputable abbrev fn_F77 : Func := Tryz.f61
theorem fnat_F77 : Tryz.prog.funcs[n_F77]? = some fn_F77 := Tryz.func61
abbrev n_F116 : FuncId := 62
noncomputable abbrev fn_F116 : Func := Tryz.f62
theorem fnat_F116 : Tryz.prog.funcs[n_F116]? = some fn_F116 := Tryz.func62
abbrev n_F34 : FuncId := 63
noncomputable abbrev fn_F34 : Func := Tryz.f63
theorem fnat_F34 : Tryz.prog.funcs[n_F34]? = some fn_F34 := Tryz.func63
abbrev n_F53 : FuncId := 64
noncomputable abbrev fn_F53 : Func := Tryz.f64
theorem fnat_F53 : Tryz.prog.funcs[n_F53]? = some fn_F53 := Tryz.func64
abbrev n_F9 : FuncId := 65
noncomputable abbrev fn_F9 : Func := Tryz.f65
theorem fnat_F9 : Tryz.prog.funcs[n_F9]? = some fn_F9 := Tryz.func65
abbrev n_F112 : FuncId := 66
noncomputable abbrev fn_F112 : Func := Tryz.f66
theorem fnat_F112 : Tryz.prog.funcs[n_F112]? = some fn_F112 := Tryz.func66
abbrev n_F95 : FuncId := 67
noncomputable abbrev fn_F95 : Func := Tryz.f67
theorem fnat_F95 : Tryz.prog.funcs[n_F95]? = some fn_F95 := Tryz.func67
abbrev n_F56 : FuncId := 68
noncomputable abbrev fn_F56 : Func := Tryz.f68
theorem fnat_F56 : Tryz.prog.funcs[n_F56]? = some fn_F56 := Tryz.func68
abbrev n_F57 : FuncId := 69
noncomputable abbrev fn_F57 : Func := Tryz.f69
theorem fnat_F57 : Tryz.prog.funcs[n_F57]? = some fn_F57 := Tryz.func69
abbrev n_F44 : FuncId := 70
noncomputable abbrev fn_F44 : Func := Tryz.f70
theorem fnat_F44 : Tryz.prog.funcs[n_F44]? = some fn_F44 := Tryz.func70
abbrev n_F16 : FuncId := 71
noncomputable abbrev fn_F16 : Func := Tryz.f71
theorem fnat_F16 : Tryz.prog.funcs[n_F16]? = some fn_F16 := Tryz.func71
abbrev n_F69 : FuncId := 72
noncomputable abbrev fn_F69 : Func := Tryz.f72
theorem fnat_F69 : Tryz.prog.funcs[n_F69]? = some fn_F69 := Tryz.func72
abbrev n_F73 : FuncId := 73
noncomputable abbrev fn_F73 : Func := Tryz.f73
theorem fnat_F73 : Tryz.prog.funcs[n_F73]? = some fn_F73 := Tryz.func73
abbrev n_F82 : FuncId := 74
noncomputable abbrev fn_F82 : Func := Tryz.f74
theorem fnat_F82 : Tryz.prog.funcs[n_F82]? = some fn_F82 := Tryz.func74
abbrev n_F113 : FuncId := 75
noncomputable abbrev fn_F113 : Func := Tryz.f75
theorem fnat_F113 : Tryz.prog.funcs[n_F113]? = some fn_F113 := Tryz.func75
abbrev n_F74 : FuncId := 76
noncomputable abbrev fn_F74 : Func := Tryz.f76
theorem fnat_F74 : Tryz.prog.funcs[n_F74]? = some fn_F74 := Tryz.func76
abbrev n_F65 : FuncId := 77
noncomputable abbrev fn_F65 : Func := Tryz.f77
theorem fnat_F65 : Tryz.prog.funcs[n_F65]? = some fn_F65 := Tryz.func77
abbrev n_F20 : FuncId := 78
noncomputable abbrev fn_F20 : Func := Tryz.f78
theorem fnat_F20 : Tryz.prog.funcs[n_F20]? = some fn_F20 := Tryz.func78
abbrev n_F75 : FuncId := 79
noncomputable abbrev fn_F75 : Func := Tryz.f79
theorem fnat_F75 : Tryz.prog.funcs[n_F75]? = some fn_F75 := Tryz.func79
abbrev n_F52 : FuncId := 80
noncomputable abbrev fn_F52 : Func := Tryz.f80
theorem fnat_F52 : Tryz.prog.funcs[n_F52]? = some fn_F52 := Tryz.func80
abbrev n_F60 : FuncId := 81
noncomputable abbrev fn_F60 : Func := Tryz.f81
theorem fnat_F60 : Tryz.prog.funcs[n_F60]? = some fn_F60 := Tryz.func81
abbrev n_F88 : FuncId := 82
noncomputable abbrev fn_F88 : Func := Tryz.f82
theorem fnat_F88 : Tryz.prog.funcs[n_F88]? = some fn_F88 := Tryz.func82
abbrev n_F101 : FuncId := 83
noncomputable abbrev fn_F101 : Func := Tryz.f83
theorem fnat_F101 : Tryz.prog.funcs[n_F101]? = some fn_F101 := Tryz.func83
abbrev n_F92 : FuncId := 84
noncomputable abbrev fn_F92 : Func := Tryz.f84
theorem fnat_F92 : Tryz.prog.funcs[n_F92]? = some fn_F92 := Tryz.func84
abbrev n_F78 : FuncId := 86
noncomputable abbrev fn_F78 : Func := Tryz.f86
theorem fnat_F78 : Tryz.prog.funcs[n_F78]? = some fn_F78 := Tryz.func86
abbrev n_F63 : FuncId := 87
noncomputable abbrev fn_F63 : Func := Tryz.f87
theorem fnat_F63 : Tryz.prog.funcs[n_F63]? = some fn_F63 := Tryz.func87
abbrev n_F67 : FuncId := 94
noncomputable abbrev fn_F67 : Func := Tryz.f94
theorem fnat_F67 : Tryz.prog.funcs[n_F67]? = some fn_F67 := Tryz.func94
abbrev n_F5 : FuncId := 95
noncomputable abbrev fn_F5 : Func := Tryz.f95
theorem fnat_F5 : Tryz.prog.funcs[n_F5]? = some fn_F5 := Tryz.func95
abbrev n_F68 : FuncId := 97
noncomputable abbrev fn_F68 : Func := Tryz.f97
theorem fnat_F68 : Tryz.prog.funcs[n_F68]? = some fn_F68 := Tryz.func97
abbrev n_F84 : FuncId := 99
noncomputable abbrev fn_F84 : Func := Tryz.f99
theorem fnat_F84 : Tryz.prog.funcs[n_F84]? = some fn_F84 := Tryz.func99
abbrev n_F76 : FuncId := 100
noncomputable abbrev fn_F76 : Func := Tryz.f100
theorem fnat_F76 : Tryz.prog.funcs[n_F76]? = some fn_F76 := Tryz.func100
abbrev n_F46 : FuncId := 101
noncomputable abbrev fn_F46 : Func := Tryz.f101
theorem fnat_F46 : Tryz.prog.funcs[n_F46]? = some fn_F46 := Tryz.func101
abbrev n_F42 : FuncId := 105
noncomputable abbrev fn_F42 : Func := Tryz.f105
theorem fnat_F42 : Tryz.prog.funcs[n_F42]? = some fn_F42 := Tryz.func105
abbrev n_F81 : FuncId := 106
noncomputable abbrev fn_F81 : Func := Tryz.f106
theorem fnat_F81 : Tryz.prog.funcs[n_F81]? = some fn_F81 := Tryz.func106
abbrev n_F64 : FuncId := 107
noncomputable abbrev fn_F64 : Func := Tryz.f107
theorem fnat_F64 : Tryz.prog.funcs[n_F64]? = some fn_F64 := Tryz.func107
abbrev n_F29 : FuncId := 108
noncomputable abbrev fn_F29 : Func := Tryz.f108
theorem fnat_F29 : Tryz.prog.funcs[n_F29]? = some fn_F29 := Tryz.func108
abbrev n_F54 : FuncId := 109
noncomputable abbrev fn_F54 : Func := Tryz.f109
theorem fnat_F54 : Tryz.prog.funcs[n_F54]? = some fn_F54 := Tryz.func109
abbrev n_F33 : FuncId := 110
noncomputable abbrev fn_F33 : Func := Tryz.f110
theorem fnat_F33 : Tryz.prog.funcs[n_F33]? = some fn_F33 := Tryz.func110
abbrev n_F86 : FuncId := 111
noncomputable abbrev fn_F86 : Func := Tryz.f111
theorem fnat_F86 : Tryz.prog.funcs[n_F86]? = some fn_F86 := Tryz.func111
abbrev n_F85 : FuncId := 112
noncomputable abbrev fn_F85 : Func := Tryz.f112
theorem fnat_F85 : Tryz.prog.funcs[n_F85]? = some fn_F85 := Tryz.func112
abbrev n_F71 : FuncId := 113
noncomputable abbrev fn_F71 : Func := Tryz.f113
theorem fnat_F71 : Tryz.prog.funcs[n_F71]? = some fn_F71 := Tryz.func113
abbrev n_F28 : FuncId := 114
noncomputable abbrev fn_F28 : Func := Tryz.f114
theorem fnat_F28 : Tryz.prog.funcs[n_F28]? = some fn_F28 := Tryz.func114
abbrev n_F21 : FuncId := 115
noncomputable abbrev fn_F21 : Func := Tryz.f115
theorem fnat_F21 : Tryz.prog.funcs[n_F21]? = some fn_F21 := Tryz.func115
abbrev n_F19 : FuncId := 116
noncomputable abbrev fn_F19 : Func := Tryz.f116
theorem fnat_F19 : Tryz.prog.funcs[n_F19]? = some fn_F19 := Tryz.func116
abbrev n_F22 : FuncId := 117
noncomputable abbrev fn_F22 : Func := Tryz.f117
theorem fnat_F22 : Tryz.prog.funcs[n_F22]? = some fn_F22 := Tryz.func117
abbrev n_F13 : FuncId := 118
noncomputable abbrev fn_F13 : Func := Tryz.f118
theorem fnat_F13 : Tryz.prog.funcs[n_F13]? = some fn_F13 := Tryz.func118
abbrev n_F18 : FuncId := 119
noncomputable abbrev fn_F18 : Func := Tryz.f119
theorem fnat_F18 : Tryz.prog.funcs[n_F18]? = some fn_F18 := Tryz.func119
abbrev n_F61 : FuncId := 120
noncomputable abbrev fn_F61 : Func := Tryz.f120
theorem fnat_F61 : Tryz.prog.funcs[n_F61]? = some fn_F61 := Tryz.func120
abbrev n_F62 : FuncId := 121
noncomputable abbrev fn_F62 : Func := Tryz.f121
theorem fnat_F62 : Tryz.prog.funcs[n_F62]? = some fn_F62 := Tryz.func121
abbrev n_F8 : FuncId := 127
noncomputable abbrev fn_F8 : Func := Tryz.f127
theorem fnat_F8 : Tryz.prog.funcs[n_F8]? = some fn_F8 := Tryz.func127
abbrev n_F41 : FuncId := 131
noncomputable abbrev fn_F41 : Func := Tryz.f131
theorem fnat_F41 : Tryz.prog.funcs[n_F41]? = some fn_F41 := Tryz.func131
abbrev n_F114 : FuncId := 132
noncomputable abbrev fn_F114 : Func := Tryz.f132
theorem fnat_F114 : Tryz.prog.funcs[n_F114]? = some fn_F114 := Tryz.func132
abbrev n_F12 : FuncId := 133
noncomputable abbrev fn_F12 : Func := Tryz.f133
theorem fnat_F12 : Tryz.prog.funcs[n_F12]? = some fn_F12 := Tryz.func133
abbrev n_F6 : FuncId := 134
noncomputable abbrev fn_F6 : Func := Tryz.f134
theorem fnat_F6 : Tryz.prog.funcs[n_F6]? = some fn_F6 := Tryz.func134
abbrev n_F40 : FuncId := 135
noncomputable abbrev fn_F40 : Func := Tryz.f135
theorem fnat_F40 : Tryz.prog.funcs[n_F40]? = some fn_F40 := Tryz.func135
abbrev n_F27 : FuncId := 136
noncomputable abbrev fn_F27 : Func := Tryz.f136
theorem fnat_F27 : Tryz.prog.funcs[n_F27]? = some fn_F27 := Tryz.func136
abbrev n_F79 : FuncId := 138
noncomputable abbrev fn_F79 : Func := Tryz.f138
theorem fnat_F79 : Tryz.prog.funcs[n_F79]? = some fn_F79 := Tryz.func138
abbrev n_F100 : FuncId := 142
noncomputable abbrev fn_F100 : Func := Tryz.f142
theorem fnat_F100 : Tryz.prog.funcs[n_F100]? = some fn_F100 := Tryz.func142
abbrev n_F3 : FuncId := 143
noncomputable abbrev fn_F3 : Func := Tryz.f143
theorem fnat_F3 : Tryz.prog.funcs[n_F3]? = some fn_F3 := Tryz.func143
abbrev n_F45 : FuncId := 149
noncomputable abbrev fn_F45 : Func := Tryz.f149
theorem fnat_F45 : Tryz.prog.funcs[n_F45]? = some fn_F45 := Tryz.func149
abbrev n_slices_SortFunc_Diagonal : FuncId := 126
abbrev n_slices_pdqsortCmpFunc_Diagonal : FuncId := 141
abbrev n_slices_insertionSortCmpFunc_Diagonal : FuncId := 164
abbrev n_slices_DeleteFunc_Diagonal : FuncId := 123
abbrev n_slices_pdqsortCmpFunc_Lint : FuncId := 137
abbrev n_slices_insertionSortCmpFunc_Lint : FuncId := 154
noncomputable def E0 : TEnv := { P := Tryz.prog, lib := fun _ => none, raw := fun _ _ _ => none, modes := fun f => if f = n_F3 then [true, false, false, false] else if f = n_F6 then [true, false, false, false] else if f = n_F28 then [true, false, false, false] else if f = n_slices_insertionSortCmpFunc_Lint then [true, false, false, false, false] else if f = n_slices_pdqsortCmpFunc_Lint then [true, false, false, false, false] else if f = n_F13 then [true, false] else if f = n_slices_DeleteFunc_Diagonal then [true, false] else if f = n_slices_insertionSortCmpFunc_Diagonal then [true, false, false, false, false] else if f = n_slices_pdqsortCmpFunc_Diagonal then [true, false, false, false, false] else if f = n_slices_SortFunc_Diagonal then [true, false] else [], gives := fun _ => [] }
theorem E0ok : E0.OK := ⟨by kernel_rfl, (fun f L h => by cases h), (fun f args R res R' h => by cases h)⟩
end Go.Proofs.W
