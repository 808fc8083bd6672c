/- The functions' numbers. -/
import Derived.Test.YtaoeghfoifhhcaaGreatDoorGc10
import Derived.Test.YtaoeghfoifhhcaaGreatDoorProg
import Derived.Test.YtaoeghfoifhhcaaGreatDoorGr2
import Derived.KernelRfl
namespace Go.Proofs.W
open Go Go.Gm Go.Proofs
abbrev n_l_FnFractionPolygons : FuncId := 4
noncomputable abbrev fn_l_FnFractionPolygons : Func := Tryz.f4
theorem fnat_l_FnFractionPolygons : Tryz.prog.funcs[n_l_FnFractionPolygons]? = some fn_l_FnFractionPolygons := Tryz.func4
abbrev n_F110 : FuncId := 6
noncomputable abbrev fn_F110 : Func := Tryz.f6
theorem fnat_F110 : Tryz.prog.funcs[n_F110]? = some fn_F110 := Tryz.func6
abbrev n_F76 : FuncId := 8
noncomputable abbrev fn_F76 : Func := Tryz.f8
theorem fnat_F76 : Tryz.prog.funcs[n_F76]? = some fn_F76 := Tryz.func8
abbrev n_F55 : FuncId := 14
noncomputable abbrev fn_F55 : Func := Tryz.f14
theorem fnat_F55 : Tryz.prog.funcs[n_F55]? = some fn_F55 := Tryz.func14
abbrev n_F54 : FuncId := 32
noncomputable abbrev fn_F54 : Func := Tryz.f32
theorem fnat_F54 : Tryz.prog.funcs[n_F54]? = some fn_F54 := Tryz.func32
abbrev n_F25 : FuncId := 33
noncomputable abbrev fn_F25 : Func := Tryz.f33
theorem fnat_F25 : Tryz.prog.funcs[n_F25]? = some fn_F25 := Tryz.func33
abbrev n_F47 : FuncId := 34
noncomputable abbrev fn_F47 : Func := Tryz.f34
theorem fnat_F47 : Tryz.prog.funcs[n_F47]? = some fn_F47 := Tryz.func34
abbrev n_F48 : FuncId := 35
noncomputable abbrev fn_F48 : Func := Tryz.f35
theorem fnat_F48 : Tryz.prog.funcs[n_F48]? = some fn_F48 := Tryz.func35
abbrev n_F52 : FuncId := 36
noncomputable abbrev fn_F52 : Func := Tryz.f36
theorem fnat_F52 : Tryz.prog.funcs[n_F52]? = some fn_F52 := Tryz.func36
abbrev n_F16 : FuncId := 37
noncomputable abbrev fn_F16 : Func := Tryz.f37
theorem fnat_F16 : Tryz.prog.funcs[n_F16]? = some fn_F16 := Tryz.func37
abbrev n_F62 : FuncId := 38
noncomputable abbrev fn_F62 : Func := Tryz.f38
theorem fnat_F62 : Tryz.prog.funcs[n_F62]? = some fn_F62 := Tryz.func38
abbrev n_F29 : FuncId := 39
noncomputable abbrev fn_F29 : Func := Tryz.f39
theorem fnat_F29 : Tryz.prog.funcs[n_F29]? = some fn_F29 := Tryz.func39
abbrev n_F23 : FuncId := 40
noncomputable abbrev fn_F23 : Func := Tryz.f40
theorem fnat_F23 : Tryz.prog.funcs[n_F23]? = some fn_F23 := Tryz.func40
abbrev n_F20 : FuncId := 41
noncomputable abbrev fn_F20 : Func := Tryz.f41
theorem fnat_F20 : Tryz.prog.funcs[n_F20]? = some fn_F20 := Tryz.func41
abbrev n_F93 : FuncId := 42
noncomputable abbrev fn_F93 : Func := Tryz.f42
theorem fnat_F93 : Tryz.prog.funcs[n_F93]? = some fn_F93 := Tryz.func42
abbrev n_F94 : FuncId := 43
noncomputable abbrev fn_F94 : Func := Tryz.f43
theorem fnat_F94 : Tryz.prog.funcs[n_F94]? = some fn_F94 := Tryz.func43
abbrev n_F78 : FuncId := 44
noncomputable abbrev fn_F78 : Func := Tryz.f44
theorem fnat_F78 : Tryz.prog.funcs[n_F78]? = some fn_F78 := Tryz.func44
abbrev n_F14 : FuncId := 45
noncomputable abbrev fn_F14 : Func := Tryz.f45
theorem fnat_F14 : Tryz.prog.funcs[n_F14]? = some fn_F14 := Tryz.func45
abbrev n_F17 : FuncId := 46
noncomputable abbrev fn_F17 : Func := Tryz.f46
theorem fnat_F17 : Tryz.prog.funcs[n_F17]? = some fn_F17 := Tryz.func46
abbrev n_F65 : FuncId := 47
noncomputable abbrev fn_F65 : Func := Tryz.f47
theorem fnat_F65 : Tryz.prog.funcs[n_F65]? = some fn_F65 := Tryz.func47
abbrev n_F24 : FuncId := 48
noncomputable abbrev fn_F24 : Func := Tryz.f48
theorem fnat_F24 : Tryz.prog.funcs[n_F24]? = some fn_F24 := Tryz.func48
abbrev n_F42 : FuncId := 49
noncomputable abbrev fn_F42 : Func := Tryz.f49
theorem fnat_F42 : Tryz.prog.funcs[n_F42]? = some fn_F42 := Tryz.func49
abbrev n_F41 : FuncId := 50
noncomputable abbrev fn_F41 : Func := Tryz.f50
theorem fnat_F41 : Tryz.prog.funcs[n_F41]? = some fn_F41 := Tryz.func50
abbrev n_F21 : FuncId := 51
noncomputable abbrev fn_F21 : Func := Tryz.f51
theorem fnat_F21 : Tryz.prog.funcs[n_F21]? = some fn_F21 := Tryz.func51
abbrev n_F40 : FuncId := 80
noncomputable abbrev fn_F40 : Func := Tryz.f80
theorem fnat_F40 : Tryz.prog.funcs[n_F40]? = some fn_F40 := Tryz.func80
abbrev n_F92 : FuncId := 81
noncomputable abbrev fn_F92 : Func := Tryz.f81
theorem fnat_F92 : Tryz.prog.funcs[n_F92]? = some fn_F92 := Tryz.func81
abbrev n_F84 : FuncId := 82
noncomputable abbrev fn_F84 : Func := Tryz.f82
theorem fnat_F84 : Tryz.prog.funcs[n_F84]? = some fn_F84 := Tryz.func82
abbrev n_F79 : FuncId := 83
noncomputable abbrev fn_F79 : Func := Tryz.f83
theorem fnat_F79 : Tryz.prog.funcs[n_F79]? = some fn_F79 := Tryz.func83
abbrev n_F74 : FuncId := 84
noncomputable abbrev fn_F74 : Func := Tryz.f84
theorem fnat_F74 : Tryz.prog.funcs[n_F74]? = some fn_F74 := Tryz.func84
abbrev n_F85 : FuncId := 85
noncomputable abbrev fn_F85 : Func := Tryz.f85
theorem fnat_F85 : Tryz.prog.funcs[n_F85]? = some fn_F85 := Tryz.func85
abbrev n_F63 : FuncId := 87
noncomputable abbrev fn_F63 : Func := Tryz.f87
theorem fnat_F63 : Tryz.prog.funcs[n_F63]? = some fn_F63 := Tryz.func87
abbrev n_F80 : FuncId := 88
noncomputable abbrev fn_F80 : Func := Tryz.f88
theorem fnat_F80 : Tryz.prog.funcs[n_F80]? = some fn_F80 := Tryz.func88
abbrev n_F73 : FuncId := 89
noncomputable abbrev fn_F73 : Func := Tryz.f89
theorem fnat_F73 : Tryz.prog.funcs[n_F73]? = some fn_F73 := Tryz.func89
abbrev n_F58 : FuncId := 90
noncomputable abbrev fn_F58 : Func := Tryz.f90
theorem fnat_F58 : Tryz.prog.funcs[n_F58]? = some fn_F58 := Tryz.func90
abbrev n_F43 : FuncId := 91
noncomputable abbrev fn_F43 : Func := Tryz.f91
theorem fnat_F43 : Tryz.prog.funcs[n_F43]? = some fn_F43 := Tryz.func91
abbrev n_F36 : FuncId := 92
noncomputable abbrev fn_F36 : Func := Tryz.f92
theorem fnat_F36 : Tryz.prog.funcs[n_F36]? = some fn_F36 := Tryz.func92
abbrev n_F50 : FuncId := 101
noncomputable abbrev fn_F50 : Func := Tryz.f101
theorem fnat_F50 : Tryz.prog.funcs[n_F50]? = some fn_F50 := Tryz.func101
abbrev n_F106 : FuncId := 106
noncomputable abbrev fn_F106 : Func := Tryz.f106
theorem fnat_F106 : Tryz.prog.funcs[n_F106]? = some fn_F106 := Tryz.func106
abbrev n_F15 : FuncId := 109
noncomputable abbrev fn_F15 : Func := Tryz.f109
theorem fnat_F15 : Tryz.prog.funcs[n_F15]? = some fn_F15 := Tryz.func109
abbrev n_F60 : FuncId := 110
noncomputable abbrev fn_F60 : Func := Tryz.f110
theorem fnat_F60 : Tryz.prog.funcs[n_F60]? = some fn_F60 := Tryz.func110
abbrev n_F53 : FuncId := 111
noncomputable abbrev fn_F53 : Func := Tryz.f111
theorem fnat_F53 : Tryz.prog.funcs[n_F53]? = some fn_F53 := Tryz.func111
abbrev n_F72 : FuncId := 112
noncomputable abbrev fn_F72 : Func := Tryz.f112
theorem fnat_F72 : Tryz.prog.funcs[n_F72]? = some fn_F72 := Tryz.func112
abbrev n_F39 : FuncId := 113
noncomputable abbrev fn_F39 : Func := Tryz.f113
theorem fnat_F39 : Tryz.prog.funcs[n_F39]? = some fn_F39 := Tryz.func113
abbrev n_F67 : FuncId := 114
noncomputable abbrev fn_F67 : Func := Tryz.f114
theorem fnat_F67 : Tryz.prog.funcs[n_F67]? = some fn_F67 := Tryz.func114
abbrev n_F61 : FuncId := 115
noncomputable abbrev fn_F61 : Func := Tryz.f115
theorem fnat_F61 : Tryz.prog.funcs[n_F61]? = some fn_F61 := Tryz.func115
abbrev n_F75 : FuncId := 116
noncomputable abbrev fn_F75 : Func := Tryz.f116
theorem fnat_F75 : Tryz.prog.funcs[n_F75]? = some fn_F75 := Tryz.func116
abbrev n_F32 : FuncId := 117
noncomputable abbrev fn_F32 : Func := Tryz.f117
theorem fnat_F32 : Tryz.prog.funcs[n_F32]? = some fn_F32 := Tryz.func117
abbrev n_F70 : FuncId := 118
noncomputable abbrev fn_F70 : Func := Tryz.f118
theorem fnat_F70 : Tryz.prog.funcs[n_F70]? = some fn_F70 := Tryz.func118
abbrev n_F59 : FuncId := 119
noncomputable abbrev fn_F59 : Func := Tryz.f119
theorem fnat_F59 : Tryz.prog.funcs[n_F59]? = some fn_F59 := Tryz.func119
abbrev n_F77 : FuncId := 120
noncomputable abbrev fn_F77 : Func := Tryz.f120
theorem fnat_F77 : Tryz.prog.funcs[n_F77]? = some fn_F77 := Tryz.func120
abbrev n_F30 : FuncId := 121
noncomputable abbrev fn_F30 : Func := Tryz.f121
theorem fnat_F30 : Tryz.prog.funcs[n_F30]? = some fn_F30 := Tryz.func121
abbrev n_F64 : FuncId := 122
noncomputable abbrev fn_F64 : Func := Tryz.f122
theorem fnat_F64 : Tryz.prog.funcs[n_F64]? = some fn_F64 := Tryz.func122
abbrev n_F56 : FuncId := 123
noncomputable abbrev fn_F56 : Func := Tryz.f123
theorem fnat_F56 : Tryz.prog.funcs[n_F56]? = some fn_F56 := Tryz.func123
abbrev n_F37 : FuncId := 124
noncomputable abbrev fn_F37 : Func := Tryz.f124
theorem fnat_F37 : Tryz.prog.funcs[n_F37]? = some fn_F37 := Tryz.func124
abbrev n_F57 : FuncId := 125
noncomputable abbrev fn_F57 : Func := Tryz.f125
theorem fnat_F57 : Tryz.prog.funcs[n_F57]? = some fn_F57 := Tryz.func125
abbrev n_F97 : FuncId := 126
noncomputable abbrev fn_F97 : Func := Tryz.f126
theorem fnat_F97 : Tryz.prog.funcs[n_F97]? = some fn_F97 := Tryz.func126
abbrev n_F86 : FuncId := 132
noncomputable abbrev fn_F86 : Func := Tryz.f132
theorem fnat_F86 : Tryz.prog.funcs[n_F86]? = some fn_F86 := Tryz.func132
abbrev n_F90 : FuncId := 133
noncomputable abbrev fn_F90 : Func := Tryz.f133
theorem fnat_F90 : Tryz.prog.funcs[n_F90]? = some fn_F90 := Tryz.func133
abbrev n_F31 : FuncId := 135
noncomputable abbrev fn_F31 : Func := Tryz.f135
theorem fnat_F31 : Tryz.prog.funcs[n_F31]? = some fn_F31 := Tryz.func135
abbrev n_F18 : FuncId := 139
noncomputable abbrev fn_F18 : Func := Tryz.f139
theorem fnat_F18 : Tryz.prog.funcs[n_F18]? = some fn_F18 := Tryz.func139
abbrev n_F34 : FuncId := 143
noncomputable abbrev fn_F34 : Func := Tryz.f143
theorem fnat_F34 : Tryz.prog.funcs[n_F34]? = some fn_F34 := Tryz.func143
abbrev n_F9 : FuncId := 153
noncomputable abbrev fn_F9 : Func := Tryz.f153
theorem fnat_F9 : Tryz.prog.funcs[n_F9]? = some fn_F9 := Tryz.func153
abbrev n_F35 : FuncId := 154
noncomputable abbrev fn_F35 : Func := Tryz.f154
theorem fnat_F35 : Tryz.prog.funcs[n_F35]? = some fn_F35 := Tryz.func154
abbrev n_F109 : FuncId := 155
noncomputable abbrev fn_F109 : Func := Tryz.f155
theorem fnat_F109 : Tryz.prog.funcs[n_F109]? = some fn_F109 := Tryz.func155
abbrev n_F96 : FuncId := 156
noncomputable abbrev fn_F96 : Func := Tryz.f156
theorem fnat_F96 : Tryz.prog.funcs[n_F96]? = some fn_F96 := Tryz.func156
abbrev n_F46 : FuncId := 157
noncomputable abbrev fn_F46 : Func := Tryz.f157
theorem fnat_F46 : Tryz.prog.funcs[n_F46]? = some fn_F46 := Tryz.func157
abbrev n_F49 : FuncId := 159
noncomputable abbrev fn_F49 : Func := Tryz.f159
theorem fnat_F49 : Tryz.prog.funcs[n_F49]? = some fn_F49 := Tryz.func159
abbrev n_F108 : FuncId := 162
noncomputable abbrev fn_F108 : Func := Tryz.f162
theorem fnat_F108 : Tryz.prog.funcs[n_F108]? = some fn_F108 := Tryz.func162
abbrev n_F33 : FuncId := 163
noncomputable abbrev fn_F33 : Func := Tryz.f163
theorem fnat_F33 : Tryz.prog.funcs[n_F33]? = some fn_F33 := Tryz.func163
abbrev n_F26 : FuncId := 164
noncomputable abbrev fn_F26 : Func := Tryz.f164
theorem fnat_F26 : Tryz.prog.funcs[n_F26]? = some fn_F26 := Tryz.func164
abbrev n_F13 : FuncId := 165
noncomputable abbrev fn_F13 : Func := Tryz.f165
theorem fnat_F13 : Tryz.prog.funcs[n_F13]? = some fn_F13 := Tryz.func165
abbrev n_F22 : FuncId := 166
noncomputable abbrev fn_F22 : Func := Tryz.f166
theorem fnat_F22 : Tryz.prog.funcs[n_F22]? = some fn_F22 := Tryz.func166
abbrev n_F27 : FuncId := 167
noncomputable abbrev fn_F27 : Func := Tryz.f167
theorem fnat_F27 : Tryz.prog.funcs[n_F27]? = some fn_F27 := Tryz.func167
abbrev n_F28 : FuncId := 168
noncomputable abbrev fn_F28 : Func := Tryz.f168
theorem fnat_F28 : Tryz.prog.funcs[n_F28]? = some fn_F28 := Tryz.func168
abbrev n_F51 : FuncId := 169
noncomputable abbrev fn_F51 : Func := Tryz.f169
theorem fnat_F51 : Tryz.prog.funcs[n_F51]? = some fn_F51 := Tryz.func169
abbrev n_F81 : FuncId := 170
noncomputable abbrev fn_F81 : Func := Tryz.f170
theorem fnat_F81 : Tryz.prog.funcs[n_F81]? = some fn_F81 := Tryz.func170
abbrev n_F12 : FuncId := 180
noncomputable abbrev fn_F12 : Func := Tryz.f180
theorem fnat_F12 : Tryz.prog.funcs[n_F12]? = some fn_F12 := Tryz.func180
abbrev n_F82 : FuncId := 181
noncomputable abbrev fn_F82 : Func := Tryz.f181
theorem fnat_F82 : Tryz.prog.funcs[n_F82]? = some fn_F82 := Tryz.func181
abbrev n_F44 : FuncId := 192
noncomputable abbrev fn_F44 : Func := Tryz.f192
theorem fnat_F44 : Tryz.prog.funcs[n_F44]? = some fn_F44 := Tryz.func192
abbrev n_F107 : FuncId := 193
noncomputable abbrev fn_F107 : Func := Tryz.f193
theorem fnat_F107 : Tryz.prog.funcs[n_F107]? = some fn_F107 := Tryz.func193
abbrev n_F71 : FuncId := 194
noncomputable abbrev fn_F71 : Func := Tryz.f194
theorem fnat_F71 : Tryz.prog.funcs[n_F71]? = some fn_F71 := Tryz.func194
abbrev n_F68 : FuncId := 195
noncomputable abbrev fn_F68 : Func := Tryz.f195
theorem fnat_F68 : Tryz.prog.funcs[n_F68]? = some fn_F68 := Tryz.func195
abbrev n_F8 : FuncId := 196
noncomputable abbrev fn_F8 : Func := Tryz.f196
theorem fnat_F8 : Tryz.prog.funcs[n_F8]? = some fn_F8 := Tryz.func196
abbrev n_F66 : FuncId := 197
noncomputable abbrev fn_F66 : Func := Tryz.f197
theorem fnat_F66 : Tryz.prog.funcs[n_F66]? = some fn_F66 := Tryz.func197
abbrev n_F38 : FuncId := 198
noncomputable abbrev fn_F38 : Func := Tryz.f198
theorem fnat_F38 : Tryz.prog.funcs[n_F38]? = some fn_F38 := Tryz.func198
abbrev n_F10 : FuncId := 199
noncomputable abbrev fn_F10 : Func := Tryz.f199
theorem fnat_F10 : Tryz.prog.funcs[n_F10]? = some fn_F10 := Tryz.func199
abbrev n_F19 : FuncId := 200
noncomputable abbrev fn_F19 : Func := Tryz.f200
theorem fnat_F19 : Tryz.prog.funcs[n_F19]? = some fn_F19 := Tryz.func200
abbrev n_F69 : FuncId := 201
noncomputable abbrev fn_F69 : Func := Tryz.f201
theorem fnat_F69 : Tryz.prog.funcs[n_F69]? = some fn_F69 := Tryz.func201
abbrev n_F83 : FuncId := 219
noncomputable abbrev fn_F83 : Func := Tryz.f219
theorem fnat_F83 : Tryz.prog.funcs[n_F83]? = some fn_F83 := Tryz.func219
abbrev n_F7 : FuncId := 220
noncomputable abbrev fn_F7 : Func := Tryz.f220
theorem fnat_F7 : Tryz.prog.funcs[n_F7]? = some fn_F7 := Tryz.func220
abbrev n_F45 : FuncId := 228
noncomputable abbrev fn_F45 : Func := Tryz.f228
theorem fnat_F45 : Tryz.prog.funcs[n_F45]? = some fn_F45 := Tryz.func228
abbrev n_F11 : FuncId := 229
noncomputable abbrev fn_F11 : Func := Tryz.f229
theorem fnat_F11 : Tryz.prog.funcs[n_F11]? = some fn_F11 := Tryz.func229
abbrev n_slices_SortFunc_Fraction : FuncId := 160
abbrev n_slices_pdqsortCmpFunc_Fraction : FuncId := 191
abbrev n_slices_insertionSortCmpFunc_Fraction : FuncId := 209
abbrev n_slices_Reverse_int : FuncId := 149
abbrev n_strings_Join : FuncId := 146
noncomputable def E0 : TEnv := { P := Tryz.prog, lib := fun _ => none, raw := fun _ _ _ => none, modes := fun f => if f = n_strings_Join then [true, false] else if f = n_slices_Reverse_int then [true, false, false, false] else if f = n_slices_insertionSortCmpFunc_Fraction then [true, false, false, false, false] else if f = n_slices_pdqsortCmpFunc_Fraction then [true, false, false, false, false] else if f = n_slices_SortFunc_Fraction then [true, false] else if f = n_F7 then [true, false, false, false, false] else if f = n_F8 then [true, false, false, false, false] else if f = n_F13 then [true, false] else if f = n_F26 then [true, false, false] else [], gives := fun _ => [] }
theorem E0ok : E0.OK := ⟨by kernel_rfl, (fun f L h => by cases h), (fun f args R res R' h => by cases h)⟩
end Go.Proofs.W
