import Derived.Test.YtaoeghfoifhhcaaGreatMGc7
import Derived.Test.YtaoeghfoifhhcaaGreatProg
import Derived.Test.YtaoeghfoifhhcaaGreatMGr2
import Derived.KernelRfl
namespace Go.Proofs.W
open Go Go.Gm Go.Proofs
abbrev n_l_FnTriangulationsCounted : FuncId := 6
noncomputable abbrev fn_l_FnTriangulationsCounted : Func := Tryz.f6
theorem fnat_l_FnTriangulationsCounted : Tryz.prog.funcs[n_l_FnTriangulationsCounted]? = some fn_l_FnTriangulationsCounted := Tryz.func6
abbrev n_F125 : FuncId := 7
noncomputable abbrev fn_F125 : Func := Tryz.f7
theorem fnat_F125 : Tryz.prog.funcs[n_F125]? = some fn_F125 := Tryz.func7
abbrev n_F37 : FuncId := 39
noncomputable abbrev fn_F37 : Func := Tryz.f39
theorem fnat_F37 : Tryz.prog.funcs[n_F37]? = some fn_F37 := Tryz.func39
abbrev n_F107 : FuncId := 58
noncomputable abbrev fn_F107 : Func := Tryz.f58
theorem fnat_F107 : Tryz.prog.funcs[n_F107]? = some fn_F107 := Tryz.func58
abbrev n_F34 : FuncId := 80
noncomputable abbrev fn_F34 : Func := Tryz.f80
theorem fnat_F34 : Tryz.prog.funcs[n_F34]? = some fn_F34 := Tryz.func80
abbrev n_F55 : FuncId := 81
noncomputable abbrev fn_F55 : Func := Tryz.f81
theorem fnat_F55 : Tryz.prog.funcs[n_F55]? = some fn_F55 := Tryz.func81
abbrev n_F56 : FuncId := 82
noncomputable abbrev fn_F56 : Func := Tryz.f82
theorem fnat_F56 : Tryz.prog.funcs[n_F56]? = some fn_F56 := Tryz.func82
abbrev n_F45 : FuncId := 83
noncomputable abbrev fn_F45 : Func := Tryz.f83
theorem fnat_F45 : Tryz.prog.funcs[n_F45]? = some fn_F45 := Tryz.func83
abbrev n_F46 : FuncId := 84
noncomputable abbrev fn_F46 : Func := Tryz.f84
theorem fnat_F46 : Tryz.prog.funcs[n_F46]? = some fn_F46 := Tryz.func84
abbrev n_F18 : FuncId := 85
noncomputable abbrev fn_F18 : Func := Tryz.f85
theorem fnat_F18 : Tryz.prog.funcs[n_F18]? = some fn_F18 := Tryz.func85
abbrev n_F19 : FuncId := 86
noncomputable abbrev fn_F19 : Func := Tryz.f86
theorem fnat_F19 : Tryz.prog.funcs[n_F19]? = some fn_F19 := Tryz.func86
abbrev n_F106 : FuncId := 87
noncomputable abbrev fn_F106 : Func := Tryz.f87
theorem fnat_F106 : Tryz.prog.funcs[n_F106]? = some fn_F106 := Tryz.func87
abbrev n_F117 : FuncId := 88
noncomputable abbrev fn_F117 : Func := Tryz.f88
theorem fnat_F117 : Tryz.prog.funcs[n_F117]? = some fn_F117 := Tryz.func88
abbrev n_F48 : FuncId := 89
noncomputable abbrev fn_F48 : Func := Tryz.f89
theorem fnat_F48 : Tryz.prog.funcs[n_F48]? = some fn_F48 := Tryz.func89
abbrev n_F49 : FuncId := 90
noncomputable abbrev fn_F49 : Func := Tryz.f90
theorem fnat_F49 : Tryz.prog.funcs[n_F49]? = some fn_F49 := Tryz.func90
abbrev n_F68 : FuncId := 91
noncomputable abbrev fn_F68 : Func := Tryz.f91
theorem fnat_F68 : Tryz.prog.funcs[n_F68]? = some fn_F68 := Tryz.func91
abbrev n_F69 : FuncId := 92
noncomputable abbrev fn_F69 : Func := Tryz.f92
theorem fnat_F69 : Tryz.prog.funcs[n_F69]? = some fn_F69 := Tryz.func92
abbrev n_F13 : FuncId := 93
noncomputable abbrev fn_F13 : Func := Tryz.f93
theorem fnat_F13 : Tryz.prog.funcs[n_F13]? = some fn_F13 := Tryz.func93
abbrev n_F23 : FuncId := 94
noncomputable abbrev fn_F23 : Func := Tryz.f94
theorem fnat_F23 : Tryz.prog.funcs[n_F23]? = some fn_F23 := Tryz.func94
abbrev n_F24 : FuncId := 95
noncomputable abbrev fn_F24 : Func := Tryz.f95
theorem fnat_F24 : Tryz.prog.funcs[n_F24]? = some fn_F24 := Tryz.func95
abbrev n_F14 : FuncId := 96
noncomputable abbrev fn_F14 : Func := Tryz.f96
theorem fnat_F14 : Tryz.prog.funcs[n_F14]? = some fn_F14 := Tryz.func96
abbrev n_F25 : FuncId := 97
noncomputable abbrev fn_F25 : Func := Tryz.f97
theorem fnat_F25 : Tryz.prog.funcs[n_F25]? = some fn_F25 := Tryz.func97
abbrev n_F26 : FuncId := 98
noncomputable abbrev fn_F26 : Func := Tryz.f98
theorem fnat_F26 : Tryz.prog.funcs[n_F26]? = some fn_F26 := Tryz.func98
abbrev n_F112 : FuncId := 99
noncomputable abbrev fn_F112 : Func := Tryz.f99
theorem fnat_F112 : Tryz.prog.funcs[n_F112]? = some fn_F112 := Tryz.func99
abbrev n_F62 : FuncId := 100
noncomputable abbrev fn_F62 : Func := Tryz.f100
theorem fnat_F62 : Tryz.prog.funcs[n_F62]? = some fn_F62 := Tryz.func100
abbrev n_F84 : FuncId := 101
noncomputable abbrev fn_F84 : Func := Tryz.f101
theorem fnat_F84 : Tryz.prog.funcs[n_F84]? = some fn_F84 := Tryz.func101
abbrev n_F33 : FuncId := 108
noncomputable abbrev fn_F33 : Func := Tryz.f108
theorem fnat_F33 : Tryz.prog.funcs[n_F33]? = some fn_F33 := Tryz.func108
abbrev n_F85 : FuncId := 109
noncomputable abbrev fn_F85 : Func := Tryz.f109
theorem fnat_F85 : Tryz.prog.funcs[n_F85]? = some fn_F85 := Tryz.func109
abbrev n_F51 : FuncId := 111
noncomputable abbrev fn_F51 : Func := Tryz.f111
theorem fnat_F51 : Tryz.prog.funcs[n_F51]? = some fn_F51 := Tryz.func111
abbrev n_F90 : FuncId := 119
noncomputable abbrev fn_F90 : Func := Tryz.f119
theorem fnat_F90 : Tryz.prog.funcs[n_F90]? = some fn_F90 := Tryz.func119
abbrev n_F59 : FuncId := 123
noncomputable abbrev fn_F59 : Func := Tryz.f123
theorem fnat_F59 : Tryz.prog.funcs[n_F59]? = some fn_F59 := Tryz.func123
abbrev n_F65 : FuncId := 124
noncomputable abbrev fn_F65 : Func := Tryz.f124
theorem fnat_F65 : Tryz.prog.funcs[n_F65]? = some fn_F65 := Tryz.func124
abbrev n_F52 : FuncId := 125
noncomputable abbrev fn_F52 : Func := Tryz.f125
theorem fnat_F52 : Tryz.prog.funcs[n_F52]? = some fn_F52 := Tryz.func125
abbrev n_F113 : FuncId := 127
noncomputable abbrev fn_F113 : Func := Tryz.f127
theorem fnat_F113 : Tryz.prog.funcs[n_F113]? = some fn_F113 := Tryz.func127
abbrev n_F94 : FuncId := 132
noncomputable abbrev fn_F94 : Func := Tryz.f132
theorem fnat_F94 : Tryz.prog.funcs[n_F94]? = some fn_F94 := Tryz.func132
abbrev n_F66 : FuncId := 138
noncomputable abbrev fn_F66 : Func := Tryz.f138
theorem fnat_F66 : Tryz.prog.funcs[n_F66]? = some fn_F66 := Tryz.func138
abbrev n_F61 : FuncId := 139
noncomputable abbrev fn_F61 : Func := Tryz.f139
theorem fnat_F61 : Tryz.prog.funcs[n_F61]? = some fn_F61 := Tryz.func139
abbrev n_F31 : FuncId := 140
noncomputable abbrev fn_F31 : Func := Tryz.f140
theorem fnat_F31 : Tryz.prog.funcs[n_F31]? = some fn_F31 := Tryz.func140
abbrev n_F9 : FuncId := 141
noncomputable abbrev fn_F9 : Func := Tryz.f141
theorem fnat_F9 : Tryz.prog.funcs[n_F9]? = some fn_F9 := Tryz.func141
abbrev n_F30 : FuncId := 142
noncomputable abbrev fn_F30 : Func := Tryz.f142
theorem fnat_F30 : Tryz.prog.funcs[n_F30]? = some fn_F30 := Tryz.func142
abbrev n_F81 : FuncId := 143
noncomputable abbrev fn_F81 : Func := Tryz.f143
theorem fnat_F81 : Tryz.prog.funcs[n_F81]? = some fn_F81 := Tryz.func143
abbrev n_F20 : FuncId := 145
noncomputable abbrev fn_F20 : Func := Tryz.f145
theorem fnat_F20 : Tryz.prog.funcs[n_F20]? = some fn_F20 := Tryz.func145
abbrev n_F22 : FuncId := 148
noncomputable abbrev fn_F22 : Func := Tryz.f148
theorem fnat_F22 : Tryz.prog.funcs[n_F22]? = some fn_F22 := Tryz.func148
abbrev n_F76 : FuncId := 150
noncomputable abbrev fn_F76 : Func := Tryz.f150
theorem fnat_F76 : Tryz.prog.funcs[n_F76]? = some fn_F76 := Tryz.func150
abbrev n_F42 : FuncId := 151
noncomputable abbrev fn_F42 : Func := Tryz.f151
theorem fnat_F42 : Tryz.prog.funcs[n_F42]? = some fn_F42 := Tryz.func151
abbrev n_F96 : FuncId := 155
noncomputable abbrev fn_F96 : Func := Tryz.f155
theorem fnat_F96 : Tryz.prog.funcs[n_F96]? = some fn_F96 := Tryz.func155
abbrev n_F83 : FuncId := 156
noncomputable abbrev fn_F83 : Func := Tryz.f156
theorem fnat_F83 : Tryz.prog.funcs[n_F83]? = some fn_F83 := Tryz.func156
abbrev n_F82 : FuncId := 162
noncomputable abbrev fn_F82 : Func := Tryz.f162
theorem fnat_F82 : Tryz.prog.funcs[n_F82]? = some fn_F82 := Tryz.func162
abbrev n_F91 : FuncId := 164
noncomputable abbrev fn_F91 : Func := Tryz.f164
theorem fnat_F91 : Tryz.prog.funcs[n_F91]? = some fn_F91 := Tryz.func164
abbrev n_F114 : FuncId := 165
noncomputable abbrev fn_F114 : Func := Tryz.f165
theorem fnat_F114 : Tryz.prog.funcs[n_F114]? = some fn_F114 := Tryz.func165
abbrev n_F93 : FuncId := 171
noncomputable abbrev fn_F93 : Func := Tryz.f171
theorem fnat_F93 : Tryz.prog.funcs[n_F93]? = some fn_F93 := Tryz.func171
abbrev n_F99 : FuncId := 172
noncomputable abbrev fn_F99 : Func := Tryz.f172
theorem fnat_F99 : Tryz.prog.funcs[n_F99]? = some fn_F99 := Tryz.func172
abbrev n_F105 : FuncId := 173
noncomputable abbrev fn_F105 : Func := Tryz.f173
theorem fnat_F105 : Tryz.prog.funcs[n_F105]? = some fn_F105 := Tryz.func173
abbrev n_F11 : FuncId := 174
noncomputable abbrev fn_F11 : Func := Tryz.f174
theorem fnat_F11 : Tryz.prog.funcs[n_F11]? = some fn_F11 := Tryz.func174
abbrev n_F79 : FuncId := 175
noncomputable abbrev fn_F79 : Func := Tryz.f175
theorem fnat_F79 : Tryz.prog.funcs[n_F79]? = some fn_F79 := Tryz.func175
abbrev n_F75 : FuncId := 176
noncomputable abbrev fn_F75 : Func := Tryz.f176
theorem fnat_F75 : Tryz.prog.funcs[n_F75]? = some fn_F75 := Tryz.func176
abbrev n_F80 : FuncId := 177
noncomputable abbrev fn_F80 : Func := Tryz.f177
theorem fnat_F80 : Tryz.prog.funcs[n_F80]? = some fn_F80 := Tryz.func177
abbrev n_F35 : FuncId := 178
noncomputable abbrev fn_F35 : Func := Tryz.f178
theorem fnat_F35 : Tryz.prog.funcs[n_F35]? = some fn_F35 := Tryz.func178
abbrev n_F47 : FuncId := 179
noncomputable abbrev fn_F47 : Func := Tryz.f179
theorem fnat_F47 : Tryz.prog.funcs[n_F47]? = some fn_F47 := Tryz.func179
abbrev n_F108 : FuncId := 180
noncomputable abbrev fn_F108 : Func := Tryz.f180
theorem fnat_F108 : Tryz.prog.funcs[n_F108]? = some fn_F108 := Tryz.func180
abbrev n_F64 : FuncId := 181
noncomputable abbrev fn_F64 : Func := Tryz.f181
theorem fnat_F64 : Tryz.prog.funcs[n_F64]? = some fn_F64 := Tryz.func181
abbrev n_F10 : FuncId := 182
noncomputable abbrev fn_F10 : Func := Tryz.f182
theorem fnat_F10 : Tryz.prog.funcs[n_F10]? = some fn_F10 := Tryz.func182
abbrev n_F29 : FuncId := 183
noncomputable abbrev fn_F29 : Func := Tryz.f183
theorem fnat_F29 : Tryz.prog.funcs[n_F29]? = some fn_F29 := Tryz.func183
abbrev n_F17 : FuncId := 184
noncomputable abbrev fn_F17 : Func := Tryz.f184
theorem fnat_F17 : Tryz.prog.funcs[n_F17]? = some fn_F17 := Tryz.func184
abbrev n_F110 : FuncId := 185
noncomputable abbrev fn_F110 : Func := Tryz.f185
theorem fnat_F110 : Tryz.prog.funcs[n_F110]? = some fn_F110 := Tryz.func185
abbrev n_F111 : FuncId := 186
noncomputable abbrev fn_F111 : Func := Tryz.f186
theorem fnat_F111 : Tryz.prog.funcs[n_F111]? = some fn_F111 := Tryz.func186
abbrev n_F38 : FuncId := 187
noncomputable abbrev fn_F38 : Func := Tryz.f187
theorem fnat_F38 : Tryz.prog.funcs[n_F38]? = some fn_F38 := Tryz.func187
abbrev n_F43 : FuncId := 189
noncomputable abbrev fn_F43 : Func := Tryz.f189
theorem fnat_F43 : Tryz.prog.funcs[n_F43]? = some fn_F43 := Tryz.func189
abbrev n_F15 : FuncId := 190
noncomputable abbrev fn_F15 : Func := Tryz.f190
theorem fnat_F15 : Tryz.prog.funcs[n_F15]? = some fn_F15 := Tryz.func190
abbrev n_F116 : FuncId := 191
noncomputable abbrev fn_F116 : Func := Tryz.f191
theorem fnat_F116 : Tryz.prog.funcs[n_F116]? = some fn_F116 := Tryz.func191
abbrev n_F41 : FuncId := 192
noncomputable abbrev fn_F41 : Func := Tryz.f192
theorem fnat_F41 : Tryz.prog.funcs[n_F41]? = some fn_F41 := Tryz.func192
abbrev n_F40 : FuncId := 193
noncomputable abbrev fn_F40 : Func := Tryz.f193
theorem fnat_F40 : Tryz.prog.funcs[n_F40]? = some fn_F40 := Tryz.func193
abbrev n_F27 : FuncId := 199
noncomputable abbrev fn_F27 : Func := Tryz.f199
theorem fnat_F27 : Tryz.prog.funcs[n_F27]? = some fn_F27 := Tryz.func199
abbrev n_F58 : FuncId := 200
noncomputable abbrev fn_F58 : Func := Tryz.f200
theorem fnat_F58 : Tryz.prog.funcs[n_F58]? = some fn_F58 := Tryz.func200
abbrev n_F78 : FuncId := 202
noncomputable abbrev fn_F78 : Func := Tryz.f202
theorem fnat_F78 : Tryz.prog.funcs[n_F78]? = some fn_F78 := Tryz.func202
abbrev n_F63 : FuncId := 204
noncomputable abbrev fn_F63 : Func := Tryz.f204
theorem fnat_F63 : Tryz.prog.funcs[n_F63]? = some fn_F63 := Tryz.func204
abbrev n_F86 : FuncId := 205
noncomputable abbrev fn_F86 : Func := Tryz.f205
theorem fnat_F86 : Tryz.prog.funcs[n_F86]? = some fn_F86 := Tryz.func205
abbrev n_F71 : FuncId := 206
noncomputable abbrev fn_F71 : Func := Tryz.f206
theorem fnat_F71 : Tryz.prog.funcs[n_F71]? = some fn_F71 := Tryz.func206
abbrev n_F72 : FuncId := 209
noncomputable abbrev fn_F72 : Func := Tryz.f209
theorem fnat_F72 : Tryz.prog.funcs[n_F72]? = some fn_F72 := Tryz.func209
abbrev n_F77 : FuncId := 210
noncomputable abbrev fn_F77 : Func := Tryz.f210
theorem fnat_F77 : Tryz.prog.funcs[n_F77]? = some fn_F77 := Tryz.func210
abbrev n_F50 : FuncId := 211
noncomputable abbrev fn_F50 : Func := Tryz.f211
theorem fnat_F50 : Tryz.prog.funcs[n_F50]? = some fn_F50 := Tryz.func211
abbrev n_F36 : FuncId := 212
noncomputable abbrev fn_F36 : Func := Tryz.f212
theorem fnat_F36 : Tryz.prog.funcs[n_F36]? = some fn_F36 := Tryz.func212
abbrev n_F67 : FuncId := 214
noncomputable abbrev fn_F67 : Func := Tryz.f214
theorem fnat_F67 : Tryz.prog.funcs[n_F67]? = some fn_F67 := Tryz.func214
abbrev n_F74 : FuncId := 215
noncomputable abbrev fn_F74 : Func := Tryz.f215
theorem fnat_F74 : Tryz.prog.funcs[n_F74]? = some fn_F74 := Tryz.func215
abbrev n_F87 : FuncId := 216
noncomputable abbrev fn_F87 : Func := Tryz.f216
theorem fnat_F87 : Tryz.prog.funcs[n_F87]? = some fn_F87 := Tryz.func216
abbrev n_F44 : FuncId := 217
noncomputable abbrev fn_F44 : Func := Tryz.f217
theorem fnat_F44 : Tryz.prog.funcs[n_F44]? = some fn_F44 := Tryz.func217
abbrev n_F28 : FuncId := 218
noncomputable abbrev fn_F28 : Func := Tryz.f218
theorem fnat_F28 : Tryz.prog.funcs[n_F28]? = some fn_F28 := Tryz.func218
abbrev n_F32 : FuncId := 219
noncomputable abbrev fn_F32 : Func := Tryz.f219
theorem fnat_F32 : Tryz.prog.funcs[n_F32]? = some fn_F32 := Tryz.func219
abbrev n_F21 : FuncId := 220
noncomputable abbrev fn_F21 : Func := Tryz.f220
theorem fnat_F21 : Tryz.prog.funcs[n_F21]? = some fn_F21 := Tryz.func220
abbrev n_F16 : FuncId := 221
noncomputable abbrev fn_F16 : Func := Tryz.f221
theorem fnat_F16 : Tryz.prog.funcs[n_F16]? = some fn_F16 := Tryz.func221
abbrev n_F95 : FuncId := 222
noncomputable abbrev fn_F95 : Func := Tryz.f222
theorem fnat_F95 : Tryz.prog.funcs[n_F95]? = some fn_F95 := Tryz.func222
abbrev n_F97 : FuncId := 223
noncomputable abbrev fn_F97 : Func := Tryz.f223
theorem fnat_F97 : Tryz.prog.funcs[n_F97]? = some fn_F97 := Tryz.func223
abbrev n_F53 : FuncId := 225
noncomputable abbrev fn_F53 : Func := Tryz.f225
theorem fnat_F53 : Tryz.prog.funcs[n_F53]? = some fn_F53 := Tryz.func225
abbrev n_F54 : FuncId := 227
noncomputable abbrev fn_F54 : Func := Tryz.f227
theorem fnat_F54 : Tryz.prog.funcs[n_F54]? = some fn_F54 := Tryz.func227
abbrev n_F57 : FuncId := 228
noncomputable abbrev fn_F57 : Func := Tryz.f228
theorem fnat_F57 : Tryz.prog.funcs[n_F57]? = some fn_F57 := Tryz.func228
abbrev n_F73 : FuncId := 229
noncomputable abbrev fn_F73 : Func := Tryz.f229
theorem fnat_F73 : Tryz.prog.funcs[n_F73]? = some fn_F73 := Tryz.func229
abbrev n_F12 : FuncId := 230
noncomputable abbrev fn_F12 : Func := Tryz.f230
theorem fnat_F12 : Tryz.prog.funcs[n_F12]? = some fn_F12 := Tryz.func230
abbrev n_F88 : FuncId := 244
noncomputable abbrev fn_F88 : Func := Tryz.f244
theorem fnat_F88 : Tryz.prog.funcs[n_F88]? = some fn_F88 := Tryz.func244
abbrev n_F8 : FuncId := 245
noncomputable abbrev fn_F8 : Func := Tryz.f245
theorem fnat_F8 : Tryz.prog.funcs[n_F8]? = some fn_F8 := Tryz.func245
abbrev n_F60 : FuncId := 251
noncomputable abbrev fn_F60 : Func := Tryz.f251
theorem fnat_F60 : Tryz.prog.funcs[n_F60]? = some fn_F60 := Tryz.func251
abbrev n_slices_Delete_int : FuncId := 194
abbrev n_slices_SortFunc_Diagonal : FuncId := 195
abbrev n_slices_pdqsortCmpFunc_Diagonal : FuncId := 224
abbrev n_slices_insertionSortCmpFunc_Diagonal : FuncId := 232
abbrev n_slices_DeleteFunc_Diagonal : FuncId := 110
abbrev n_slices_pdqsortCmpFunc_Lint : FuncId := 231
abbrev n_slices_insertionSortCmpFunc_Lint : FuncId := 254
abbrev n_slices_Reverse_int : FuncId := 118
noncomputable def E0 : TEnv := { P := Tryz.prog, lib := fun _ => none, raw := fun _ _ _ => none, modes := fun f => if f = n_F10 then [false, true] else if f = n_slices_Reverse_int then [true, false, false, false] else if f = n_F8 then [true, false, false, false] else if f = n_F12 then [true, false, false, false] else if f = n_F44 then [true, false, false, false] else if f = n_slices_insertionSortCmpFunc_Lint then [true, false, false, false, false] else if f = n_slices_pdqsortCmpFunc_Lint then [true, false, false, false, false] else if f = n_F28 then [true, false] else if f = n_slices_DeleteFunc_Diagonal then [true, false] else if f = n_slices_insertionSortCmpFunc_Diagonal then [true, false, false, false, false] else if f = n_slices_pdqsortCmpFunc_Diagonal then [true, false, false, false, false] else if f = n_slices_SortFunc_Diagonal then [true, false] else if f = n_slices_Delete_int then [true, false, false] else [], gives := fun _ => [] }
theorem E0ok : E0.OK := ⟨by kernel_rfl, (fun f L h => by cases h), (fun f args R res R' h => by cases h)⟩
end Go.Proofs.W
