/- The functions' numbers. -/
import Derived.Test.YtaanfhjiihekeaaGreatGt15
import Derived.Test.YtaanfhjiihekeaaGreatGc7
import Derived.Test.YtaanfhjiihekeaaGreatProg
import Derived.Test.YtaanfhjiihekeaaGreatGr2
import Derived.KernelRfl
namespace Go.Proofs.W
open Go Go.Gm Go.Proofs
abbrev n_l_FnPuzzlesMade : FuncId := 5
noncomputable abbrev fn_l_FnPuzzlesMade : Func := Tryz.f5
theorem fnat_l_FnPuzzlesMade : Tryz.prog.funcs[n_l_FnPuzzlesMade]? = some fn_l_FnPuzzlesMade := Tryz.func5
abbrev n_F121 : FuncId := 7
noncomputable abbrev fn_F121 : Func := Tryz.f7
theorem fnat_F121 : Tryz.prog.funcs[n_F121]? = some fn_F121 := Tryz.func7
abbrev n_F70 : FuncId := 17
noncomputable abbrev fn_F70 : Func := Tryz.f17
theorem fnat_F70 : Tryz.prog.funcs[n_F70]? = some fn_F70 := Tryz.func17
abbrev n_F37 : FuncId := 39
noncomputable abbrev fn_F37 : Func := Tryz.f39
theorem fnat_F37 : Tryz.prog.funcs[n_F37]? = some fn_F37 := Tryz.func39
abbrev n_F42 : FuncId := 54
noncomputable abbrev fn_F42 : Func := Tryz.f54
theorem fnat_F42 : Tryz.prog.funcs[n_F42]? = some fn_F42 := Tryz.func54
abbrev n_F71 : FuncId := 55
noncomputable abbrev fn_F71 : Func := Tryz.f55
theorem fnat_F71 : Tryz.prog.funcs[n_F71]? = some fn_F71 := Tryz.func55
abbrev n_F73 : FuncId := 56
noncomputable abbrev fn_F73 : Func := Tryz.f56
theorem fnat_F73 : Tryz.prog.funcs[n_F73]? = some fn_F73 := Tryz.func56
abbrev n_F92 : FuncId := 57
noncomputable abbrev fn_F92 : Func := Tryz.f57
theorem fnat_F92 : Tryz.prog.funcs[n_F92]? = some fn_F92 := Tryz.func57
abbrev n_F80 : FuncId := 58
noncomputable abbrev fn_F80 : Func := Tryz.f58
theorem fnat_F80 : Tryz.prog.funcs[n_F80]? = some fn_F80 := Tryz.func58
abbrev n_F87 : FuncId := 59
noncomputable abbrev fn_F87 : Func := Tryz.f59
theorem fnat_F87 : Tryz.prog.funcs[n_F87]? = some fn_F87 := Tryz.func59
abbrev n_F46 : FuncId := 60
noncomputable abbrev fn_F46 : Func := Tryz.f60
theorem fnat_F46 : Tryz.prog.funcs[n_F46]? = some fn_F46 := Tryz.func60
abbrev n_F34 : FuncId := 61
noncomputable abbrev fn_F34 : Func := Tryz.f61
theorem fnat_F34 : Tryz.prog.funcs[n_F34]? = some fn_F34 := Tryz.func61
abbrev n_F56 : FuncId := 62
noncomputable abbrev fn_F56 : Func := Tryz.f62
theorem fnat_F56 : Tryz.prog.funcs[n_F56]? = some fn_F56 := Tryz.func62
abbrev n_F59 : FuncId := 63
noncomputable abbrev fn_F59 : Func := Tryz.f63
theorem fnat_F59 : Tryz.prog.funcs[n_F59]? = some fn_F59 := Tryz.func63
abbrev n_F81 : FuncId := 64
noncomputable abbrev fn_F81 : Func := Tryz.f64
theorem fnat_F81 : Tryz.prog.funcs[n_F81]? = some fn_F81 := Tryz.func64
abbrev n_F104 : FuncId := 65
noncomputable abbrev fn_F104 : Func := Tryz.f65
theorem fnat_F104 : Tryz.prog.funcs[n_F104]? = some fn_F104 := Tryz.func65
abbrev n_F94 : FuncId := 66
noncomputable abbrev fn_F94 : Func := Tryz.f66
theorem fnat_F94 : Tryz.prog.funcs[n_F94]? = some fn_F94 := Tryz.func66
abbrev n_F65 : FuncId := 67
noncomputable abbrev fn_F65 : Func := Tryz.f67
theorem fnat_F65 : Tryz.prog.funcs[n_F65]? = some fn_F65 := Tryz.func67
abbrev n_F95 : FuncId := 68
noncomputable abbrev fn_F95 : Func := Tryz.f68
theorem fnat_F95 : Tryz.prog.funcs[n_F95]? = some fn_F95 := Tryz.func68
abbrev n_F96 : FuncId := 69
noncomputable abbrev fn_F96 : Func := Tryz.f69
theorem fnat_F96 : Tryz.prog.funcs[n_F96]? = some fn_F96 := Tryz.func69
abbrev n_F66 : FuncId := 70
noncomputable abbrev fn_F66 : Func := Tryz.f70
theorem fnat_F66 : Tryz.prog.funcs[n_F66]? = some fn_F66 := Tryz.func70
abbrev n_F97 : FuncId := 71
noncomputable abbrev fn_F97 : Func := Tryz.f71
theorem fnat_F97 : Tryz.prog.funcs[n_F97]? = some fn_F97 := Tryz.func71
abbrev n_F48 : FuncId := 72
noncomputable abbrev fn_F48 : Func := Tryz.f72
theorem fnat_F48 : Tryz.prog.funcs[n_F48]? = some fn_F48 := Tryz.func72
abbrev n_F77 : FuncId := 73
noncomputable abbrev fn_F77 : Func := Tryz.f73
theorem fnat_F77 : Tryz.prog.funcs[n_F77]? = some fn_F77 := Tryz.func73
abbrev n_F78 : FuncId := 74
noncomputable abbrev fn_F78 : Func := Tryz.f74
theorem fnat_F78 : Tryz.prog.funcs[n_F78]? = some fn_F78 := Tryz.func74
abbrev n_F41 : FuncId := 107
noncomputable abbrev fn_F41 : Func := Tryz.f107
theorem fnat_F41 : Tryz.prog.funcs[n_F41]? = some fn_F41 := Tryz.func107
abbrev n_F99 : FuncId := 108
noncomputable abbrev fn_F99 : Func := Tryz.f108
theorem fnat_F99 : Tryz.prog.funcs[n_F99]? = some fn_F99 := Tryz.func108
abbrev n_F54 : FuncId := 110
noncomputable abbrev fn_F54 : Func := Tryz.f110
theorem fnat_F54 : Tryz.prog.funcs[n_F54]? = some fn_F54 := Tryz.func110
abbrev n_F72 : FuncId := 113
noncomputable abbrev fn_F72 : Func := Tryz.f113
theorem fnat_F72 : Tryz.prog.funcs[n_F72]? = some fn_F72 := Tryz.func113
abbrev n_F50 : FuncId := 115
noncomputable abbrev fn_F50 : Func := Tryz.f115
theorem fnat_F50 : Tryz.prog.funcs[n_F50]? = some fn_F50 := Tryz.func115
abbrev n_F98 : FuncId := 118
noncomputable abbrev fn_F98 : Func := Tryz.f118
theorem fnat_F98 : Tryz.prog.funcs[n_F98]? = some fn_F98 := Tryz.func118
abbrev n_F68 : FuncId := 122
noncomputable abbrev fn_F68 : Func := Tryz.f122
theorem fnat_F68 : Tryz.prog.funcs[n_F68]? = some fn_F68 := Tryz.func122
abbrev n_F82 : FuncId := 123
noncomputable abbrev fn_F82 : Func := Tryz.f123
theorem fnat_F82 : Tryz.prog.funcs[n_F82]? = some fn_F82 := Tryz.func123
abbrev n_F60 : FuncId := 124
noncomputable abbrev fn_F60 : Func := Tryz.f124
theorem fnat_F60 : Tryz.prog.funcs[n_F60]? = some fn_F60 := Tryz.func124
abbrev n_F114 : FuncId := 126
noncomputable abbrev fn_F114 : Func := Tryz.f126
theorem fnat_F114 : Tryz.prog.funcs[n_F114]? = some fn_F114 := Tryz.func126
abbrev n_F76 : FuncId := 136
noncomputable abbrev fn_F76 : Func := Tryz.f136
theorem fnat_F76 : Tryz.prog.funcs[n_F76]? = some fn_F76 := Tryz.func136
abbrev n_F79 : FuncId := 137
noncomputable abbrev fn_F79 : Func := Tryz.f137
theorem fnat_F79 : Tryz.prog.funcs[n_F79]? = some fn_F79 := Tryz.func137
abbrev n_F69 : FuncId := 138
noncomputable abbrev fn_F69 : Func := Tryz.f138
theorem fnat_F69 : Tryz.prog.funcs[n_F69]? = some fn_F69 := Tryz.func138
abbrev n_F32 : FuncId := 139
noncomputable abbrev fn_F32 : Func := Tryz.f139
theorem fnat_F32 : Tryz.prog.funcs[n_F32]? = some fn_F32 := Tryz.func139
abbrev n_F15 : FuncId := 140
noncomputable abbrev fn_F15 : Func := Tryz.f140
theorem fnat_F15 : Tryz.prog.funcs[n_F15]? = some fn_F15 := Tryz.func140
abbrev n_F29 : FuncId := 141
noncomputable abbrev fn_F29 : Func := Tryz.f141
theorem fnat_F29 : Tryz.prog.funcs[n_F29]? = some fn_F29 := Tryz.func141
abbrev n_F88 : FuncId := 142
noncomputable abbrev fn_F88 : Func := Tryz.f142
theorem fnat_F88 : Tryz.prog.funcs[n_F88]? = some fn_F88 := Tryz.func142
abbrev n_F21 : FuncId := 144
noncomputable abbrev fn_F21 : Func := Tryz.f144
theorem fnat_F21 : Tryz.prog.funcs[n_F21]? = some fn_F21 := Tryz.func144
abbrev n_F85 : FuncId := 149
noncomputable abbrev fn_F85 : Func := Tryz.f149
theorem fnat_F85 : Tryz.prog.funcs[n_F85]? = some fn_F85 := Tryz.func149
abbrev n_F93 : FuncId := 155
noncomputable abbrev fn_F93 : Func := Tryz.f155
theorem fnat_F93 : Tryz.prog.funcs[n_F93]? = some fn_F93 := Tryz.func155
abbrev n_F53 : FuncId := 156
noncomputable abbrev fn_F53 : Func := Tryz.f156
theorem fnat_F53 : Tryz.prog.funcs[n_F53]? = some fn_F53 := Tryz.func156
abbrev n_F89 : FuncId := 157
noncomputable abbrev fn_F89 : Func := Tryz.f157
theorem fnat_F89 : Tryz.prog.funcs[n_F89]? = some fn_F89 := Tryz.func157
abbrev n_F91 : FuncId := 158
noncomputable abbrev fn_F91 : Func := Tryz.f158
theorem fnat_F91 : Tryz.prog.funcs[n_F91]? = some fn_F91 := Tryz.func158
abbrev n_F106 : FuncId := 159
noncomputable abbrev fn_F106 : Func := Tryz.f159
theorem fnat_F106 : Tryz.prog.funcs[n_F106]? = some fn_F106 := Tryz.func159
abbrev n_F107 : FuncId := 160
noncomputable abbrev fn_F107 : Func := Tryz.f160
theorem fnat_F107 : Tryz.prog.funcs[n_F107]? = some fn_F107 := Tryz.func160
abbrev n_F108 : FuncId := 161
noncomputable abbrev fn_F108 : Func := Tryz.f161
theorem fnat_F108 : Tryz.prog.funcs[n_F108]? = some fn_F108 := Tryz.func161
abbrev n_F19 : FuncId := 162
noncomputable abbrev fn_F19 : Func := Tryz.f162
theorem fnat_F19 : Tryz.prog.funcs[n_F19]? = some fn_F19 := Tryz.func162
abbrev n_F74 : FuncId := 163
noncomputable abbrev fn_F74 : Func := Tryz.f163
theorem fnat_F74 : Tryz.prog.funcs[n_F74]? = some fn_F74 := Tryz.func163
abbrev n_F55 : FuncId := 164
noncomputable abbrev fn_F55 : Func := Tryz.f164
theorem fnat_F55 : Tryz.prog.funcs[n_F55]? = some fn_F55 := Tryz.func164
abbrev n_F33 : FuncId := 165
noncomputable abbrev fn_F33 : Func := Tryz.f165
theorem fnat_F33 : Tryz.prog.funcs[n_F33]? = some fn_F33 := Tryz.func165
abbrev n_F43 : FuncId := 166
noncomputable abbrev fn_F43 : Func := Tryz.f166
theorem fnat_F43 : Tryz.prog.funcs[n_F43]? = some fn_F43 := Tryz.func166
abbrev n_F64 : FuncId := 167
noncomputable abbrev fn_F64 : Func := Tryz.f167
theorem fnat_F64 : Tryz.prog.funcs[n_F64]? = some fn_F64 := Tryz.func167
abbrev n_F110 : FuncId := 168
noncomputable abbrev fn_F110 : Func := Tryz.f168
theorem fnat_F110 : Tryz.prog.funcs[n_F110]? = some fn_F110 := Tryz.func168
abbrev n_F40 : FuncId := 169
noncomputable abbrev fn_F40 : Func := Tryz.f169
theorem fnat_F40 : Tryz.prog.funcs[n_F40]? = some fn_F40 := Tryz.func169
abbrev n_F47 : FuncId := 170
noncomputable abbrev fn_F47 : Func := Tryz.f170
theorem fnat_F47 : Tryz.prog.funcs[n_F47]? = some fn_F47 := Tryz.func170
abbrev n_F101 : FuncId := 171
noncomputable abbrev fn_F101 : Func := Tryz.f171
theorem fnat_F101 : Tryz.prog.funcs[n_F101]? = some fn_F101 := Tryz.func171
abbrev n_F115 : FuncId := 180
noncomputable abbrev fn_F115 : Func := Tryz.f180
theorem fnat_F115 : Tryz.prog.funcs[n_F115]? = some fn_F115 := Tryz.func180
abbrev n_F105 : FuncId := 187
noncomputable abbrev fn_F105 : Func := Tryz.f187
theorem fnat_F105 : Tryz.prog.funcs[n_F105]? = some fn_F105 := Tryz.func187
abbrev n_F52 : FuncId := 190
noncomputable abbrev fn_F52 : Func := Tryz.f190
theorem fnat_F52 : Tryz.prog.funcs[n_F52]? = some fn_F52 := Tryz.func190
abbrev n_F16 : FuncId := 191
noncomputable abbrev fn_F16 : Func := Tryz.f191
theorem fnat_F16 : Tryz.prog.funcs[n_F16]? = some fn_F16 := Tryz.func191
abbrev n_F116 : FuncId := 192
noncomputable abbrev fn_F116 : Func := Tryz.f192
theorem fnat_F116 : Tryz.prog.funcs[n_F116]? = some fn_F116 := Tryz.func192
abbrev n_F44 : FuncId := 193
noncomputable abbrev fn_F44 : Func := Tryz.f193
theorem fnat_F44 : Tryz.prog.funcs[n_F44]? = some fn_F44 := Tryz.func193
abbrev n_F36 : FuncId := 194
noncomputable abbrev fn_F36 : Func := Tryz.f194
theorem fnat_F36 : Tryz.prog.funcs[n_F36]? = some fn_F36 := Tryz.func194
abbrev n_F17 : FuncId := 195
noncomputable abbrev fn_F17 : Func := Tryz.f195
theorem fnat_F17 : Tryz.prog.funcs[n_F17]? = some fn_F17 := Tryz.func195
abbrev n_F45 : FuncId := 196
noncomputable abbrev fn_F45 : Func := Tryz.f196
theorem fnat_F45 : Tryz.prog.funcs[n_F45]? = some fn_F45 := Tryz.func196
abbrev n_F67 : FuncId := 200
noncomputable abbrev fn_F67 : Func := Tryz.f200
theorem fnat_F67 : Tryz.prog.funcs[n_F67]? = some fn_F67 := Tryz.func200
abbrev n_F90 : FuncId := 202
noncomputable abbrev fn_F90 : Func := Tryz.f202
theorem fnat_F90 : Tryz.prog.funcs[n_F90]? = some fn_F90 := Tryz.func202
abbrev n_F75 : FuncId := 204
noncomputable abbrev fn_F75 : Func := Tryz.f204
theorem fnat_F75 : Tryz.prog.funcs[n_F75]? = some fn_F75 := Tryz.func204
abbrev n_F100 : FuncId := 205
noncomputable abbrev fn_F100 : Func := Tryz.f205
theorem fnat_F100 : Tryz.prog.funcs[n_F100]? = some fn_F100 := Tryz.func205
abbrev n_F86 : FuncId := 206
noncomputable abbrev fn_F86 : Func := Tryz.f206
theorem fnat_F86 : Tryz.prog.funcs[n_F86]? = some fn_F86 := Tryz.func206
abbrev n_F84 : FuncId := 210
noncomputable abbrev fn_F84 : Func := Tryz.f210
theorem fnat_F84 : Tryz.prog.funcs[n_F84]? = some fn_F84 := Tryz.func210
abbrev n_F49 : FuncId := 211
noncomputable abbrev fn_F49 : Func := Tryz.f211
theorem fnat_F49 : Tryz.prog.funcs[n_F49]? = some fn_F49 := Tryz.func211
abbrev n_F38 : FuncId := 212
noncomputable abbrev fn_F38 : Func := Tryz.f212
theorem fnat_F38 : Tryz.prog.funcs[n_F38]? = some fn_F38 := Tryz.func212
abbrev n_F39 : FuncId := 213
noncomputable abbrev fn_F39 : Func := Tryz.f213
theorem fnat_F39 : Tryz.prog.funcs[n_F39]? = some fn_F39 := Tryz.func213
abbrev n_F28 : FuncId := 214
noncomputable abbrev fn_F28 : Func := Tryz.f214
theorem fnat_F28 : Tryz.prog.funcs[n_F28]? = some fn_F28 := Tryz.func214
abbrev n_F20 : FuncId := 215
noncomputable abbrev fn_F20 : Func := Tryz.f215
theorem fnat_F20 : Tryz.prog.funcs[n_F20]? = some fn_F20 := Tryz.func215
abbrev n_F51 : FuncId := 216
noncomputable abbrev fn_F51 : Func := Tryz.f216
theorem fnat_F51 : Tryz.prog.funcs[n_F51]? = some fn_F51 := Tryz.func216
abbrev n_F25 : FuncId := 217
noncomputable abbrev fn_F25 : Func := Tryz.f217
theorem fnat_F25 : Tryz.prog.funcs[n_F25]? = some fn_F25 := Tryz.func217
abbrev n_F31 : FuncId := 218
noncomputable abbrev fn_F31 : Func := Tryz.f218
theorem fnat_F31 : Tryz.prog.funcs[n_F31]? = some fn_F31 := Tryz.func218
abbrev n_F58 : FuncId := 219
noncomputable abbrev fn_F58 : Func := Tryz.f219
theorem fnat_F58 : Tryz.prog.funcs[n_F58]? = some fn_F58 := Tryz.func219
abbrev n_F103 : FuncId := 220
noncomputable abbrev fn_F103 : Func := Tryz.f220
theorem fnat_F103 : Tryz.prog.funcs[n_F103]? = some fn_F103 := Tryz.func220
abbrev n_F14 : FuncId := 226
noncomputable abbrev fn_F14 : Func := Tryz.f226
theorem fnat_F14 : Tryz.prog.funcs[n_F14]? = some fn_F14 := Tryz.func226
abbrev n_F61 : FuncId := 227
noncomputable abbrev fn_F61 : Func := Tryz.f227
theorem fnat_F61 : Tryz.prog.funcs[n_F61]? = some fn_F61 := Tryz.func227
abbrev n_F62 : FuncId := 229
noncomputable abbrev fn_F62 : Func := Tryz.f229
theorem fnat_F62 : Tryz.prog.funcs[n_F62]? = some fn_F62 := Tryz.func229
abbrev n_F63 : FuncId := 230
noncomputable abbrev fn_F63 : Func := Tryz.f230
theorem fnat_F63 : Tryz.prog.funcs[n_F63]? = some fn_F63 := Tryz.func230
abbrev n_F24 : FuncId := 233
noncomputable abbrev fn_F24 : Func := Tryz.f233
theorem fnat_F24 : Tryz.prog.funcs[n_F24]? = some fn_F24 := Tryz.func233
abbrev n_F30 : FuncId := 234
noncomputable abbrev fn_F30 : Func := Tryz.f234
theorem fnat_F30 : Tryz.prog.funcs[n_F30]? = some fn_F30 := Tryz.func234
abbrev n_F26 : FuncId := 235
noncomputable abbrev fn_F26 : Func := Tryz.f235
theorem fnat_F26 : Tryz.prog.funcs[n_F26]? = some fn_F26 := Tryz.func235
abbrev n_F35 : FuncId := 236
noncomputable abbrev fn_F35 : Func := Tryz.f236
theorem fnat_F35 : Tryz.prog.funcs[n_F35]? = some fn_F35 := Tryz.func236
abbrev n_F27 : FuncId := 237
noncomputable abbrev fn_F27 : Func := Tryz.f237
theorem fnat_F27 : Tryz.prog.funcs[n_F27]? = some fn_F27 := Tryz.func237
abbrev n_F23 : FuncId := 238
noncomputable abbrev fn_F23 : Func := Tryz.f238
theorem fnat_F23 : Tryz.prog.funcs[n_F23]? = some fn_F23 := Tryz.func238
abbrev n_F109 : FuncId := 239
noncomputable abbrev fn_F109 : Func := Tryz.f239
theorem fnat_F109 : Tryz.prog.funcs[n_F109]? = some fn_F109 := Tryz.func239
abbrev n_F57 : FuncId := 240
noncomputable abbrev fn_F57 : Func := Tryz.f240
theorem fnat_F57 : Tryz.prog.funcs[n_F57]? = some fn_F57 := Tryz.func240
abbrev n_F12 : FuncId := 243
noncomputable abbrev fn_F12 : Func := Tryz.f243
theorem fnat_F12 : Tryz.prog.funcs[n_F12]? = some fn_F12 := Tryz.func243
abbrev n_F22 : FuncId := 256
noncomputable abbrev fn_F22 : Func := Tryz.f256
theorem fnat_F22 : Tryz.prog.funcs[n_F22]? = some fn_F22 := Tryz.func256
abbrev n_F18 : FuncId := 257
noncomputable abbrev fn_F18 : Func := Tryz.f257
theorem fnat_F18 : Tryz.prog.funcs[n_F18]? = some fn_F18 := Tryz.func257
abbrev n_F102 : FuncId := 259
noncomputable abbrev fn_F102 : Func := Tryz.f259
theorem fnat_F102 : Tryz.prog.funcs[n_F102]? = some fn_F102 := Tryz.func259
abbrev n_slices_DeleteFunc_Diagonal : FuncId := 109
abbrev n_slices_pdqsortCmpFunc_Lint : FuncId := 258
abbrev n_slices_insertionSortCmpFunc_Lint : FuncId := 275
abbrev n_slices_Sort_int : FuncId := 225
abbrev n_slices_pdqsortOrdered_int : FuncId := 242
abbrev n_slices_insertionSortOrdered_int : FuncId := 261
abbrev n_slices_Reverse_int : FuncId := 117
noncomputable def E0 : TEnv := { P := Tryz.prog, lib := fun _ => none, raw := fun _ _ _ => none, modes := fun f => if f = n_slices_Reverse_int then [true, false, false, false] else if f = n_slices_insertionSortOrdered_int then [true, false, false, false] else if f = n_slices_pdqsortOrdered_int then [true, false, false, false] else if f = n_slices_Sort_int then [true, false, false, false] else if f = n_F20 then [true, true] else if f = n_slices_insertionSortCmpFunc_Lint then [true, false, false, false, false] else if f = n_slices_pdqsortCmpFunc_Lint then [true, false, false, false, false] else if f = n_F26 then [true, false] else if f = n_slices_DeleteFunc_Diagonal then [true, false] else if f = n_F12 then [true, false, false, false, false] else if f = n_F14 then [true, false, false, false, false] else if f = n_F17 then [true, false] else if f = n_F39 then [true, false, true] else if f = n_F36 then [true, false, false] else [], gives := fun _ => [] }
theorem E0ok : E0.OK := ⟨by kernel_rfl, (fun f L h => by cases h), (fun f args R res R' h => by cases h)⟩
end Go.Proofs.W
