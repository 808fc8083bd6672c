/- The functions' numbers. -/
import Derived.Test.YtaoeghfoifhhcaaGreatGt15
import Derived.Test.YtaoeghfoifhhcaaGreatGc6
import Derived.Test.YtaoeghfoifhhcaaGreatProg
import Derived.Test.YtaoeghfoifhhcaaGreatGr2
import Derived.KernelRfl
namespace Go.Proofs.W
open Go Go.Gm Go.Proofs
abbrev n_l_FnFlipsChange : FuncId := 4
noncomputable abbrev fn_l_FnFlipsChange : Func := Tryz.f4
theorem fnat_l_FnFlipsChange : Tryz.prog.funcs[n_l_FnFlipsChange]? = some fn_l_FnFlipsChange := Tryz.func4
abbrev n_F107 : FuncId := 7
noncomputable abbrev fn_F107 : Func := Tryz.f7
theorem fnat_F107 : Tryz.prog.funcs[n_F107]? = some fn_F107 := Tryz.func7
abbrev n_F90 : FuncId := 16
noncomputable abbrev fn_F90 : Func := Tryz.f16
theorem fnat_F90 : Tryz.prog.funcs[n_F90]? = some fn_F90 := Tryz.func16
abbrev n_F91 : FuncId := 22
noncomputable abbrev fn_F91 : Func := Tryz.f22
theorem fnat_F91 : Tryz.prog.funcs[n_F91]? = some fn_F91 := Tryz.func22
abbrev n_F22 : FuncId := 32
noncomputable abbrev fn_F22 : Func := Tryz.f32
theorem fnat_F22 : Tryz.prog.funcs[n_F22]? = some fn_F22 := Tryz.func32
abbrev n_F41 : FuncId := 33
noncomputable abbrev fn_F41 : Func := Tryz.f33
theorem fnat_F41 : Tryz.prog.funcs[n_F41]? = some fn_F41 := Tryz.func33
abbrev n_F42 : FuncId := 34
noncomputable abbrev fn_F42 : Func := Tryz.f34
theorem fnat_F42 : Tryz.prog.funcs[n_F42]? = some fn_F42 := Tryz.func34
abbrev n_F39 : FuncId := 35
noncomputable abbrev fn_F39 : Func := Tryz.f35
theorem fnat_F39 : Tryz.prog.funcs[n_F39]? = some fn_F39 := Tryz.func35
abbrev n_F40 : FuncId := 36
noncomputable abbrev fn_F40 : Func := Tryz.f36
theorem fnat_F40 : Tryz.prog.funcs[n_F40]? = some fn_F40 := Tryz.func36
abbrev n_F34 : FuncId := 37
noncomputable abbrev fn_F34 : Func := Tryz.f37
theorem fnat_F34 : Tryz.prog.funcs[n_F34]? = some fn_F34 := Tryz.func37
abbrev n_F35 : FuncId := 38
noncomputable abbrev fn_F35 : Func := Tryz.f38
theorem fnat_F35 : Tryz.prog.funcs[n_F35]? = some fn_F35 := Tryz.func38
abbrev n_F27 : FuncId := 39
noncomputable abbrev fn_F27 : Func := Tryz.f39
theorem fnat_F27 : Tryz.prog.funcs[n_F27]? = some fn_F27 := Tryz.func39
abbrev n_F112 : FuncId := 40
noncomputable abbrev fn_F112 : Func := Tryz.f40
theorem fnat_F112 : Tryz.prog.funcs[n_F112]? = some fn_F112 := Tryz.func40
abbrev n_F28 : FuncId := 41
noncomputable abbrev fn_F28 : Func := Tryz.f41
theorem fnat_F28 : Tryz.prog.funcs[n_F28]? = some fn_F28 := Tryz.func41
abbrev n_F43 : FuncId := 42
noncomputable abbrev fn_F43 : Func := Tryz.f42
theorem fnat_F43 : Tryz.prog.funcs[n_F43]? = some fn_F43 := Tryz.func42
abbrev n_F73 : FuncId := 43
noncomputable abbrev fn_F73 : Func := Tryz.f43
theorem fnat_F73 : Tryz.prog.funcs[n_F73]? = some fn_F73 := Tryz.func43
abbrev n_F56 : FuncId := 44
noncomputable abbrev fn_F56 : Func := Tryz.f44
theorem fnat_F56 : Tryz.prog.funcs[n_F56]? = some fn_F56 := Tryz.func44
abbrev n_F44 : FuncId := 45
noncomputable abbrev fn_F44 : Func := Tryz.f45
theorem fnat_F44 : Tryz.prog.funcs[n_F44]? = some fn_F44 := Tryz.func45
abbrev n_F64 : FuncId := 46
noncomputable abbrev fn_F64 : Func := Tryz.f46
theorem fnat_F64 : Tryz.prog.funcs[n_F64]? = some fn_F64 := Tryz.func46
abbrev n_F65 : FuncId := 47
noncomputable abbrev fn_F65 : Func := Tryz.f47
theorem fnat_F65 : Tryz.prog.funcs[n_F65]? = some fn_F65 := Tryz.func47
abbrev n_F24 : FuncId := 48
noncomputable abbrev fn_F24 : Func := Tryz.f48
theorem fnat_F24 : Tryz.prog.funcs[n_F24]? = some fn_F24 := Tryz.func48
abbrev n_F45 : FuncId := 49
noncomputable abbrev fn_F45 : Func := Tryz.f49
theorem fnat_F45 : Tryz.prog.funcs[n_F45]? = some fn_F45 := Tryz.func49
abbrev n_F30 : FuncId := 50
noncomputable abbrev fn_F30 : Func := Tryz.f50
theorem fnat_F30 : Tryz.prog.funcs[n_F30]? = some fn_F30 := Tryz.func50
abbrev n_F25 : FuncId := 51
noncomputable abbrev fn_F25 : Func := Tryz.f51
theorem fnat_F25 : Tryz.prog.funcs[n_F25]? = some fn_F25 := Tryz.func51
abbrev n_F26 : FuncId := 52
noncomputable abbrev fn_F26 : Func := Tryz.f52
theorem fnat_F26 : Tryz.prog.funcs[n_F26]? = some fn_F26 := Tryz.func52
abbrev n_F82 : FuncId := 53
noncomputable abbrev fn_F82 : Func := Tryz.f53
theorem fnat_F82 : Tryz.prog.funcs[n_F82]? = some fn_F82 := Tryz.func53
abbrev n_F74 : FuncId := 109
noncomputable abbrev fn_F74 : Func := Tryz.f109
theorem fnat_F74 : Tryz.prog.funcs[n_F74]? = some fn_F74 := Tryz.func109
abbrev n_F10 : FuncId := 110
noncomputable abbrev fn_F10 : Func := Tryz.f110
theorem fnat_F10 : Tryz.prog.funcs[n_F10]? = some fn_F10 := Tryz.func110
abbrev n_F76 : FuncId := 119
noncomputable abbrev fn_F76 : Func := Tryz.f119
theorem fnat_F76 : Tryz.prog.funcs[n_F76]? = some fn_F76 := Tryz.func119
abbrev n_F51 : FuncId := 123
noncomputable abbrev fn_F51 : Func := Tryz.f123
theorem fnat_F51 : Tryz.prog.funcs[n_F51]? = some fn_F51 := Tryz.func123
abbrev n_F57 : FuncId := 124
noncomputable abbrev fn_F57 : Func := Tryz.f124
theorem fnat_F57 : Tryz.prog.funcs[n_F57]? = some fn_F57 := Tryz.func124
abbrev n_F46 : FuncId := 125
noncomputable abbrev fn_F46 : Func := Tryz.f125
theorem fnat_F46 : Tryz.prog.funcs[n_F46]? = some fn_F46 := Tryz.func125
abbrev n_F95 : FuncId := 127
noncomputable abbrev fn_F95 : Func := Tryz.f127
theorem fnat_F95 : Tryz.prog.funcs[n_F95]? = some fn_F95 := Tryz.func127
abbrev n_F37 : FuncId := 129
noncomputable abbrev fn_F37 : Func := Tryz.f129
theorem fnat_F37 : Tryz.prog.funcs[n_F37]? = some fn_F37 := Tryz.func129
abbrev n_F77 : FuncId := 130
noncomputable abbrev fn_F77 : Func := Tryz.f130
theorem fnat_F77 : Tryz.prog.funcs[n_F77]? = some fn_F77 := Tryz.func130
abbrev n_F70 : FuncId := 131
noncomputable abbrev fn_F70 : Func := Tryz.f131
theorem fnat_F70 : Tryz.prog.funcs[n_F70]? = some fn_F70 := Tryz.func131
abbrev n_F79 : FuncId := 132
noncomputable abbrev fn_F79 : Func := Tryz.f132
theorem fnat_F79 : Tryz.prog.funcs[n_F79]? = some fn_F79 := Tryz.func132
abbrev n_F106 : FuncId := 133
noncomputable abbrev fn_F106 : Func := Tryz.f133
theorem fnat_F106 : Tryz.prog.funcs[n_F106]? = some fn_F106 := Tryz.func133
abbrev n_F80 : FuncId := 134
noncomputable abbrev fn_F80 : Func := Tryz.f134
theorem fnat_F80 : Tryz.prog.funcs[n_F80]? = some fn_F80 := Tryz.func134
abbrev n_F69 : FuncId := 135
noncomputable abbrev fn_F69 : Func := Tryz.f135
theorem fnat_F69 : Tryz.prog.funcs[n_F69]? = some fn_F69 := Tryz.func135
abbrev n_F67 : FuncId := 136
noncomputable abbrev fn_F67 : Func := Tryz.f136
theorem fnat_F67 : Tryz.prog.funcs[n_F67]? = some fn_F67 := Tryz.func136
abbrev n_F54 : FuncId := 137
noncomputable abbrev fn_F54 : Func := Tryz.f137
theorem fnat_F54 : Tryz.prog.funcs[n_F54]? = some fn_F54 := Tryz.func137
abbrev n_F58 : FuncId := 138
noncomputable abbrev fn_F58 : Func := Tryz.f138
theorem fnat_F58 : Tryz.prog.funcs[n_F58]? = some fn_F58 := Tryz.func138
abbrev n_F52 : FuncId := 139
noncomputable abbrev fn_F52 : Func := Tryz.f139
theorem fnat_F52 : Tryz.prog.funcs[n_F52]? = some fn_F52 := Tryz.func139
abbrev n_F23 : FuncId := 140
noncomputable abbrev fn_F23 : Func := Tryz.f140
theorem fnat_F23 : Tryz.prog.funcs[n_F23]? = some fn_F23 := Tryz.func140
abbrev n_F9 : FuncId := 141
noncomputable abbrev fn_F9 : Func := Tryz.f141
theorem fnat_F9 : Tryz.prog.funcs[n_F9]? = some fn_F9 := Tryz.func141
abbrev n_F18 : FuncId := 142
noncomputable abbrev fn_F18 : Func := Tryz.f142
theorem fnat_F18 : Tryz.prog.funcs[n_F18]? = some fn_F18 := Tryz.func142
abbrev n_F68 : FuncId := 143
noncomputable abbrev fn_F68 : Func := Tryz.f143
theorem fnat_F68 : Tryz.prog.funcs[n_F68]? = some fn_F68 := Tryz.func143
abbrev n_F72 : FuncId := 144
noncomputable abbrev fn_F72 : Func := Tryz.f144
theorem fnat_F72 : Tryz.prog.funcs[n_F72]? = some fn_F72 := Tryz.func144
abbrev n_F15 : FuncId := 145
noncomputable abbrev fn_F15 : Func := Tryz.f145
theorem fnat_F15 : Tryz.prog.funcs[n_F15]? = some fn_F15 := Tryz.func145
abbrev n_F20 : FuncId := 146
noncomputable abbrev fn_F20 : Func := Tryz.f146
theorem fnat_F20 : Tryz.prog.funcs[n_F20]? = some fn_F20 := Tryz.func146
abbrev n_F12 : FuncId := 147
noncomputable abbrev fn_F12 : Func := Tryz.f147
theorem fnat_F12 : Tryz.prog.funcs[n_F12]? = some fn_F12 := Tryz.func147
abbrev n_F16 : FuncId := 148
noncomputable abbrev fn_F16 : Func := Tryz.f148
theorem fnat_F16 : Tryz.prog.funcs[n_F16]? = some fn_F16 := Tryz.func148
abbrev n_F55 : FuncId := 149
noncomputable abbrev fn_F55 : Func := Tryz.f149
theorem fnat_F55 : Tryz.prog.funcs[n_F55]? = some fn_F55 := Tryz.func149
abbrev n_F63 : FuncId := 150
noncomputable abbrev fn_F63 : Func := Tryz.f150
theorem fnat_F63 : Tryz.prog.funcs[n_F63]? = some fn_F63 := Tryz.func150
abbrev n_F36 : FuncId := 151
noncomputable abbrev fn_F36 : Func := Tryz.f151
theorem fnat_F36 : Tryz.prog.funcs[n_F36]? = some fn_F36 := Tryz.func151
abbrev n_F92 : FuncId := 152
noncomputable abbrev fn_F92 : Func := Tryz.f152
theorem fnat_F92 : Tryz.prog.funcs[n_F92]? = some fn_F92 := Tryz.func152
abbrev n_F21 : FuncId := 153
noncomputable abbrev fn_F21 : Func := Tryz.f153
theorem fnat_F21 : Tryz.prog.funcs[n_F21]? = some fn_F21 := Tryz.func153
abbrev n_F93 : FuncId := 154
noncomputable abbrev fn_F93 : Func := Tryz.f154
theorem fnat_F93 : Tryz.prog.funcs[n_F93]? = some fn_F93 := Tryz.func154
abbrev n_F81 : FuncId := 155
noncomputable abbrev fn_F81 : Func := Tryz.f155
theorem fnat_F81 : Tryz.prog.funcs[n_F81]? = some fn_F81 := Tryz.func155
abbrev n_F71 : FuncId := 156
noncomputable abbrev fn_F71 : Func := Tryz.f156
theorem fnat_F71 : Tryz.prog.funcs[n_F71]? = some fn_F71 := Tryz.func156
abbrev n_F96 : FuncId := 165
noncomputable abbrev fn_F96 : Func := Tryz.f165
theorem fnat_F96 : Tryz.prog.funcs[n_F96]? = some fn_F96 := Tryz.func165
abbrev n_F84 : FuncId := 172
noncomputable abbrev fn_F84 : Func := Tryz.f172
theorem fnat_F84 : Tryz.prog.funcs[n_F84]? = some fn_F84 := Tryz.func172
abbrev n_F11 : FuncId := 190
noncomputable abbrev fn_F11 : Func := Tryz.f190
theorem fnat_F11 : Tryz.prog.funcs[n_F11]? = some fn_F11 := Tryz.func190
abbrev n_F98 : FuncId := 191
noncomputable abbrev fn_F98 : Func := Tryz.f191
theorem fnat_F98 : Tryz.prog.funcs[n_F98]? = some fn_F98 := Tryz.func191
abbrev n_F33 : FuncId := 193
noncomputable abbrev fn_F33 : Func := Tryz.f193
theorem fnat_F33 : Tryz.prog.funcs[n_F33]? = some fn_F33 := Tryz.func193
abbrev n_F13 : FuncId := 195
noncomputable abbrev fn_F13 : Func := Tryz.f195
theorem fnat_F13 : Tryz.prog.funcs[n_F13]? = some fn_F13 := Tryz.func195
abbrev n_F17 : FuncId := 199
noncomputable abbrev fn_F17 : Func := Tryz.f199
theorem fnat_F17 : Tryz.prog.funcs[n_F17]? = some fn_F17 := Tryz.func199
abbrev n_F50 : FuncId := 200
noncomputable abbrev fn_F50 : Func := Tryz.f200
theorem fnat_F50 : Tryz.prog.funcs[n_F50]? = some fn_F50 := Tryz.func200
abbrev n_F31 : FuncId := 201
noncomputable abbrev fn_F31 : Func := Tryz.f201
theorem fnat_F31 : Tryz.prog.funcs[n_F31]? = some fn_F31 := Tryz.func201
abbrev n_F66 : FuncId := 202
noncomputable abbrev fn_F66 : Func := Tryz.f202
theorem fnat_F66 : Tryz.prog.funcs[n_F66]? = some fn_F66 := Tryz.func202
abbrev n_F14 : FuncId := 203
noncomputable abbrev fn_F14 : Func := Tryz.f203
theorem fnat_F14 : Tryz.prog.funcs[n_F14]? = some fn_F14 := Tryz.func203
abbrev n_F53 : FuncId := 204
noncomputable abbrev fn_F53 : Func := Tryz.f204
theorem fnat_F53 : Tryz.prog.funcs[n_F53]? = some fn_F53 := Tryz.func204
abbrev n_F75 : FuncId := 205
noncomputable abbrev fn_F75 : Func := Tryz.f205
theorem fnat_F75 : Tryz.prog.funcs[n_F75]? = some fn_F75 := Tryz.func205
abbrev n_F60 : FuncId := 206
noncomputable abbrev fn_F60 : Func := Tryz.f206
theorem fnat_F60 : Tryz.prog.funcs[n_F60]? = some fn_F60 := Tryz.func206
abbrev n_F59 : FuncId := 207
noncomputable abbrev fn_F59 : Func := Tryz.f207
theorem fnat_F59 : Tryz.prog.funcs[n_F59]? = some fn_F59 := Tryz.func207
abbrev n_F19 : FuncId := 208
noncomputable abbrev fn_F19 : Func := Tryz.f208
theorem fnat_F19 : Tryz.prog.funcs[n_F19]? = some fn_F19 := Tryz.func208
abbrev n_F61 : FuncId := 209
noncomputable abbrev fn_F61 : Func := Tryz.f209
theorem fnat_F61 : Tryz.prog.funcs[n_F61]? = some fn_F61 := Tryz.func209
abbrev n_F62 : FuncId := 210
noncomputable abbrev fn_F62 : Func := Tryz.f210
theorem fnat_F62 : Tryz.prog.funcs[n_F62]? = some fn_F62 := Tryz.func210
abbrev n_F38 : FuncId := 211
noncomputable abbrev fn_F38 : Func := Tryz.f211
theorem fnat_F38 : Tryz.prog.funcs[n_F38]? = some fn_F38 := Tryz.func211
abbrev n_F29 : FuncId := 212
noncomputable abbrev fn_F29 : Func := Tryz.f212
theorem fnat_F29 : Tryz.prog.funcs[n_F29]? = some fn_F29 := Tryz.func212
abbrev n_F83 : FuncId := 223
noncomputable abbrev fn_F83 : Func := Tryz.f223
theorem fnat_F83 : Tryz.prog.funcs[n_F83]? = some fn_F83 := Tryz.func223
abbrev n_F8 : FuncId := 224
noncomputable abbrev fn_F8 : Func := Tryz.f224
theorem fnat_F8 : Tryz.prog.funcs[n_F8]? = some fn_F8 := Tryz.func224
abbrev n_F48 : FuncId := 225
noncomputable abbrev fn_F48 : Func := Tryz.f225
theorem fnat_F48 : Tryz.prog.funcs[n_F48]? = some fn_F48 := Tryz.func225
abbrev n_F78 : FuncId := 226
noncomputable abbrev fn_F78 : Func := Tryz.f226
theorem fnat_F78 : Tryz.prog.funcs[n_F78]? = some fn_F78 := Tryz.func226
abbrev n_F47 : FuncId := 227
noncomputable abbrev fn_F47 : Func := Tryz.f227
theorem fnat_F47 : Tryz.prog.funcs[n_F47]? = some fn_F47 := Tryz.func227
abbrev n_F49 : FuncId := 228
noncomputable abbrev fn_F49 : Func := Tryz.f228
theorem fnat_F49 : Tryz.prog.funcs[n_F49]? = some fn_F49 := Tryz.func228
abbrev n_F7 : FuncId := 232
noncomputable abbrev fn_F7 : Func := Tryz.f232
theorem fnat_F7 : Tryz.prog.funcs[n_F7]? = some fn_F7 := Tryz.func232
abbrev n_slices_Delete_int : FuncId := 194
abbrev n_slices_SortFunc_Lint : FuncId := 218
abbrev n_slices_pdqsortCmpFunc_Lint : FuncId := 231
abbrev n_slices_insertionSortCmpFunc_Lint : FuncId := 254
abbrev n_slices_Sort_int : FuncId := 217
abbrev n_slices_pdqsortOrdered_int : FuncId := 230
abbrev n_slices_insertionSortOrdered_int : FuncId := 245
abbrev n_slices_Reverse_int : FuncId := 118
abbrev n_slices_IndexFunc_LDiagonal : FuncId := 182
noncomputable def E0 : TEnv := { P := Tryz.prog, lib := fun _ => none, raw := fun _ _ _ => none, modes := fun f => if f = n_slices_IndexFunc_LDiagonal then [false, true] else if f = n_slices_Reverse_int then [true, false, false, false] else if f = n_slices_insertionSortOrdered_int then [true, false, false, false] else if f = n_slices_pdqsortOrdered_int then [true, false, false, false] else if f = n_slices_Sort_int then [true, false, false, false] else if f = n_slices_insertionSortCmpFunc_Lint then [true, false, false, false, false] else if f = n_slices_pdqsortCmpFunc_Lint then [true, false, false, false, false] else if f = n_slices_SortFunc_Lint then [true, false] else if f = n_F10 then [true, true] else if f = n_F7 then [true, false, false, false, false] else if f = n_F8 then [true, false, false, false, false] else if f = n_F13 then [true, false] else if f = n_slices_Delete_int then [true, false, false] else [], gives := fun _ => [] }
theorem E0ok : E0.OK := ⟨by kernel_rfl, (fun f L h => by cases h), (fun f args R res R' h => by cases h)⟩
end Go.Proofs.W
