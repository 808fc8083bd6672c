import Derived.Test.YtpkbjabnchfgjaaGreatDoorWGt15
import Derived.Test.YtpkbjabnchfgjaaGreatDoorWGc10
import Derived.Test.YtpkbjabnchfgjaaGreatDoorProg
import Derived.Test.YtpkbjabnchfgjaaGreatDoorWGr2
import Derived.KernelRfl
noncomputable section
namespace Go.Proofs.W
open Go Go.Gm Go.Proofs
abbrev zgq : FuncId := 3
abbrev zaa : Func := Tryz.f3
theorem zh2 : Tryz.prog.funcs[zgq]? = some zaa := Tryz.func3
abbrev zas9 : FuncId := 4
abbrev zaql : Func := Tryz.f4
theorem zarq : Tryz.prog.funcs[zas9]? = some zaql := Tryz.func4
abbrev zbdw : FuncId := 5
abbrev za5g : Func := Tryz.f5
theorem zazn : Tryz.prog.funcs[zbdw]? = some za5g := Tryz.func5
abbrev z3k : FuncId := 6
abbrev zap1 : Func := Tryz.f6
theorem zaqp : Tryz.prog.funcs[z3k]? = some zap1 := Tryz.func6
abbrev zasr : FuncId := 7
abbrev zap2 : Func := Tryz.f7
theorem zaqq : Tryz.prog.funcs[zasr]? = some zap2 := Tryz.func7
abbrev zbdq : FuncId := 8
abbrev za5b : Func := Tryz.f8
theorem zazf : Tryz.prog.funcs[zbdq]? = some za5b := Tryz.func8
abbrev zbdr : FuncId := 9
abbrev za5c : Func := Tryz.f9
theorem zazg : Tryz.prog.funcs[zbdr]? = some za5c := Tryz.func9
abbrev zbdy : FuncId := 10
abbrev za5i : Func := Tryz.f10
theorem zazq : Tryz.prog.funcs[zbdy]? = some za5i := Tryz.func10
abbrev za1b : FuncId := 11
abbrev za5j : Func := Tryz.f11
theorem zazr : Tryz.prog.funcs[za1b]? = some za5j := Tryz.func11
abbrev za1f : FuncId := 12
abbrev zv2 : Func := Tryz.f12
theorem zaz5 : Tryz.prog.funcs[za1f]? = some zv2 := Tryz.func12
abbrev zbd7 : FuncId := 13
abbrev za5o : Func := Tryz.f13
theorem zaz6 : Tryz.prog.funcs[zbd7]? = some za5o := Tryz.func13
abbrev zbd0 : FuncId := 14
abbrev zabg : Func := Tryz.f14
theorem zazu : Tryz.prog.funcs[zbd0]? = some zabg := Tryz.func14
abbrev zbd1 : FuncId := 15
abbrev zo8 : Func := Tryz.f15
theorem zazv : Tryz.prog.funcs[zbd1]? = some zo8 := Tryz.func15
abbrev zas2 : FuncId := 16
abbrev zy2 : Func := Tryz.f16
theorem zarb : Tryz.prog.funcs[zas2]? = some zy2 := Tryz.func16
abbrev zas3 : FuncId := 17
abbrev zy3 : Func := Tryz.f17
theorem zarc : Tryz.prog.funcs[zas3]? = some zy3 := Tryz.func17
abbrev zass : FuncId := 18
abbrev zyx : Func := Tryz.f18
theorem zaqs : Tryz.prog.funcs[zass]? = some zyx := Tryz.func18
abbrev zast : FuncId := 19
abbrev zyy : Func := Tryz.f19
theorem zaqt : Tryz.prog.funcs[zast]? = some zyy := Tryz.func19
abbrev zbef : FuncId := 20
abbrev za5x : Func := Tryz.f20
theorem za0o : Tryz.prog.funcs[zbef]? = some za5x := Tryz.func20
abbrev za1n : FuncId := 21
abbrev zabm : Func := Tryz.f21
theorem za0n : Tryz.prog.funcs[za1n]? = some zabm := Tryz.func21
abbrev zas4 : FuncId := 22
abbrev zy4 : Func := Tryz.f22
theorem zard : Tryz.prog.funcs[zas4]? = some zy4 := Tryz.func22
abbrev z3l : FuncId := 23
abbrev zy7 : Func := Tryz.f23
theorem zark : Tryz.prog.funcs[z3l]? = some zy7 := Tryz.func23
abbrev zas7 : FuncId := 24
abbrev zy8 : Func := Tryz.f24
theorem zarl : Tryz.prog.funcs[zas7]? = some zy8 := Tryz.func24
abbrev zl5 : FuncId := 25
abbrev zap4 : Func := Tryz.f25
theorem zaqv : Tryz.prog.funcs[zl5]? = some zap4 := Tryz.func25
abbrev zasw : FuncId := 26
abbrev zap5 : Func := Tryz.f26
theorem zaqy : Tryz.prog.funcs[zasw]? = some zap5 := Tryz.func26
abbrev zbeg : FuncId := 27
abbrev za5z : Func := Tryz.f27
theorem za0q : Tryz.prog.funcs[zbeg]? = some za5z := Tryz.func27
abbrev zbdn : FuncId := 28
abbrev za49 : Func := Tryz.f28
theorem zazc : Tryz.prog.funcs[zbdn]? = some za49 := Tryz.func28
abbrev za1o : FuncId := 29
abbrev za5y : Func := Tryz.f29
theorem za0p : Tryz.prog.funcs[za1o]? = some za5y := Tryz.func29
abbrev zas8 : FuncId := 30
abbrev zy9 : Func := Tryz.f30
theorem zarm : Tryz.prog.funcs[zas8]? = some zy9 := Tryz.func30
abbrev za1p : FuncId := 31
abbrev za50 : Func := Tryz.f31
theorem za0r : Tryz.prog.funcs[za1p]? = some za50 := Tryz.func31
abbrev zab2 : FuncId := 32
abbrev zaqa : Func := Tryz.f32
theorem zaq3 : Tryz.prog.funcs[zab2]? = some zaqa := Tryz.func32
abbrev za1h : FuncId := 33
abbrev zabk : Func := Tryz.f33
theorem za0b : Tryz.prog.funcs[za1h]? = some zabk := Tryz.func33
abbrev zasz : FuncId := 34
abbrev zaqb : Func := Tryz.f34
theorem zaq4 : Tryz.prog.funcs[zasz]? = some zaqb := Tryz.func34
abbrev zbdv : FuncId := 35
abbrev za5f : Func := Tryz.f35
theorem zazm : Tryz.prog.funcs[zbdv]? = some za5f := Tryz.func35
abbrev zasq : FuncId := 36
abbrev zapz : Func := Tryz.f36
theorem zaqn : Tryz.prog.funcs[zasq]? = some zapz := Tryz.func36
abbrev zbdp : FuncId := 37
abbrev za5a : Func := Tryz.f37
theorem zaze : Tryz.prog.funcs[zbdp]? = some za5a := Tryz.func37
abbrev za1i : FuncId := 38
abbrev zabl : Func := Tryz.f38
theorem za0c : Tryz.prog.funcs[za1i]? = some zabl := Tryz.func38
abbrev zbd2 : FuncId := 39
abbrev za5m : Func := Tryz.f39
theorem zazy : Tryz.prog.funcs[zbd2]? = some za5m := Tryz.func39
abbrev zbdi : FuncId := 40
abbrev za45 : Func := Tryz.f40
theorem zay2 : Tryz.prog.funcs[zbdi]? = some za45 := Tryz.func40
abbrev za09 : FuncId := 41
abbrev zbjd : Func := Tryz.f41
theorem zay7 : Tryz.prog.funcs[za09]? = some zbjd := Tryz.func41
abbrev ztq : FuncId := 42
abbrev zy6 : Func := Tryz.f42
theorem zari : Tryz.prog.funcs[ztq]? = some zy6 := Tryz.func42
abbrev zatf : FuncId := 43
abbrev za5h : Func := Tryz.f43
theorem zazp : Tryz.prog.funcs[zatf]? = some za5h := Tryz.func43
abbrev zae0 : FuncId := 44
abbrev zbjf : Func := Tryz.f44
theorem zazh : Tryz.prog.funcs[zae0]? = some zbjf := Tryz.func44
abbrev zab4 : FuncId := 45
abbrev zn0 : Func := Tryz.f45
theorem zara : Tryz.prog.funcs[zab4]? = some zn0 := Tryz.func45
abbrev zatg : FuncId := 46
abbrev zvz : Func := Tryz.f46
theorem zazt : Tryz.prog.funcs[zatg]? = some zvz := Tryz.func46
abbrev zatb : FuncId := 47
abbrev zaa3 : Func := Tryz.f47
theorem zayj : Tryz.prog.funcs[zatb]? = some zaa3 := Tryz.func47
abbrev z3n : FuncId := 48
abbrev za47 : Func := Tryz.f48
theorem zaza : Tryz.prog.funcs[z3n]? = some za47 := Tryz.func48
abbrev zbda : FuncId := 49
abbrev za4w : Func := Tryz.f49
theorem zayk : Tryz.prog.funcs[zbda]? = some za4w := Tryz.func49
abbrev zbdm : FuncId := 50
abbrev za48 : Func := Tryz.f50
theorem zazb : Tryz.prog.funcs[zbdm]? = some za48 := Tryz.func50
abbrev zpb : FuncId := 51
abbrev zaqf : Func := Tryz.f51
theorem zaq8 : Tryz.prog.funcs[zpb]? = some zaqf := Tryz.func51
abbrev zbdj : FuncId := 52
abbrev zbjb : Func := Tryz.f52
theorem zay4 : Tryz.prog.funcs[zbdj]? = some zbjb := Tryz.func52
abbrev zbd9 : FuncId := 53
abbrev zabj : Func := Tryz.f53
theorem zaz9 : Tryz.prog.funcs[zbd9]? = some zabj := Tryz.func53
abbrev ztr : FuncId := 54
abbrev zaqi : Func := Tryz.f54
theorem zarj : Tryz.prog.funcs[ztr]? = some zaqi := Tryz.func54
abbrev zpa : FuncId := 55
abbrev zaqe : Func := Tryz.f55
theorem zaq7 : Tryz.prog.funcs[zpa]? = some zaqe := Tryz.func55
abbrev zbdb : FuncId := 56
abbrev za4z : Func := Tryz.f56
theorem zayn : Tryz.prog.funcs[zbdb]? = some za4z := Tryz.func56
abbrev zae1 : FuncId := 57
abbrev za5u : Func := Tryz.f57
theorem za0h : Tryz.prog.funcs[zae1]? = some za5u := Tryz.func57
abbrev za08 : FuncId := 58
abbrev za43 : Func := Tryz.f58
theorem zay0 : Tryz.prog.funcs[za08]? = some za43 := Tryz.func58
abbrev za1a : FuncId := 59
abbrev za5d : Func := Tryz.f59
theorem zazk : Tryz.prog.funcs[za1a]? = some za5d := Tryz.func59
abbrev zbdo : FuncId := 60
abbrev zvy : Func := Tryz.f60
theorem zazd : Tryz.prog.funcs[zbdo]? = some zvy := Tryz.func60
abbrev zbea : FuncId := 61
abbrev za5q : Func := Tryz.f61
theorem za0a : Tryz.prog.funcs[zbea]? = some za5q := Tryz.func61
abbrev zath : FuncId := 62
abbrev za5l : Func := Tryz.f62
theorem zazx : Tryz.prog.funcs[zath]? = some za5l := Tryz.func62
abbrev zabx : FuncId := 63
abbrev zap0 : Func := Tryz.f63
theorem zaqo : Tryz.prog.funcs[zabx]? = some zap0 := Tryz.func63
abbrev zbdu : FuncId := 64
abbrev za5e : Func := Tryz.f64
theorem zazl : Tryz.prog.funcs[zbdu]? = some za5e := Tryz.func64
abbrev za1j : FuncId := 65
abbrev za5t : Func := Tryz.f65
theorem za0f : Tryz.prog.funcs[za1j]? = some za5t := Tryz.func65
abbrev zab3 : FuncId := 66
abbrev zy1 : Func := Tryz.f66
theorem zaq9 : Tryz.prog.funcs[zab3]? = some zy1 := Tryz.func66
abbrev zbd6 : FuncId := 67
abbrev zabi : Func := Tryz.f67
theorem zaz2 : Tryz.prog.funcs[zbd6]? = some zabi := Tryz.func67
abbrev zatc : FuncId := 68
abbrev zaa4 : Func := Tryz.f68
theorem zayo : Tryz.prog.funcs[zatc]? = some zaa4 := Tryz.func68
abbrev zbdx : FuncId := 69
abbrev zabf : Func := Tryz.f69
theorem zazo : Tryz.prog.funcs[zbdx]? = some zabf := Tryz.func69
abbrev z3m : FuncId := 70
abbrev za41 : Func := Tryz.f70
theorem zayu : Tryz.prog.funcs[z3m]? = some za41 := Tryz.func70
abbrev zbd5 : FuncId := 71
abbrev zv1 : Func := Tryz.f71
theorem zaz1 : Tryz.prog.funcs[zbd5]? = some zv1 := Tryz.func71
abbrev zpc : FuncId := 72
abbrev zaqg : Func := Tryz.f72
theorem zarf : Tryz.prog.funcs[zpc]? = some zaqg := Tryz.func72
abbrev zaby : FuncId := 73
abbrev zap3 : Func := Tryz.f73
theorem zaqr : Tryz.prog.funcs[zaby]? = some zap3 := Tryz.func73
abbrev zbds : FuncId := 74
abbrev zabd : Func := Tryz.f74
theorem zazi : Tryz.prog.funcs[zbds]? = some zabd := Tryz.func74
abbrev zate : FuncId := 75
abbrev zbje : Func := Tryz.f75
theorem zay8 : Tryz.prog.funcs[zate]? = some zbje := Tryz.func75
abbrev za05 : FuncId := 76
abbrev za4x : Func := Tryz.f76
theorem zayl : Tryz.prog.funcs[za05]? = some za4x := Tryz.func76
abbrev zts : FuncId := 77
abbrev za46 : Func := Tryz.f77
theorem zay3 : Tryz.prog.funcs[zts]? = some za46 := Tryz.func77
abbrev zbdt : FuncId := 78
abbrev zabe : Func := Tryz.f78
theorem zazj : Tryz.prog.funcs[zbdt]? = some zabe := Tryz.func78
abbrev zbdl : FuncId := 79
abbrev zabc : Func := Tryz.f79
theorem zay9 : Tryz.prog.funcs[zbdl]? = some zabc := Tryz.func79
abbrev zabz : FuncId := 80
abbrev zyz : Func := Tryz.f80
theorem zaqw : Tryz.prog.funcs[zabz]? = some zyz := Tryz.func80
abbrev z7o : FuncId := 81
abbrev zj6 : Func := Tryz.f81
theorem zza : Tryz.prog.funcs[z7o]? = some zj6 := Tryz.func81
abbrev zbdc : FuncId := 82
abbrev zaa6 : Func := Tryz.f82
theorem zays : Tryz.prog.funcs[zbdc]? = some zaa6 := Tryz.func82
abbrev zab7 : FuncId := 83
abbrev ziu : Func := Tryz.f83
theorem zarp : Tryz.prog.funcs[zab7]? = some ziu := Tryz.func83
abbrev zpd : FuncId := 84
abbrev zaqj : Func := Tryz.f84
theorem zarn : Tryz.prog.funcs[zpd]? = some zaqj := Tryz.func84
abbrev zab5 : FuncId := 85
abbrev zy5 : Func := Tryz.f85
theorem zare : Tryz.prog.funcs[zab5]? = some zy5 := Tryz.func85
abbrev zbee : FuncId := 87
abbrev zbjj : Func := Tryz.f87
theorem za0l : Tryz.prog.funcs[zbee]? = some zbjj := Tryz.func87
abbrev za1m : FuncId := 88
abbrev zbjk : Func := Tryz.f88
theorem za0m : Tryz.prog.funcs[za1m]? = some zbjk := Tryz.func88
abbrev zbdf : FuncId := 89
abbrev zaa9 : Func := Tryz.f89
theorem zayw : Tryz.prog.funcs[zbdf]? = some zaa9 := Tryz.func89
abbrev zbdg : FuncId := 90
abbrev zaba : Func := Tryz.f90
theorem zayy : Tryz.prog.funcs[zbdg]? = some zaba := Tryz.func90
abbrev zatd : FuncId := 91
abbrev za40 : Func := Tryz.f91
theorem zayr : Tryz.prog.funcs[zatd]? = some za40 := Tryz.func91
abbrev za1c : FuncId := 92
abbrev zbjg : Func := Tryz.f92
theorem zazw : Tryz.prog.funcs[za1c]? = some zbjg := Tryz.func92
abbrev z3o : FuncId := 93
abbrev za5s : Func := Tryz.f93
theorem za0e : Tryz.prog.funcs[z3o]? = some za5s := Tryz.func93
abbrev za1k : FuncId := 94
abbrev zo9 : Func := Tryz.f94
theorem za0g : Tryz.prog.funcs[za1k]? = some zo9 := Tryz.func94
abbrev za1d : FuncId := 95
abbrev za5n : Func := Tryz.f95
theorem zaz3 : Tryz.prog.funcs[za1d]? = some za5n := Tryz.func95
abbrev zbde : FuncId := 96
abbrev zaa8 : Func := Tryz.f96
theorem zayv : Tryz.prog.funcs[zbde]? = some zaa8 := Tryz.func96
abbrev zbdd : FuncId := 97
abbrev zaa7 : Func := Tryz.f97
theorem zayt : Tryz.prog.funcs[zbdd]? = some zaa7 := Tryz.func97
abbrev zbdh : FuncId := 98
abbrev za42 : Func := Tryz.f98
theorem zayz : Tryz.prog.funcs[zbdh]? = some za42 := Tryz.func98
abbrev za07 : FuncId := 99
abbrev zbja : Func := Tryz.f99
theorem zayx : Tryz.prog.funcs[za07]? = some zbja := Tryz.func99
abbrev zbjr : FuncId := 100
abbrev zbjc : Func := Tryz.f100
theorem zay5 : Tryz.prog.funcs[zbjr]? = some zbjc := Tryz.func100
abbrev zas6 : FuncId := 101
abbrev zn1 : Func := Tryz.f101
theorem zarh : Tryz.prog.funcs[zas6]? = some zn1 := Tryz.func101
abbrev zbed : FuncId := 102
abbrev zv3 : Func := Tryz.f102
theorem za0k : Tryz.prog.funcs[zbed]? = some zv3 := Tryz.func102
abbrev zbd4 : FuncId := 103
abbrev zabh : Func := Tryz.f103
theorem zaz0 : Tryz.prog.funcs[zbd4]? = some zabh := Tryz.func103
abbrev za04 : FuncId := 104
abbrev zaa2 : Func := Tryz.f104
theorem zayi : Tryz.prog.funcs[za04]? = some zaa2 := Tryz.func104
abbrev za1g : FuncId := 105
abbrev zbji : Func := Tryz.f105
theorem zaz7 : Tryz.prog.funcs[za1g]? = some zbji := Tryz.func105
abbrev zasv : FuncId := 106
abbrev zy0 : Func := Tryz.f106
theorem zaqx : Tryz.prog.funcs[zasv]? = some zy0 := Tryz.func106
abbrev zbdz : FuncId := 107
abbrev za5k : Func := Tryz.f107
theorem zazs : Tryz.prog.funcs[zbdz]? = some za5k := Tryz.func107
abbrev za1l : FuncId := 108
abbrev za5v : Func := Tryz.f108
theorem za0i : Tryz.prog.funcs[za1l]? = some za5v := Tryz.func108
abbrev zata : FuncId := 109
abbrev zaqm : Func := Tryz.f109
theorem zabn : Tryz.prog.funcs[zata]? = some zaqm := Tryz.func109
abbrev zaez : FuncId := 110
abbrev za44 : Func := Tryz.f110
theorem zay1 : Tryz.prog.funcs[zaez]? = some za44 := Tryz.func110
abbrev zab0 : FuncId := 111
abbrev zap8 : Func := Tryz.f111
theorem zaq1 : Tryz.prog.funcs[zab0]? = some zap8 := Tryz.func111
abbrev zbdk : FuncId := 112
abbrev zabb : Func := Tryz.f112
theorem zay6 : Tryz.prog.funcs[zbdk]? = some zabb := Tryz.func112
abbrev zab6 : FuncId := 113
abbrev zaqk : Func := Tryz.f113
theorem zaro : Tryz.prog.funcs[zab6]? = some zaqk := Tryz.func113
abbrev zasx : FuncId := 114
abbrev zap6 : Func := Tryz.f114
theorem zaqz : Tryz.prog.funcs[zasx]? = some zap6 := Tryz.func114
abbrev zas0 : FuncId := 115
abbrev zaqc : Func := Tryz.f115
theorem zaq5 : Tryz.prog.funcs[zas0]? = some zaqc := Tryz.func115
abbrev zasu : FuncId := 116
abbrev znz : Func := Tryz.f116
theorem zaqu : Tryz.prog.funcs[zasu]? = some znz := Tryz.func116
abbrev zbeb : FuncId := 124
abbrev za5r : Func := Tryz.f124
theorem za0d : Tryz.prog.funcs[zbeb]? = some za5r := Tryz.func124
abbrev zasy : FuncId := 125
abbrev zap7 : Func := Tryz.f125
theorem zaq0 : Tryz.prog.funcs[zasy]? = some zap7 := Tryz.func125
abbrev zas5 : FuncId := 126
abbrev zaqh : Func := Tryz.f126
theorem zarg : Tryz.prog.funcs[zas5]? = some zaqh := Tryz.func126
abbrev zbd3 : FuncId := 127
abbrev zv0 : Func := Tryz.f127
theorem zazz : Tryz.prog.funcs[zbd3]? = some zv0 := Tryz.func127
abbrev zpt : FuncId := 128
abbrev zaa5 : Func := Tryz.f128
theorem zayq : Tryz.prog.funcs[zpt]? = some zaa5 := Tryz.func128
abbrev za06 : FuncId := 129
abbrev zbi9 : Func := Tryz.f129
theorem zayp : Tryz.prog.funcs[za06]? = some zbi9 := Tryz.func129
abbrev zaey : FuncId := 130
abbrev za4y : Func := Tryz.f130
theorem zaym : Tryz.prog.funcs[zaey]? = some za4y := Tryz.func130
abbrev zbec : FuncId := 132
abbrev za5w : Func := Tryz.f132
theorem za0j : Tryz.prog.funcs[zbec]? = some za5w := Tryz.func132
abbrev zi0 : FuncId := 133
abbrev zgo : Func := Tryz.f133
theorem z2o : Tryz.prog.funcs[zi0]? = some zgo := Tryz.func133
abbrev za03 : FuncId := 134
abbrev zvx : Func := Tryz.f134
theorem zayh : Tryz.prog.funcs[za03]? = some zvx := Tryz.func134
abbrev zbd8 : FuncId := 144
abbrev za5p : Func := Tryz.f144
theorem zaz8 : Tryz.prog.funcs[zbd8]? = some za5p := Tryz.func144
abbrev za1e : FuncId := 145
abbrev zbjh : Func := Tryz.f145
theorem zaz4 : Tryz.prog.funcs[za1e]? = some zbjh := Tryz.func145
abbrev zas1 : FuncId := 146
abbrev zaqd : Func := Tryz.f146
theorem zaq6 : Tryz.prog.funcs[zas1]? = some zaqd := Tryz.func146
abbrev zab1 : FuncId := 162
abbrev zap9 : Func := Tryz.f162
theorem zaq2 : Tryz.prog.funcs[zab1]? = some zap9 := Tryz.func162
abbrev zf8 : FuncId := 131
abbrev zei : FuncId := 154
def E0 : TEnv := { P := Tryz.prog, lib := fun _ => none, raw := fun _ _ _ => none, modes := fun f => if f = za1m then [true, false] else if f = zatc then [true, true] else if f = zei then [true, false, false, false, false] else if f = zf8 then [true, false, false, false, false] else if f = za07 then [true, false] else if f = zatb then [true, false] else if f = za03 then [true, false, false, false, false] else if f = za04 then [true, false, false, false, false] else if f = za05 then [true, false] else if f = zate then [true, false, false] else [], gives := fun _ => [] }
theorem E0ok : E0.OK := ⟨by kernel_rfl, (fun f L h => by cases h), (fun f args R res R' h => by cases h)⟩
end Go.Proofs.W
