/-
  Contracts of library functions, as a seat's functions call them. Conditions: none.
-/
import Derived.Shelf.LaysM
import Derived.Shelf.LaysC
import Derived.Shelf.Strings.Split
import Derived.Shelf.Strconv.Itoa3
import Derived.Shelf.Strconv.AtoiAll
import Derived.Shelf.GgClosure.StringsIndexFuncTop
import Derived.Shelf.Strings.OnBuilder
import Derived.Shelf.Small.Strs
import Derived.Ground.NamesProg
import Derived.Ground.GgwProg
import Derived.Test.YtamhchkknlbanaaDoorRows
import Derived.Test.YtamhchkknlbanaaDoorBeN
import Derived.WalkKit
import Derived.Lib.Split
import Derived.Lib.SplitLaws
import Derived.Lib.IndexBytes
import Derived.Test.YtamhchkknlbanaaDoorSzD
set_option linter.unusedSectionVars false
set_option linter.unusedVariables false
set_option linter.unusedSimpArgs false
namespace Go.Proofs
open Go.Shelf
def Tryd.lays146_ren : Go.Shelf.Ren := ⟨fun | 146 => 40 | 221 => 54 | 268 => 61 | 138 => 62 | 143 => 63 | 195 => 74 | 197 => 75 | 218 => 76 | 219 => 77 | 260 => 88 | 217 => 57 | 225 => 89 | 224 => 90 | 267 => 91 | 266 => 67 | 314 => 97 | n => n, fun | 9 => 9 | 31 => 41 | 3 => 3 | 4 => 4 | 0 => 0 | 105 => 107 | 21 => 21 | 5 => 5 | 46 => 77 | 119 => 129 | 139 => 132 | 138 => 131 | 146 => 133 | 51 => 118 | n => n, fun | 1 => 0 | 3 => 4 | 4 => 5 | n => n⟩
theorem Tryd.lays146 : Go.Proofs.Lays.n146 Tryd.prog Tryd.lays146_ren := {
 mixed := by kernel_rfl
 f138 := Tryd.func62.trans (congrArg some (by kernel_rfl))
 f143 := Tryd.func63.trans (congrArg some (by kernel_rfl))
 f146 := Tryd.func40.trans (congrArg some (by kernel_rfl))
 f195 := Tryd.func74.trans (congrArg some (by kernel_rfl))
 f197 := Tryd.func75.trans (congrArg some (by kernel_rfl))
 f217 := Tryd.func57.trans (congrArg some (by kernel_rfl))
 f218 := Tryd.func76.trans (congrArg some (by kernel_rfl))
 f219 := Tryd.func77.trans (congrArg some (by kernel_rfl))
 f221 := Tryd.func54.trans (congrArg some (by kernel_rfl))
 f224 := Tryd.func90.trans (congrArg some (by kernel_rfl))
 f225 := Tryd.func89.trans (congrArg some (by kernel_rfl))
 f260 := Tryd.func88.trans (congrArg some (by kernel_rfl))
 f266 := Tryd.func67.trans (congrArg some (by kernel_rfl))
 f267 := Tryd.func91.trans (congrArg some (by kernel_rfl))
 f268 := Tryd.func61.trans (congrArg some (by kernel_rfl))
 f314 := Tryd.func97.trans (congrArg some (by kernel_rfl))
 t0 := Tryd.underlying0
 a0 := Tryd.isAgg0
 z0 := Tryd.sizeOf0
 v0 := Tryd.zeroValue0
 t3 := Tryd.underlying3
 a3 := Tryd.isAgg3
 z3 := Tryd.sizeOf3
 v3 := Tryd.zeroValue3
 t4 := Tryd.underlying4
 a4 := Tryd.isAgg4
 z4 := Tryd.sizeOf4
 v4 := Tryd.zeroValue4
 t5 := Tryd.underlying5
 a5 := Tryd.isAgg5
 z5 := Tryd.sizeOf5
 v5 := Tryd.zeroValue5
 t9 := Tryd.underlying9
 a9 := Tryd.isAgg9
 z9 := Tryd.sizeOf9
 v9 := Tryd.zeroValue9
 t21 := Tryd.underlying21
 a21 := Tryd.isAgg21
 z21 := Tryd.sizeOf21
 v21 := Tryd.zeroValue21
 t31 := Tryd.underlying41
 a31 := Tryd.isAgg41
 z31 := Tryd.sizeOf41
 v31 := Tryd.zeroValue41
 t46 := Tryd.underlying77
 a46 := Tryd.isAgg77
 z46 := Tryd.sizeOf77
 v46 := Tryd.zeroValue77
 t51 := Tryd.underlying118
 a51 := Tryd.isAgg118
 z51 := Tryd.sizeOf118
 v51 := Tryd.zeroValue118
 t105 := Tryd.underlying107
 a105 := Tryd.isAgg107
 z105 := Tryd.sizeOf107
 v105 := Tryd.zeroValue107
 t119 := Tryd.underlying129
 a119 := Tryd.isAgg129
 z119 := Tryd.sizeOf129
 t138 := Tryd.underlying131
 a138 := Tryd.isAgg131
 z138 := Tryd.sizeOf131
 v138 := Tryd.zeroValue131
 t139 := Tryd.underlying132
 a139 := Tryd.isAgg132
 z139 := Tryd.sizeOf132
 v139 := Tryd.zeroValue132
 t146 := Tryd.underlying133
 a146 := Tryd.isAgg133
 z146 := Tryd.sizeOf133
 v146 := Tryd.zeroValue133
 g1 := by kernel_rfl
 g3 := by kernel_rfl
 g4 := by kernel_rfl }
def Tryd.laysGw17_ren : Go.Shelf.Ren := ⟨fun | 17 => 41 | 15 => 55 | 20 => 64 | n => n, fun | 9 => 9 | 23 => 75 | 4 => 4 | 3 => 3 | 0 => 0 | 21 => 21 | n => n, fun | n => n⟩
theorem Tryd.laysGw17 : Go.Proofs.LaysGw.n17 Tryd.prog Tryd.laysGw17_ren := {
 mixed := by kernel_rfl
 f15 := Tryd.func55.trans (congrArg some (by kernel_rfl))
 f17 := Tryd.func41.trans (congrArg some (by kernel_rfl))
 f20 := Tryd.func64.trans (congrArg some (by kernel_rfl))
 t0 := Tryd.underlying0
 a0 := Tryd.isAgg0
 z0 := Tryd.sizeOf0
 v0 := Tryd.zeroValue0
 i0 := by kernel_rfl
 t3 := Tryd.underlying3
 a3 := Tryd.isAgg3
 z3 := Tryd.sizeOf3
 v3 := Tryd.zeroValue3
 i3 := by kernel_rfl
 t4 := Tryd.underlying4
 a4 := Tryd.isAgg4
 z4 := Tryd.sizeOf4
 v4 := Tryd.zeroValue4
 i4 := by kernel_rfl
 t9 := Tryd.underlying9
 a9 := Tryd.isAgg9
 z9 := Tryd.sizeOf9
 v9 := Tryd.zeroValue9
 i9 := by kernel_rfl
 t21 := Tryd.underlying21
 a21 := Tryd.isAgg21
 z21 := Tryd.sizeOf21
 v21 := Tryd.zeroValue21
 i21 := by kernel_rfl
 t23 := Tryd.underlying75
 a23 := Tryd.isAgg75
 z23 := Tryd.sizeOf75
 v23 := Tryd.zeroValue75
 i23 := by kernel_rfl }
def Tryd.laysM171_ren : Go.Shelf.Ren := ⟨fun | 171 => 30 | 243 => 49 | 246 => 58 | 283 => 68 | 284 => 69 | 285 => 70 | 286 => 71 | 129 => 84 | 317 => 83 | 318 => 85 | 319 => 86 | 320 => 87 | 337 => 95 | 338 => 96 | n => n, fun | 3 => 3 | 9 => 9 | 2 => 2 | 4 => 4 | 171 => 97 | 0 => 0 | 53 => 98 | 37 => 22 | 5 => 5 | 173 => 101 | 212 => 117 | 51 => 118 | 20 => 20 | 213 => 119 | 46 => 77 | 232 => 139 | 233 => 140 | n => n, fun | 17 => 1 | 18 => 6 | 19 => 7 | n => n⟩
theorem Tryd.laysM171 : Go.Proofs.LaysM.n171 Tryd.prog Tryd.laysM171_ren := {
 mixed := by kernel_rfl
 f129 := Tryd.func84.trans (congrArg some (by kernel_rfl))
 f171 := Tryd.func30.trans (congrArg some (by kernel_rfl))
 f243 := Tryd.func49.trans (congrArg some (by kernel_rfl))
 f246 := Tryd.func58.trans (congrArg some (by kernel_rfl))
 f283 := Tryd.func68.trans (congrArg some (by kernel_rfl))
 f284 := Tryd.func69.trans (congrArg some (by kernel_rfl))
 f285 := Tryd.func70.trans (congrArg some (by kernel_rfl))
 f286 := Tryd.func71.trans (congrArg some (by kernel_rfl))
 f317 := Tryd.func83.trans (congrArg some (by kernel_rfl))
 f318 := Tryd.func85.trans (congrArg some (by kernel_rfl))
 f319 := Tryd.func86.trans (congrArg some (by kernel_rfl))
 f320 := Tryd.func87.trans (congrArg some (by kernel_rfl))
 f337 := Tryd.func95.trans (congrArg some (by kernel_rfl))
 f338 := Tryd.func96.trans (congrArg some (by kernel_rfl))
 t0 := Tryd.underlying0
 a0 := Tryd.isAgg0
 z0 := Tryd.sizeOf0
 v0 := Tryd.zeroValue0
 t2 := Tryd.underlying2
 a2 := Tryd.isAgg2
 z2 := Tryd.sizeOf2
 v2 := Tryd.zeroValue2
 t3 := Tryd.underlying3
 a3 := Tryd.isAgg3
 z3 := Tryd.sizeOf3
 v3 := Tryd.zeroValue3
 t4 := Tryd.underlying4
 a4 := Tryd.isAgg4
 z4 := Tryd.sizeOf4
 v4 := Tryd.zeroValue4
 t5 := Tryd.underlying5
 a5 := Tryd.isAgg5
 z5 := Tryd.sizeOf5
 v5 := Tryd.zeroValue5
 t9 := Tryd.underlying9
 a9 := Tryd.isAgg9
 z9 := Tryd.sizeOf9
 v9 := Tryd.zeroValue9
 t20 := Tryd.underlying20
 a20 := Tryd.isAgg20
 z20 := Tryd.sizeOf20
 v20 := Tryd.zeroValue20
 t37 := Tryd.underlying22
 a37 := Tryd.isAgg22
 z37 := Tryd.sizeOf22
 v37 := Tryd.zeroValue22
 t46 := Tryd.underlying77
 a46 := Tryd.isAgg77
 z46 := Tryd.sizeOf77
 v46 := Tryd.zeroValue77
 t51 := Tryd.underlying118
 a51 := Tryd.isAgg118
 z51 := Tryd.sizeOf118
 v51 := Tryd.zeroValue118
 t53 := Tryd.underlying98
 a53 := Tryd.isAgg98
 z53 := Tryd.sizeOf98
 v53 := Tryd.zeroValue98
 t171 := Tryd.underlying97
 a171 := Tryd.isAgg97
 z171 := Tryd.sizeOf97
 v171 := Tryd.zeroValue97
 t173 := Tryd.underlying101
 a173 := Tryd.isAgg101
 z173 := Tryd.sizeOf101
 v173 := Tryd.zeroValue101
 t212 := Tryd.underlying117
 a212 := Tryd.isAgg117
 z212 := Tryd.sizeOf117
 v212 := Tryd.zeroValue117
 t213 := Tryd.underlying119
 a213 := Tryd.isAgg119
 z213 := Tryd.sizeOf119
 t232 := Tryd.underlying139
 a232 := Tryd.isAgg139
 z232 := Tryd.sizeOf139
 v232 := Tryd.zeroValue139
 t233 := Tryd.underlying140
 a233 := Tryd.isAgg140
 z233 := Tryd.sizeOf140
 v233 := Tryd.zeroValue140
 g17 := by kernel_rfl
 g18 := by kernel_rfl
 g19 := by kernel_rfl
 i0 := by kernel_rfl
 i2 := by kernel_rfl
 i3 := by kernel_rfl
 i4 := by kernel_rfl
 i5 := by kernel_rfl
 i9 := by kernel_rfl
 i20 := by kernel_rfl
 i37 := by kernel_rfl
 i46 := by kernel_rfl
 i51 := by kernel_rfl
 i53 := by kernel_rfl
 i171 := by kernel_rfl
 i173 := by kernel_rfl
 i212 := by kernel_rfl
 i232 := by kernel_rfl
 i233 := by kernel_rfl
 m17 := by kernel_rfl
 m18 := by kernel_rfl
 m19 := by kernel_rfl }
def Tryd.laysC172_ren : Go.Shelf.Ren := ⟨fun | 172 => 56 | 244 => 65 | 245 => 66 | 247 => 78 | 279 => 79 | 280 => 80 | 281 => 81 | 282 => 82 | 287 => 92 | 316 => 93 | 171 => 30 | 205 => 94 | 321 => 98 | 322 => 99 | 243 => 49 | 246 => 58 | 283 => 68 | 284 => 69 | 285 => 70 | 286 => 71 | 129 => 84 | 317 => 83 | 318 => 85 | 319 => 86 | 320 => 87 | 337 => 95 | 338 => 96 | n => n, fun | 9 => 9 | 3 => 3 | 75 => 83 | 76 => 87 | 4 => 4 | 5 => 5 | 167 => 109 | 37 => 22 | 0 => 0 | 85 => 110 | 2 => 2 | 168 => 112 | 53 => 98 | 175 => 122 | 46 => 77 | 210 => 126 | 127 => 92 | 145 => 138 | 143 => 136 | 21 => 21 | 171 => 97 | 173 => 101 | 212 => 117 | 51 => 118 | 20 => 20 | 213 => 119 | 232 => 139 | 233 => 140 | 80 => 85 | n => n, fun | 15 => 2 | 16 => 3 | 17 => 1 | 18 => 6 | 19 => 7 | n => n⟩
theorem Tryd.laysC172 : Go.Proofs.LaysC.n172 Tryd.prog Tryd.laysC172_ren := {
 mixed := by kernel_rfl
 f129 := Tryd.func84.trans (congrArg some (by kernel_rfl))
 f171 := Tryd.func30.trans (congrArg some (by kernel_rfl))
 f172 := Tryd.func56.trans (congrArg some (by kernel_rfl))
 f205 := Tryd.func94.trans (congrArg some (by kernel_rfl))
 f243 := Tryd.func49.trans (congrArg some (by kernel_rfl))
 f244 := Tryd.func65.trans (congrArg some (by kernel_rfl))
 f245 := Tryd.func66.trans (congrArg some (by kernel_rfl))
 f246 := Tryd.func58.trans (congrArg some (by kernel_rfl))
 f247 := Tryd.func78.trans (congrArg some (by kernel_rfl))
 f279 := Tryd.func79.trans (congrArg some (by kernel_rfl))
 f280 := Tryd.func80.trans (congrArg some (by kernel_rfl))
 f281 := Tryd.func81.trans (congrArg some (by kernel_rfl))
 f282 := Tryd.func82.trans (congrArg some (by kernel_rfl))
 f283 := Tryd.func68.trans (congrArg some (by kernel_rfl))
 f284 := Tryd.func69.trans (congrArg some (by kernel_rfl))
 f285 := Tryd.func70.trans (congrArg some (by kernel_rfl))
 f286 := Tryd.func71.trans (congrArg some (by kernel_rfl))
 f287 := Tryd.func92.trans (congrArg some (by kernel_rfl))
 f316 := Tryd.func93.trans (congrArg some (by kernel_rfl))
 f317 := Tryd.func83.trans (congrArg some (by kernel_rfl))
 f318 := Tryd.func85.trans (congrArg some (by kernel_rfl))
 f319 := Tryd.func86.trans (congrArg some (by kernel_rfl))
 f320 := Tryd.func87.trans (congrArg some (by kernel_rfl))
 f321 := Tryd.func98.trans (congrArg some (by kernel_rfl))
 f322 := Tryd.func99.trans (congrArg some (by kernel_rfl))
 f337 := Tryd.func95.trans (congrArg some (by kernel_rfl))
 f338 := Tryd.func96.trans (congrArg some (by kernel_rfl))
 t0 := Tryd.underlying0
 a0 := Tryd.isAgg0
 z0 := Tryd.sizeOf0
 v0 := Tryd.zeroValue0
 t2 := Tryd.underlying2
 a2 := Tryd.isAgg2
 z2 := Tryd.sizeOf2
 v2 := Tryd.zeroValue2
 t3 := Tryd.underlying3
 a3 := Tryd.isAgg3
 z3 := Tryd.sizeOf3
 v3 := Tryd.zeroValue3
 t4 := Tryd.underlying4
 a4 := Tryd.isAgg4
 z4 := Tryd.sizeOf4
 v4 := Tryd.zeroValue4
 t5 := Tryd.underlying5
 a5 := Tryd.isAgg5
 z5 := Tryd.sizeOf5
 v5 := Tryd.zeroValue5
 t9 := Tryd.underlying9
 a9 := Tryd.isAgg9
 z9 := Tryd.sizeOf9
 v9 := Tryd.zeroValue9
 t20 := Tryd.underlying20
 a20 := Tryd.isAgg20
 z20 := Tryd.sizeOf20
 v20 := Tryd.zeroValue20
 t21 := Tryd.underlying21
 a21 := Tryd.isAgg21
 z21 := Tryd.sizeOf21
 v21 := Tryd.zeroValue21
 t37 := Tryd.underlying22
 a37 := Tryd.isAgg22
 z37 := Tryd.sizeOf22
 v37 := Tryd.zeroValue22
 t46 := Tryd.underlying77
 a46 := Tryd.isAgg77
 z46 := Tryd.sizeOf77
 v46 := Tryd.zeroValue77
 t51 := Tryd.underlying118
 a51 := Tryd.isAgg118
 z51 := Tryd.sizeOf118
 v51 := Tryd.zeroValue118
 t53 := Tryd.underlying98
 a53 := Tryd.isAgg98
 z53 := Tryd.sizeOf98
 v53 := Tryd.zeroValue98
 t75 := Tryd.underlying83
 a75 := Tryd.isAgg83
 z75 := Tryd.sizeOf83
 v75 := Tryd.zeroValue83
 t76 := Tryd.underlying87
 a76 := Tryd.isAgg87
 z76 := Tryd.sizeOf87
 v76 := Tryd.zeroValue87
 t85 := Tryd.underlying110
 a85 := Tryd.isAgg110
 z85 := Tryd.sizeOf110
 v85 := Tryd.zeroValue110
 t127 := Tryd.underlying92
 a127 := Tryd.isAgg92
 z127 := Tryd.sizeOf92
 v127 := Tryd.zeroValue92
 t143 := Tryd.underlying136
 a143 := Tryd.isAgg136
 z143 := Tryd.sizeOf136
 v143 := Tryd.zeroValue136
 t145 := Tryd.underlying138
 a145 := Tryd.isAgg138
 z145 := Tryd.sizeOf138
 v145 := Tryd.zeroValue138
 t167 := Tryd.underlying109
 a167 := Tryd.isAgg109
 z167 := Tryd.sizeOf109
 v167 := Tryd.zeroValue109
 t168 := Tryd.underlying112
 a168 := Tryd.isAgg112
 z168 := Tryd.sizeOf112
 v168 := Tryd.zeroValue112
 t171 := Tryd.underlying97
 a171 := Tryd.isAgg97
 z171 := Tryd.sizeOf97
 v171 := Tryd.zeroValue97
 t173 := Tryd.underlying101
 a173 := Tryd.isAgg101
 z173 := Tryd.sizeOf101
 v173 := Tryd.zeroValue101
 t175 := Tryd.underlying122
 a175 := Tryd.isAgg122
 z175 := Tryd.sizeOf122
 v175 := Tryd.zeroValue122
 t210 := Tryd.underlying126
 a210 := Tryd.isAgg126
 z210 := Tryd.sizeOf126
 v210 := Tryd.zeroValue126
 t212 := Tryd.underlying117
 a212 := Tryd.isAgg117
 z212 := Tryd.sizeOf117
 v212 := Tryd.zeroValue117
 t213 := Tryd.underlying119
 a213 := Tryd.isAgg119
 z213 := Tryd.sizeOf119
 t232 := Tryd.underlying139
 a232 := Tryd.isAgg139
 z232 := Tryd.sizeOf139
 v232 := Tryd.zeroValue139
 t233 := Tryd.underlying140
 a233 := Tryd.isAgg140
 z233 := Tryd.sizeOf140
 v233 := Tryd.zeroValue140
 g15 := by kernel_rfl
 g16 := by kernel_rfl
 g17 := by kernel_rfl
 g18 := by kernel_rfl
 g19 := by kernel_rfl
 t80 := Tryd.underlying85
 a80 := Tryd.isAgg85
 z80 := Tryd.sizeOf85
 v80 := Tryd.zeroValue85
 i0 := by kernel_rfl
 i2 := by kernel_rfl
 i3 := by kernel_rfl
 i4 := by kernel_rfl
 i5 := by kernel_rfl
 i9 := by kernel_rfl
 i20 := by kernel_rfl
 i21 := by kernel_rfl
 i37 := by kernel_rfl
 i46 := by kernel_rfl
 i51 := by kernel_rfl
 i53 := by kernel_rfl
 i75 := by kernel_rfl
 i76 := by kernel_rfl
 i80 := by kernel_rfl
 i85 := by kernel_rfl
 i127 := by kernel_rfl
 i143 := by kernel_rfl
 i145 := by kernel_rfl
 i167 := by kernel_rfl
 i168 := by kernel_rfl
 i171 := by kernel_rfl
 i173 := by kernel_rfl
 i175 := by kernel_rfl
 i210 := by kernel_rfl
 i212 := by kernel_rfl
 i232 := by kernel_rfl
 i233 := by kernel_rfl
 m15 := by kernel_rfl
 m16 := by kernel_rfl
 m17 := by kernel_rfl
 m18 := by kernel_rfl
 m19 := by kernel_rfl
 c0 := by kernel_rfl
 c2 := by kernel_rfl
 c3 := by kernel_rfl
 c4 := by kernel_rfl
 c5 := by kernel_rfl
 c9 := by kernel_rfl
 c20 := by kernel_rfl
 c21 := by kernel_rfl
 c37 := by kernel_rfl
 c46 := by kernel_rfl
 c51 := by kernel_rfl
 c53 := by kernel_rfl
 c75 := by kernel_rfl
 c76 := by kernel_rfl
 c80 := by kernel_rfl
 c85 := by kernel_rfl
 c127 := by kernel_rfl
 c143 := by kernel_rfl
 c145 := by kernel_rfl
 c167 := by kernel_rfl
 c168 := by kernel_rfl
 c171 := by kernel_rfl
 c173 := by kernel_rfl
 c175 := by kernel_rfl
 c210 := by kernel_rfl
 c212 := by kernel_rfl
 c213 := by kernel_rfl
 c232 := by kernel_rfl
 c233 := by kernel_rfl }
def Tryd.lays137_ren : Go.Shelf.Ren := ⟨fun | 137 => 47 | 217 => 57 | 266 => 67 | n => n, fun | 9 => 9 | 5 => 5 | 3 => 3 | n => n, fun | n => n⟩
theorem Tryd.lays137 : Go.Proofs.Lays.n137 Tryd.prog Tryd.lays137_ren := {
 mixed := by kernel_rfl
 f137 := Tryd.func47.trans (congrArg some (by kernel_rfl))
 f217 := Tryd.func57.trans (congrArg some (by kernel_rfl))
 f266 := Tryd.func67.trans (congrArg some (by kernel_rfl))
 t3 := Tryd.underlying3
 a3 := Tryd.isAgg3
 z3 := Tryd.sizeOf3
 v3 := Tryd.zeroValue3
 t5 := Tryd.underlying5
 a5 := Tryd.isAgg5
 z5 := Tryd.sizeOf5
 v5 := Tryd.zeroValue5
 t9 := Tryd.underlying9
 a9 := Tryd.isAgg9
 z9 := Tryd.sizeOf9
 v9 := Tryd.zeroValue9 }
def Tryd.lays156_ren : Go.Shelf.Ren := ⟨fun | 156 => 33 | 165 => 52 | 166 => 53 | 169 => 51 | 240 => 59 | 241 => 60 | 276 => 72 | 277 => 73 | n => n, fun | 31 => 41 | 9 => 9 | 3 => 3 | 4 => 4 | 0 => 0 | 20 => 20 | 72 => 81 | 76 => 87 | 70 => 79 | 37 => 22 | 75 => 83 | 127 => 92 | 164 => 103 | 5 => 5 | 80 => 85 | n => n, fun | n => n⟩
theorem Tryd.lays156 : Go.Proofs.Lays.n156 Tryd.prog Tryd.lays156_ren := {
 mixed := by kernel_rfl
 f156 := Tryd.func33.trans (congrArg some (by kernel_rfl))
 f165 := Tryd.func52.trans (congrArg some (by kernel_rfl))
 f166 := Tryd.func53.trans (congrArg some (by kernel_rfl))
 f169 := Tryd.func51.trans (congrArg some (by kernel_rfl))
 f240 := Tryd.func59.trans (congrArg some (by kernel_rfl))
 f241 := Tryd.func60.trans (congrArg some (by kernel_rfl))
 f276 := Tryd.func72.trans (congrArg some (by kernel_rfl))
 f277 := Tryd.func73.trans (congrArg some (by kernel_rfl))
 t0 := Tryd.underlying0
 a0 := Tryd.isAgg0
 z0 := Tryd.sizeOf0
 v0 := Tryd.zeroValue0
 t3 := Tryd.underlying3
 a3 := Tryd.isAgg3
 z3 := Tryd.sizeOf3
 v3 := Tryd.zeroValue3
 t4 := Tryd.underlying4
 a4 := Tryd.isAgg4
 z4 := Tryd.sizeOf4
 v4 := Tryd.zeroValue4
 t9 := Tryd.underlying9
 a9 := Tryd.isAgg9
 z9 := Tryd.sizeOf9
 v9 := Tryd.zeroValue9
 t20 := Tryd.underlying20
 a20 := Tryd.isAgg20
 z20 := Tryd.sizeOf20
 v20 := Tryd.zeroValue20
 t31 := Tryd.underlying41
 a31 := Tryd.isAgg41
 z31 := Tryd.sizeOf41
 v31 := Tryd.zeroValue41
 t37 := Tryd.underlying22
 a37 := Tryd.isAgg22
 z37 := Tryd.sizeOf22
 v37 := Tryd.zeroValue22
 t70 := Tryd.underlying79
 a70 := Tryd.isAgg79
 z70 := Tryd.sizeOf79
 v70 := Tryd.zeroValue79
 t72 := Tryd.underlying81
 a72 := Tryd.isAgg81
 z72 := Tryd.sizeOf81
 v72 := Tryd.zeroValue81
 t75 := Tryd.underlying83
 a75 := Tryd.isAgg83
 z75 := Tryd.sizeOf83
 v75 := Tryd.zeroValue83
 t76 := Tryd.underlying87
 a76 := Tryd.isAgg87
 z76 := Tryd.sizeOf87
 v76 := Tryd.zeroValue87
 t127 := Tryd.underlying92
 a127 := Tryd.isAgg92
 z127 := Tryd.sizeOf92
 v127 := Tryd.zeroValue92
 t164 := Tryd.underlying103
 a164 := Tryd.isAgg103
 z164 := Tryd.sizeOf103
 v164 := Tryd.zeroValue103 }
end Go.Proofs

namespace Go.Proofs.YtamhchkknlbanaaDoor.Be
open Go.Sx Go.Proofs Go.RowKit
theorem b99 {w : World} (h : TW w) : Lib.TabIs Tryd.prog w "internal/strconv.uint64pow10" .u64 Lib.pow10Tab := by
 obtain ⟨o, h1, t, fr, rfl⟩ := h _ (List.mem_cons_of_mem _ (List.mem_cons_self ..))
 have hg : Tryd.prog.globalNamed "internal/strconv.uint64pow10" = some 1 := by kernel_rfl
 unfold Lib.TabIs World.var?
 rw [hg]
 show (match w.heap[1]? with | some (.cells cs _ _) => some cs | _ => none) = _
 rw [h1]
 rfl
theorem b98 {w : World} (h : TW w) : ∃ m, w.cell? ⟨0, 0, none⟩ = some (.int .i64 m) := by
 obtain ⟨o, h1, m, t, fr, rfl⟩ := h _ (List.mem_cons_self ..)
 exact ⟨m, by unfold World.cell?; rw [h1]; rfl⟩
theorem b36 {w : World} (h : TW w) {k : Nat} (hk : k = 2 ∨ k = 3) : ∃ te pe, w.cell? ⟨k, 0, none⟩ = some (.iface te pe) := by
 have : (k, isE1) ∈ byc := by rcases hk with rfl | rfl <;> simp [byc]
 obtain ⟨o, h1, te, pe, t, fr, rfl⟩ := h _ this
 exact ⟨te, pe, by unfold World.cell?; rw [h1]; rfl⟩
theorem b2o {w w' : World} (h : TW w) (hb : Below w.heap.size w w') : TW w' := h.keep fun k hk => hb.block k hk
theorem Below.trans' {w w1 w2 : World} (h : Below w.heap.size w w1) (h' : Below w1.heap.size w1 w2) : Below w.heap.size w w2 :=
 ⟨h'.os.trans h.os, h'.tape.trans h.tape, h'.output.trans h.output, Nat.le_trans h.size h'.size, fun k hk => (h'.block k (Nat.lt_of_lt_of_le hk h.size)).trans (h.block k hk)⟩
theorem brg (w : World) (k : Nat) (os : Array Obj) : Below w.heap.size w (Go.Sort.grow (w.drewN k) os) := by
 refine ⟨rfl, rfl, rfl, ?_, fun j hj => ?_⟩
 ·show w.heap.size ≤ (w.heap ++ os).size
  rw [Array.size_append]
  omega
 ·show (w.heap ++ os)[j]? = _
  rw [Array.getElem?_append_left hj]
theorem a5c (n : Int) (h0 : -9223372036854775808 ≤ n) (h1 : n ≤ 9223372036854775807) (w : World) (tw : TW w) :
  Calls Tryd.prog 30 #[.int .i64 n] w fun e w' => e = .returned (.string ⟨(Lib.itoa n).toArray⟩) ∧ Below w.heap.size w w' :=
 (Any.strconv_Itoa Tryd.laysM171 n h0 h1 w (b99 tw)).mono fun e w' ⟨h2, k, os, h3⟩ => ⟨h2, by rw [h3]; exact brg w k os⟩
theorem bq5 (s : ByteArray) (hs : s.size ≤ 4294967280) (w : World) (tw : TW w) :
  Calls Tryd.prog 56 #[.string s] w fun e w' => ((∃ v, Lib.atoiAll s.data.toList = .ok v ∧ e = .returned (.tuple #[.int .i64 v, .nilIface])) ∨ ((∀ v, Lib.atoiAll s.data.toList ≠ .ok v) ∧ ∃ a b, e = .returned (.tuple #[.int .i64 (al1 s.data.toList), .iface a b]))) ∧ Below w.heap.size w w' := by
 cases h : Lib.atoiAll s.data.toList with
 | ok v =>
  refine (Any.strconv_Atoi_ok Tryd.laysC172 s (by omega) v h w).mono fun e w' ⟨h1, h2⟩ => ⟨.inl ⟨v, rfl, h1⟩, ?_⟩
  rcases h2 with rfl | ⟨t, rfl⟩
  ·exact Below.refl _ _
  ·exact Lib.bytesWorld_below w _ t
 | range =>
  obtain ⟨te, pe, hv⟩ := b36 tw (k := 3) (.inr rfl)
  refine (Any.strconv_Atoi_range Tryd.laysC172 s (by omega) h _ w hv (.inr ⟨te, pe, rfl⟩)).mono ?_
  rintro e w' ⟨N, rfl, _, _, h2⟩
  have e1 : al1 s.data.toList = Lib.atoiSat s.data.toList := by unfold al1; rw [h]
  rw [e1]
  exact ⟨.inr ⟨fun v hh => (by cases hh), Tryd.laysC172_ren.t 168, .pointer (some ⟨N, 0, none⟩), rfl⟩, h2⟩
 | _ =>
  obtain ⟨te, pe, hv⟩ := b36 tw (k := 2) (.inl rfl)
  refine (Any.strconv_Atoi_syntax Tryd.laysC172 s (by omega) h _ w hv (.inr ⟨te, pe, rfl⟩)).mono ?_
  rintro e w' ⟨N, rfl, _, _, h2⟩
  have e1 : al1 s.data.toList = 0 := by unfold al1; rw [h]
  rw [e1]
  exact ⟨.inr ⟨fun v hh => (by cases hh), Tryd.laysC172_ren.t 168, .pointer (some ⟨N, 0, none⟩), rfl⟩, h2⟩
set_option maxRecDepth 100000 in
theorem bjj (s : ByteArray) (hs : s.size ≤ 4294967280) (w : World) (tw : TW w) :
  Calls Tryd.prog 44 #[.string s] w fun e w' => e = .returned (.tuple #[.int .i64 (al1 s.data.toList), .bool (nOk s.data.toList)]) ∧ Below w.heap.size w w' := by
 go_enter Tryd.func44, Tryd.ntmps44
 go_wp2_with (first
  | (go_at_call 56; refine (bq5 s hs _ tw).mono ?_; rintro e w1 ⟨(⟨v, hv, rfl⟩ | ⟨hv, a, b, rfl⟩), hb1⟩)
  | (go_at_call 30; refine (a5c _ (by omega) (by omega) _ (b2o tw (by assumption))).mono ?_; rintro e w2 ⟨rfl, hb2⟩))
 ·go_ret2
  have hd := axl (l := s.data.toList)
  have hv' : al1 s.data.toList = v := by unfold al1; rw [hv]
  rw [hv] at hd
  simp only at hd
  rw [decide_eq_true (show 0 ≤ v by assumption), decide_eq_true (show v ≤ 1073741824 by assumption), Bool.true_and, Bool.true_and] at hd
  refine ⟨?_, Below.trans' hb1 hb2⟩
  rw [hv', hd, ByteArray.toList_eq]
  have : (Lib.itoa v == s.data.toList) = decide (Lib.itoa v = s.data.toList) := by
   rw [Bool.eq_iff_iff, beq_iff_eq, decide_eq_true_eq]
  rw [this]
  rfl
 ·go_ret2
  have hd := axl (l := s.data.toList)
  have hv' : al1 s.data.toList = v := by unfold al1; rw [hv]
  rw [hv] at hd
  simp only at hd
  rw [decide_eq_false (show ¬ v ≤ 1073741824 by omega), Bool.false_and, Bool.and_false] at hd
  exact ⟨by rw [hv', hd]; rfl, hb1⟩
 ·go_ret2
  have hd := axl (l := s.data.toList)
  have hv' : al1 s.data.toList = v := by unfold al1; rw [hv]
  rw [hv] at hd
  simp only at hd
  rw [decide_eq_false (show ¬ 0 ≤ v by omega), Bool.false_and] at hd
  exact ⟨by rw [hv', hd]; rfl, hb1⟩
 ·go_ret2
  have hd := axl (l := s.data.toList)
  refine ⟨?_, hb1⟩
  rw [hd]
  cases h : Lib.atoiAll s.data.toList with
  | ok v => exact absurd h (hv v)
  | _ => rfl
end Go.Proofs.YtamhchkknlbanaaDoor.Be

namespace Go.Proofs.YtamhchkknlbanaaDoor.Be
open Go.Sx Go.Proofs Go.Lib
theorem b62 (A : List (List UInt8)) : ∀ (r : List UInt8) (B : List (List UInt8)) (w : List UInt8), r.foldl stp (A ++ B, w) = (A ++ (r.foldl stp (B, w)).1, (r.foldl stp (B, w)).2)
 | [], B, w => rfl
 | b :: r, B, w => by
  show r.foldl stp (stp (A ++ B, w) b) = (A ++ (r.foldl stp (stp (B, w) b)).1, (r.foldl stp (stp (B, w) b)).2)
  unfold stp
  split
  ·show r.foldl stp (A ++ B ++ [w], []) = _
   rw [List.append_assoc, b62 A r (B ++ [w]) []]
   rfl
  ·exact b62 A r B (w ++ [b])
theorem blz : ∀ (p : List UInt8) (A : List (List UInt8)) (w : List UInt8), (∀ b ∈ p, b.toNat ≠ 32) → p.foldl stp (A, w) = (A, w ++ p)
 | [], A, w, _ => by rw [List.append_nil]; rfl
 | b :: p, A, w, h => by
  show p.foldl stp (stp (A, w) b) = _
  have : stp (A, w) b = (A, w ++ [b]) := by
   unfold stp
   rw [if_neg (h b (List.mem_cons_self ..))]
  rw [this, blz p A _ fun c hc => h c (List.mem_cons_of_mem _ hc), List.append_assoc]
  rfl
theorem b32 {b : UInt8} : b.toNat = 32 ↔ b = 32 := by
 rw [← UInt8.toNat_inj]
 rfl
theorem bu9 : ∀ (l : List UInt8), 32 ∈ l → ∃ i : Nat, indexByte l 32 = i ∧ l = l.take i ++ 32 :: l.drop (i + 1) ∧ ∀ b ∈ l.take i, b.toNat ≠ 32
 | [], h => by cases h
 | b :: l, h => by
  by_cases hb : b = 32
  ·subst hb
   exact ⟨0, by rfl, rfl, fun c hc => by cases hc⟩
  ·have hl : 32 ∈ l := by
    rcases List.mem_cons.1 h with h | h
    ·exact absurd h.symm hb
    ·exact h
   obtain ⟨i, h1, h2, h3⟩ := bu9 l hl
   refine ⟨i + 1, ?_, ?_, ?_⟩
   ·unfold indexByte
    rw [if_neg (by rw [beq_iff_eq]; exact hb), h1, if_neg (by rw [beq_iff_eq]; omega)]
    rfl
   ·show b :: l = b :: (l.take i ++ 32 :: l.drop (i + 1))
    rw [← h2]
   ·intro c hc
    rcases List.mem_cons.1 (show c ∈ b :: l.take i from hc) with rfl | hc
    ·rw [ne_eq, b32]; exact hb
    ·exact h3 c hc
theorem bqd : ∀ (k : Nat) (l : List UInt8), l.count 32 = k → splitK [32] 0 k l = (st (l ++ [32])).1
 | 0, l, h => by
  have hn : ∀ b ∈ l, b.toNat ≠ 32 := fun b hb => by
   rw [ne_eq, b32]
   rintro rfl
   have := List.count_pos_iff.2 hb
   omega
  unfold st
  rw [List.foldl_append, blz l [] [] hn]
  show [l] = _
  show _ = (stp ([], [] ++ l) 32).1
  unfold stp
  rw [if_pos (by decide)]
  rfl
 | k + 1, l, h => by
  have hm : 32 ∈ l := List.count_pos_iff.1 (by omega)
  obtain ⟨i, h1, h2, h3⟩ := bu9 l hm
  have hi : index l [32] = i := by rw [index_one, h1]
  have hc : (l.drop (i + 1)).count 32 = k := by
   rw [h2, List.count_append, List.count_cons_self] at h
   have : (l.take i).count 32 = 0 := List.count_eq_zero.2 fun hh => h3 32 hh rfl
   omega
  have e1 : splitK [32] 0 (k + 1) l = l.take i :: splitK [32] 0 k (l.drop (i + 1)) := by
   rw [splitK]
   rw [hi, if_neg (by rw [beq_iff_eq]; omega)]
   rfl
  rw [e1, bqd k _ hc]
  have e2 : l ++ [32] = l.take i ++ (32 :: (l.drop (i + 1) ++ [32])) := by
   conv => lhs; rw [h2]
   rw [List.append_assoc]
   rfl
  rw [e2]
  unfold st
  rw [List.foldl_append (l := l.take i), blz _ [] [] h3]
  show _ = ((l.drop (i + 1) ++ [32]).foldl stp (stp ([], [] ++ l.take i) 32)).1
  have e3 : stp ([], [] ++ l.take i) 32 = ([l.take i] ++ [], []) := by
   unfold stp
   rw [if_pos (by decide)]
   rfl
  rw [e3, b62]
  rfl
theorem bnq (s : ByteArray) : (splitB ⟨#[32]⟩ 0 (countB s ⟨#[32]⟩) s).map (fun b => b.data.toList) = (st (s.data.toList ++ [32])).1 := by
 rw [splitB_data]
 refine bqd _ _ ?_
 show _ = count s.data.toList [32]
 rw [count_one]
end Go.Proofs.YtamhchkknlbanaaDoor.Be

namespace Go.Sx
noncomputable section
def orV2 (a b : OraV) : OraV := fun t args H => match a t args H with
 | some r => some r
 | none => b t args H
end
theorem b5u {U : Us} {P : Program} {a b : OraV} (ha : ah6 U P a) (hb : ah6 U P b) : ah6 U P (orV2 a b) := by
 intro t args H v outs h
 unfold orV2 at h
 split at h
 ·rename_i r hr
  cases h
  exact ha t args H v outs hr
 ·exact hb t args H v outs h
theorem abd.ofW {P : Program} [Plain P] {U : Us} {T : FuncId → Option Fsp} {l : List (FuncId × Inl)} {y : Nat → Hs} {dp : Nat} {f : FuncId} {fn : Func} {fuel fk : Nat} {hs : Hs} {S : Fsp} {a : OraV} {v : List VC} {outs : List (List X × List (List X))} (hm : P.follows .mixedOrders = true) (hT : ∀ f S, T f = some S → abd U P f S)
  (hl : ∀ x ∈ l, InlOK U P x) (ha : ah6 U P a) (hf : FnAt P f fn) (hrg : ah7 U.lc (keyOf f) (aef fn))
  (h : runV P ⟨anq T, orV2 a (orvK P (anq T) fuel fk ⟨asa l, y, U.lc⟩ dp), Tb.ent ⟨asa l, y, U.lc⟩, fuel, fk, none, keyOf f⟩ hs fn (aef fn) S = some (v, outs)) (hv : ∀ z ∈ v, VCok U z) (hend : ∀ o ∈ outs, ∀ σ : Sg, σ.toUs = U → @Holds σ o.1 → ∃ q ∈ S.outs, @Holds σ q.1 ∧ q.2.map (@denL σ) = o.2.map (@denL σ)) : abd U P f S :=
 ahg hm ⟨al9 hT, b5u ha (arf hm (al9 hT) (TbOK.of hl) dp), (TbOK.of hl).ent⟩ rfl hrg hf.at' hf.body hf.call hf.flow h hv hend
end Go.Sx

namespace Go.Proofs.YtamhchkknlbanaaDoor.Be
open Go.Sx Go.Proofs Go.RowKit Go.Lib
theorem atn {w w' : World} (h : Below w.heap.size w w') : Keep w w' := ⟨h.block, h.size, h.os, h.tape, h.output⟩
theorem abd.calls {P : Program} {U : Us} {f : FuncId} {S : Fsp} (hc : ∀ us w, (callFunc f us).run P w = .ok (.enter f us) w)
  (h : ∀ (v : Nat → CD) (m : Mem) (w : World) (us : List Value), TW w → (∀ k o, m k o → w.heap[k]? = some o) → an7 m S.args ((bfl 0 S.args).map (@denL ⟨v⟩)) us → @Holds (@Sg.mk U v) S.pre →
   Calls P f us.toArray w fun e w' => ∃ u, e = .returned u ∧ Keep w w' ∧ ∃ o ∈ S.outs, @Holds (@Sg.mk U v) o.1 ∧ ResR (fun k ob => (w.heap.size ≤ k ∧ w'.heap[k]? = some ob ∧ Nice ob) ∨ (S.fresh = false ∧ m k ob)) S.res (o.2.map (@denL (@Sg.mk U v))) u) : abd U P f S := by
 intro σ hU m w us htw hm hargs hpre
 obtain ⟨v⟩ := σ
 cases hU
 rw [hc]
 have := h v m w us.toList htw hm hargs hpre
 rw [Array.toArray_toList] at this
 exact this
theorem by_v (s : ByteArray) : by' (.v (.string s)) = s.data.toList := by
 show s.toList = _
 rw [ByteArray.toList_eq]
theorem holds_nil (v : Nat → CD) : @Holds (@Sg.mk U v) [] := fun x hx => by cases hx
theorem b6s {m : Mem} {l : List UInt8} (h : l.length ≤ maxN) : RS m .str (tx l) (.string ⟨l.toArray⟩) := ⟨⟨l.toArray⟩, rfl, rfl, h⟩
theorem b31 {m : Mem} {k : IntKind} {z : Int} (h : ab9 (.int k z) = true) : RS m (.int k) (vInt k z) (.int k z) := ⟨z, rfl, rfl, h⟩
theorem b6r {m : Mem} {b : Bool} : RS m .bool (aak b) (.bool b) := ⟨b, rfl, rfl⟩
theorem bo8 {n : Int} (h0 : -9223372036854775808 ≤ n) (h1 : n ≤ 9223372036854775807) : (Lib.itoa n).length ≤ 20 := by
 unfold Lib.itoa
 split
 ·have := boh 18 n.natAbs (by omega)
  rw [List.length_cons]
  omega
 ·have := boh 18 n.toNat (by omega)
  omega
theorem bve {n : Int} (h : ab9 (.int .i64 n) = true) : -9223372036854775808 ≤ n ∧ n ≤ 9223372036854775807 := by
 simp only [ab9, Bool.and_eq_true, decide_eq_true_eq] at h
 exact h
noncomputable def b7t : Fsp := ⟨[(false, [sI])], [], [(false, [.str])], [([], [[.ap (.usr 251) [.var 0]]])], true⟩
set_option maxRecDepth 100000 in
theorem cbn : abd U Tryd.prog 30 b7t := by
 refine abd.calls Tryd.call30 fun v m w us htw hm hargs _ => ?_
 cases us with
 | nil => exact hargs.elim
 | cons u r =>
 obtain ⟨h1, h2⟩ := hargs
 cases r with
 | cons _ _ => exact h2.elim
 | nil =>
  obtain ⟨n, e1, rfl, h3⟩ : RS m sI (v 0) u := h1
  have g := (bve h3)
  have g0 := g.1
  have g1 := g.2
  refine (a5c n g0 g1 w htw).mono ?_
  rintro e w' ⟨rfl, hb⟩
  refine ⟨_, rfl, atn hb, _, List.mem_singleton.2 rfl, holds_nil v, [_], ⟨?_, trivial⟩, rfl⟩
  show RS m .str (tx (Lib.itoa (v 0).iv)) _
  rw [e1, ae1]
  exact b6s (m := m) (by have := bo8 g0 g1; unfold maxN; omega)
noncomputable def b7u : Fsp := ⟨[(false, [.str])], [.ap .le [.ap .slen [.var 0], I 2500]], [(false, [sI]), (false, [.bool])], [([], [[.ap (.usr 250) [.var 0]], [.ap (.usr 202) [.var 0]]])], true⟩
theorem b1m : ∀ {l : List UInt8}, -9223372036854775808 ≤ al1 l ∧ al1 l ≤ 9223372036854775807 := by
 intro l
 unfold al1
 split
 ·rename_i v hv
  unfold Lib.atoiAll at hv
  cases l with
  | nil => cases hv
  | cons c r =>
   simp only at hv
   split at hv
   ·cases hv
   ·cases hv
   ·rename_i u hu
    split at hv
    ·cases hv
    ·split at hv
     ·cases hv
     ·cases hv
      split <;> omega
 ·omega
 ·unfold Lib.atoiSat
  split <;> omega
theorem b2d {s : ByteArray} {d : CD} {v : Nat → CD} (e : v 0 = .v (.string s)) (hs : s.size ≤ maxN) (h : @Holds (@Sg.mk U v) [.ap .le [.ap .slen [.var 0], I 2500]]) : s.size ≤ 2500 := by
 have := h _ (List.mem_singleton.2 rfl)
 have : decide (((v 0).slen : Int) ≤ 2500) = true := this
 rw [decide_eq_true_eq, e] at this
 have : ((clip s.size : Nat) : Int) ≤ 2500 := this
 rw [aiz hs] at this
 omega
set_option maxRecDepth 100000 in
theorem cbs : abd U Tryd.prog 44 b7u := by
 refine abd.calls Tryd.call44 fun v m w us htw hm hargs hpre => ?_
 match us, hargs with
 | [u], ⟨h1, _⟩ =>
  obtain ⟨s, e1, rfl, h3⟩ : RS m .str (v 0) u := h1
  have hs := b2d (d := default) e1 h3 hpre
  refine (bjj s (by omega) w htw).mono ?_
  rintro e w' ⟨rfl, hb⟩
  refine ⟨_, rfl, atn hb, _, List.mem_singleton.2 rfl, holds_nil v, [.int .i64 (al1 s.data.toList), .bool (nOk s.data.toList)], ⟨?_, ?_, trivial⟩, rfl⟩
  ·show RS m sI (vInt .i64 (al1 (by' (v 0)))) _
   rw [e1, by_v]
   refine b31 (m := m) ?_
   simp only [ab9, Bool.and_eq_true, decide_eq_true_eq]
   exact b1m
  ·show RS m .bool (aak (nOk (by' (v 0)))) _
   rw [e1, by_v]
   exact b6r (m := m)
noncomputable def SIdx : Fsp := ⟨[(false, [.str]), (false, [.int .u8])], [], [(false, [sI])], [([], [[.ap (.usr 255) [.var 0, .var 1]]])], true⟩
theorem bva (l : List UInt8) (c : UInt8) : -1 ≤ Lib.indexByte l c ∧ Lib.indexByte l c ≤ l.length := by
 induction l with
 | nil => exact ⟨Int.le_refl _, by show (-1 : Int) ≤ 0; decide⟩
 | cons b l ih =>
  unfold Lib.indexByte
  rw [List.length_cons]
  split
  ·omega
  ·split <;> omega
set_option maxRecDepth 100000 in
theorem cbt : abd U Tryd.prog 47 SIdx := by
 refine abd.calls Tryd.call47 fun v m w us htw hm hargs hpre => ?_
 match us, hargs with
 | [u, u'], ⟨h1, h2, _⟩ =>
  obtain ⟨s, e1, rfl, h3⟩ : RS m .str (v 0) u := h1
  obtain ⟨n, e2, rfl, h4⟩ : RS m (.int .u8) (v 1) u' := h2
  have hs : s.size ≤ 9223372036854775807 := h3
  refine (Any.strings_IndexByte Tryd.lays137 s n w).mono ?_
  rintro e w' ⟨rfl, rfl⟩
  refine ⟨_, rfl, atn (Below.refl _ _), _, List.mem_singleton.2 rfl, holds_nil v, [_], ⟨?_, trivial⟩, rfl⟩
  show RS m sI (vInt .i64 (Lib.indexByte (by' (v 0)) (v 1).iv.toNat.toUInt8)) _
  rw [e1, e2, by_v]
  refine b31 (m := m) ?_
  have := bva s.data.toList n.toNat.toUInt8
  have hl : s.data.toList.length = s.size := rfl
  rw [ae1]
  generalize Lib.indexByte s.data.toList n.toNat.toUInt8 = q at this ⊢
  simp only [ab9, Bool.and_eq_true, decide_eq_true_eq]
  show -9223372036854775808 ≤ q ∧ q ≤ (9223372036854775807 : Int)
  omega
noncomputable def b25 : Fsp := ⟨[(false, [.str]), (false, [.str])], [.ap .le [.ap .slen [.var 0], I 2500], .ap .same [.var 1, .lit (.string ⟨⟨[32]⟩⟩)]], [(false, [.sl [.str]])], [([], [[.ap (.usr 252) [.var 0]]])], true⟩
theorem brh {v : Nat → CD} {l : List X} {a b : X} (h : @Holds (@Sg.mk U v) l) (hm : .ap .same [a, b] ∈ l) : @den (@Sg.mk U v) a = @den (@Sg.mk U v) b := by
 have : (@den (@Sg.mk U v) (.ap .same [a, b])).bv = true := h _ hm
 rwa [@ac7 (@Sg.mk U v)] at this
theorem axt {v : Nat → CD} {l : List X} {a b : X} (h : @Holds (@Sg.mk U v) l) (hm : .ap .le [a, b] ∈ l) : (@den (@Sg.mk U v) a).iv ≤ (@den (@Sg.mk U v) b).iv := by
 have : (@den (@Sg.mk U v) (.ap .le [a, b])).bv = true := h _ hm
 rwa [@b_le (@Sg.mk U v)] at this
theorem a19 {s : ByteArray} {d : CD} (e : d = .v (.string s)) (hs : s.size ≤ maxN) : (d.slen : Int) = s.size := by
 rw [e]
 show ((clip s.size : Nat) : Int) = s.size
 rw [aiz hs]
theorem bra (l : List ByteArray) (t : TypeId) : Nice (.cells (l.map Value.string).toArray t (0, 0)) := by
 refine ⟨_, _, _, rfl, ?_, false, fun j u hu => ?_⟩
 ·exact .inl rfl
 ·have hu : (l.map Value.string)[j]? = some u := by simpa using hu
  rw [List.getElem?_map] at hu
  cases hl : l[j]? with
  | none => rw [hl] at hu; cases hu
  | some s => rw [hl] at hu; cases hu; rfl
set_option maxRecDepth 100000 in
theorem cbr : abd U Tryd.prog 40 b25 := by
 refine abd.calls Tryd.call40 fun v m w us htw hm hargs hpre => ?_
 match us, hargs with
 | [u, u'], ⟨h1, h2, _⟩ =>
  obtain ⟨s, e1, rfl, h3⟩ : RS m .str (v 0) u := h1
  obtain ⟨s', e2, rfl, h4⟩ : RS m .str (v 1) u' := h2
  have hs : ((v 0).slen : Int) ≤ 2500 := axt hpre (List.mem_cons_self ..)
  rw [a19 e1 h3] at hs
  have he : v 1 = .v (.string ⟨⟨[32]⟩⟩) := brh hpre (List.mem_cons_of_mem _ (List.mem_singleton.2 rfl))
  rw [he] at e2
  cases e2
  obtain ⟨mx, hmx⟩ := b98 htw
  refine (Any.strings_Split Tryd.lays146 (by kernel_rfl) s ⟨⟨[32]⟩⟩ mx w (by omega) hmx (by decide)).mono ?_
  rintro e w' ⟨rfl, rfl⟩
  have hw := bnq s
  refine ⟨_, rfl, atn ((Below.refl _ w).alloc (Nat.le_refl _) _), _, List.mem_singleton.2 rfl, holds_nil v, [_], ⟨?_, trivial⟩, rfl⟩
  generalize hbs : Lib.splitB (ByteArray.mk ⟨[32]⟩) 0 (Lib.countB s (ByteArray.mk ⟨[32]⟩)) s = bs at hw ⊢
  have hbl : bs.length = Lib.countB s (ByteArray.mk ⟨[32]⟩) + 1 := by rw [← hbs]; exact Lib.splitB_all _ (by decide) 0 _ s rfl
  have hcl : Lib.countB s (ByteArray.mk ⟨[32]⟩) ≤ s.size := Lib.countB_le _ (by decide) s.size s (Nat.le_refl _)
  have hrows : acj (line (v 0)) = bs.map fun b => [CD.v (.string b)] := by
   have hln : line (v 0) = s.data.toList ++ [32] := by rw [e1]; unfold line; rw [by_v]
   have hws : (st (line (v 0))).1 = bs.map fun b => b.data.toList := by rw [hln, hw]
   unfold acj
   rw [hws, List.map_map]
   refine List.map_congr_left fun b _ => ?_
   rfl
  have e : @denL (@Sg.mk U v) [X.ap (Fs.usr 252) [X.var 0]] = [CD.sl false (acj (line (v 0)))] := rfl
  rw [e, hrows]
  refine .inr (.inl ⟨bs.map fun b => [CD.v (.string b)], w.heap.size, 0, _, rfl, by rw [List.length_map, hbl], by rw [List.length_map, hbl]; exact Nat.le_refl _, by unfold maxN; omega, fun _ => ⟨(bs.map Value.string).toArray, Tryd.lays146_ren.t 9, (0, 0), .inl ⟨Nat.le_refl _, ?_, bra bs _⟩, fun i row hi => ?_⟩⟩)
  ·show (w.heap.push _)[w.heap.size]? = _
   simp
  ·rw [List.getElem?_map] at hi
   cases hb : bs[i]? with
   | none => rw [hb] at hi; cases hi
   | some b =>
    rw [hb] at hi
    cases hi
    have hsz : b.size ≤ maxN := by
     have hm : b.data.toList ∈ (st (line (v 0))).1 := by
      have hln : line (v 0) = s.data.toList ++ [32] := by rw [e1]; unfold line; rw [by_v]
      rw [hln, ← hw]
      exact List.mem_map.2 ⟨b, List.mem_of_getElem? hb, rfl⟩
     have := (bxw (line (v 0)) ([], []) 0 (fun w hw => by cases hw) (Nat.le_refl 0)).1 _ hm
     have hln : (line (v 0)).length = s.size + 1 := by
      rw [e1]; unfold line; rw [by_v, List.length_append]; rfl
     have hbz : b.data.toList.length = b.size := rfl
     unfold maxN
     omega
    refine ⟨_, [], .string b, rfl, ?_, ⟨b, rfl, rfl, hsz⟩, rfl⟩
    simp [hb]
def badR (r : Nat) : Bool := decide (r < 33) || decide (126 < r)
theorem b4r (s : ByteArray) (p : Nat) (hp : p < s.size) : (badR (Utf8.decode s p).1 = badB (s.get! p)) ∧ (badB (s.get! p) = false → (Utf8.decode s p).2 = 1) := by
 have hbig : ∀ r : Nat, 128 ≤ r → badR r = true := fun r hr => by
  unfold badR
  rw [decide_eq_true (show 126 < r by omega)]
  simp
 unfold Utf8.decode
 simp only [Nat.add_zero]
 by_cases h : (s.get! p).toNat < 128
 ·rw [if_pos h]
  exact ⟨rfl, fun _ => rfl⟩
 ·rw [if_neg h]
  have hb : badB (s.get! p) = true := by
   unfold badB
   rw [decide_eq_true (show 126 < (s.get! p).toNat by omega)]
   simp
  rw [hb]
  refine ⟨?_, fun hh => by cases hh⟩
  repeat' split
  all_goals first | exact hbig _ (by decide) | (rename_i hc; refine hbig _ ?_; first | omega | (simp only [ge_iff_le, Bool.and_eq_true, decide_eq_true_eq] at hc; omega))
theorem bo0 (s : ByteArray) : ∀ (f p : Nat), s.size ≤ p + f → ((0 ≤ Lib.idxFuncFrom badR true s f p) ↔ ∃ j, p ≤ j ∧ j < s.size ∧ badB (s.get! j) = true)
 | 0, p, h => by
  show (0 : Int) ≤ -1 ↔ _
  exact ⟨fun h => by omega, fun ⟨j, h1, h2, _⟩ => by omega⟩
 | f + 1, p, h => by
  unfold Lib.idxFuncFrom
  by_cases hp : p < s.size
  ·rw [if_pos hp]
   obtain ⟨h1, h2⟩ := b4r s p hp
   rw [h1]
   by_cases hb : badB (s.get! p) = true
   ·rw [if_pos hb]
    exact ⟨fun _ => ⟨p, Nat.le_refl _, hp, hb⟩, fun _ => by omega⟩
   ·rw [if_neg hb]
    rw [h2 (by simpa using hb)]
    rw [bo0 s f (p + 1) (by omega)]
    constructor
    ·rintro ⟨j, a, b, c⟩
     exact ⟨j, by omega, b, c⟩
    ·rintro ⟨j, a, b, c⟩
     refine ⟨j, ?_, b, c⟩
     rcases Nat.lt_or_ge p j with g | g
     ·exact g
     ·have : j = p := by omega
      subst this
      exact absurd c hb
  ·rw [if_neg hp]
   exact ⟨fun h => by omega, fun ⟨j, a, b, _⟩ => by omega⟩
theorem b4c (s : ByteArray) : decide (0 ≤ Lib.idxFunc badR true s) = s.data.toList.any badB := by
 rw [Bool.eq_iff_iff, decide_eq_true_eq]
 unfold Lib.idxFunc
 rw [bo0 s s.size 0 (by omega), List.any_eq_true]
 constructor
 ·rintro ⟨j, _, h2, h3⟩
  have hj : j < s.data.toList.length := h2
  refine ⟨s.data.toList[j], List.getElem_mem hj, ?_⟩
  have : s.get! j = s.data.toList[j] := by
   show s.data[j]! = _
   rw [getElem!_pos s.data j h2]
   simp
  rwa [← this]
 ·rintro ⟨b, hb, h3⟩
  obtain ⟨j, hj, rfl⟩ := List.getElem_of_mem hb
  refine ⟨j, Nat.zero_le _, hj, ?_⟩
  have : s.get! j = s.data.toList[j] := by
   show s.data[j]! = _
   rw [getElem!_pos s.data j hj]
   simp
  rwa [this]
set_option maxRecDepth 100000 in
theorem b7a (w : World) : PredAt Tryd.prog 42 #[] encR badR w := fun W r _ => by
 unfold FnGives
 by_cases h1 : r < 33 <;> by_cases h2 : 126 < r
 all_goals
  have z1 : (r : Int) < 33 ↔ r < 33 := by omega
  have z2 : 126 < (r : Int) ↔ 126 < r := by omega
  go_enter Tryd.func42, Tryd.ntmps42
  go_wp2
  all_goals first | (exfalso; omega) | (go_ret; exact ⟨by simp [h1, h2, badR], 0, rfl⟩)
theorem a3k (s : ByteArray) (w : World) : Calls Tryd.prog 41 #[.string s, .func (.func 42) #[] #[]] w fun e w' => e = .returned (.bool (s.data.toList.any badB)) ∧ Below w.heap.size w w' := by
 rw [← b4c]
 exact Any.strings_ContainsFunc Tryd.laysGw17 42 #[] Tryd.call42 badR s w (b7a w)
end Go.Proofs.YtamhchkknlbanaaDoor.Be
