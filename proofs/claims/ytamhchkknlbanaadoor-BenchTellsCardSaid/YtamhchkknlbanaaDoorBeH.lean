/-
  Texts cut at blanks are a line's words. Conditions: none.
-/
import Derived.Shelf.LaysM
import Derived.Shelf.LaysC
import Derived.Shelf.Strings.Split
import Derived.Shelf.Strconv.Itoa3
import Derived.Shelf.Strconv.AtoiAll
import Derived.Shelf.GgClosure.StringsIndexFuncTop
import Derived.Shelf.Strings.OnBuilder
import Derived.Shelf.Small.Strs
import Derived.Ground.NamesProg
import Derived.Ground.GgwProg
import Derived.Test.YtamhchkknlbanaaDoorRows
import Derived.Shelf.Strings.Builder1
import Derived.Test.YtamhchkknlbanaaDoorBtB
import Derived.Lib.AtoiAll
import Derived.Lib.ItoaNum
import Derived.WalkKit
import Derived.Lib.Split
import Derived.Lib.SplitLaws
import Derived.Lib.IndexBytes
set_option linter.unusedSectionVars false
set_option linter.unusedVariables false
set_option linter.unusedSimpArgs false
namespace Go.Proofs
open Go.Shelf
def Tryd.lays146_ren:Go.Shelf.Ren:=⟨fun | 146=>40 | 221=>54 | 268=>61 | 138=>62 | 143=>63 | 195=>74 | 197=>75 | 218=>76 | 219=>77 | 260=>88 | 217=>57 | 225=>89 | 224=>90 | 267=>91 | 266=>67 | 314=>97 | n=>n,fun | 9=>9 | 31=>41 | 3=>3 | 4=>4 | 0=>0 | 105=>107 | 21=>21 | 5=>5 | 46=>77 | 119=>129 | 139=>132 | 138=>131 | 146=>133 | 51=>118 | n=>n,fun | 1=>0 | 3=>4 | 4=>5 | n=>n⟩
theorem Tryd.lays146:Go.Proofs.Lays.n146 Tryd.prog Tryd.lays146_ren:={
 mixed:=by kernel_rfl
 f138:=Tryd.func62.trans (congrArg some (by kernel_rfl))
 f143:=Tryd.func63.trans (congrArg some (by kernel_rfl))
 f146:=Tryd.func40.trans (congrArg some (by kernel_rfl))
 f195:=Tryd.func74.trans (congrArg some (by kernel_rfl))
 f197:=Tryd.func75.trans (congrArg some (by kernel_rfl))
 f217:=Tryd.func57.trans (congrArg some (by kernel_rfl))
 f218:=Tryd.func76.trans (congrArg some (by kernel_rfl))
 f219:=Tryd.func77.trans (congrArg some (by kernel_rfl))
 f221:=Tryd.func54.trans (congrArg some (by kernel_rfl))
 f224:=Tryd.func90.trans (congrArg some (by kernel_rfl))
 f225:=Tryd.func89.trans (congrArg some (by kernel_rfl))
 f260:=Tryd.func88.trans (congrArg some (by kernel_rfl))
 f266:=Tryd.func67.trans (congrArg some (by kernel_rfl))
 f267:=Tryd.func91.trans (congrArg some (by kernel_rfl))
 f268:=Tryd.func61.trans (congrArg some (by kernel_rfl))
 f314:=Tryd.func97.trans (congrArg some (by kernel_rfl))
 t0:=Tryd.underlying0
 a0:=Tryd.isAgg0
 z0:=Tryd.sizeOf0
 v0:=Tryd.zeroValue0
 t3:=Tryd.underlying3
 a3:=Tryd.isAgg3
 z3:=Tryd.sizeOf3
 v3:=Tryd.zeroValue3
 t4:=Tryd.underlying4
 a4:=Tryd.isAgg4
 z4:=Tryd.sizeOf4
 v4:=Tryd.zeroValue4
 t5:=Tryd.underlying5
 a5:=Tryd.isAgg5
 z5:=Tryd.sizeOf5
 v5:=Tryd.zeroValue5
 t9:=Tryd.underlying9
 a9:=Tryd.isAgg9
 z9:=Tryd.sizeOf9
 v9:=Tryd.zeroValue9
 t21:=Tryd.underlying21
 a21:=Tryd.isAgg21
 z21:=Tryd.sizeOf21
 v21:=Tryd.zeroValue21
 t31:=Tryd.underlying41
 a31:=Tryd.isAgg41
 z31:=Tryd.sizeOf41
 v31:=Tryd.zeroValue41
 t46:=Tryd.underlying77
 a46:=Tryd.isAgg77
 z46:=Tryd.sizeOf77
 v46:=Tryd.zeroValue77
 t51:=Tryd.underlying118
 a51:=Tryd.isAgg118
 z51:=Tryd.sizeOf118
 v51:=Tryd.zeroValue118
 t105:=Tryd.underlying107
 a105:=Tryd.isAgg107
 z105:=Tryd.sizeOf107
 v105:=Tryd.zeroValue107
 t119:=Tryd.underlying129
 a119:=Tryd.isAgg129
 z119:=Tryd.sizeOf129
 t138:=Tryd.underlying131
 a138:=Tryd.isAgg131
 z138:=Tryd.sizeOf131
 v138:=Tryd.zeroValue131
 t139:=Tryd.underlying132
 a139:=Tryd.isAgg132
 z139:=Tryd.sizeOf132
 v139:=Tryd.zeroValue132
 t146:=Tryd.underlying133
 a146:=Tryd.isAgg133
 z146:=Tryd.sizeOf133
 v146:=Tryd.zeroValue133
 g1:=by kernel_rfl
 g3:=by kernel_rfl
 g4:=by kernel_rfl }
def Tryd.laysGw17_ren:Go.Shelf.Ren:=⟨fun | 17=>41 | 15=>55 | 20=>64 | n=>n,fun | 9=>9 | 23=>75 | 4=>4 | 3=>3 | 0=>0 | 21=>21 | n=>n,fun | n=>n⟩
theorem Tryd.laysGw17:Go.Proofs.LaysGw.n17 Tryd.prog Tryd.laysGw17_ren:={
 mixed:=by kernel_rfl
 f15:=Tryd.func55.trans (congrArg some (by kernel_rfl))
 f17:=Tryd.func41.trans (congrArg some (by kernel_rfl))
 f20:=Tryd.func64.trans (congrArg some (by kernel_rfl))
 t0:=Tryd.underlying0
 a0:=Tryd.isAgg0
 z0:=Tryd.sizeOf0
 v0:=Tryd.zeroValue0
 i0:=by kernel_rfl
 t3:=Tryd.underlying3
 a3:=Tryd.isAgg3
 z3:=Tryd.sizeOf3
 v3:=Tryd.zeroValue3
 i3:=by kernel_rfl
 t4:=Tryd.underlying4
 a4:=Tryd.isAgg4
 z4:=Tryd.sizeOf4
 v4:=Tryd.zeroValue4
 i4:=by kernel_rfl
 t9:=Tryd.underlying9
 a9:=Tryd.isAgg9
 z9:=Tryd.sizeOf9
 v9:=Tryd.zeroValue9
 i9:=by kernel_rfl
 t21:=Tryd.underlying21
 a21:=Tryd.isAgg21
 z21:=Tryd.sizeOf21
 v21:=Tryd.zeroValue21
 i21:=by kernel_rfl
 t23:=Tryd.underlying75
 a23:=Tryd.isAgg75
 z23:=Tryd.sizeOf75
 v23:=Tryd.zeroValue75
 i23:=by kernel_rfl }
def Tryd.laysM171_ren:Go.Shelf.Ren:=⟨fun | 171=>30 | 243=>49 | 246=>58 | 283=>68 | 284=>69 | 285=>70 | 286=>71 | 129=>84 | 317=>83 | 318=>85 | 319=>86 | 320=>87 | 337=>95 | 338=>96 | n=>n,fun | 3=>3 | 9=>9 | 2=>2 | 4=>4 | 171=>97 | 0=>0 | 53=>98 | 37=>22 | 5=>5 | 173=>101 | 212=>117 | 51=>118 | 20=>20 | 213=>119 | 46=>77 | 232=>139 | 233=>140 | n=>n,fun | 17=>1 | 18=>6 | 19=>7 | n=>n⟩
theorem Tryd.laysM171:Go.Proofs.LaysM.n171 Tryd.prog Tryd.laysM171_ren:={
 mixed:=by kernel_rfl
 f129:=Tryd.func84.trans (congrArg some (by kernel_rfl))
 f171:=Tryd.func30.trans (congrArg some (by kernel_rfl))
 f243:=Tryd.func49.trans (congrArg some (by kernel_rfl))
 f246:=Tryd.func58.trans (congrArg some (by kernel_rfl))
 f283:=Tryd.func68.trans (congrArg some (by kernel_rfl))
 f284:=Tryd.func69.trans (congrArg some (by kernel_rfl))
 f285:=Tryd.func70.trans (congrArg some (by kernel_rfl))
 f286:=Tryd.func71.trans (congrArg some (by kernel_rfl))
 f317:=Tryd.func83.trans (congrArg some (by kernel_rfl))
 f318:=Tryd.func85.trans (congrArg some (by kernel_rfl))
 f319:=Tryd.func86.trans (congrArg some (by kernel_rfl))
 f320:=Tryd.func87.trans (congrArg some (by kernel_rfl))
 f337:=Tryd.func95.trans (congrArg some (by kernel_rfl))
 f338:=Tryd.func96.trans (congrArg some (by kernel_rfl))
 t0:=Tryd.underlying0
 a0:=Tryd.isAgg0
 z0:=Tryd.sizeOf0
 v0:=Tryd.zeroValue0
 t2:=Tryd.underlying2
 a2:=Tryd.isAgg2
 z2:=Tryd.sizeOf2
 v2:=Tryd.zeroValue2
 t3:=Tryd.underlying3
 a3:=Tryd.isAgg3
 z3:=Tryd.sizeOf3
 v3:=Tryd.zeroValue3
 t4:=Tryd.underlying4
 a4:=Tryd.isAgg4
 z4:=Tryd.sizeOf4
 v4:=Tryd.zeroValue4
 t5:=Tryd.underlying5
 a5:=Tryd.isAgg5
 z5:=Tryd.sizeOf5
 v5:=Tryd.zeroValue5
 t9:=Tryd.underlying9
 a9:=Tryd.isAgg9
 z9:=Tryd.sizeOf9
 v9:=Tryd.zeroValue9
 t20:=Tryd.underlying20
 a20:=Tryd.isAgg20
 z20:=Tryd.sizeOf20
 v20:=Tryd.zeroValue20
 t37:=Tryd.underlying22
 a37:=Tryd.isAgg22
 z37:=Tryd.sizeOf22
 v37:=Tryd.zeroValue22
 t46:=Tryd.underlying77
 a46:=Tryd.isAgg77
 z46:=Tryd.sizeOf77
 v46:=Tryd.zeroValue77
 t51:=Tryd.underlying118
 a51:=Tryd.isAgg118
 z51:=Tryd.sizeOf118
 v51:=Tryd.zeroValue118
 t53:=Tryd.underlying98
 a53:=Tryd.isAgg98
 z53:=Tryd.sizeOf98
 v53:=Tryd.zeroValue98
 t171:=Tryd.underlying97
 a171:=Tryd.isAgg97
 z171:=Tryd.sizeOf97
 v171:=Tryd.zeroValue97
 t173:=Tryd.underlying101
 a173:=Tryd.isAgg101
 z173:=Tryd.sizeOf101
 v173:=Tryd.zeroValue101
 t212:=Tryd.underlying117
 a212:=Tryd.isAgg117
 z212:=Tryd.sizeOf117
 v212:=Tryd.zeroValue117
 t213:=Tryd.underlying119
 a213:=Tryd.isAgg119
 z213:=Tryd.sizeOf119
 t232:=Tryd.underlying139
 a232:=Tryd.isAgg139
 z232:=Tryd.sizeOf139
 v232:=Tryd.zeroValue139
 t233:=Tryd.underlying140
 a233:=Tryd.isAgg140
 z233:=Tryd.sizeOf140
 v233:=Tryd.zeroValue140
 g17:=by kernel_rfl
 g18:=by kernel_rfl
 g19:=by kernel_rfl
 i0:=by kernel_rfl
 i2:=by kernel_rfl
 i3:=by kernel_rfl
 i4:=by kernel_rfl
 i5:=by kernel_rfl
 i9:=by kernel_rfl
 i20:=by kernel_rfl
 i37:=by kernel_rfl
 i46:=by kernel_rfl
 i51:=by kernel_rfl
 i53:=by kernel_rfl
 i171:=by kernel_rfl
 i173:=by kernel_rfl
 i212:=by kernel_rfl
 i232:=by kernel_rfl
 i233:=by kernel_rfl
 m17:=by kernel_rfl
 m18:=by kernel_rfl
 m19:=by kernel_rfl }
def Tryd.laysC172_ren:Go.Shelf.Ren:=⟨fun | 172=>56 | 244=>65 | 245=>66 | 247=>78 | 279=>79 | 280=>80 | 281=>81 | 282=>82 | 287=>92 | 316=>93 | 171=>30 | 205=>94 | 321=>98 | 322=>99 | 243=>49 | 246=>58 | 283=>68 | 284=>69 | 285=>70 | 286=>71 | 129=>84 | 317=>83 | 318=>85 | 319=>86 | 320=>87 | 337=>95 | 338=>96 | n=>n,fun | 9=>9 | 3=>3 | 75=>83 | 76=>87 | 4=>4 | 5=>5 | 167=>109 | 37=>22 | 0=>0 | 85=>110 | 2=>2 | 168=>112 | 53=>98 | 175=>122 | 46=>77 | 210=>126 | 127=>92 | 145=>138 | 143=>136 | 21=>21 | 171=>97 | 173=>101 | 212=>117 | 51=>118 | 20=>20 | 213=>119 | 232=>139 | 233=>140 | 80=>85 | n=>n,fun | 15=>2 | 16=>3 | 17=>1 | 18=>6 | 19=>7 | n=>n⟩
theorem Tryd.laysC172:Go.Proofs.LaysC.n172 Tryd.prog Tryd.laysC172_ren:={
 mixed:=by kernel_rfl
 f129:=Tryd.func84.trans (congrArg some (by kernel_rfl))
 f171:=Tryd.func30.trans (congrArg some (by kernel_rfl))
 f172:=Tryd.func56.trans (congrArg some (by kernel_rfl))
 f205:=Tryd.func94.trans (congrArg some (by kernel_rfl))
 f243:=Tryd.func49.trans (congrArg some (by kernel_rfl))
 f244:=Tryd.func65.trans (congrArg some (by kernel_rfl))
 f245:=Tryd.func66.trans (congrArg some (by kernel_rfl))
 f246:=Tryd.func58.trans (congrArg some (by kernel_rfl))
 f247:=Tryd.func78.trans (congrArg some (by kernel_rfl))
 f279:=Tryd.func79.trans (congrArg some (by kernel_rfl))
 f280:=Tryd.func80.trans (congrArg some (by kernel_rfl))
 f281:=Tryd.func81.trans (congrArg some (by kernel_rfl))
 f282:=Tryd.func82.trans (congrArg some (by kernel_rfl))
 f283:=Tryd.func68.trans (congrArg some (by kernel_rfl))
 f284:=Tryd.func69.trans (congrArg some (by kernel_rfl))
 f285:=Tryd.func70.trans (congrArg some (by kernel_rfl))
 f286:=Tryd.func71.trans (congrArg some (by kernel_rfl))
 f287:=Tryd.func92.trans (congrArg some (by kernel_rfl))
 f316:=Tryd.func93.trans (congrArg some (by kernel_rfl))
 f317:=Tryd.func83.trans (congrArg some (by kernel_rfl))
 f318:=Tryd.func85.trans (congrArg some (by kernel_rfl))
 f319:=Tryd.func86.trans (congrArg some (by kernel_rfl))
 f320:=Tryd.func87.trans (congrArg some (by kernel_rfl))
 f321:=Tryd.func98.trans (congrArg some (by kernel_rfl))
 f322:=Tryd.func99.trans (congrArg some (by kernel_rfl))
 f337:=Tryd.func95.trans (congrArg some (by kernel_rfl))
 f338:=Tryd.func96.trans (congrArg some (by kernel_rfl))
 t0:=Tryd.underlying0
 a0:=Tryd.isAgg0
 z0:=Tryd.sizeOf0
 v0:=Tryd.zeroValue0
 t2:=Tryd.underlying2
 a2:=Tryd.isAgg2
 z2:=Tryd.sizeOf2
 v2:=Tryd.zeroValue2
 t3:=Tryd.underlying3
 a3:=Tryd.isAgg3
 z3:=Tryd.sizeOf3
 v3:=Tryd.zeroValue3
 t4:=Tryd.underlying4
 a4:=Tryd.isAgg4
 z4:=Tryd.sizeOf4
 v4:=Tryd.zeroValue4
 t5:=Tryd.underlying5
 a5:=Tryd.isAgg5
 z5:=Tryd.sizeOf5
 v5:=Tryd.zeroValue5
 t9:=Tryd.underlying9
 a9:=Tryd.isAgg9
 z9:=Tryd.sizeOf9
 v9:=Tryd.zeroValue9
 t20:=Tryd.underlying20
 a20:=Tryd.isAgg20
 z20:=Tryd.sizeOf20
 v20:=Tryd.zeroValue20
 t21:=Tryd.underlying21
 a21:=Tryd.isAgg21
 z21:=Tryd.sizeOf21
 v21:=Tryd.zeroValue21
 t37:=Tryd.underlying22
 a37:=Tryd.isAgg22
 z37:=Tryd.sizeOf22
 v37:=Tryd.zeroValue22
 t46:=Tryd.underlying77
 a46:=Tryd.isAgg77
 z46:=Tryd.sizeOf77
 v46:=Tryd.zeroValue77
 t51:=Tryd.underlying118
 a51:=Tryd.isAgg118
 z51:=Tryd.sizeOf118
 v51:=Tryd.zeroValue118
 t53:=Tryd.underlying98
 a53:=Tryd.isAgg98
 z53:=Tryd.sizeOf98
 v53:=Tryd.zeroValue98
 t75:=Tryd.underlying83
 a75:=Tryd.isAgg83
 z75:=Tryd.sizeOf83
 v75:=Tryd.zeroValue83
 t76:=Tryd.underlying87
 a76:=Tryd.isAgg87
 z76:=Tryd.sizeOf87
 v76:=Tryd.zeroValue87
 t85:=Tryd.underlying110
 a85:=Tryd.isAgg110
 z85:=Tryd.sizeOf110
 v85:=Tryd.zeroValue110
 t127:=Tryd.underlying92
 a127:=Tryd.isAgg92
 z127:=Tryd.sizeOf92
 v127:=Tryd.zeroValue92
 t143:=Tryd.underlying136
 a143:=Tryd.isAgg136
 z143:=Tryd.sizeOf136
 v143:=Tryd.zeroValue136
 t145:=Tryd.underlying138
 a145:=Tryd.isAgg138
 z145:=Tryd.sizeOf138
 v145:=Tryd.zeroValue138
 t167:=Tryd.underlying109
 a167:=Tryd.isAgg109
 z167:=Tryd.sizeOf109
 v167:=Tryd.zeroValue109
 t168:=Tryd.underlying112
 a168:=Tryd.isAgg112
 z168:=Tryd.sizeOf112
 v168:=Tryd.zeroValue112
 t171:=Tryd.underlying97
 a171:=Tryd.isAgg97
 z171:=Tryd.sizeOf97
 v171:=Tryd.zeroValue97
 t173:=Tryd.underlying101
 a173:=Tryd.isAgg101
 z173:=Tryd.sizeOf101
 v173:=Tryd.zeroValue101
 t175:=Tryd.underlying122
 a175:=Tryd.isAgg122
 z175:=Tryd.sizeOf122
 v175:=Tryd.zeroValue122
 t210:=Tryd.underlying126
 a210:=Tryd.isAgg126
 z210:=Tryd.sizeOf126
 v210:=Tryd.zeroValue126
 t212:=Tryd.underlying117
 a212:=Tryd.isAgg117
 z212:=Tryd.sizeOf117
 v212:=Tryd.zeroValue117
 t213:=Tryd.underlying119
 a213:=Tryd.isAgg119
 z213:=Tryd.sizeOf119
 t232:=Tryd.underlying139
 a232:=Tryd.isAgg139
 z232:=Tryd.sizeOf139
 v232:=Tryd.zeroValue139
 t233:=Tryd.underlying140
 a233:=Tryd.isAgg140
 z233:=Tryd.sizeOf140
 v233:=Tryd.zeroValue140
 g15:=by kernel_rfl
 g16:=by kernel_rfl
 g17:=by kernel_rfl
 g18:=by kernel_rfl
 g19:=by kernel_rfl
 t80:=Tryd.underlying85
 a80:=Tryd.isAgg85
 z80:=Tryd.sizeOf85
 v80:=Tryd.zeroValue85
 i0:=by kernel_rfl
 i2:=by kernel_rfl
 i3:=by kernel_rfl
 i4:=by kernel_rfl
 i5:=by kernel_rfl
 i9:=by kernel_rfl
 i20:=by kernel_rfl
 i21:=by kernel_rfl
 i37:=by kernel_rfl
 i46:=by kernel_rfl
 i51:=by kernel_rfl
 i53:=by kernel_rfl
 i75:=by kernel_rfl
 i76:=by kernel_rfl
 i80:=by kernel_rfl
 i85:=by kernel_rfl
 i127:=by kernel_rfl
 i143:=by kernel_rfl
 i145:=by kernel_rfl
 i167:=by kernel_rfl
 i168:=by kernel_rfl
 i171:=by kernel_rfl
 i173:=by kernel_rfl
 i175:=by kernel_rfl
 i210:=by kernel_rfl
 i212:=by kernel_rfl
 i232:=by kernel_rfl
 i233:=by kernel_rfl
 m15:=by kernel_rfl
 m16:=by kernel_rfl
 m17:=by kernel_rfl
 m18:=by kernel_rfl
 m19:=by kernel_rfl
 c0:=by kernel_rfl
 c2:=by kernel_rfl
 c3:=by kernel_rfl
 c4:=by kernel_rfl
 c5:=by kernel_rfl
 c9:=by kernel_rfl
 c20:=by kernel_rfl
 c21:=by kernel_rfl
 c37:=by kernel_rfl
 c46:=by kernel_rfl
 c51:=by kernel_rfl
 c53:=by kernel_rfl
 c75:=by kernel_rfl
 c76:=by kernel_rfl
 c80:=by kernel_rfl
 c85:=by kernel_rfl
 c127:=by kernel_rfl
 c143:=by kernel_rfl
 c145:=by kernel_rfl
 c167:=by kernel_rfl
 c168:=by kernel_rfl
 c171:=by kernel_rfl
 c173:=by kernel_rfl
 c175:=by kernel_rfl
 c210:=by kernel_rfl
 c212:=by kernel_rfl
 c213:=by kernel_rfl
 c232:=by kernel_rfl
 c233:=by kernel_rfl }
def Tryd.lays137_ren:Go.Shelf.Ren:=⟨fun | 137=>47 | 217=>57 | 266=>67 | n=>n,fun | 9=>9 | 5=>5 | 3=>3 | n=>n,fun | n=>n⟩
theorem Tryd.lays137:Go.Proofs.Lays.n137 Tryd.prog Tryd.lays137_ren:={
 mixed:=by kernel_rfl
 f137:=Tryd.func47.trans (congrArg some (by kernel_rfl))
 f217:=Tryd.func57.trans (congrArg some (by kernel_rfl))
 f266:=Tryd.func67.trans (congrArg some (by kernel_rfl))
 t3:=Tryd.underlying3
 a3:=Tryd.isAgg3
 z3:=Tryd.sizeOf3
 v3:=Tryd.zeroValue3
 t5:=Tryd.underlying5
 a5:=Tryd.isAgg5
 z5:=Tryd.sizeOf5
 v5:=Tryd.zeroValue5
 t9:=Tryd.underlying9
 a9:=Tryd.isAgg9
 z9:=Tryd.sizeOf9
 v9:=Tryd.zeroValue9 }
def Tryd.lays156_ren:Go.Shelf.Ren:=⟨fun | 156=>33 | 165=>52 | 166=>53 | 169=>51 | 240=>59 | 241=>60 | 276=>72 | 277=>73 | n=>n,fun | 31=>41 | 9=>9 | 3=>3 | 4=>4 | 0=>0 | 20=>20 | 72=>81 | 76=>87 | 70=>79 | 37=>22 | 75=>83 | 127=>92 | 164=>103 | 5=>5 | 80=>85 | n=>n,fun | n=>n⟩
theorem Tryd.lays156:Go.Proofs.Lays.n156 Tryd.prog Tryd.lays156_ren:={
 mixed:=by kernel_rfl
 f156:=Tryd.func33.trans (congrArg some (by kernel_rfl))
 f165:=Tryd.func52.trans (congrArg some (by kernel_rfl))
 f166:=Tryd.func53.trans (congrArg some (by kernel_rfl))
 f169:=Tryd.func51.trans (congrArg some (by kernel_rfl))
 f240:=Tryd.func59.trans (congrArg some (by kernel_rfl))
 f241:=Tryd.func60.trans (congrArg some (by kernel_rfl))
 f276:=Tryd.func72.trans (congrArg some (by kernel_rfl))
 f277:=Tryd.func73.trans (congrArg some (by kernel_rfl))
 t0:=Tryd.underlying0
 a0:=Tryd.isAgg0
 z0:=Tryd.sizeOf0
 v0:=Tryd.zeroValue0
 t3:=Tryd.underlying3
 a3:=Tryd.isAgg3
 z3:=Tryd.sizeOf3
 v3:=Tryd.zeroValue3
 t4:=Tryd.underlying4
 a4:=Tryd.isAgg4
 z4:=Tryd.sizeOf4
 v4:=Tryd.zeroValue4
 t9:=Tryd.underlying9
 a9:=Tryd.isAgg9
 z9:=Tryd.sizeOf9
 v9:=Tryd.zeroValue9
 t20:=Tryd.underlying20
 a20:=Tryd.isAgg20
 z20:=Tryd.sizeOf20
 v20:=Tryd.zeroValue20
 t31:=Tryd.underlying41
 a31:=Tryd.isAgg41
 z31:=Tryd.sizeOf41
 v31:=Tryd.zeroValue41
 t37:=Tryd.underlying22
 a37:=Tryd.isAgg22
 z37:=Tryd.sizeOf22
 v37:=Tryd.zeroValue22
 t70:=Tryd.underlying79
 a70:=Tryd.isAgg79
 z70:=Tryd.sizeOf79
 v70:=Tryd.zeroValue79
 t72:=Tryd.underlying81
 a72:=Tryd.isAgg81
 z72:=Tryd.sizeOf81
 v72:=Tryd.zeroValue81
 t75:=Tryd.underlying83
 a75:=Tryd.isAgg83
 z75:=Tryd.sizeOf83
 v75:=Tryd.zeroValue83
 t76:=Tryd.underlying87
 a76:=Tryd.isAgg87
 z76:=Tryd.sizeOf87
 v76:=Tryd.zeroValue87
 t127:=Tryd.underlying92
 a127:=Tryd.isAgg92
 z127:=Tryd.sizeOf92
 v127:=Tryd.zeroValue92
 t164:=Tryd.underlying103
 a164:=Tryd.isAgg103
 z164:=Tryd.sizeOf103
 v164:=Tryd.zeroValue103 }
end Go.Proofs

namespace Go.Proofs
open Go.Shelf
def Tryd.lays169_ren:Go.Shelf.Ren:=⟨fun | 169=>51 | n=>n,fun | 70=>79 | 9=>9 | 0=>0 | 72=>81 | 37=>22 | 127=>92 | 3=>3 | 5=>5 | n=>n,fun | n=>n⟩
theorem Tryd.lays169:Go.Proofs.Lays.n169 Tryd.prog Tryd.lays169_ren:={
 mixed:=by kernel_rfl
 f169:=Tryd.func51.trans (congrArg some (by kernel_rfl))
 t0:=Tryd.underlying0
 a0:=Tryd.isAgg0
 z0:=Tryd.sizeOf0
 v0:=Tryd.zeroValue0
 t3:=Tryd.underlying3
 a3:=Tryd.isAgg3
 z3:=Tryd.sizeOf3
 v3:=Tryd.zeroValue3
 t9:=Tryd.underlying9
 a9:=Tryd.isAgg9
 z9:=Tryd.sizeOf9
 v9:=Tryd.zeroValue9
 t37:=Tryd.underlying22
 a37:=Tryd.isAgg22
 z37:=Tryd.sizeOf22
 v37:=Tryd.zeroValue22
 t70:=Tryd.underlying79
 a70:=Tryd.isAgg79
 z70:=Tryd.sizeOf79
 v70:=Tryd.zeroValue79
 t72:=Tryd.underlying81
 a72:=Tryd.isAgg81
 z72:=Tryd.sizeOf81
 v72:=Tryd.zeroValue81
 t127:=Tryd.underlying92
 a127:=Tryd.isAgg92
 z127:=Tryd.sizeOf92
 v127:=Tryd.zeroValue92 }
def Tryd.lays167_ren:Go.Shelf.Ren:=⟨fun | 167=>50 | 169=>51 | 240=>59 | 276=>72 | n=>n,fun | 20=>20 | 72=>81 | 70=>79 | 37=>22 | 75=>83 | 127=>92 | 164=>103 | 80=>85 | n=>n,fun | n=>n⟩
theorem Tryd.lays167:Go.Proofs.Lays.n167 Tryd.prog Tryd.lays167_ren:={
 mixed:=by kernel_rfl
 f167:=Tryd.func50.trans (congrArg some (by kernel_rfl))
 f240:=Tryd.func59.trans (congrArg some (by kernel_rfl))
 f276:=Tryd.func72.trans (congrArg some (by kernel_rfl))
 t0:=Tryd.underlying0
 a0:=Tryd.isAgg0
 z0:=Tryd.sizeOf0
 v0:=Tryd.zeroValue0
 t4:=Tryd.underlying4
 a4:=Tryd.isAgg4
 z4:=Tryd.sizeOf4
 v4:=Tryd.zeroValue4
 t5:=Tryd.underlying5
 a5:=Tryd.isAgg5
 z5:=Tryd.sizeOf5
 v5:=Tryd.zeroValue5
 t9:=Tryd.underlying9
 a9:=Tryd.isAgg9
 z9:=Tryd.sizeOf9
 v9:=Tryd.zeroValue9
 t20:=Tryd.underlying20
 a20:=Tryd.isAgg20
 z20:=Tryd.sizeOf20
 v20:=Tryd.zeroValue20
 t37:=Tryd.underlying22
 a37:=Tryd.isAgg22
 z37:=Tryd.sizeOf22
 v37:=Tryd.zeroValue22
 t70:=Tryd.underlying79
 a70:=Tryd.isAgg79
 z70:=Tryd.sizeOf79
 v70:=Tryd.zeroValue79
 t72:=Tryd.underlying81
 a72:=Tryd.isAgg81
 z72:=Tryd.sizeOf81
 v72:=Tryd.zeroValue81
 t75:=Tryd.underlying83
 a75:=Tryd.isAgg83
 z75:=Tryd.sizeOf83
 v75:=Tryd.zeroValue83
 t164:=Tryd.underlying103
 a164:=Tryd.isAgg103
 z164:=Tryd.sizeOf103
 v164:=Tryd.zeroValue103 }
theorem Tryd.extra156:Builder.Extra Tryd.prog Tryd.lays156_ren:={
 sizeBuilder:=by kernel_rfl
 liesBuilder:=by kernel_rfl
 t5:=Tryd.underlying5
 a5:=Tryd.isAgg5
 z5:=Tryd.sizeOf5
 v5:=Tryd.zeroValue5
 infoByte:=by kernel_rfl
 cellsByte:=by kernel_rfl
 sizeByte:=by kernel_rfl
 neB5:=by decide }
theorem Tryd.extra167:Builder.Extra Tryd.prog Tryd.lays167_ren:={
 sizeBuilder:=by kernel_rfl
 liesBuilder:=by kernel_rfl
 t5:=Tryd.underlying5
 a5:=Tryd.isAgg5
 z5:=Tryd.sizeOf5
 v5:=Tryd.zeroValue5
 infoByte:=by kernel_rfl
 cellsByte:=by kernel_rfl
 sizeByte:=by kernel_rfl
 neB5:=by decide }
theorem Tryd.extra169:Builder.Extra Tryd.prog Tryd.lays169_ren:={
 sizeBuilder:=by kernel_rfl
 liesBuilder:=by kernel_rfl
 t5:=Tryd.underlying5
 a5:=Tryd.isAgg5
 z5:=Tryd.sizeOf5
 v5:=Tryd.zeroValue5
 infoByte:=by kernel_rfl
 cellsByte:=by kernel_rfl
 sizeByte:=by kernel_rfl
 neB5:=by decide }
end Go.Proofs

namespace Go.Proofs.YtamhchkknlbanaaDoor.Be
open Go.Sx Go.Proofs
def wds(d:CD):List (List UInt8):=(st (line d)).1
theorem acn(l:List UInt8):by' (tx l)=l:=by
 show(ByteArray.mk l.toArray).toList=l
 rw [ByteArray.toList_eq]
theorem bby:by' (default:CD)=[]:=by
 show(ByteArray.mk #[]).toList=[]
 rw [ByteArray.toList_eq]
theorem bl6{W:List (List UInt8)}(i:Int):by' ((mkz (W.map afz)).cell i 0)=gw W i.toNat:=by
 unfold CD.cell
 show by' ((((W.map afz).getD i.toNat []).getD 0 default))=_
 have e:(W.map afz).getD i.toNat []=(W[i.toNat]?.map afz).getD []:=by rw [List.getD_eq_getElem?_getD,List.getElem?_map]
 unfold gw
 rw [e,List.getD_eq_getElem?_getD (l:=W)]
 cases W[i.toNat]? with
 | none=>exact bby
 | some w=>exact acn w
theorem al9{c:CD}{l:List UInt8}(h:eqC c (.v (.string ⟨⟨l⟩⟩))=true):by' c=l:=by
 cases c with
 | v u=>cases u with
  | string s =>
   rw [arl] at h
   show s.toList=l
   rw [h,ByteArray.toList_eq]
  | _=>cases h
 | sl _ _=>cases h
 | ag _=>cases h
theorem bpq(l:List UInt8):(a6n l&&decide (valD l≤1073741824))=nOk l:=rfl
theorem buj{l:List UInt8}(h:nOk l=true):numV l=valD l:=by
 unfold nOk at h
 rw [Bool.and_eq_true] at h
 unfold numV
 rw [if_pos h.1]
theorem bzl{d:CD}(h:2200<(d.slen:Int))(hT:Typ .str d):ab0 d=aiy 3:=by
 unfold ab0
 rw [afi hT] at h
 rw [if_pos (by omega)]
theorem buv{d:CD}(h:¬ 2200<(d.slen:Int))(hT:Typ .str d)(hk:¬ okW (line d)=true):ab0 d=aiy 4:=by
 unfold ab0
 rw [afi hT] at h
 rw [if_neg (by omega),if_neg hk]
theorem bk4{d:CD}(h:¬ 2200<(d.slen:Int))(hT:Typ .str d)(hk:okW (line d)=true):ab0 d=bdn (wds d):=by
 unfold ab0
 rw [afi hT] at h
 rw [if_neg (by omega),if_pos hk]
 rfl
theorem bzm{d:CD}(h:¬ 2200<(d.slen:Int))(hT:Typ .str d)(hk:okW (line d)=true)(hf:aeg (gw (wds d) 0)=none):ab0 d=aiy 6:=by
 rw [bk4 h hT hk]
 unfold bdn
 rw [hf]
theorem aii{d:CD}{w l:List UInt8}{k m r:Int}(h:¬ 2200<(d.slen:Int))(hT:Typ .str d)(hk:okW (line d)=true)(hw:gw (wds d) 0=l)(hf:aeg l=some (w,k,m,r)):ab0 d=adj (wds d) k m r (w==[99,117,116]):=by
 rw [bk4 h hT hk]
 unfold bdn
 rw [hw,hf]
theorem b0i{d:CD}(hk:okW (line d)=true):1≤(wds d).length:=by
 unfold wds line st
 rw [List.foldl_append]
 show 1≤(stp _ 32).1.length
 unfold stp
 rw [if_pos (by decide)]
 simp
theorem bwe(c:CD):(c.slen:Int)≤(by' c).length:=by
 unfold CD.slen by'
 rw [ByteArray.toList_eq]
 have:clip c.str.size≤c.str.size:=Nat.min_le_left _ _
 show((clip c.str.size:Nat):Int)≤(c.str.data.toList.length:Int)
 have e:c.str.data.toList.length=c.str.size:=rfl
 omega
theorem bmo:∀ (l:List UInt8) (s:List (List UInt8)×List UInt8) (n:Nat),(∀ w∈s.1,w.length≤n)→s.2.length≤n→(∀ w∈(l.foldl stp s).1,w.length≤n+l.length)∧(l.foldl stp s).2.length≤n+l.length
 | [],s,n,h1,h2=>⟨h1,h2⟩
 | b::l,s,n,h1,h2=>by
  have:=bmo l (stp s b) (n+1) (fun w hw=>by
   unfold stp at hw
   split at hw
   ·rcases List.mem_append.1 hw with hw | hw
    ·have:=h1 w hw;omega
    ·rw [List.mem_singleton.1 hw];omega
   ·have:=h1 w hw;omega) (by
   unfold stp
   split
   ·show 0≤n+1;omega
   ·show(s.2++[b]).length≤n+1
    rw [List.length_append]
    show s.2.length+1≤n+1
    omega)
  rw [show n+(b::l).length=n+1+l.length by simp only [List.length_cons];omega]
  exact this
theorem byh(d:CD)(i:Nat):(gw (wds d) i).length≤(by' d).length+1:=by
 have h:=(bmo (line d) ([],[]) 0 (fun w hw=>by cases hw) (Nat.le_refl 0)).1
 have hl:(line d).length=(by' d).length+1:=by unfold line;rw [List.length_append];rfl
 unfold gw
 rw [List.getD_eq_getElem?_getD]
 cases hh:(wds d)[i]? with
 | none=>show 0≤_;omega
 | some w =>
  have:=h w (List.mem_of_getElem? hh)
  show w.length≤_
  omega
theorem bi5:∀ (l:List UInt8) (n:Int),0≤n→(∀ b∈l,dig b=true)→0≤l.foldl (fun n b=>10*n+((b.toNat:Int) - 48)) n
 | [],n,h,_=>h
 | b::l,n,h,hd=>by
  refine bi5 l _ ?_ fun c hc=>hd c (List.mem_cons_of_mem _ hc)
  have:=hd b (List.mem_cons_self ..)
  unfold dig at this
  rw [Bool.and_eq_true,decide_eq_true_eq] at this
  show 0≤10*n+((b.toNat:Int) - 48)
  omega
theorem bui(l:List UInt8):0≤numV l:=by
 unfold numV
 split
 ·rename_i h
  unfold a6n digs at h
  rw [Bool.and_eq_true] at h
  exact bi5 l 0 (Int.le_refl 0) (List.all_eq_true.1 h.2)
 ·exact Int.le_refl 0
theorem bwz{n:Int}(h1:0≤n)(h2:n≤255):IntKind.u8.wrap n=n:=by
 haveI:Sg:=@Sg.mk U fun _=>default
 exact a4r (k:=.u8) h1 h2
end Go.Proofs.YtamhchkknlbanaaDoor.Be

namespace Go.Proofs.YtamhchkknlbanaaDoor.Be
open Go.Sx Go.Proofs Go.Lib
def valN(l:List UInt8):Nat:=l.foldl (fun n b=>n*10+(b.toNat - 48)) 0
theorem akx{b:UInt8}:dig b=true↔48≤b.toNat∧b.toNat≤57:=by
 unfold dig
 rw [Bool.and_eq_true,decide_eq_true_eq,decide_eq_true_eq]
theorem bye:∀ (l:List UInt8) (n:Int) (m:Nat),(∀ b∈l,dig b=true)→n=m→l.foldl (fun n b=>10*n+((b.toNat:Int) - 48)) n=((l.foldl (fun n b=>n*10+(b.toNat - 48)) m:Nat):Int)
 | [],n,m,_,h=>h
 | b::l,n,m,hd,h=>by
  refine bye l _ _ (fun c hc=>hd c (List.mem_cons_of_mem _ hc)) ?_
  have:=akx.1 (hd b (List.mem_cons_self ..))
  show 10*n+((b.toNat:Int) - 48)=((m*10+(b.toNat - 48):Nat):Int)
  omega
theorem bs3{l:List UInt8}(hd:∀ b∈l,dig b=true):valD l=(valN l:Int):=bye l 0 0 hd rfl
theorem bcb{l:List UInt8}:digs l=true↔∀ b∈l,dig b=true:=List.all_eq_true
theorem bsq:∀ (l:List UInt8) (acc:Nat),(∀ b∈l,dig b=true)→(acc+1)*10 ^ l.length≤1844674407370955162→parseUint10 acc l=.ok (l.foldl (fun n b=>n*10+(b.toNat - 48)) acc)
 | [],acc,_,_=>rfl
 | c::r,acc,hd,hb=>by
  have h1:=akx.1 (hd c (List.mem_cons_self ..))
  have hpos:1≤10 ^ r.length:=Nat.pow_pos (by decide)
  rw [List.length_cons,Nat.pow_succ] at hb
  have hb2:(acc+1)*10≤1844674407370955162:=by
   have:(acc+1)*10*1≤(acc+1)*10*10 ^ r.length:=Nat.mul_le_mul_left _ hpos
   have e:(acc+1)*(10 ^ r.length*10)=(acc+1)*10*10 ^ r.length:=by rw [Nat.mul_comm (10 ^ r.length) 10,Nat.mul_assoc]
   omega
  simp only [parseUint10]
  rw [if_pos h1,if_neg (by omega),if_neg (by omega)]
  refine bsq r _ (fun b hb=>hd b (List.mem_cons_of_mem _ hb)) ?_
  refine Nat.le_trans ?_ hb
  rw [Nat.mul_comm (10 ^ r.length) 10,← Nat.mul_assoc]
  exact Nat.mul_le_mul_right _ (by omega)
theorem ones:∀ (l:List UInt8) (acc:Nat),1≤acc→1≤l.foldl (fun n b=>n*10+(b.toNat - 48)) acc
 | [],acc,h=>h
 | b::l,acc,h=>ones l _ (by show 1≤acc*10+_;omega)
theorem a9l(l:List UInt8)(b:UInt8):valN (l++[b])=valN l*10+(b.toNat - 48):=by
 unfold valN
 rw [List.foldl_append]
 rfl
theorem b0n{b:UInt8}(h:48≤b.toNat):UInt8.ofNat (48+(b.toNat - 48))=b:=by
 rw [show 48+(b.toNat - 48)=b.toNat by omega]
 exact UInt8.ofNat_toNat
theorem bh8:∀ (n:Nat) (l:List UInt8),l.length=n+1→(∀ b∈l,dig b=true)→(1<l.length→(l.getD 0 0).toNat≠48)→decDigits (valN l)=l
 | 0,[b],_,hd,_=>by
  have h1:=akx.1 (hd b (List.mem_cons_self ..))
  have:valN [b]=b.toNat - 48:=by show 0*10+(b.toNat - 48)=_;omega
  rw [this,decDigits,dif_pos (by omega),b0n h1.1]
 | n+1,l,hl,hd,h0=>by
  have hne:l≠[]:=fun h=>by rw [h] at hl;simp at hl
  have hs:l=l.dropLast++[l.getLast hne]:=(List.dropLast_concat_getLast hne).symm
  generalize l.getLast hne=b at hs
  generalize hp:l.dropLast=p at hs
  have hpl:p.length=n+1:=by rw [← hp,List.length_dropLast];omega
  have hb:=akx.1 (hd b (by rw [hs];simp))
  have hpd:∀ c∈p,dig c=true:=fun c hc=>hd c (by rw [hs];exact List.mem_append_left _ hc)
  obtain⟨c,r,rfl⟩:∃ c r,p=c::r:=by
   cases p with
   | nil=>simp at hpl
   | cons c r=>exact⟨c,r,rfl⟩
  have hc0:c.toNat≠48:=by
   have:=h0 (by omega)
   rw [hs] at this
   exact this
  have hc:=akx.1 (hpd c (List.mem_cons_self ..))
  have h1:1≤valN (c::r):=ones r _ (by show 1≤0*10+(c.toNat - 48);omega)
  have ih:=bh8 n (c::r) hpl hpd (fun _=>hc0)
  rw [hs,a9l,decDigits,dif_neg (by omega),show(valN (c::r)*10+(b.toNat - 48)) / 10=valN (c::r) by omega,show(valN (c::r)*10+(b.toNat - 48)) % 10=b.toNat - 48 by omega,ih,b0n hb.1]
theorem ofNat_toNat{k:Nat}(h:k≤57):(UInt8.ofNat k).toNat=k:=by
 rw [UInt8.toNat_ofNat']
 omega
theorem bh6:∀ (u:Nat),∀ b∈decDigits u,dig b=true:=by
 intro u
 induction u using Nat.strongRecOn with
 | _ u ih =>
  intro b hb
  rw [decDigits] at hb
  split at hb
  ·rw [List.mem_singleton.1 hb,akx,ofNat_toNat (by omega)];omega
  ·rcases List.mem_append.1 hb with hb | hb
   ·exact ih (u / 10) (by omega) b hb
   ·rw [List.mem_singleton.1 hb,akx,ofNat_toNat (by omega)];omega
theorem bxy:∀ (u:Nat),valN (decDigits u)=u:=by
 intro u
 induction u using Nat.strongRecOn with
 | _ u ih =>
  rw [decDigits]
  split
  ·show 0*10+((UInt8.ofNat (48+u)).toNat - 48)=u
   rw [ofNat_toNat (by omega)]
   omega
  ·rw [a9l,ih (u / 10) (by omega),ofNat_toNat (by omega)]
   omega
theorem bb7:∀ (k u:Nat),u<10 ^ (k+1)→1≤(decDigits u).length∧(decDigits u).length≤k+1
 | 0,u,h=>by
  rw [decDigits,dif_pos (by simpa using h)]
  simp
 | k+1,u,h=>by
  rw [decDigits]
  split
  ·simp
  ·rw [Nat.pow_succ] at h
   have:=bb7 k (u / 10) (by omega)
   rw [List.length_append]
   simp only [List.length_cons,List.length_nil]
   omega
theorem bo2{p q:List UInt8}(h:1≤p.length):(p++q).getD 0 0=p.getD 0 0:=by
 cases p with
 | nil=>simp at h
 | cons a r=>rfl
theorem bxx(u:Nat):1≤(decDigits u).length:=by
 rw [decDigits]
 split
 ·simp
 ·rw [List.length_append];simp
theorem btk:∀ (u:Nat),1≤u→((decDigits u).getD 0 0).toNat≠48:=by
 intro u
 induction u using Nat.strongRecOn with
 | _ u ih =>
  intro h
  rw [decDigits]
  split
  ·show(UInt8.ofNat (48+u)).toNat≠48
   rw [ofNat_toNat (by omega)]
   omega
  ·rw [bo2 (bxx _)]
   exact ih (u / 10) (by omega) (by omega)
theorem bza{u:Nat}(h:u≤1073741824):nOk (decDigits u)=true∧valD (decDigits u)=u:=by
 have hv:valD (decDigits u)=u:=by rw [bs3 (bh6 u),bxy]
 refine⟨?_,hv⟩
 have hl:=bb7 9 u (by omega)
 unfold nOk a6n
 rw [hv,bcb.2 (bh6 u),decide_eq_true hl.2,decide_eq_true (show(u:Int)≤1073741824 by omega)]
 have h1:(decDigits u).isEmpty=false:=by
  cases hd:decDigits u with
  | nil=>rw [hd] at hl;simp at hl
  | cons a r=>rfl
 rw [h1]
 have h2:(decide (1<(decDigits u).length)&&decide (((decDigits u).getD 0 0).toNat=48))=false:=by
  rw [Bool.and_eq_false_iff]
  by_cases hu:u=0
  ·subst hu
   left
   rw [decDigits]
   rfl
  ·right
   exact decide_eq_false (btk u (by omega))
 rw [h2]
 rfl
theorem bka{l:List UInt8}(h:nOk l=true):(∀ b∈l,dig b=true)∧1≤l.length∧l.length≤10∧(1<l.length→(l.getD 0 0).toNat≠48)∧valD l≤1073741824:=by
 unfold nOk a6n at h
 simp only [Bool.and_eq_true,Bool.not_eq_true',decide_eq_true_eq,Bool.and_eq_false_iff,decide_eq_false_iff_not] at h
 obtain⟨⟨⟨⟨h1,h2⟩,h3⟩,h4⟩,h5⟩:=h
 refine⟨bcb.1 h4,?_,h2,fun hl=>?_,h5⟩
 ·cases l with
  | nil=>cases h1
  | cons a r=>simp
 ·rcases h3 with h3 | h3
  ·exact absurd hl h3
  ·exact h3
theorem aoa{v:Int}(h:0≤v):itoa v=decDigits v.toNat:=by
 unfold itoa
 rw [if_neg (by omega)]
theorem bda{l:List UInt8}(h:nOk l=true):atoiAll l=.ok (valD l)∧itoa (valD l)=l∧0≤valD l∧valD l≤1073741824:=by
 obtain⟨h1,h2,h3,h4,h5⟩:=bka h
 have hv:=bs3 h1
 have h0:0≤valD l:=by omega
 refine⟨?_,?_,h0,h5⟩
 ·cases l with
  | nil=>simp at h2
  | cons c r =>
   have hc:=akx.1 (h1 c (List.mem_cons_self ..))
   unfold atoiAll
   simp only
   rw [if_neg (by omega)]
   have:parseMag (c::r)=.ok (valN (c::r)):=by
    unfold parseMag
    rw [if_neg (by simp)]
    refine bsq (c::r) 0 h1 ?_
    rw [Nat.zero_add,Nat.one_mul]
    exact Nat.le_trans (Nat.pow_le_pow_right (by decide) h3) (by decide)
   rw [this]
   simp only
   rw [if_neg (by omega),if_neg (by omega),if_neg (by omega),hv]
 ·rw [aoa h0,hv,Int.toNat_natCast]
  exact bh8 (l.length - 1) l (by omega) h1 h4
theorem bn8{l:List UInt8}{v:Int}(h:0≤v)(h':v≤1073741824)(hi:itoa v=l):nOk l=true∧valD l=v:=by
 rw [aoa h] at hi
 subst hi
 obtain⟨h1,h2⟩:=bza (u:=v.toNat) (by omega)
 exact⟨h1,by rw [h2];omega⟩
theorem ao5{l:List UInt8}(h:nOk l=true):aip l=numV l:=by
 unfold aip
 rw [(bda h).1,buj h]
theorem as6{l:List UInt8}:nOk l=(match atoiAll l with | .ok v=>decide (0≤v)&&(decide (v≤1073741824)&&decide (itoa v=l)) | _=>false):=by
 cases h:nOk l with
 | true =>
  obtain⟨h1,h2,h3,h4⟩:=bda h
  rw [h1]
  simp only
  rw [decide_eq_true h2,decide_eq_true h3,decide_eq_true h4]
  rfl
 | false =>
  split
  ·rename_i v hv
   symm
   rw [Bool.and_eq_false_iff,Bool.and_eq_false_iff]
   by_cases h1:0≤v
   ·by_cases h2:v≤1073741824
    ·by_cases h3:itoa v=l
     ·rw [(bn8 h1 h2 h3).1] at h;cases h
     ·exact .inr (.inr (decide_eq_false h3))
    ·exact .inr (.inl (decide_eq_false h2))
   ·exact .inl (decide_eq_false h1)
  ·rfl
end Go.Proofs.YtamhchkknlbanaaDoor.Be

namespace Go.Proofs.YtamhchkknlbanaaDoor.Be
open Go.Sx Go.Proofs Go.RowKit
theorem b0l{w:World}(h:TW w):Lib.TabIs Tryd.prog w "internal/strconv.uint64pow10" .u64 Lib.pow10Tab:=by
 obtain⟨o,h1,t,fr,rfl⟩:=h _ (List.mem_cons_of_mem _ (List.mem_cons_self ..))
 have hg:Tryd.prog.globalNamed "internal/strconv.uint64pow10" = some 1:=by kernel_rfl
 unfold Lib.TabIs World.var?
 rw [hg]
 show(match w.heap[1]? with | some (.cells cs _ _)=>some cs | _=>none)=_
 rw [h1]
 rfl
theorem b0k{w:World}(h:TW w):∃ m,w.cell? ⟨0,0,none⟩=some (.int .i64 m):=by
 obtain⟨o,h1,m,t,fr,rfl⟩:=h _ (List.mem_cons_self ..)
 exact⟨m,by unfold World.cell?;rw [h1];rfl⟩
theorem bs1{w:World}(h:TW w){k:Nat}(hk:k=2∨k=3):∃ te pe,w.cell? ⟨k,0,none⟩=some (.iface te pe):=by
 have:(k,isE1)∈bm4:=by rcases hk with rfl | rfl<;>simp [bm4]
 obtain⟨o,h1,te,pe,t,fr,rfl⟩:=h _ this
 exact⟨te,pe,by unfold World.cell?;rw [h1];rfl⟩
theorem brd{w w':World}(h:TW w)(hb:Below w.heap.size w w'):TW w':=h.keep fun k hk=>hb.block k hk
theorem Below.trans'{w w1 w2:World}(h:Below w.heap.size w w1)(h':Below w1.heap.size w1 w2):Below w.heap.size w w2 :=
 ⟨h'.os.trans h.os,h'.tape.trans h.tape,h'.output.trans h.output,Nat.le_trans h.size h'.size,fun k hk=>(h'.block k (Nat.lt_of_lt_of_le hk h.size)).trans (h.block k hk)⟩
theorem bfu(w:World)(k:Nat)(os:Array Obj):Below w.heap.size w (Go.Sort.grow (w.drewN k) os):=by
 refine⟨rfl,rfl,rfl,?_,fun j hj=>?_⟩
 ·show w.heap.size≤(w.heap++os).size
  rw [Array.size_append]
  omega
 ·show(w.heap++os)[j]? = _
  rw [Array.getElem?_append_left hj]
theorem ayj(n:Int)(h0 : -9223372036854775808≤n)(h1:n≤9223372036854775807)(w:World)(tw:TW w) :
  Calls Tryd.prog 30 #[.int .i64 n] w fun e w'=>e=.returned (.string ⟨(Lib.itoa n).toArray⟩)∧Below w.heap.size w w' :=
 (Any.strconv_Itoa Tryd.laysM171 n h0 h1 w (b0l tw)).mono fun e w' ⟨h2,k,os,h3⟩=>⟨h2,by rw [h3];exact bfu w k os⟩
theorem bfk(s:ByteArray)(hs:s.size≤4294967280)(w:World)(tw:TW w) :
  Calls Tryd.prog 56 #[.string s] w fun e w'=>((∃ v,Lib.atoiAll s.data.toList=.ok v∧e=.returned (.tuple #[.int .i64 v,.nilIface]))∨((∀ v,Lib.atoiAll s.data.toList≠.ok v)∧∃ a b,e=.returned (.tuple #[.int .i64 (aip s.data.toList),.iface a b])))∧Below w.heap.size w w':=by
 cases h:Lib.atoiAll s.data.toList with
 | ok v =>
  refine(Any.strconv_Atoi_ok Tryd.laysC172 s (by omega) v h w).mono fun e w' ⟨h1,h2⟩=>⟨.inl ⟨v,rfl,h1⟩,?_⟩
  rcases h2 with rfl | ⟨t,rfl⟩
  ·exact Below.refl _ _
  ·exact Lib.bytesWorld_below w _ t
 | range =>
  obtain⟨te,pe,hv⟩:=bs1 tw (k:=3) (.inr rfl)
  refine(Any.strconv_Atoi_range Tryd.laysC172 s (by omega) h _ w hv (.inr ⟨te,pe,rfl⟩)).mono ?_
  rintro e w' ⟨N,rfl,_,_,h2⟩
  have e1:aip s.data.toList=Lib.atoiSat s.data.toList:=by unfold aip;rw [h]
  rw [e1]
  exact⟨.inr ⟨fun v hh=>(by cases hh),Tryd.laysC172_ren.t 168,.pointer (some ⟨N,0,none⟩),rfl⟩,h2⟩
 | _ =>
  obtain⟨te,pe,hv⟩:=bs1 tw (k:=2) (.inl rfl)
  refine(Any.strconv_Atoi_syntax Tryd.laysC172 s (by omega) h _ w hv (.inr ⟨te,pe,rfl⟩)).mono ?_
  rintro e w' ⟨N,rfl,_,_,h2⟩
  have e1:aip s.data.toList=0:=by unfold aip;rw [h]
  rw [e1]
  exact⟨.inr ⟨fun v hh=>(by cases hh),Tryd.laysC172_ren.t 168,.pointer (some ⟨N,0,none⟩),rfl⟩,h2⟩
set_option maxRecDepth 100000 in
theorem a6o(s:ByteArray)(hs:s.size≤4294967280)(w:World)(tw:TW w) :
  Calls Tryd.prog 44 #[.string s] w fun e w'=>e=.returned (.tuple #[.int .i64 (aip s.data.toList),.bool (nOk s.data.toList)])∧Below w.heap.size w w':=by
 go_enter Tryd.func44,Tryd.ntmps44
 go_wp2_with (first
  | (go_at_call 56;refine(bfk s hs _ tw).mono ?_;rintro e w1 ⟨(⟨v,hv,rfl⟩ | ⟨hv,a,b,rfl⟩),hb1⟩)
  | (go_at_call 30;refine(ayj _ (by omega) (by omega) _ (brd tw (by assumption))).mono ?_;rintro e w2 ⟨rfl,hb2⟩))
 ·go_ret2
  have hd:=as6 (l:=s.data.toList)
  have hv':aip s.data.toList=v:=by unfold aip;rw [hv]
  rw [hv] at hd
  simp only at hd
  rw [decide_eq_true (show 0≤v by assumption),decide_eq_true (show v≤1073741824 by assumption),Bool.true_and,Bool.true_and] at hd
  refine⟨?_,Below.trans' hb1 hb2⟩
  rw [hv',hd,ByteArray.toList_eq]
  have:(Lib.itoa v==s.data.toList)=decide (Lib.itoa v=s.data.toList):=by
   rw [Bool.eq_iff_iff,beq_iff_eq,decide_eq_true_eq]
  rw [this]
  rfl
 ·go_ret2
  have hd:=as6 (l:=s.data.toList)
  have hv':aip s.data.toList=v:=by unfold aip;rw [hv]
  rw [hv] at hd
  simp only at hd
  rw [decide_eq_false (show ¬ v≤1073741824 by omega),Bool.false_and,Bool.and_false] at hd
  exact⟨by rw [hv',hd];rfl,hb1⟩
 ·go_ret2
  have hd:=as6 (l:=s.data.toList)
  have hv':aip s.data.toList=v:=by unfold aip;rw [hv]
  rw [hv] at hd
  simp only at hd
  rw [decide_eq_false (show ¬ 0≤v by omega),Bool.false_and] at hd
  exact⟨by rw [hv',hd];rfl,hb1⟩
 ·go_ret2
  have hd:=as6 (l:=s.data.toList)
  refine⟨?_,hb1⟩
  rw [hd]
  cases h:Lib.atoiAll s.data.toList with
  | ok v=>exact absurd h (hv v)
  | _=>rfl
end Go.Proofs.YtamhchkknlbanaaDoor.Be

namespace Go.Proofs.YtamhchkknlbanaaDoor.Be
open Go.Sx Go.Proofs Go.Lib
theorem bwk(A:List (List UInt8)):∀ (r:List UInt8) (B:List (List UInt8)) (w:List UInt8),r.foldl stp (A++B,w)=(A++(r.foldl stp (B,w)).1,(r.foldl stp (B,w)).2)
 | [],B,w=>rfl
 | b::r,B,w=>by
  show r.foldl stp (stp (A++B,w) b)=(A++(r.foldl stp (stp (B,w) b)).1,(r.foldl stp (stp (B,w) b)).2)
  unfold stp
  split
  ·show r.foldl stp (A++B++[w],[])=_
   rw [List.append_assoc,bwk A r (B++[w]) []]
   rfl
  ·exact bwk A r B (w++[b])
theorem bmw:∀ (p:List UInt8) (A:List (List UInt8)) (w:List UInt8),(∀ b∈p,b.toNat≠32)→p.foldl stp (A,w)=(A,w++p)
 | [],A,w,_=>by rw [List.append_nil];rfl
 | b::p,A,w,h=>by
  show p.foldl stp (stp (A,w) b)=_
  have:stp (A,w) b=(A,w++[b]):=by
   unfold stp
   rw [if_neg (h b (List.mem_cons_self ..))]
  rw [this,bmw p A _ fun c hc=>h c (List.mem_cons_of_mem _ hc),List.append_assoc]
  rfl
theorem b32{b:UInt8}:b.toNat=32↔b=32:=by
 rw [← UInt8.toNat_inj]
 rfl
theorem bjf:∀ (l:List UInt8),32∈l→∃ i:Nat,indexByte l 32=i∧l=l.take i++32::l.drop (i+1)∧∀ b∈l.take i,b.toNat≠32
 | [],h=>by cases h
 | b::l,h=>by
  by_cases hb:b=32
  ·subst hb
   exact⟨0,by rfl,rfl,fun c hc=>by cases hc⟩
  ·have hl:32∈l:=by
    rcases List.mem_cons.1 h with h | h
    ·exact absurd h.symm hb
    ·exact h
   obtain⟨i,h1,h2,h3⟩:=bjf l hl
   refine⟨i+1,?_,?_,?_⟩
   ·unfold indexByte
    rw [if_neg (by rw [beq_iff_eq];exact hb),h1,if_neg (by rw [beq_iff_eq];omega)]
    rfl
   ·show b::l=b::(l.take i++32::l.drop (i+1))
    rw [← h2]
   ·intro c hc
    rcases List.mem_cons.1 (show c∈b::l.take i from hc) with rfl | hc
    ·rw [ne_eq,b32];exact hb
    ·exact h3 c hc
theorem ber:∀ (k:Nat) (l:List UInt8),l.count 32=k→splitK [32] 0 k l=(st (l++[32])).1
 | 0,l,h=>by
  have hn:∀ b∈l,b.toNat≠32:=fun b hb=>by
   rw [ne_eq,b32]
   rintro rfl
   have:=List.count_pos_iff.2 hb
   omega
  unfold st
  rw [List.foldl_append,bmw l [] [] hn]
  show [l]=_
  show _=(stp ([],[]++l) 32).1
  unfold stp
  rw [if_pos (by decide)]
  rfl
 | k+1,l,h=>by
  have hm:32∈l:=List.count_pos_iff.1 (by omega)
  obtain⟨i,h1,h2,h3⟩:=bjf l hm
  have hi:index l [32]=i:=by rw [index_one,h1]
  have hc:(l.drop (i+1)).count 32=k:=by
   rw [h2,List.count_append,List.count_cons_self] at h
   have:(l.take i).count 32=0:=List.count_eq_zero.2 fun hh=>h3 32 hh rfl
   omega
  have e1:splitK [32] 0 (k+1) l=l.take i::splitK [32] 0 k (l.drop (i+1)):=by
   rw [splitK]
   rw [hi,if_neg (by rw [beq_iff_eq];omega)]
   rfl
  rw [e1,ber k _ hc]
  have e2:l++[32]=l.take i++(32::(l.drop (i+1)++[32])):=by
   conv=>lhs;rw [h2]
   rw [List.append_assoc]
   rfl
  rw [e2]
  unfold st
  rw [List.foldl_append (l:=l.take i),bmw _ [] [] h3]
  show _=((l.drop (i+1)++[32]).foldl stp (stp ([],[]++l.take i) 32)).1
  have e3:stp ([],[]++l.take i) 32=([l.take i]++[],[]):=by
   unfold stp
   rw [if_pos (by decide)]
   rfl
  rw [e3,bwk]
  rfl
theorem ba7(s:ByteArray):(splitB ⟨#[32]⟩ 0 (countB s ⟨#[32]⟩) s).map (fun b=>b.data.toList)=(st (s.data.toList++[32])).1:=by
 rw [splitB_data]
 refine ber _ _ ?_
 show _=count s.data.toList [32]
 rw [count_one]
end Go.Proofs.YtamhchkknlbanaaDoor.Be
