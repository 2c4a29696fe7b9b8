/- The library contracts of the kit, laid at this program by the kit tool. No conditions of ours. -/
import Derived.Shelf.Strings.Trim
import Derived.Shelf.Strings.SlTrimAscii
import Derived.Shelf.Strings.Search1
import Derived.Shelf.Strings.Search2
import Derived.Shelf.Strings.Search3
import Derived.Shelf.Small.Bits
import Derived.Shelf.LaysM
import Derived.Ground.NamesProg
import Derived.Ground.SlgfProg
import Derived.Ground.SlsfProg
import Derived.Ground.GgzProg
import Derived.Ground.SlgmProg
import Derived.Shelf.SlIter.Nil
import Derived.Shelf.SortM.Plain
import Derived.Shelf.SortM.SortNone
import Derived.Shelf.SlSortCmp.WholeK
import Derived.Shelf.SlSortCmp.NoneTotal
import Derived.Test.YtbecggfbblnglaaGreatDoorProg
set_option linter.unusedSimpArgs false
set_option linter.unusedVariables false
set_option linter.deprecated false
set_option linter.unnecessarySimpa false
namespace Go.Proofs
open Go.Shelf
def Tryz.lays160_ren:Go.Shelf.Ren:=⟨fun | 160=>172 | 232=>205 | 231=>204 | 227=>206 | 234=>208 | 233=>207 | 236=>210 | 235=>209 | 228=>231 | 271=>234 | 151=>233 | 197=>232 | 120=>266 | 152=>265 | 260=>264 | 137=>282 | 119=>283 | 224=>262 | 225=>261 | 217=>260 | 266=>280 | n=>n,fun | 9=>9 | 4=>4 | 3=>3 | 5=>5 | 117=>404 | 116=>403 | 0=>0 | 124=>407 | 21=>21 | 105=>450 | 46=>207 | 119=>495 | 139=>498 | 138=>497 | n=>n,fun | 3=>4 | 4=>5 | n=>n⟩
theorem Tryz.lays160:Go.Proofs.Lays.n160 Tryz.prog Tryz.lays160_ren:={
 mixed:=by kernel_rfl
 f119:=Tryz.func283.trans (congrArg some (by kernel_rfl))
 f120:=Tryz.func266.trans (congrArg some (by kernel_rfl))
 f137:=Tryz.func282.trans (congrArg some (by kernel_rfl))
 f151:=Tryz.func233.trans (congrArg some (by kernel_rfl))
 f152:=Tryz.func265.trans (congrArg some (by kernel_rfl))
 f160:=Tryz.func172.trans (congrArg some (by kernel_rfl))
 f197:=Tryz.func232.trans (congrArg some (by kernel_rfl))
 f217:=Tryz.func260.trans (congrArg some (by kernel_rfl))
 f224:=Tryz.func262.trans (congrArg some (by kernel_rfl))
 f225:=Tryz.func261.trans (congrArg some (by kernel_rfl))
 f227:=Tryz.func206.trans (congrArg some (by kernel_rfl))
 f228:=Tryz.func231.trans (congrArg some (by kernel_rfl))
 f231:=Tryz.func204.trans (congrArg some (by kernel_rfl))
 f232:=Tryz.func205.trans (congrArg some (by kernel_rfl))
 f233:=Tryz.func207.trans (congrArg some (by kernel_rfl))
 f234:=Tryz.func208.trans (congrArg some (by kernel_rfl))
 f235:=Tryz.func209.trans (congrArg some (by kernel_rfl))
 f236:=Tryz.func210.trans (congrArg some (by kernel_rfl))
 f260:=Tryz.func264.trans (congrArg some (by kernel_rfl))
 f266:=Tryz.func280.trans (congrArg some (by kernel_rfl))
 f271:=Tryz.func234.trans (congrArg some (by kernel_rfl))
 t0:=Tryz.underlying0
 a0:=Tryz.isAgg0
 z0:=Tryz.sizeOf0
 v0:=Tryz.zeroValue0
 t3:=Tryz.underlying3
 a3:=Tryz.isAgg3
 z3:=Tryz.sizeOf3
 v3:=Tryz.zeroValue3
 t4:=Tryz.underlying4
 a4:=Tryz.isAgg4
 z4:=Tryz.sizeOf4
 v4:=Tryz.zeroValue4
 t5:=Tryz.underlying5
 a5:=Tryz.isAgg5
 z5:=Tryz.sizeOf5
 v5:=Tryz.zeroValue5
 t9:=Tryz.underlying9
 a9:=Tryz.isAgg9
 z9:=Tryz.sizeOf9
 v9:=Tryz.zeroValue9
 t21:=Tryz.underlying21
 a21:=Tryz.isAgg21
 z21:=Tryz.sizeOf21
 v21:=Tryz.zeroValue21
 t46:=Tryz.underlying207
 a46:=Tryz.isAgg207
 z46:=Tryz.sizeOf207
 v46:=Tryz.zeroValue207
 t105:=Tryz.underlying450
 a105:=Tryz.isAgg450
 z105:=Tryz.sizeOf450
 v105:=Tryz.zeroValue450
 t116:=Tryz.underlying403
 a116:=Tryz.isAgg403
 z116:=Tryz.sizeOf403
 t117:=Tryz.underlying404
 a117:=Tryz.isAgg404
 z117:=Tryz.sizeOf404
 v117:=Tryz.zeroValue404
 t119:=Tryz.underlying495
 a119:=Tryz.isAgg495
 z119:=Tryz.sizeOf495
 t124:=Tryz.underlying407
 a124:=Tryz.isAgg407
 z124:=Tryz.sizeOf407
 v124:=Tryz.zeroValue407
 t138:=Tryz.underlying497
 a138:=Tryz.isAgg497
 z138:=Tryz.sizeOf497
 v138:=Tryz.zeroValue497
 t139:=Tryz.underlying498
 a139:=Tryz.isAgg498
 z139:=Tryz.sizeOf498
 v139:=Tryz.zeroValue498
 g3:=by kernel_rfl
 g4:=by kernel_rfl }
def Tryz.lays144_ren:Go.Shelf.Ren:=⟨fun | 144=>171 | 143=>203 | 219=>230 | 217=>260 | 225=>261 | 224=>262 | 267=>263 | 266=>280 | 314=>281 | n=>n,fun | 9=>9 | 4=>4 | 3=>3 | 5=>5 | 46=>207 | 146=>493 | 51=>22 | n=>n,fun | 1=>3 | n=>n⟩
theorem Tryz.lays144:Go.Proofs.Lays.n144 Tryz.prog Tryz.lays144_ren:={
 mixed:=by kernel_rfl
 f143:=Tryz.func203.trans (congrArg some (by kernel_rfl))
 f144:=Tryz.func171.trans (congrArg some (by kernel_rfl))
 f217:=Tryz.func260.trans (congrArg some (by kernel_rfl))
 f219:=Tryz.func230.trans (congrArg some (by kernel_rfl))
 f224:=Tryz.func262.trans (congrArg some (by kernel_rfl))
 f225:=Tryz.func261.trans (congrArg some (by kernel_rfl))
 f266:=Tryz.func280.trans (congrArg some (by kernel_rfl))
 f267:=Tryz.func263.trans (congrArg some (by kernel_rfl))
 f314:=Tryz.func281.trans (congrArg some (by kernel_rfl))
 t3:=Tryz.underlying3
 a3:=Tryz.isAgg3
 z3:=Tryz.sizeOf3
 v3:=Tryz.zeroValue3
 t4:=Tryz.underlying4
 a4:=Tryz.isAgg4
 z4:=Tryz.sizeOf4
 v4:=Tryz.zeroValue4
 t5:=Tryz.underlying5
 a5:=Tryz.isAgg5
 z5:=Tryz.sizeOf5
 v5:=Tryz.zeroValue5
 t9:=Tryz.underlying9
 a9:=Tryz.isAgg9
 z9:=Tryz.sizeOf9
 v9:=Tryz.zeroValue9
 t46:=Tryz.underlying207
 a46:=Tryz.isAgg207
 z46:=Tryz.sizeOf207
 v46:=Tryz.zeroValue207
 t51:=Tryz.underlying22
 a51:=Tryz.isAgg22
 z51:=Tryz.sizeOf22
 v51:=Tryz.zeroValue22
 t146:=Tryz.underlying493
 a146:=Tryz.isAgg493
 z146:=Tryz.sizeOf493
 v146:=Tryz.zeroValue493
 g1:=by kernel_rfl }
def Tryz.lays134_ren:Go.Shelf.Ren:=⟨fun | 134=>185 | 129=>215 | n=>n,fun | 53=>103 | 3=>3 | 4=>4 | 46=>207 | 5=>5 | 9=>9 | n=>n,fun | n=>n⟩
theorem Tryz.lays134:Go.Proofs.Lays.n134 Tryz.prog Tryz.lays134_ren:={
 mixed:=by kernel_rfl
 f129:=Tryz.func215.trans (congrArg some (by kernel_rfl))
 f134:=Tryz.func185.trans (congrArg some (by kernel_rfl))
 t3:=Tryz.underlying3
 a3:=Tryz.isAgg3
 z3:=Tryz.sizeOf3
 v3:=Tryz.zeroValue3
 t4:=Tryz.underlying4
 a4:=Tryz.isAgg4
 z4:=Tryz.sizeOf4
 v4:=Tryz.zeroValue4
 t5:=Tryz.underlying5
 a5:=Tryz.isAgg5
 z5:=Tryz.sizeOf5
 v5:=Tryz.zeroValue5
 t9:=Tryz.underlying9
 a9:=Tryz.isAgg9
 z9:=Tryz.sizeOf9
 v9:=Tryz.zeroValue9
 t46:=Tryz.underlying207
 a46:=Tryz.isAgg207
 z46:=Tryz.sizeOf207
 v46:=Tryz.zeroValue207
 t53:=Tryz.underlying103
 a53:=Tryz.isAgg103
 z53:=Tryz.sizeOf103
 v53:=Tryz.zeroValue103 }
def Tryz.keys152_ren:Go.Shelf.Ren:=⟨fun | 7=>152 | 10=>190 | n=>n,fun | 23=>307 | 26=>9 | 3=>4 | 28=>310 | 0=>0 | 27=>309 | 33=>258 | 4=>4 | n=>n,fun | n=>n⟩
theorem Tryz.keys152:Go.Proofs.SlLaysZ.n7 Tryz.prog Tryz.keys152_ren:={
 mixed:=by kernel_rfl
 f7:=⟨Tryz.f152.name,by decide,Tryz.func152.trans (congrArg some (by kernel_rfl))⟩
 f10:=⟨Tryz.f190.name,by decide,Tryz.func190.trans (congrArg some (by kernel_rfl))⟩
 t0:=Tryz.underlying0
 a0:=Tryz.isAgg0
 z0:=Tryz.sizeOf0
 v0:=Tryz.zeroValue0
 t4:=Tryz.underlying4
 a4:=Tryz.isAgg4
 z4:=Tryz.sizeOf4
 v4:=Tryz.zeroValue4
 t23:=Tryz.underlying307
 a23:=Tryz.isAgg307
 z23:=Tryz.sizeOf307
 v23:=Tryz.zeroValue307
 t26:=Tryz.underlying9
 a26:=Tryz.isAgg9
 z26:=Tryz.sizeOf9
 v26:=Tryz.zeroValue9
 t27:=Tryz.underlying309
 a27:=Tryz.isAgg309
 z27:=Tryz.sizeOf309
 v27:=Tryz.zeroValue309
 t28:=Tryz.underlying310
 a28:=Tryz.isAgg310
 z28:=Tryz.sizeOf310
 v28:=Tryz.zeroValue310
 t33:=Tryz.underlying258
 a33:=Tryz.isAgg258
 z33:=Tryz.sizeOf258
 v33:=Tryz.zeroValue258 }
def Tryz.sorted151_ren:Go.Shelf.Ren:=⟨fun | 6=>151 | 8=>188 | 9=>189 | 11=>216 | 13=>218 | 12=>217 | 23=>247 | 24=>215 | 14=>238 | 15=>239 | 16=>240 | 17=>241 | 18=>242 | 19=>243 | 20=>244 | 21=>245 | 22=>246 | 25=>269 | 26=>270 | 27=>271 | 28=>272 | 29=>273 | 30=>178 | 31=>287 | n=>n,fun | 26=>9 | 28=>310 | 24=>160 | 0=>0 | 3=>3 | 37=>207 | 48=>22 | 50=>103 | 4=>4 | 40=>456 | 39=>455 | 45=>398 | 5=>5 | 9=>9 | 51=>483 | 55=>486 | 57=>501 | 58=>267 | 33=>258 | n=>n,fun | n=>n⟩
theorem Tryz.sorted151:Go.Proofs.SlLaysZ.n6 Tryz.prog Tryz.sorted151_ren:={
 mixed:=by kernel_rfl
 f6:=⟨Tryz.f151.name,by decide,Tryz.func151.trans (congrArg some (by kernel_rfl))⟩
 f8:=⟨Tryz.f188.name,by decide,Tryz.func188.trans (congrArg some (by kernel_rfl))⟩
 f11:=⟨Tryz.f216.name,by decide,Tryz.func216.trans (congrArg some (by kernel_rfl))⟩
 t0:=Tryz.underlying0
 a0:=Tryz.isAgg0
 z0:=Tryz.sizeOf0
 v0:=Tryz.zeroValue0
 t24:=Tryz.underlying160
 a24:=Tryz.isAgg160
 z24:=Tryz.sizeOf160
 v24:=Tryz.zeroValue160
 t26:=Tryz.underlying9
 a26:=Tryz.isAgg9
 z26:=Tryz.sizeOf9
 v26:=Tryz.zeroValue9
 t28:=Tryz.underlying310
 a28:=Tryz.isAgg310
 z28:=Tryz.sizeOf310
 v28:=Tryz.zeroValue310
 i26:=by kernel_rfl }
def Tryz.sort189_ren:Go.Shelf.Ren:=⟨fun | 6=>189 | 8=>218 | 9=>217 | 19=>247 | 20=>215 | 21=>238 | 22=>239 | 23=>240 | 24=>241 | 25=>242 | 26=>243 | 27=>244 | 28=>245 | 29=>246 | 36=>269 | 31=>270 | 32=>271 | 37=>272 | 38=>273 | 39=>178 | 41=>287 | n=>n,fun | 27=>160 | 29=>9 | 3=>3 | 32=>207 | 26=>160 | 0=>0 | 44=>22 | 46=>103 | 4=>4 | 36=>456 | 35=>455 | 41=>398 | 5=>5 | 9=>9 | 53=>483 | 57=>486 | 63=>501 | 64=>267 | n=>n,fun | n=>n⟩
theorem Tryz.sort189:Go.Proofs.SlLaysM.n6 Tryz.prog Tryz.sort189_ren:={
 mixed:=by kernel_rfl
 f6:=⟨Tryz.f189.name,by decide,Tryz.func189.trans (congrArg some (by kernel_rfl))⟩
 f8:=Tryz.func218.trans (congrArg some (by kernel_rfl))
 f9:=⟨Tryz.f217.name,by decide,Tryz.func217.trans (congrArg some (by kernel_rfl))⟩
 f19:=Tryz.func247.trans (congrArg some (by kernel_rfl))
 f20:=Tryz.func215.trans (congrArg some (by kernel_rfl))
 f21:=⟨Tryz.f238.name,by decide,Tryz.func238.trans (congrArg some (by kernel_rfl))⟩
 f22:=⟨Tryz.f239.name,by decide,Tryz.func239.trans (congrArg some (by kernel_rfl))⟩
 f23:=⟨Tryz.f240.name,by decide,Tryz.func240.trans (congrArg some (by kernel_rfl))⟩
 f24:=⟨Tryz.f241.name,by decide,Tryz.func241.trans (congrArg some (by kernel_rfl))⟩
 f25:=⟨Tryz.f242.name,by decide,Tryz.func242.trans (congrArg some (by kernel_rfl))⟩
 f26:=⟨Tryz.f243.name,by decide,Tryz.func243.trans (congrArg some (by kernel_rfl))⟩
 f27:=⟨Tryz.f244.name,by decide,Tryz.func244.trans (congrArg some (by kernel_rfl))⟩
 f28:=⟨Tryz.f245.name,by decide,Tryz.func245.trans (congrArg some (by kernel_rfl))⟩
 f29:=⟨Tryz.f246.name,by decide,Tryz.func246.trans (congrArg some (by kernel_rfl))⟩
 f31:=Tryz.func270.trans (congrArg some (by kernel_rfl))
 f32:=Tryz.func271.trans (congrArg some (by kernel_rfl))
 f36:=⟨Tryz.f269.name,by decide,Tryz.func269.trans (congrArg some (by kernel_rfl))⟩
 f37:=⟨Tryz.f272.name,by decide,Tryz.func272.trans (congrArg some (by kernel_rfl))⟩
 f38:=⟨Tryz.f273.name,by decide,Tryz.func273.trans (congrArg some (by kernel_rfl))⟩
 f39:=⟨Tryz.f178.name,by decide,Tryz.func178.trans (congrArg some (by kernel_rfl))⟩
 f41:=⟨Tryz.f287.name,by decide,Tryz.func287.trans (congrArg some (by kernel_rfl))⟩
 t0:=Tryz.underlying0
 a0:=Tryz.isAgg0
 z0:=Tryz.sizeOf0
 v0:=Tryz.zeroValue0
 t3:=Tryz.underlying3
 a3:=Tryz.isAgg3
 z3:=Tryz.sizeOf3
 v3:=Tryz.zeroValue3
 t4:=Tryz.underlying4
 a4:=Tryz.isAgg4
 z4:=Tryz.sizeOf4
 v4:=Tryz.zeroValue4
 t5:=Tryz.underlying5
 a5:=Tryz.isAgg5
 z5:=Tryz.sizeOf5
 v5:=Tryz.zeroValue5
 t9:=Tryz.underlying9
 a9:=Tryz.isAgg9
 z9:=Tryz.sizeOf9
 v9:=Tryz.zeroValue9
 t26:=Tryz.underlying160
 a26:=Tryz.isAgg160
 z26:=Tryz.sizeOf160
 v26:=Tryz.zeroValue160
 t27:=Tryz.underlying160
 a27:=Tryz.isAgg160
 z27:=Tryz.sizeOf160
 v27:=Tryz.zeroValue160
 t29:=Tryz.underlying9
 a29:=Tryz.isAgg9
 z29:=Tryz.sizeOf9
 v29:=Tryz.zeroValue9
 t32:=Tryz.underlying207
 a32:=Tryz.isAgg207
 z32:=Tryz.sizeOf207
 v32:=Tryz.zeroValue207
 t35:=Tryz.underlying455
 a35:=Tryz.isAgg455
 z35:=Tryz.sizeOf455
 v35:=Tryz.zeroValue455
 t36:=Tryz.underlying456
 a36:=Tryz.isAgg456
 z36:=Tryz.sizeOf456
 v36:=Tryz.zeroValue456
 t41:=Tryz.underlying398
 a41:=Tryz.isAgg398
 z41:=Tryz.sizeOf398
 v41:=Tryz.zeroValue398
 t44:=Tryz.underlying22
 a44:=Tryz.isAgg22
 z44:=Tryz.sizeOf22
 v44:=Tryz.zeroValue22
 t46:=Tryz.underlying103
 a46:=Tryz.isAgg103
 z46:=Tryz.sizeOf103
 v46:=Tryz.zeroValue103
 t53:=Tryz.underlying483
 a53:=Tryz.isAgg483
 z53:=Tryz.sizeOf483
 v53:=Tryz.zeroValue483
 t57:=Tryz.underlying486
 a57:=Tryz.isAgg486
 z57:=Tryz.sizeOf486
 v57:=Tryz.zeroValue486
 t63:=Tryz.underlying501
 a63:=Tryz.isAgg501
 z63:=Tryz.sizeOf501
 v63:=Tryz.zeroValue501
 t64:=Tryz.underlying267
 a64:=Tryz.isAgg267
 z64:=Tryz.sizeOf267
 v64:=Tryz.zeroValue267 }
def Tryz.sort192_ren:Go.Shelf.Ren:=⟨fun | 6=>192 | 15=>218 | 14=>220 | 28=>247 | 29=>215 | 20=>248 | 21=>249 | 22=>250 | 23=>251 | 24=>252 | 25=>253 | 26=>254 | 27=>255 | 46=>274 | 47=>270 | 48=>271 | 49=>275 | 50=>276 | 57=>288 | n=>n,fun | 22=>316 | 24=>314 | 25=>315 | 3=>3 | 39=>207 | 0=>0 | 53=>22 | 55=>103 | 4=>4 | 46=>456 | 45=>455 | 50=>398 | 5=>5 | 9=>9 | 66=>483 | 70=>486 | 76=>501 | 77=>267 | n=>n,fun | n=>n⟩
theorem Tryz.sort192:Go.Proofs.SlLaysF0.n6 Tryz.prog Tryz.sort192_ren:={
 mixed:=by kernel_rfl
 f6:=⟨Tryz.f192.name,by decide,Tryz.func192.trans (congrArg some (by kernel_rfl))⟩
 f14:=⟨Tryz.f220.name,by decide,Tryz.func220.trans (congrArg some (by kernel_rfl))⟩
 f15:=Tryz.func218.trans (congrArg some (by kernel_rfl))
 f20:=⟨Tryz.f248.name,by decide,Tryz.func248.trans (congrArg some (by kernel_rfl))⟩
 f21:=⟨Tryz.f249.name,by decide,Tryz.func249.trans (congrArg some (by kernel_rfl))⟩
 f22:=⟨Tryz.f250.name,by decide,Tryz.func250.trans (congrArg some (by kernel_rfl))⟩
 f23:=⟨Tryz.f251.name,by decide,Tryz.func251.trans (congrArg some (by kernel_rfl))⟩
 f24:=⟨Tryz.f252.name,by decide,Tryz.func252.trans (congrArg some (by kernel_rfl))⟩
 f25:=⟨Tryz.f253.name,by decide,Tryz.func253.trans (congrArg some (by kernel_rfl))⟩
 f26:=⟨Tryz.f254.name,by decide,Tryz.func254.trans (congrArg some (by kernel_rfl))⟩
 f27:=⟨Tryz.f255.name,by decide,Tryz.func255.trans (congrArg some (by kernel_rfl))⟩
 f28:=Tryz.func247.trans (congrArg some (by kernel_rfl))
 f29:=Tryz.func215.trans (congrArg some (by kernel_rfl))
 f46:=⟨Tryz.f274.name,by decide,Tryz.func274.trans (congrArg some (by kernel_rfl))⟩
 f47:=Tryz.func270.trans (congrArg some (by kernel_rfl))
 f48:=Tryz.func271.trans (congrArg some (by kernel_rfl))
 f49:=⟨Tryz.f275.name,by decide,Tryz.func275.trans (congrArg some (by kernel_rfl))⟩
 f50:=⟨Tryz.f276.name,by decide,Tryz.func276.trans (congrArg some (by kernel_rfl))⟩
 f57:=⟨Tryz.f288.name,by decide,Tryz.func288.trans (congrArg some (by kernel_rfl))⟩
 t0:=Tryz.underlying0
 a0:=Tryz.isAgg0
 z0:=Tryz.sizeOf0
 v0:=Tryz.zeroValue0
 t3:=Tryz.underlying3
 a3:=Tryz.isAgg3
 z3:=Tryz.sizeOf3
 v3:=Tryz.zeroValue3
 t4:=Tryz.underlying4
 a4:=Tryz.isAgg4
 z4:=Tryz.sizeOf4
 v4:=Tryz.zeroValue4
 t5:=Tryz.underlying5
 a5:=Tryz.isAgg5
 z5:=Tryz.sizeOf5
 v5:=Tryz.zeroValue5
 t9:=Tryz.underlying9
 a9:=Tryz.isAgg9
 z9:=Tryz.sizeOf9
 v9:=Tryz.zeroValue9
 t22:=Tryz.underlying316
 a22:=Tryz.isAgg316
 z22:=Tryz.sizeOf316
 v22:=Tryz.zeroValue316
 t25:=Tryz.underlying315
 a25:=Tryz.isAgg315
 z25:=Tryz.sizeOf315
 v25:=Tryz.zeroValue315
 t39:=Tryz.underlying207
 a39:=Tryz.isAgg207
 z39:=Tryz.sizeOf207
 v39:=Tryz.zeroValue207
 t45:=Tryz.underlying455
 a45:=Tryz.isAgg455
 z45:=Tryz.sizeOf455
 v45:=Tryz.zeroValue455
 t46:=Tryz.underlying456
 a46:=Tryz.isAgg456
 z46:=Tryz.sizeOf456
 v46:=Tryz.zeroValue456
 t50:=Tryz.underlying398
 a50:=Tryz.isAgg398
 z50:=Tryz.sizeOf398
 v50:=Tryz.zeroValue398
 t53:=Tryz.underlying22
 a53:=Tryz.isAgg22
 z53:=Tryz.sizeOf22
 v53:=Tryz.zeroValue22
 t55:=Tryz.underlying103
 a55:=Tryz.isAgg103
 z55:=Tryz.sizeOf103
 v55:=Tryz.zeroValue103
 t66:=Tryz.underlying483
 a66:=Tryz.isAgg483
 z66:=Tryz.sizeOf483
 v66:=Tryz.zeroValue483
 t70:=Tryz.underlying486
 a70:=Tryz.isAgg486
 z70:=Tryz.sizeOf486
 v70:=Tryz.zeroValue486
 t76:=Tryz.underlying501
 a76:=Tryz.isAgg501
 z76:=Tryz.sizeOf501
 v76:=Tryz.zeroValue501
 t77:=Tryz.underlying267
 a77:=Tryz.isAgg267
 z77:=Tryz.sizeOf267
 v77:=Tryz.zeroValue267 }
theorem Tryz.bits_LeadingZeros64 (x:Int) (w:World) (h0:0≤x) (h1:x≤18446744073709551615) :
  Calls Tryz.prog 185 #[.int .u64 x] w fun e w'=>e=.returned (.int .i64 (64-(Lib.bitLen x.toNat:Int)))∧w'=w:=Any.bits_LeadingZeros64 Tryz.lays134 x w h0 h1
end Go.Proofs
namespace Go.Proofs
open Go.RowKit Go.Maps Go.Sort Go.Shelf
theorem Tryz.sorts151 (m:Nat):AnyZ.SortsIn Tryz.prog Tryz.sorted151_ren Fence.wide m :=
 ⟨fun blk off cap ss W hH hblk hsz=>callsIn_wide.2 (AnyM.slices_Sort_string Tryz.sort189 blk off cap ss W hH hblk hsz),
  fun p cap W=>callsIn_wide.2 (AnyM.slices_Sort_string_none Tryz.sort189 p cap W)⟩
theorem Tryz.maps_Keys_152 (mb:Option Nat) (W:World):CallsIn Fence.wide 5 Tryz.prog 152 #[.map mb] W fun e w'=>e=.returned (.func (.func 190) #[] #[.pointer (some ⟨W.heap.size,0,none⟩)])∧w'=W.alloc (.cells #[.map mb] 307) :=
 AnyZ.keys_in Tryz.keys152 Fence.wide 5 trivial rfl mb W
set_option maxHeartbeats 1000000 in
theorem Tryz.slices_Sorted_keys_151_152 {H:Type}(b nn:Nat) (D0:DataW H) (R:Value→Option (DataW H×List MemPlace)) (w:World) (hown:w.ownsMap Tryz.prog 9 R b nn D0) (hmax:Maps.size D0≤maxLen) (hbytes:Maps.size D0 * 16≤140737488355328) :
  CallsIn Fence.wide 5 Tryz.prog 151 #[.func (.func 190) #[] #[.pointer (some ⟨w.heap.size,0,none⟩)]] (w.alloc (.cells #[.map (some b)] 307)) fun e w'=>∃(v:Value) (ss:List (List UInt8)),e=.returned v∧ss.Perm (strKeys D0)∧
   w'.ownsRow (w.alloc (.cells #[.map (some b)] 307)).heap.size 9 1 v ss.length ((ss.mergeSort (fun x y=>decide (x≤y))).map encStr)∧(v=.slice none 0 0↔ss=[])∧Below (w.alloc (.cells #[.map (some b)] 307)).heap.size (w.alloc (.cells #[.map (some b)] 307)) w':=by
 have hbl:=hown.lt
 have hseq:SeqGives Fence.wide 2 Tryz.prog 190 #[.pointer (some ⟨w.heap.size,0,none⟩)] encStr (fun ss=>ss.Perm (strKeys D0)) (Maps.size D0) (w.alloc (.cells #[.map (some b)] 307)) :=
  AnyZ.keys_gives (ρ:=Tryz.keys152_ren) { Tryz.keys152 with } Fence.wide _ trivial rfl (by omega) w.heap.size b nn D0 _ (by simp) (by simp) (by
   obtain⟨es,clock,hb,Ft,hs,hD⟩:=hown
   exact⟨es,clock,(Below.heap_alloc _ _ b hbl).trans hb,Ft,hs,hD⟩)
 exact AnyZ.sorted_in Tryz.sorted151 Fence.wide 5 trivial trivial trivial trivial rfl (by omega) (Tryz.sorts151 _) (enters_of Tryz.func189 (by kernel_rfl) rfl) 190 #[.pointer (some ⟨w.heap.size,0,none⟩)] trivial (enters_of Tryz.func190 (by kernel_rfl) rfl) _ _ hmax hbytes _ hseq
end Go.Proofs
