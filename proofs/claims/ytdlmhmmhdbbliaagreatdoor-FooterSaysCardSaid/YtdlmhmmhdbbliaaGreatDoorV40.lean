/- Parts of the proof. -/
import Derived.Shelf.Lay
import Derived.Shelf.Strconv.Atoi
import Derived.Shelf.Strconv.ParseIntPublic10
import Derived.Shelf.Strings.SlTrimAscii
import Derived.Shelf.Small.Wraps
import Derived.Test.YtdlmhmmhdbbliaaGreatDoorV06
import Derived.Test.YtdlmhmmhdbbliaaGreatDoorV39
import Derived.Test.YtdlmhmmhdbbliaaGreatDoorV18
set_option maxHeartbeats 4000000
set_option linter.unusedVariables false
set_option linter.unusedSimpArgs false
namespace Go.Proofs.YtdlmhmmhdbbliaaGreatDoor
open Go.Shelf Go.RowKit Go.Lib
def Zsv:Ren where
 f:=fun|161=>122|231=>108|227=>110|233=>111|235=>113|228=>157|197=>158|151=>116|260=>196|152=>161|137=>198|119=>199|224=>200|225=>201|217=>224|266=>236|n=>n
 t:=fun|9=>9|4=>4|3=>3|5=>5|117=>199|116=>198|0=>0|124=>202|105=>246|21=>21|119=>283|46=>255|139=>307|138=>306|n=>n
 g:=fun|3=>7|4=>8|n=>n
theorem ZBi:Lays.n161 Tryz.prog Zsv where
 mixed:=by kernel_rfl
 f119:=Tryz.func199.trans (congrArg some (by kernel_rfl))
 f137:=Tryz.func198.trans (congrArg some (by kernel_rfl))
 f151:=Tryz.func116.trans (congrArg some (by kernel_rfl))
 f152:=Tryz.func161.trans (congrArg some (by kernel_rfl))
 f161:=Tryz.func122.trans (congrArg some (by kernel_rfl))
 f197:=Tryz.func158.trans (congrArg some (by kernel_rfl))
 f217:=Tryz.func224.trans (congrArg some (by kernel_rfl))
 f224:=Tryz.func200.trans (congrArg some (by kernel_rfl))
 f225:=Tryz.func201.trans (congrArg some (by kernel_rfl))
 f227:=Tryz.func110.trans (congrArg some (by kernel_rfl))
 f228:=Tryz.func157.trans (congrArg some (by kernel_rfl))
 f231:=Tryz.func108.trans (congrArg some (by kernel_rfl))
 f233:=Tryz.func111.trans (congrArg some (by kernel_rfl))
 f235:=Tryz.func113.trans (congrArg some (by kernel_rfl))
 f260:=Tryz.func196.trans (congrArg some (by kernel_rfl))
 f266:=Tryz.func236.trans (congrArg some (by kernel_rfl))
 t0:=Tryz.underlying0
 a0:=Tryz.isAgg0
 z0:=Tryz.sizeOf0
 v0:=Tryz.zeroValue0
 t3:=Tryz.underlying3
 a3:=Tryz.isAgg3
 z3:=Tryz.sizeOf3
 v3:=Tryz.zeroValue3
 t4:=Tryz.underlying4
 a4:=Tryz.isAgg4
 z4:=Tryz.sizeOf4
 v4:=Tryz.zeroValue4
 t5:=Tryz.underlying5
 a5:=Tryz.isAgg5
 z5:=Tryz.sizeOf5
 v5:=Tryz.zeroValue5
 t9:=Tryz.underlying9
 a9:=Tryz.isAgg9
 z9:=Tryz.sizeOf9
 v9:=Tryz.zeroValue9
 t21:=Tryz.underlying21
 a21:=Tryz.isAgg21
 z21:=Tryz.sizeOf21
 v21:=Tryz.zeroValue21
 t46:=Tryz.underlying255
 a46:=Tryz.isAgg255
 z46:=Tryz.sizeOf255
 v46:=Tryz.zeroValue255
 t105:=Tryz.underlying246
 a105:=Tryz.isAgg246
 z105:=Tryz.sizeOf246
 v105:=Tryz.zeroValue246
 t116:=Tryz.underlying198
 a116:=Tryz.isAgg198
 z116:=Tryz.sizeOf198
 t117:=Tryz.underlying199
 a117:=Tryz.isAgg199
 z117:=Tryz.sizeOf199
 v117:=Tryz.zeroValue199
 t119:=Tryz.underlying283
 a119:=Tryz.isAgg283
 z119:=Tryz.sizeOf283
 t124:=Tryz.underlying202
 a124:=Tryz.isAgg202
 z124:=Tryz.sizeOf202
 v124:=Tryz.zeroValue202
 t138:=Tryz.underlying306
 a138:=Tryz.isAgg306
 z138:=Tryz.sizeOf306
 v138:=Tryz.zeroValue306
 t139:=Tryz.underlying307
 a139:=Tryz.isAgg307
 z139:=Tryz.sizeOf307
 v139:=Tryz.zeroValue307
 g3:=by kernel_rfl
 g4:=by kernel_rfl
def Zud:Ren where
 f:=fun|103=>121|210=>164|206=>83|n=>n
 t:=fun|9=>9|4=>4|24=>206|3=>3|n=>n
 g:=fun n=>n
theorem ZBy:Lays.n103 Tryz.prog Zud where
 mixed:=by kernel_rfl
 f103:=Tryz.func121.trans (congrArg some (by kernel_rfl))
 f206:=Tryz.func83.trans (congrArg some (by kernel_rfl))
 f210:=Tryz.func164.trans (congrArg some (by kernel_rfl))
 t3:=Tryz.underlying3
 a3:=Tryz.isAgg3
 z3:=Tryz.sizeOf3
 v3:=Tryz.zeroValue3
 t4:=Tryz.underlying4
 a4:=Tryz.isAgg4
 z4:=Tryz.sizeOf4
 v4:=Tryz.zeroValue4
 t9:=Tryz.underlying9
 a9:=Tryz.isAgg9
 z9:=Tryz.sizeOf9
 v9:=Tryz.zeroValue9
 t24:=Tryz.underlying206
 a24:=Tryz.isAgg206
 z24:=Tryz.sizeOf206
 v24:=Tryz.zeroValue206
def Zur:Ren where
 f:=fun|172=>125|244=>167|245=>166|247=>165|279=>203|280=>204|281=>205|282=>206|287=>202|316=>227|171=>16|205=>228|321=>225|322=>226|243=>51|246=>86|283=>126|284=>127|285=>128|286=>129|129=>169|317=>168|318=>170|319=>171|320=>172|337=>207|338=>208|n=>n
 t:=fun|9=>9|3=>3|75=>210|76=>213|4=>4|5=>5|167=>286|37=>24|0=>0|85=>211|2=>2|168=>289|53=>216|175=>287|46=>255|210=>310|127=>318|145=>321|143=>319|21=>21|171=>215|173=>219|212=>253|51=>54|20=>20|213=>254|232=>312|233=>313|80=>119|n=>n
 g:=fun|15=>10|16=>11|17=>5|18=>12|19=>13|n=>n
theorem ZBA:Lays.n172 Tryz.prog Zur where
 mixed:=by kernel_rfl
 f129:=Tryz.func169.trans (congrArg some (by kernel_rfl))
 f171:=Tryz.func16.trans (congrArg some (by kernel_rfl))
 f172:=Tryz.func125.trans (congrArg some (by kernel_rfl))
 f205:=Tryz.func228.trans (congrArg some (by kernel_rfl))
 f243:=Tryz.func51.trans (congrArg some (by kernel_rfl))
 f244:=Tryz.func167.trans (congrArg some (by kernel_rfl))
 f245:=Tryz.func166.trans (congrArg some (by kernel_rfl))
 f246:=Tryz.func86.trans (congrArg some (by kernel_rfl))
 f247:=Tryz.func165.trans (congrArg some (by kernel_rfl))
 f279:=Tryz.func203.trans (congrArg some (by kernel_rfl))
 f280:=Tryz.func204.trans (congrArg some (by kernel_rfl))
 f281:=Tryz.func205.trans (congrArg some (by kernel_rfl))
 f282:=Tryz.func206.trans (congrArg some (by kernel_rfl))
 f283:=Tryz.func126.trans (congrArg some (by kernel_rfl))
 f284:=Tryz.func127.trans (congrArg some (by kernel_rfl))
 f285:=Tryz.func128.trans (congrArg some (by kernel_rfl))
 f286:=Tryz.func129.trans (congrArg some (by kernel_rfl))
 f287:=Tryz.func202.trans (congrArg some (by kernel_rfl))
 f316:=Tryz.func227.trans (congrArg some (by kernel_rfl))
 f317:=Tryz.func168.trans (congrArg some (by kernel_rfl))
 f318:=Tryz.func170.trans (congrArg some (by kernel_rfl))
 f319:=Tryz.func171.trans (congrArg some (by kernel_rfl))
 f320:=Tryz.func172.trans (congrArg some (by kernel_rfl))
 f321:=Tryz.func225.trans (congrArg some (by kernel_rfl))
 f322:=Tryz.func226.trans (congrArg some (by kernel_rfl))
 f337:=Tryz.func207.trans (congrArg some (by kernel_rfl))
 f338:=Tryz.func208.trans (congrArg some (by kernel_rfl))
 t0:=Tryz.underlying0
 a0:=Tryz.isAgg0
 z0:=Tryz.sizeOf0
 v0:=Tryz.zeroValue0
 t2:=Tryz.underlying2
 a2:=Tryz.isAgg2
 z2:=Tryz.sizeOf2
 v2:=Tryz.zeroValue2
 t3:=Tryz.underlying3
 a3:=Tryz.isAgg3
 z3:=Tryz.sizeOf3
 v3:=Tryz.zeroValue3
 t4:=Tryz.underlying4
 a4:=Tryz.isAgg4
 z4:=Tryz.sizeOf4
 v4:=Tryz.zeroValue4
 t5:=Tryz.underlying5
 a5:=Tryz.isAgg5
 z5:=Tryz.sizeOf5
 v5:=Tryz.zeroValue5
 t9:=Tryz.underlying9
 a9:=Tryz.isAgg9
 z9:=Tryz.sizeOf9
 v9:=Tryz.zeroValue9
 t20:=Tryz.underlying20
 a20:=Tryz.isAgg20
 z20:=Tryz.sizeOf20
 v20:=Tryz.zeroValue20
 t21:=Tryz.underlying21
 a21:=Tryz.isAgg21
 z21:=Tryz.sizeOf21
 v21:=Tryz.zeroValue21
 t37:=Tryz.underlying24
 a37:=Tryz.isAgg24
 z37:=Tryz.sizeOf24
 v37:=Tryz.zeroValue24
 t46:=Tryz.underlying255
 a46:=Tryz.isAgg255
 z46:=Tryz.sizeOf255
 v46:=Tryz.zeroValue255
 t51:=Tryz.underlying54
 a51:=Tryz.isAgg54
 z51:=Tryz.sizeOf54
 v51:=Tryz.zeroValue54
 t53:=Tryz.underlying216
 a53:=Tryz.isAgg216
 z53:=Tryz.sizeOf216
 v53:=Tryz.zeroValue216
 t75:=Tryz.underlying210
 a75:=Tryz.isAgg210
 z75:=Tryz.sizeOf210
 v75:=Tryz.zeroValue210
 t76:=Tryz.underlying213
 a76:=Tryz.isAgg213
 z76:=Tryz.sizeOf213
 v76:=Tryz.zeroValue213
 t85:=Tryz.underlying211
 a85:=Tryz.isAgg211
 z85:=Tryz.sizeOf211
 v85:=Tryz.zeroValue211
 t127:=Tryz.underlying318
 a127:=Tryz.isAgg318
 z127:=Tryz.sizeOf318
 v127:=Tryz.zeroValue318
 t143:=Tryz.underlying319
 a143:=Tryz.isAgg319
 z143:=Tryz.sizeOf319
 v143:=Tryz.zeroValue319
 t145:=Tryz.underlying321
 a145:=Tryz.isAgg321
 z145:=Tryz.sizeOf321
 v145:=Tryz.zeroValue321
 t167:=Tryz.underlying286
 a167:=Tryz.isAgg286
 z167:=Tryz.sizeOf286
 v167:=Tryz.zeroValue286
 t168:=Tryz.underlying289
 a168:=Tryz.isAgg289
 z168:=Tryz.sizeOf289
 v168:=Tryz.zeroValue289
 t171:=Tryz.underlying215
 a171:=Tryz.isAgg215
 z171:=Tryz.sizeOf215
 v171:=Tryz.zeroValue215
 t173:=Tryz.underlying219
 a173:=Tryz.isAgg219
 z173:=Tryz.sizeOf219
 v173:=Tryz.zeroValue219
 t175:=Tryz.underlying287
 a175:=Tryz.isAgg287
 z175:=Tryz.sizeOf287
 v175:=Tryz.zeroValue287
 t210:=Tryz.underlying310
 a210:=Tryz.isAgg310
 z210:=Tryz.sizeOf310
 v210:=Tryz.zeroValue310
 t212:=Tryz.underlying253
 a212:=Tryz.isAgg253
 z212:=Tryz.sizeOf253
 v212:=Tryz.zeroValue253
 t213:=Tryz.underlying254
 a213:=Tryz.isAgg254
 z213:=Tryz.sizeOf254
 t232:=Tryz.underlying312
 a232:=Tryz.isAgg312
 z232:=Tryz.sizeOf312
 v232:=Tryz.zeroValue312
 t233:=Tryz.underlying313
 a233:=Tryz.isAgg313
 z233:=Tryz.sizeOf313
 v233:=Tryz.zeroValue313
 g15:=by kernel_rfl
 g16:=by kernel_rfl
 g17:=by kernel_rfl
 g18:=by kernel_rfl
 g19:=by kernel_rfl
def ZsZ:Ren where
 f:=fun|174=>124|247=>165|245=>166|287=>202|279=>203|280=>204|281=>205|282=>206|321=>225|322=>226|316=>227|171=>16|205=>228|243=>51|246=>86|283=>126|284=>127|285=>128|286=>129|129=>169|317=>168|318=>170|319=>171|320=>172|337=>207|338=>208|n=>n
 t:=fun|9=>9|3=>3|2=>2|75=>210|85=>211|4=>4|167=>286|5=>5|53=>216|175=>287|46=>255|168=>289|37=>24|0=>0|210=>310|21=>21|127=>318|145=>321|143=>319|171=>215|173=>219|212=>253|51=>54|20=>20|213=>254|232=>312|233=>313|80=>119|n=>n
 g:=fun|15=>10|16=>11|17=>5|18=>12|19=>13|n=>n
theorem ZBn:LaysC.n174 Tryz.prog ZsZ where
 mixed:=by kernel_rfl
 f129:=Tryz.func169.trans (congrArg some (by kernel_rfl))
 f171:=Tryz.func16.trans (congrArg some (by kernel_rfl))
 f174:=Tryz.func124.trans (congrArg some (by kernel_rfl))
 f205:=Tryz.func228.trans (congrArg some (by kernel_rfl))
 f243:=Tryz.func51.trans (congrArg some (by kernel_rfl))
 f245:=Tryz.func166.trans (congrArg some (by kernel_rfl))
 f246:=Tryz.func86.trans (congrArg some (by kernel_rfl))
 f247:=Tryz.func165.trans (congrArg some (by kernel_rfl))
 f279:=Tryz.func203.trans (congrArg some (by kernel_rfl))
 f280:=Tryz.func204.trans (congrArg some (by kernel_rfl))
 f281:=Tryz.func205.trans (congrArg some (by kernel_rfl))
 f282:=Tryz.func206.trans (congrArg some (by kernel_rfl))
 f283:=Tryz.func126.trans (congrArg some (by kernel_rfl))
 f284:=Tryz.func127.trans (congrArg some (by kernel_rfl))
 f285:=Tryz.func128.trans (congrArg some (by kernel_rfl))
 f286:=Tryz.func129.trans (congrArg some (by kernel_rfl))
 f287:=Tryz.func202.trans (congrArg some (by kernel_rfl))
 f316:=Tryz.func227.trans (congrArg some (by kernel_rfl))
 f317:=Tryz.func168.trans (congrArg some (by kernel_rfl))
 f318:=Tryz.func170.trans (congrArg some (by kernel_rfl))
 f319:=Tryz.func171.trans (congrArg some (by kernel_rfl))
 f320:=Tryz.func172.trans (congrArg some (by kernel_rfl))
 f321:=Tryz.func225.trans (congrArg some (by kernel_rfl))
 f322:=Tryz.func226.trans (congrArg some (by kernel_rfl))
 f337:=Tryz.func207.trans (congrArg some (by kernel_rfl))
 f338:=Tryz.func208.trans (congrArg some (by kernel_rfl))
 t0:=Tryz.underlying0
 a0:=Tryz.isAgg0
 z0:=Tryz.sizeOf0
 v0:=Tryz.zeroValue0
 t2:=Tryz.underlying2
 a2:=Tryz.isAgg2
 z2:=Tryz.sizeOf2
 v2:=Tryz.zeroValue2
 t3:=Tryz.underlying3
 a3:=Tryz.isAgg3
 z3:=Tryz.sizeOf3
 v3:=Tryz.zeroValue3
 t4:=Tryz.underlying4
 a4:=Tryz.isAgg4
 z4:=Tryz.sizeOf4
 v4:=Tryz.zeroValue4
 t5:=Tryz.underlying5
 a5:=Tryz.isAgg5
 z5:=Tryz.sizeOf5
 v5:=Tryz.zeroValue5
 t9:=Tryz.underlying9
 a9:=Tryz.isAgg9
 z9:=Tryz.sizeOf9
 v9:=Tryz.zeroValue9
 t20:=Tryz.underlying20
 a20:=Tryz.isAgg20
 z20:=Tryz.sizeOf20
 v20:=Tryz.zeroValue20
 t21:=Tryz.underlying21
 a21:=Tryz.isAgg21
 z21:=Tryz.sizeOf21
 v21:=Tryz.zeroValue21
 t37:=Tryz.underlying24
 a37:=Tryz.isAgg24
 z37:=Tryz.sizeOf24
 v37:=Tryz.zeroValue24
 t46:=Tryz.underlying255
 a46:=Tryz.isAgg255
 z46:=Tryz.sizeOf255
 v46:=Tryz.zeroValue255
 t51:=Tryz.underlying54
 a51:=Tryz.isAgg54
 z51:=Tryz.sizeOf54
 v51:=Tryz.zeroValue54
 t53:=Tryz.underlying216
 a53:=Tryz.isAgg216
 z53:=Tryz.sizeOf216
 v53:=Tryz.zeroValue216
 t75:=Tryz.underlying210
 a75:=Tryz.isAgg210
 z75:=Tryz.sizeOf210
 v75:=Tryz.zeroValue210
 t85:=Tryz.underlying211
 a85:=Tryz.isAgg211
 z85:=Tryz.sizeOf211
 v85:=Tryz.zeroValue211
 t127:=Tryz.underlying318
 a127:=Tryz.isAgg318
 z127:=Tryz.sizeOf318
 v127:=Tryz.zeroValue318
 t143:=Tryz.underlying319
 a143:=Tryz.isAgg319
 z143:=Tryz.sizeOf319
 v143:=Tryz.zeroValue319
 t145:=Tryz.underlying321
 a145:=Tryz.isAgg321
 z145:=Tryz.sizeOf321
 v145:=Tryz.zeroValue321
 t167:=Tryz.underlying286
 a167:=Tryz.isAgg286
 z167:=Tryz.sizeOf286
 v167:=Tryz.zeroValue286
 t168:=Tryz.underlying289
 a168:=Tryz.isAgg289
 z168:=Tryz.sizeOf289
 v168:=Tryz.zeroValue289
 t171:=Tryz.underlying215
 a171:=Tryz.isAgg215
 z171:=Tryz.sizeOf215
 v171:=Tryz.zeroValue215
 t173:=Tryz.underlying219
 a173:=Tryz.isAgg219
 z173:=Tryz.sizeOf219
 v173:=Tryz.zeroValue219
 t175:=Tryz.underlying287
 a175:=Tryz.isAgg287
 z175:=Tryz.sizeOf287
 v175:=Tryz.zeroValue287
 t210:=Tryz.underlying310
 a210:=Tryz.isAgg310
 z210:=Tryz.sizeOf310
 v210:=Tryz.zeroValue310
 t212:=Tryz.underlying253
 a212:=Tryz.isAgg253
 z212:=Tryz.sizeOf253
 v212:=Tryz.zeroValue253
 t213:=Tryz.underlying254
 a213:=Tryz.isAgg254
 z213:=Tryz.sizeOf254
 t232:=Tryz.underlying312
 a232:=Tryz.isAgg312
 z232:=Tryz.sizeOf312
 v232:=Tryz.zeroValue312
 t233:=Tryz.underlying313
 a233:=Tryz.isAgg313
 z233:=Tryz.sizeOf313
 v233:=Tryz.zeroValue313
 t80:=Tryz.underlying119
 a80:=Tryz.isAgg119
 z80:=Tryz.sizeOf119
 v80:=Tryz.zeroValue119
 g15:=by kernel_rfl
 g16:=by kernel_rfl
 g17:=by kernel_rfl
 g18:=by kernel_rfl
 g19:=by kernel_rfl
 i0:=by kernel_rfl
 i2:=by kernel_rfl
 i3:=by kernel_rfl
 i4:=by kernel_rfl
 i5:=by kernel_rfl
 i9:=by kernel_rfl
 i20:=by kernel_rfl
 i21:=by kernel_rfl
 i37:=by kernel_rfl
 i46:=by kernel_rfl
 i51:=by kernel_rfl
 i53:=by kernel_rfl
 i75:=by kernel_rfl
 i80:=by kernel_rfl
 i85:=by kernel_rfl
 i127:=by kernel_rfl
 i143:=by kernel_rfl
 i145:=by kernel_rfl
 i167:=by kernel_rfl
 i168:=by kernel_rfl
 i171:=by kernel_rfl
 i173:=by kernel_rfl
 i175:=by kernel_rfl
 i210:=by kernel_rfl
 i212:=by kernel_rfl
 i232:=by kernel_rfl
 i233:=by kernel_rfl
 m15:=by kernel_rfl
 m16:=by kernel_rfl
 m17:=by kernel_rfl
 m18:=by kernel_rfl
 m19:=by kernel_rfl
 c0:=by kernel_rfl
 c2:=by kernel_rfl
 c3:=by kernel_rfl
 c4:=by kernel_rfl
 c5:=by kernel_rfl
 c9:=by kernel_rfl
 c20:=by kernel_rfl
 c21:=by kernel_rfl
 c37:=by kernel_rfl
 c46:=by kernel_rfl
 c51:=by kernel_rfl
 c53:=by kernel_rfl
 c75:=by kernel_rfl
 c80:=by kernel_rfl
 c85:=by kernel_rfl
 c127:=by kernel_rfl
 c143:=by kernel_rfl
 c145:=by kernel_rfl
 c167:=by kernel_rfl
 c168:=by kernel_rfl
 c171:=by kernel_rfl
 c173:=by kernel_rfl
 c175:=by kernel_rfl
 c210:=by kernel_rfl
 c212:=by kernel_rfl
 c213:=by kernel_rfl
 c232:=by kernel_rfl
 c233:=by kernel_rfl
end Go.Proofs.YtdlmhmmhdbbliaaGreatDoor
set_option pp.deepTerms true
set_option pp.maxSteps 1000000
namespace Go.Wk
open Go Go.RowKit
section
variable {P:Program}{n:Nat}{wr:World}{fr:Fr}{O:List It}{ty:TypeId}
theorem Zpc {t:TypeId}{x z:Operand}{l m:List UInt8}{k':IntKind}{j:Int}[hS:StringT P t](hx:ev fr x=some (.string (bsL l)))(hz:ev fr z=some (.int k' j))(h1:0<=j)(h2:j<=l.length)(hl:l.take j.toNat=m):Pu P n wr fr O (.slice t x none (some z) none) ty (.string (bsL m)):=by
 have:=Zhs (P:=P) (n:=n) (wr:=wr) (O:=O) (ty:=ty) (t:=t) hx hz h1 (by rw[ZbM];exact h2)
 have e:(bsL l).extract 0 j.toNat=bsL m:=by
  apply ByteArray.ext
  rw[ByteArray.data_extract,<- hl]
  apply Array.ext'
  simp[bsL]
 rwa[e]at this
theorem ZlE {t:TypeId}{x y:Operand}{l m:List UInt8}{k:IntKind}{i:Int}[hS:StringT P t](hx:ev fr x=some (.string (bsL l)))(hy:ev fr y=some (.int k i))(h0:0<=i)(h1:i<=l.length)(hl:l.drop i.toNat=m):Pu P n wr fr O (.slice t x (some y) none none) ty (.string (bsL m)):=by
 have hs:=ZbM l
 have:=ZkN (P:=P) (n:=n) (wr:=wr) (O:=O) (ty:=ty) (t:=t) hx hy h0 (by rw[hs];exact h1)
 have e:(bsL l).extract i.toNat (bsL l).size=bsL m:=by
  apply ByteArray.ext
  rw[ByteArray.data_extract,<- hl]
  apply Array.ext'
  rw[hs]
  simp only[Array.toList_extract,bsL,List.toList_toArray]
  rw[List.extract_eq_take_drop,List.take_of_length_le (by rw[List.length_drop];omega)]
 rwa[e]at this
theorem Zeq {t:TypeId}{x:Operand}{l:List UInt8}{k:Int}[hS:StringT P t](hx:ev fr x=some (.string (bsL l)))(hk:(l.length:Int)=k):Pu P n wr fr O (.call ⟨.builtin .len,#[x],#[t]⟩) ty (.int .i64 k):=by
 have:=Pu_lenS (P:=P) (n:=n) (wr:=wr) (O:=O) (ty:=ty) (t:=t) hx
 rw[ZbM,hk]at this
 exact this
end
end Go.Wk
namespace Go.Proofs.YtdlmhmmhdbbliaaGreatDoor
open Go Go.RowKit Go.Wk Go.Lib
attribute [local irreducible] W RL Does Zau Zak retQ Calls Pu Stp RD Qy Ay Zaj
abbrev rdI (b:Nat)(l:List UInt8):It := .blk b [.string (bsL l),.bool false] 118
theorem ZyQ (l cs:List UInt8)(f:UInt8->Bool)(hf:∀ x,cs.contains x=f x)(hc:cs.all (fun b=>decide (b.toNat<128))=true)(hn:cs.length<=1000)(w:World):Does Tryz.prog 122 [.string (bsL l),.string (bsL cs)] w (fun v O=>v = .string (bsL (l.dropWhile f))/\O=[]):=by
 have:=ZbF (Any.strings_TrimLeft_laid ZBi (by kernel_rfl) (bsL l) (bsL cs) w (by rw[ZbM];omega) (ascii_of_all hc))
 rw[ZgF,ZgF]at this
 unfold trimLeftS at this
 rw[show(fun x=>cs.contains x)=f from funext hf]at this
 exact this
theorem Zuc (l:List UInt8)(c:UInt8)(w:World):Does Tryz.prog 121 [.string (bsL l),.string (bsL [c])] w (fun v O=>v = .tuple #[.string (bsL (trimPrefix l [c])),.bool (hasPrefix l [c])]/\O=[]) :=
 ZbF ((Any.strings_CutPrefix ZBy (bsL l) (bsL [c]) w).mono fun e w' ⟨he,hw⟩=>⟨he,hw▸Below.refl _ _⟩)
theorem ZsW (c:UInt8)(r:List UInt8):trimPrefix (c::r) [c]=r/\hasPrefix (c::r) [c]=true:=by
 unfold trimPrefix hasPrefix
 simp
theorem Zxs {c:UInt8}{l:List UInt8}(h:hdNo (fun b=>decide (b=c)) l):trimPrefix l [c]=l/\hasPrefix l [c]=false:=by
 unfold trimPrefix hasPrefix
 cases l with
 | nil=>simp
 | cons a l =>
  have:¬ a=c:=by simpa using h a rfl
  have h2:¬ c=a:=fun hh=>this hh.symm
  simp[List.isPrefixOf,h2]
theorem ZyN (f:UInt8->Bool)(l:List UInt8):l.take (l.length - (l.dropWhile f).length)=l.takeWhile f/\(l.dropWhile f).length<=l.length:=by
 have h:=List.takeWhile_append_dropWhile (p:=f) (l:=l)
 have hl:=congrArg List.length h
 rw[List.length_append]at hl
 refine⟨?_,by omega⟩
 rw[show l.length - (List.dropWhile f l).length=(List.takeWhile f l).length by omega]
 exact(List.prefix_iff_eq_take.1 (List.takeWhile_prefix f)).symm
theorem Zvi {G:Prop}(h:G:=by(first|(apply Pu_nilCheck;rfl)|(apply Zeq;rfl;rfl)|(apply Zpc;rfl;rfl;omega;omega;exact t3))):G:=h
theorem ZxR {G:Prop}(h:G:=by first|(apply Qy_y;rfl;exact Zvi)|exact QyA):G:=h
theorem Zx3 {G:Prop}(h:G:=by repeat (first|exact QF.nil|(apply QF.mk;rfl;rfl;decide +kernel;exact ZxR))):G:=h
set_option maxHeartbeats 4000000 in
theorem Ze9 (b:Nat)(l cs:List UInt8)(f:UInt8->Bool)(hf:∀ x,cs.contains x=f x)(hc:cs.all (fun b=>decide (b.toNat<128))=true)(hn:cs.length<=1000)(hl:l.length<=1000)(R:List It)(wr:World) :
  Zaj Tryz.prog 81 [.pointer (some ⟨b,0,none⟩),.string (bsL cs)] wr (rdI b l::R) (fun v O=>v = .string (bsL (l.takeWhile f))/\O=rdI b (l.dropWhile f)::R):=by
 have c1:=fun w'=>ZyQ l cs f hf hc hn w'
 obtain⟨t1,t2⟩:=ZyN f l
 generalize hd:l.dropWhile f=d at *
 generalize l.takeWhile f=t at *
 have t3:l.take (((l.length:Int) - d.length).toNat)=t:=by rw[show((l.length:Int) - d.length).toNat=l.length - d.length by omega,t1]
 refine ZaG Tryz.func81 rfl rfl rfl rfl ?_
 repeat (first|(apply RL_pu;rfl;exact Zvi)|(apply RD_Q;rfl;rfl;decide +kernel;rfl;rfl;exact ZxR)|refine walk1 ?_|(refine jg ?_;(try intro F);(first|(refine Zac (fun w' _=>c1 w') ?_)|(refine stA ?_));first|refine⟨_,EndsA,Zx3,?_⟩|refine fin ?_)|(refine jn ?_;(try intro F);(first|(refine stA ?_)|(apply Zae;first|exact Zvi|exact PuA));first|refine⟨_,EndsA,Zx3,?_⟩|refine fin ?_))
 exact ret_1 _ _ (.tmp rfl) STA ⟨rfl,rfl⟩
theorem Zvh {G:Prop}(h:G:=by(apply Pu_nilCheck;rfl)):G:=h
theorem ZdO (b:Nat)(c:UInt8)(r:List UInt8)(R:List It)(wr:World) :
  Zaj Tryz.prog 80 [.pointer (some ⟨b,0,none⟩),.string (bsL [c])] wr (rdI b (c::r)::R) (fun v O=>v = .bool true/\O=rdI b r::R):=by
 have c1:=fun w'=>Zuc (c::r) c w'
 rw[(ZsW c r).1,(ZsW c r).2]at c1
 generalize c::r=l at *
 refine ZaG Tryz.func80 rfl rfl rfl rfl ?_
 repeat (first|(apply RL_pu;rfl;exact Zvh)|(refine js ?_;(refine Zac (fun w' _=>c1 w') ?_))|refine walk1 ?_)
 exact ret_1 _ _ (.tmp rfl) STA ⟨rfl,rfl⟩
theorem ZdP (b:Nat)(c:UInt8)(l:List UInt8)(h:hdNo (fun b=>decide (b=c)) l)(R:List It)(wr:World) :
  Zaj Tryz.prog 80 [.pointer (some ⟨b,0,none⟩),.string (bsL [c])] wr (rdI b l::R) (fun v O=>v = .bool false/\O=rdI b l::R):=by
 have c1:=fun w'=>Zuc l c w'
 rw[(Zxs h).1,(Zxs h).2]at c1
 refine ZaG Tryz.func80 rfl rfl rfl rfl ?_
 repeat (first|(apply RL_pu;rfl;exact Zvh)|(refine js ?_;(refine Zac (fun w' _=>c1 w') ?_))|refine walk1 ?_)
 exact ret_1 _ _ (.tmp rfl) STA ⟨rfl,rfl⟩
theorem Zc3 (b:Nat)(c:UInt8)(r:List UInt8)(R:List It)(wr:World) :
  Zaj Tryz.prog 46 [.pointer (some ⟨b,0,none⟩),.string (bsL [c])] wr (rdI b (c::r)::R) (fun v O=>v = .tuple #[]/\O=rdI b r::R):=by
 generalize hl:c::r=l
 have c1:=fun R2 wr2=>ZdO b c r R2 wr2
 rw[hl]at c1
 refine ZaG Tryz.func46 rfl rfl rfl rfl ?_
 repeat (first|(apply RL_pu;rfl;exact Zvh)|(refine js ?_;(apply Zam (h:=c1 _ wr);rfl;exact .cons (by repeat' constructor) (.refl _);rintro v O' ⟨rfl,rfl⟩))|refine walk1 ?_)
 exact Zwf _ STA ⟨rfl,rfl⟩
def Zwy:List UInt8:=ZcT++ZbY++[43,45]
theorem Zf0 (b:Nat)(n R':List UInt8)(hn:namL n=true)(hR:hdNo letC R')(hl:R'.length<=500)(R:List It)(wr:World) :
  Zaj Tryz.prog 43 [.pointer (some ⟨b,0,none⟩)] wr (rdI b (quL n++R')::R) (fun v O=>v = .string (bsL n)/\O=rdI b R'::R):=by
 have hq:=ZfW hn
 rcases ZsQ hn hR with⟨_,e,a1,a2⟩|⟨_,e,a0,a1,a2⟩
 ·have c1:=fun R2 wr2=>ZdO b 60 (n++62::R') R2 wr2
  have c2:=fun R2 wr2=>Ze9 b (n++62::R') Zwy Zb9 ZpM (by decide) (by decide) (by rw[List.length_append,List.length_cons];omega) R2 wr2
  have c3:=fun R2 wr2=>Zc3 b 62 R' R2 wr2
  rw[a1,a2]at c2
  rw[<- e]at c1
  clear e
  generalize quL n++R'=l1 at *
  generalize n++62::R'=l2 at *
  generalize (62:UInt8)::R'=l3 at *
  refine ZaG Tryz.func43 rfl rfl rfl rfl ?_
  repeat (first|(refine js ?_;(first|(apply Zam (h:=c1 _ wr);rfl;exact .cons (by repeat' constructor) (.refl _);rintro v O' ⟨rfl,rfl⟩)|(apply Zam (h:=c2 _ wr);rfl;exact .cons (by repeat' constructor) (.refl _);rintro v O' ⟨rfl,rfl⟩)|(apply Zam (h:=c3 _ wr);rfl;exact .cons (by repeat' constructor) (.refl _);rintro v O' ⟨rfl,rfl⟩)))|refine walk ?_)
  exact ret_1 _ _ (.tmp rfl) STA ⟨rfl,rfl⟩
 ·have c1:=fun R2 wr2=>ZdP b 60 (n++R') a0 R2 wr2
  have c2:=fun R2 wr2=>Ze9 b (n++R') ZcT letC ZyV (by decide) (by decide) (by rw[List.length_append];omega) R2 wr2
  rw[a1,a2]at c2
  rw[e]
  clear e a0 a1 a2
  generalize n++R'=l1 at *
  refine ZaG Tryz.func43 rfl rfl rfl rfl ?_
  repeat (first|(refine js ?_;(first|(apply Zam (h:=c1 _ wr);rfl;exact .cons (by repeat' constructor) (.refl _);rintro v O' ⟨rfl,rfl⟩)|(apply Zam (h:=c2 _ wr);rfl;exact .cons (by repeat' constructor) (.refl _);rintro v O' ⟨rfl,rfl⟩)))|refine walk ?_)
  exact ret_1 _ _ (.tmp rfl) STA ⟨rfl,rfl⟩
attribute [local irreducible] RW
theorem Zyt {G:Prop}(h:G:=by(first|(apply Zeq;rfl;exact hll)|(apply ZcH;rfl;rfl;omega;(rw[ZbM];omega);exact hc0)|(apply ZaS;rfl;rfl;first|exact b1|exact b2)|(apply Zcr;rfl;rfl;exact b3)|(apply Zcg;rfl;rfl;exact b4))):G:=h
theorem Zys {G:Prop}(h:G:=by(first|exact Zyt|(apply Zpc;rfl;rfl;omega;omega;exact htk)|(apply ZlE;rfl;rfl;omega;omega;exact hdr))):G:=h
theorem Zyr {G:Prop}(h:G:=by(first|(apply Zeq;rfl;exact hll)|(apply ZaS;rfl;rfl;first|exact b1|exact b2)|(apply Zcr;rfl;rfl;exact b3)|(apply Zcg;rfl;rfl;exact b4)|(apply Zpc;rfl;rfl;omega;omega;exact htk)|(apply ZlE;rfl;rfl;omega;omega;exact hdr))):G:=h
theorem Zgy (b n:Nat)(A T:List UInt8)(hA:A.all digC=true)(hn:A.length<=n)(hn2:n<=10)(hT:A.length=n\/hdNo digC T)(hl:T.length<=1000)(R:List It)(wr:World) :
  Zaj Tryz.prog 123 [.int .i64 n,.pointer (some ⟨b,0,none⟩)] wr (.blk b [.string (bsL (A++T))] 9::R) (fun v O=>v = .string (bsL A)/\O = .blk b [.string (bsL T)] 9::R):=by
 have hll0:(A++T).length=A.length+T.length:=List.length_append
 have htk0:(A++T).take A.length=A:=by simp
 have hdr0:(A++T).drop A.length=T:=by simp
 have hget:∀ k,k<A.length->digC ((A++T).getD k 0)=true:=fun k hk=>by
  rw[List.getD_eq_getElem?_getD,List.getElem?_append_left hk,List.getElem?_eq_getElem hk]
  exact List.all_eq_true.1 hA _ (List.getElem_mem hk)
 have hend:A.length<n->A.length<(A++T).length->digC ((A++T).getD A.length 0)=false:=fun h1 h2=>by
  have h3:=hT.resolve_left (by omega)
  rw[List.getD_eq_getElem?_getD,List.getElem?_append_right (Nat.le_refl _),Nat.sub_self]
  cases T with
  | nil=>simp at h2
  | cons c T=>exact h3 c rfl
 generalize A++T=l at *
 obtain⟨m,hm⟩:∃ m,A.length=m:=⟨_,rfl⟩
 rw[hm]at hll0 htk0 hdr0 hget hend hn
 have hll:(l.length:Int)=(m+T.length:Nat):=by omega
 have htk:l.take ((m:Nat):Int).toNat=A:=by rw[Int.toNat_natCast];exact htk0
 have hdr:l.drop ((m:Nat):Int).toNat=T:=by rw[Int.toNat_natCast];exact hdr0
 have hdc:∀ c:UInt8,digC c=(decide ((48:Int)<=c.toNat)&&decide ((c.toNat:Int)<=57)):=fun c=>by
  unfold digC
  rw[Bool.eq_iff_iff]
  simp
  omega
 refine ZaG Tryz.func123 rfl rfl rfl rfl ?_
 repeat (first|refine walk ?_)
 refine Zao [(0,.int .i64 n),(1,.pointer (some ⟨b,0,none⟩))] (.blk b [.string (bsL l)] 9::R) (fun k:Nat=>[(4,.int .i64 k)]) (fun _=>[]) (fun k=>k<=m) (fun k=>m - k) 0 SFA (.refl _) (Nat.zero_le _) ?_
 intro k hk
 obtain⟨c,hc0⟩:∃ c,l.getD (((k:Nat):Int)).toNat 0=c:=⟨_,rfl⟩
 have hc1:=hc0
 rw[Int.toNat_natCast]at hc1
 by_cases hkm:k<m
 ·have b1:decide (((k:Nat):Int)<((m+T.length:Nat):Int))=true:=decide_eq_true (by omega)
  have b2:decide (((k:Nat):Int)<(n:Int))=true:=decide_eq_true (by omega)
  have h4:=hget k hkm
  rw[hc1,hdc,Bool.and_eq_true]at h4
  obtain⟨b3,b4⟩:=h4
  repeat (first|refine und ?_|(apply RL_pu;rfl;exact Zyt)|refine walk1 ?_)
  exact⟨k+1,by omega,by omega,SFA,.refl _⟩
 ·obtain rfl:k=m:=by omega
  by_cases e1:k<l.length
  ·have b1:decide (((k:Nat):Int)<((k+T.length:Nat):Int))=true:=decide_eq_true (by omega)
   by_cases e2:k<n
   ·have b2:decide (((k:Nat):Int)<(n:Int))=true:=decide_eq_true (by omega)
    have h4:=hend e2 e1
    rw[hc1,hdc]at h4
    cases b3:decide ((48:Int)<=c.toNat) with
    | true =>
     rw[b3,Bool.true_and]at h4
     have b4:=h4
     repeat (first|refine und ?_|(apply RL_pu;rfl;exact Zys)|refine walk1 ?_)
     exact ret_1 _ _ (.tmp rfl) STA ⟨rfl,rfl⟩
    | false =>
     repeat (first|refine und ?_|(apply RL_pu;rfl;exact Zys)|refine walk1 ?_)
     exact ret_1 _ _ (.tmp rfl) STA ⟨rfl,rfl⟩
   ·have b2:decide (((k:Nat):Int)<(n:Int))=false:=decide_eq_false (by omega)
    repeat (first|refine und ?_|(apply RL_pu;rfl;exact Zyr)|refine walk1 ?_)
    exact ret_1 _ _ (.tmp rfl) STA ⟨rfl,rfl⟩
  ·have b1:decide (((k:Nat):Int)<((k+T.length:Nat):Int))=false:=decide_eq_false (by omega)
   repeat (first|refine und ?_|(apply RL_pu;rfl;exact Zyr)|refine walk1 ?_)
   exact ret_1 _ _ (.tmp rfl) STA ⟨rfl,rfl⟩
theorem Zk3 (l:List UInt8)(v:Int)(h:parseIntB 64 l = .ok v)(hl:l.length<=1000)(w:World):Does Tryz.prog 124 [.string (bsL l),.int .i64 10,.int .i64 64] w (fun r O=>r = .tuple #[.int .i64 v,.nilIface]/\O=[]) :=
 ZbF ((Any.strconv_ParseInt_10_at64_ok ZBn (bsL l) (by rw[ZbM];omega) v h w).mono fun e w' ⟨he,hb⟩=>⟨he,by rcases hb with rfl|⟨t,rfl⟩;exact Below.refl _ _;exact Go.Joins.below_bytesWorld _ _ _ _ (Nat.le_refl _)⟩)
theorem Zwb {x:Int}(h0 : -359999<=x)(h1:x<=359999):∃ (H M C:Int) (T:List UInt8),shL x=sgL x++(dgN H++T)/\DgOk H/\(0<=H/\H<100)/\(0<=M/\M<60)/\(0<=C/\C<60)/\absI x=H*3600+M*60+C /\
  ((T=[]/\M=0/\C=0)\/(T=58::dig2 M/\C=0)\/T=58::(dig2 M++58::dig2 C)):=by
 have hy:0<=absI x/\absI x<=359999:=by unfold absI;split <;> omega
 unfold shL
 generalize absI x=y at *
 refine⟨y / 3600,y / 60 % 60,y % 60,if y % 3600=0 then [] else 58::dig2 (y / 60 % 60)++if y % 60=0 then [] else 58::dig2 (y % 60),by rw[List.append_assoc],Zb2 (by omega) (by omega),by omega,by omega,by omega,by omega,?_⟩
 by_cases a:y % 3600=0
 ·exact .inl ⟨by rw[if_pos a],by omega,by omega⟩
 ·rw[if_neg a]
  by_cases b:y % 60=0
  ·exact .inr (.inl ⟨by rw[if_pos b,List.append_nil],b⟩)
  ·exact .inr (.inr (by rw[if_neg b];rfl))
end Go.Proofs.YtdlmhmmhdbbliaaGreatDoor
