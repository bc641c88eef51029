/- Parts of the proof. -/
import Derived.Shelf.Lay
import Derived.Shelf.Strings.OnBuilder
import Derived.Shelf.Strings.Prefix
import Derived.Shelf.Strings.Shaped
import Derived.Shelf.Strings.Cut
import Derived.Shelf.Pu.ParseUintPublic10
import Derived.Shelf.GgClosure.StringsRunes
import Derived.Test.YtdlmhmmhdbbliaaGreatDoorV06
import Derived.Lib.CutLaws
import Derived.Test.YtdlmhmmhdbbliaaGreatDoorV02
import Derived.Test.YtdlmhmmhdbbliaaGreatDoorV16
import Derived.Test.YtdlmhmmhdbbliaaGreatDoorV07
import Derived.LoopN
set_option maxHeartbeats 4000000
set_option linter.unusedVariables false
set_option linter.unusedSimpArgs false
namespace Go.Proofs.YtdlmhmmhdbbliaaGreatDoor
open Go.Shelf Go.RowKit Go.Lib
def ZiI:Ren where
 f:=fun|156=>249|165=>257|166=>258|169=>259|240=>262|241=>263|276=>264|277=>265|n=>n
 t:=fun|31=>30|9=>9|3=>3|4=>4|0=>0|20=>20|72=>343|76=>213|70=>341|37=>24|75=>210|127=>318|164=>349|5=>5|80=>119|n=>n
 g:=fun n=>n
theorem ZtB:Lays.n156 Tryz.prog ZiI where
 mixed:=by kernel_rfl
 f156:=Tryz.func249.trans (congrArg some (by kernel_rfl))
 f165:=Tryz.func257.trans (congrArg some (by kernel_rfl))
 f166:=Tryz.func258.trans (congrArg some (by kernel_rfl))
 f169:=Tryz.func259.trans (congrArg some (by kernel_rfl))
 f240:=Tryz.func262.trans (congrArg some (by kernel_rfl))
 f241:=Tryz.func263.trans (congrArg some (by kernel_rfl))
 f276:=Tryz.func264.trans (congrArg some (by kernel_rfl))
 f277:=Tryz.func265.trans (congrArg some (by kernel_rfl))
 t0:=Tryz.underlying0
 a0:=Tryz.isAgg0
 z0:=Tryz.sizeOf0
 v0:=Tryz.zeroValue0
 t3:=Tryz.underlying3
 a3:=Tryz.isAgg3
 z3:=Tryz.sizeOf3
 v3:=Tryz.zeroValue3
 t4:=Tryz.underlying4
 a4:=Tryz.isAgg4
 z4:=Tryz.sizeOf4
 v4:=Tryz.zeroValue4
 t9:=Tryz.underlying9
 a9:=Tryz.isAgg9
 z9:=Tryz.sizeOf9
 v9:=Tryz.zeroValue9
 t20:=Tryz.underlying20
 a20:=Tryz.isAgg20
 z20:=Tryz.sizeOf20
 v20:=Tryz.zeroValue20
 t31:=Tryz.underlying30
 a31:=Tryz.isAgg30
 z31:=Tryz.sizeOf30
 v31:=Tryz.zeroValue30
 t37:=Tryz.underlying24
 a37:=Tryz.isAgg24
 z37:=Tryz.sizeOf24
 v37:=Tryz.zeroValue24
 t70:=Tryz.underlying341
 a70:=Tryz.isAgg341
 z70:=Tryz.sizeOf341
 v70:=Tryz.zeroValue341
 t72:=Tryz.underlying343
 a72:=Tryz.isAgg343
 z72:=Tryz.sizeOf343
 v72:=Tryz.zeroValue343
 t75:=Tryz.underlying210
 a75:=Tryz.isAgg210
 z75:=Tryz.sizeOf210
 v75:=Tryz.zeroValue210
 t76:=Tryz.underlying213
 a76:=Tryz.isAgg213
 z76:=Tryz.sizeOf213
 v76:=Tryz.zeroValue213
 t127:=Tryz.underlying318
 a127:=Tryz.isAgg318
 z127:=Tryz.sizeOf318
 v127:=Tryz.zeroValue318
 t164:=Tryz.underlying349
 a164:=Tryz.isAgg349
 z164:=Tryz.sizeOf349
 v164:=Tryz.zeroValue349
def Zog:Ren where
 f:=fun|99=>45|206=>83|n=>n
 t:=fun|9=>9|4=>4|3=>3|n=>n
 g:=fun n=>n
theorem Zy2:Lays.n99 Tryz.prog Zog where
 mixed:=by kernel_rfl
 f99:=Tryz.func45.trans (congrArg some (by kernel_rfl))
 f206:=Tryz.func83.trans (congrArg some (by kernel_rfl))
 t3:=Tryz.underlying3
 a3:=Tryz.isAgg3
 z3:=Tryz.sizeOf3
 v3:=Tryz.zeroValue3
 t4:=Tryz.underlying4
 a4:=Tryz.isAgg4
 z4:=Tryz.sizeOf4
 v4:=Tryz.zeroValue4
 t9:=Tryz.underlying9
 a9:=Tryz.isAgg9
 z9:=Tryz.sizeOf9
 v9:=Tryz.zeroValue9
def Ziu:Ren where
 f:=fun|14=>223|16=>202|17=>166|19=>225|20=>226|21=>203|22=>204|23=>205|24=>206|25=>227|27=>16|26=>228|28=>51|29=>86|30=>126|31=>127|32=>128|33=>129|35=>169|34=>168|36=>170|37=>171|38=>172|39=>207|40=>208|n=>n
 t:=fun|9=>9|3=>3|22=>216|24=>210|25=>287|4=>4|34=>286|5=>5|36=>255|37=>24|0=>0|39=>289|21=>21|44=>310|47=>318|50=>321|48=>319|2=>2|52=>215|55=>219|59=>253|60=>54|20=>20|61=>254|65=>312|66=>313|67=>119|n=>n
 g:=fun|0=>10|1=>11|2=>5|3=>12|4=>13|n=>n
theorem ZAk:LaysPu.n14 Tryz.prog Ziu where
 mixed:=by kernel_rfl
 f14:=Tryz.func223.trans (congrArg some (by kernel_rfl))
 f16:=Tryz.func202.trans (congrArg some (by kernel_rfl))
 f17:=Tryz.func166.trans (congrArg some (by kernel_rfl))
 f19:=Tryz.func225.trans (congrArg some (by kernel_rfl))
 f20:=Tryz.func226.trans (congrArg some (by kernel_rfl))
 f21:=Tryz.func203.trans (congrArg some (by kernel_rfl))
 f22:=Tryz.func204.trans (congrArg some (by kernel_rfl))
 f23:=Tryz.func205.trans (congrArg some (by kernel_rfl))
 f24:=Tryz.func206.trans (congrArg some (by kernel_rfl))
 f25:=Tryz.func227.trans (congrArg some (by kernel_rfl))
 f26:=Tryz.func228.trans (congrArg some (by kernel_rfl))
 f27:=Tryz.func16.trans (congrArg some (by kernel_rfl))
 f28:=Tryz.func51.trans (congrArg some (by kernel_rfl))
 f29:=Tryz.func86.trans (congrArg some (by kernel_rfl))
 f30:=Tryz.func126.trans (congrArg some (by kernel_rfl))
 f31:=Tryz.func127.trans (congrArg some (by kernel_rfl))
 f32:=Tryz.func128.trans (congrArg some (by kernel_rfl))
 f33:=Tryz.func129.trans (congrArg some (by kernel_rfl))
 f34:=Tryz.func168.trans (congrArg some (by kernel_rfl))
 f35:=Tryz.func169.trans (congrArg some (by kernel_rfl))
 f36:=Tryz.func170.trans (congrArg some (by kernel_rfl))
 f37:=Tryz.func171.trans (congrArg some (by kernel_rfl))
 f38:=Tryz.func172.trans (congrArg some (by kernel_rfl))
 f39:=Tryz.func207.trans (congrArg some (by kernel_rfl))
 f40:=Tryz.func208.trans (congrArg some (by kernel_rfl))
 t0:=Tryz.underlying0
 a0:=Tryz.isAgg0
 z0:=Tryz.sizeOf0
 v0:=Tryz.zeroValue0
 t2:=Tryz.underlying2
 a2:=Tryz.isAgg2
 z2:=Tryz.sizeOf2
 v2:=Tryz.zeroValue2
 t3:=Tryz.underlying3
 a3:=Tryz.isAgg3
 z3:=Tryz.sizeOf3
 v3:=Tryz.zeroValue3
 t4:=Tryz.underlying4
 a4:=Tryz.isAgg4
 z4:=Tryz.sizeOf4
 v4:=Tryz.zeroValue4
 t5:=Tryz.underlying5
 a5:=Tryz.isAgg5
 z5:=Tryz.sizeOf5
 v5:=Tryz.zeroValue5
 t9:=Tryz.underlying9
 a9:=Tryz.isAgg9
 z9:=Tryz.sizeOf9
 v9:=Tryz.zeroValue9
 t20:=Tryz.underlying20
 a20:=Tryz.isAgg20
 z20:=Tryz.sizeOf20
 v20:=Tryz.zeroValue20
 t21:=Tryz.underlying21
 a21:=Tryz.isAgg21
 z21:=Tryz.sizeOf21
 v21:=Tryz.zeroValue21
 t22:=Tryz.underlying216
 a22:=Tryz.isAgg216
 z22:=Tryz.sizeOf216
 v22:=Tryz.zeroValue216
 t24:=Tryz.underlying210
 a24:=Tryz.isAgg210
 z24:=Tryz.sizeOf210
 v24:=Tryz.zeroValue210
 t25:=Tryz.underlying287
 a25:=Tryz.isAgg287
 z25:=Tryz.sizeOf287
 v25:=Tryz.zeroValue287
 t34:=Tryz.underlying286
 a34:=Tryz.isAgg286
 z34:=Tryz.sizeOf286
 v34:=Tryz.zeroValue286
 t36:=Tryz.underlying255
 a36:=Tryz.isAgg255
 z36:=Tryz.sizeOf255
 v36:=Tryz.zeroValue255
 t37:=Tryz.underlying24
 a37:=Tryz.isAgg24
 z37:=Tryz.sizeOf24
 v37:=Tryz.zeroValue24
 t39:=Tryz.underlying289
 a39:=Tryz.isAgg289
 z39:=Tryz.sizeOf289
 v39:=Tryz.zeroValue289
 t44:=Tryz.underlying310
 a44:=Tryz.isAgg310
 z44:=Tryz.sizeOf310
 v44:=Tryz.zeroValue310
 t47:=Tryz.underlying318
 a47:=Tryz.isAgg318
 z47:=Tryz.sizeOf318
 v47:=Tryz.zeroValue318
 t48:=Tryz.underlying319
 a48:=Tryz.isAgg319
 z48:=Tryz.sizeOf319
 v48:=Tryz.zeroValue319
 t50:=Tryz.underlying321
 a50:=Tryz.isAgg321
 z50:=Tryz.sizeOf321
 v50:=Tryz.zeroValue321
 t52:=Tryz.underlying215
 a52:=Tryz.isAgg215
 z52:=Tryz.sizeOf215
 v52:=Tryz.zeroValue215
 t55:=Tryz.underlying219
 a55:=Tryz.isAgg219
 z55:=Tryz.sizeOf219
 v55:=Tryz.zeroValue219
 t59:=Tryz.underlying253
 a59:=Tryz.isAgg253
 z59:=Tryz.sizeOf253
 v59:=Tryz.zeroValue253
 t60:=Tryz.underlying54
 a60:=Tryz.isAgg54
 z60:=Tryz.sizeOf54
 v60:=Tryz.zeroValue54
 t61:=Tryz.underlying254
 a61:=Tryz.isAgg254
 z61:=Tryz.sizeOf254
 t65:=Tryz.underlying312
 a65:=Tryz.isAgg312
 z65:=Tryz.sizeOf312
 v65:=Tryz.zeroValue312
 t66:=Tryz.underlying313
 a66:=Tryz.isAgg313
 z66:=Tryz.sizeOf313
 v66:=Tryz.zeroValue313
 t67:=Tryz.underlying119
 a67:=Tryz.isAgg119
 z67:=Tryz.sizeOf119
 v67:=Tryz.zeroValue119
 i0:=by kernel_rfl
 i2:=by kernel_rfl
 i3:=by kernel_rfl
 i4:=by kernel_rfl
 i5:=by kernel_rfl
 i9:=by kernel_rfl
 i20:=by kernel_rfl
 i21:=by kernel_rfl
 i22:=by kernel_rfl
 i24:=by kernel_rfl
 i25:=by kernel_rfl
 i34:=by kernel_rfl
 c34:=by kernel_rfl
 i36:=by kernel_rfl
 i37:=by kernel_rfl
 i39:=by kernel_rfl
 i44:=by kernel_rfl
 i47:=by kernel_rfl
 i48:=by kernel_rfl
 i50:=by kernel_rfl
 i52:=by kernel_rfl
 i55:=by kernel_rfl
 i59:=by kernel_rfl
 i60:=by kernel_rfl
 i65:=by kernel_rfl
 i66:=by kernel_rfl
 i67:=by kernel_rfl
 g0:=by kernel_rfl
 m0:=by kernel_rfl
 g1:=by kernel_rfl
 m1:=by kernel_rfl
 g2:=by kernel_rfl
 m2:=by kernel_rfl
 g3:=by kernel_rfl
 m3:=by kernel_rfl
 g4:=by kernel_rfl
 m4:=by kernel_rfl
def Zky:Ren where
 f:=fun|145=>153|220=>192|219=>222|217=>224|225=>201|224=>200|267=>235|266=>236|314=>251|n=>n
 t:=fun|9=>9|4=>4|59=>186|3=>3|5=>5|46=>255|146=>333|51=>54|n=>n
 g:=fun|1=>9|n=>n
theorem ZxH:LaysM.n145 Tryz.prog Zky where
 mixed:=by kernel_rfl
 f145:=Tryz.func153.trans (congrArg some (by kernel_rfl))
 f217:=Tryz.func224.trans (congrArg some (by kernel_rfl))
 f219:=Tryz.func222.trans (congrArg some (by kernel_rfl))
 f220:=Tryz.func192.trans (congrArg some (by kernel_rfl))
 f224:=Tryz.func200.trans (congrArg some (by kernel_rfl))
 f225:=Tryz.func201.trans (congrArg some (by kernel_rfl))
 f266:=Tryz.func236.trans (congrArg some (by kernel_rfl))
 f267:=Tryz.func235.trans (congrArg some (by kernel_rfl))
 f314:=Tryz.func251.trans (congrArg some (by kernel_rfl))
 t3:=Tryz.underlying3
 a3:=Tryz.isAgg3
 z3:=Tryz.sizeOf3
 v3:=Tryz.zeroValue3
 t4:=Tryz.underlying4
 a4:=Tryz.isAgg4
 z4:=Tryz.sizeOf4
 v4:=Tryz.zeroValue4
 t5:=Tryz.underlying5
 a5:=Tryz.isAgg5
 z5:=Tryz.sizeOf5
 v5:=Tryz.zeroValue5
 t9:=Tryz.underlying9
 a9:=Tryz.isAgg9
 z9:=Tryz.sizeOf9
 v9:=Tryz.zeroValue9
 t46:=Tryz.underlying255
 a46:=Tryz.isAgg255
 z46:=Tryz.sizeOf255
 v46:=Tryz.zeroValue255
 t51:=Tryz.underlying54
 a51:=Tryz.isAgg54
 z51:=Tryz.sizeOf54
 v51:=Tryz.zeroValue54
 t59:=Tryz.underlying186
 a59:=Tryz.isAgg186
 z59:=Tryz.sizeOf186
 v59:=Tryz.zeroValue186
 t146:=Tryz.underlying333
 a146:=Tryz.isAgg333
 z146:=Tryz.sizeOf333
 v146:=Tryz.zeroValue333
 g1:=by kernel_rfl
 i3:=by kernel_rfl
 i4:=by kernel_rfl
 i5:=by kernel_rfl
 i9:=by kernel_rfl
 i46:=by kernel_rfl
 i51:=by kernel_rfl
 i59:=by kernel_rfl
 i146:=by kernel_rfl
 m1:=by kernel_rfl
 s1_3:=fun w h=>cell_of_shapedOpen_int (zero := #[.int .i64 0]) h (by decide) (by kernel_rfl) rfl (by kernel_rfl) (by kernel_rfl) Tryz.underlying3
def Zrv:Ren where
 f:=fun|15=>115|20=>160|n=>n
 t:=fun|9=>9|23=>165|3=>3|4=>4|0=>0|21=>21|n=>n
 g:=fun n=>n
theorem ZAA:LaysGw.n15 Tryz.prog Zrv where
 mixed:=by kernel_rfl
 f15:=Tryz.func115.trans (congrArg some (by kernel_rfl))
 f20:=Tryz.func160.trans (congrArg some (by kernel_rfl))
 t0:=Tryz.underlying0
 a0:=Tryz.isAgg0
 z0:=Tryz.sizeOf0
 v0:=Tryz.zeroValue0
 t3:=Tryz.underlying3
 a3:=Tryz.isAgg3
 z3:=Tryz.sizeOf3
 v3:=Tryz.zeroValue3
 t4:=Tryz.underlying4
 a4:=Tryz.isAgg4
 z4:=Tryz.sizeOf4
 v4:=Tryz.zeroValue4
 t9:=Tryz.underlying9
 a9:=Tryz.isAgg9
 z9:=Tryz.sizeOf9
 v9:=Tryz.zeroValue9
 t21:=Tryz.underlying21
 a21:=Tryz.isAgg21
 z21:=Tryz.sizeOf21
 v21:=Tryz.zeroValue21
 t23:=Tryz.underlying165
 a23:=Tryz.isAgg165
 z23:=Tryz.sizeOf165
 v23:=Tryz.zeroValue165
 i0:=by kernel_rfl
 i3:=by kernel_rfl
 i4:=by kernel_rfl
 i9:=by kernel_rfl
 i21:=by kernel_rfl
 i23:=by kernel_rfl
theorem ZmM:Builder.Extra Tryz.prog ZiI where
 sizeBuilder:=by kernel_rfl
 liesBuilder:=by kernel_rfl
 t5:=Tryz.underlying5
 a5:=Tryz.isAgg5
 z5:=Tryz.sizeOf5
 v5:=Tryz.zeroValue5
 infoByte:=by kernel_rfl
 cellsByte:=by kernel_rfl
 sizeByte:=by kernel_rfl
 neB5:=by decide
end Go.Proofs.YtdlmhmmhdbbliaaGreatDoor
namespace Go.Wk
open Go Go.RowKit
theorem Zqj (p:List UInt8):∀ (f acc:List UInt8),ZdE p f acc=if 0<=Lib.index f p then some (acc++f.take (Lib.index f p).toNat,f.drop ((Lib.index f p).toNat+p.length)) else none
 | [],acc=>by
  simp only[ZdE,Lib.index,List.isEmpty_iff]
  by_cases h:p=[]
  ·simp[h]
  ·rw[if_neg h,if_neg h];rfl
 | c::l,acc=>by
  by_cases h:p.isPrefixOf (c::l)=true
  ·simp[ZdE,Lib.index,h]
  ·have e0:Lib.index (c::l) p=if (Lib.index l p==-1)=true then -1 else Lib.index l p+1:=by rw[Lib.index,if_neg h]
   generalize hI:Lib.index (c::l) p=I at *
   subst e0
   rw[ZdE,if_neg h,Zqj p l]
   clear hI
   have hge:=Lib.index_ge l p
   by_cases h2:Lib.index l p = -1
   ·simp[h2]
   ·rw[if_pos (show 0<=Lib.index l p by omega)]
    have hb:(Lib.index l p==-1)=false:=by simpa using h2
    rw[hb]
    simp only[Bool.false_eq_true,if_false]
    rw[if_pos (show 0<=Lib.index l p+1 by omega)]
    have e:(Lib.index l p+1).toNat=(Lib.index l p).toNat+1:=by omega
    rw[e,show(Lib.index l p).toNat+1+p.length=((Lib.index l p).toNat+p.length)+1 by omega]
    simp
def cutV (f p:List UInt8):List UInt8 × List UInt8 × Bool:=match ZdE p f [] with|some (a,b)=>(a,b,true)|none=>(f,[],false)
theorem Zzr (f p:List UInt8):Lib.cut f p=cutV f p:=by
 unfold Lib.cut cutV
 rw[Zqj]
 by_cases h:0<=Lib.index f p
 ·rw[if_pos h,if_pos h];rfl
 ·rw[if_neg h,if_neg h]
theorem Zne {p f acc a b:List UInt8}(h:ZdE p f acc=some (a,b)):a.length+b.length+p.length<=acc.length+f.length:=by
 induction f generalizing acc with
 | nil =>
  simp only[ZdE]at h
  split at h
  ·rename_i hp;simp only[Option.some.injEq,Prod.mk.injEq]at h;obtain⟨rfl,rfl⟩:=h;simp[hp]
  ·cases h
 | cons c l ih =>
  simp only[ZdE]at h
  split at h
  ·rename_i hp
   simp only[Option.some.injEq,Prod.mk.injEq]at h
   obtain⟨rfl,rfl⟩:=h
   have:=List.IsPrefix.length_le (List.isPrefixOf_iff_prefix.1 hp)
   rw[List.length_drop]
   omega
  ·have:=ih h
   simp only[List.length_append,List.length_cons,List.length_nil]at this ⊢
   omega
def Zdl (r:Zab)(least:Int):Nat->Bool
 | 0=>Zck r.from_&&(Zck r.to||decide (r.to=1048576))
 | 1=>decide (r.from_<=r.to)
 | 2=>Zf7 r.from_ r.to r.month r.day
 | 3=>Zgd r.at_ least
 | 4=>decide (-10800<=r.save)&&decide (r.save<=10800)
 | _=>decide (r.letter=ByteArray.empty)||ZiE r.letter
theorem ZlI {P:Program}{n:Nat}{wr:World}{fr:Fr}{O:List It}{ty t t':TypeId}{x y:Operand}{i j m:Int}(hx:ev fr x=some (.int .i64 i))(hy:ev fr y=some (.int .i64 j))(hm:IntKind.i64.wrap (i+j)=m):Pu P n wr fr O (.binOp .add t x y t') ty (.int .i64 m):=hm▸ZlJ hx hy
end Go.Wk
namespace Go.Proofs.YtdlmhmmhdbbliaaGreatDoor
open Go Go.RowKit Go.Wk
attribute [local irreducible] W RL Does Zau Zak retQ Calls Pu Stp RD Qy Ay Zaj Zdd
theorem Zix (y:Int)(w:World):Does Tryz.prog 307 [.int .i64 y] w (fun v O=>v = .bool (Zck y)/\O=[]):=by
 refine Zaa Tryz.func307 rfl rfl rfl rfl ?_
 repeat' (first|refine walk ?_|refine und ?_|(refine Zat rfl rfl rfl (fun hc=>?_) (fun hc=>?_))|(refine Zas rfl rfl rfl (fun hc=>?_) (fun hc=>?_))|(refine Zaf rfl (fun hc=>?_) (fun hc=>?_)))
 all_goals first|(refine ret_1 _ [] (.tmp rfl) .nil ⟨?_,rfl⟩;first|rfl|(simp only[*,Bool.true_and,Bool.false_and,Bool.true_or,Bool.false_or,Bool.not_true,Bool.not_false];done)|(simp_all [Zck];done)|(simp_all [Zck];omega)|(simp_all [Zck];rw[Bool.eq_iff_iff];simp;omega))|(exfalso;simp_all [Zck];done)|(exfalso;simp_all [Zck];omega)|(exfalso;omega)
theorem ZqW (c:Ze6)(least:Int)(hl : -9223372036854775808<=least/\least<=0)(w:World):Does Tryz.prog 312 [.agg (Ze6.enc c).toArray,.int .i64 least] w (fun v O=>v = .bool (Zgd c least)/\O=[]):=by
 by_cases hc:ZaP c=true
 ·have hb : -604799<=c.sec/\c.sec<=604799:=by
   simp only[ZaP,Bool.and_eq_true,decide_eq_true_eq]at hc
   omega
  obtain⟨m,hm⟩:∃ m,IntKind.i64.wrap (c.sec+least)=m:=⟨_,rfl⟩
  have hmm:(decide (-86400<=m)&&decide (m<=172800))=(decide (-86400<=c.sec+least)&&decide (c.sec+least<=172800)):=by
   have hw:IntKind.i64.wrap (c.sec+least)=if c.sec+least < -9223372036854775808 then c.sec+least+18446744073709551616 else c.sec+least:=by
    rw[IntKind.wrap_i64]
    repeat' split
    all_goals omega
   rw[hw]at hm
   rw[Bool.eq_iff_iff]
   simp only[Bool.and_eq_true,decide_eq_true_eq]
   split at hm <;> omega
  have hT:Zgd c least=(ZaP c&&(if c.base=1 then (decide (-86400<=m)&&decide (m<=172800)) else (decide (-86400<=c.sec)&&decide (c.sec<=172800)))):=by
   unfold Zgd
   dsimp only
   congr 1
   by_cases hb1:c.base=1
   ·rw[if_pos hb1,if_pos hb1,hmm]
   ·rw[if_neg hb1,if_neg hb1]
  rw[hT]
  clear hT hmm
  have hcs:=Zcp c
  rw[hc]at hcs ⊢
  obtain⟨s,b⟩:=c
  simp only at *
  show Does _ _ [.agg #[.int .i64 s,.int .i64 b],.int .i64 least] w _
  refine Zaa Tryz.func312 rfl rfl rfl rfl ?_
  repeat' (first|(apply RL_pu;rfl;(apply ZlI;rfl;rfl;exact hm))|(refine js ?_;(first|(refine Zac (fun w' _=>hcs w') ?_)|(refine bx ?_;intro bk)))|refine walk1 ?_|refine und ?_|(refine Zat rfl rfl rfl (fun hc=>?_) (fun hc=>?_))|(refine Zas rfl rfl rfl (fun hc=>?_) (fun hc=>?_))|(refine Zaf rfl (fun hc=>?_) (fun hc=>?_)))
  all_goals exact clo1
 ·unfold Zgd
  have hcs:=Zcp c
  rw[Bool.not_eq_true]at hc
  rw[hc]at hcs ⊢
  obtain⟨s,b⟩:=c
  simp only at *
  show Does _ _ [.agg #[.int .i64 s,.int .i64 b],.int .i64 least] w _
  refine Zaa Tryz.func312 rfl rfl rfl rfl ?_
  repeat' (first|(refine js ?_;(first|(refine Zac (fun w' _=>hcs w') ?_)|(refine bx ?_;intro bk)))|refine walk ?_|refine und ?_|(refine Zat rfl rfl rfl (fun hc=>?_) (fun hc=>?_))|(refine Zas rfl rfl rfl (fun hc=>?_) (fun hc=>?_))|(refine Zaf rfl (fun hc=>?_) (fun hc=>?_)))
  all_goals exact clo1
theorem ZrU (r:Zab)(least:Int)(w:World):Does Tryz.prog 306 [.agg (Zab.enc r).toArray,.int .i64 least] w (fun v O=>v = .bool (Zdl r least 0)/\O=[]):=by
 unfold Zdl
 have h1:=Zix r.from_
 have h2:=Zix r.to
 generalize Zck r.from_=x1 at *
 generalize Zck r.to=x2 at *
 obtain⟨nm,fr,to,mo,⟨dk,dw,dd⟩,⟨cs,cb⟩,sv,le⟩:=r
 simp only at *
 show Does _ _ [.agg #[.string nm,.int .i64 fr,.int .i64 to,.int .i64 mo,.int .i64 dk,.int .i64 dw,.int .i64 dd,.int .i64 cs,.int .i64 cb,.int .i64 sv,.string le],.int .i64 least] w _
 refine Zaa Tryz.func306 rfl rfl rfl rfl ?_
 repeat' (first|(refine js ?_;(first|(refine Zac (fun w' _=>h1 w') ?_)|(refine Zac (fun w' _=>h2 w') ?_)|(refine bx ?_;intro bk)))|refine walk ?_|refine und ?_|(refine Zat rfl rfl rfl (fun hc=>?_) (fun hc=>?_))|(refine Zas rfl rfl rfl (fun hc=>?_) (fun hc=>?_))|(refine Zaf rfl (fun hc=>?_) (fun hc=>?_)))
 all_goals exact clo1
theorem ZrT (r:Zab)(least:Int)(w:World):Does Tryz.prog 308 [.agg (Zab.enc r).toArray,.int .i64 least] w (fun v O=>v = .bool (Zdl r least 1)/\O=[]):=by
 unfold Zdl
 obtain⟨nm,fr,to,mo,⟨dk,dw,dd⟩,⟨cs,cb⟩,sv,le⟩:=r
 simp only at *
 show Does _ _ [.agg #[.string nm,.int .i64 fr,.int .i64 to,.int .i64 mo,.int .i64 dk,.int .i64 dw,.int .i64 dd,.int .i64 cs,.int .i64 cb,.int .i64 sv,.string le],.int .i64 least] w _
 refine Zaa Tryz.func308 rfl rfl rfl rfl ?_
 repeat' (first|(refine js ?_;(refine bx ?_;intro bk))|refine walk ?_|(refine Zaf rfl (fun hc=>?_) (fun hc=>?_)))
 all_goals exact clo1
theorem ZrS (r:Zab)(least:Int)(w:World)(hG:Glob w):Does Tryz.prog 309 [.agg (Zab.enc r).toArray,.int .i64 least] w (fun v O=>v = .bool (Zdl r least 2)/\O=[]):=by
 unfold Zdl
 have h1:=fun w' hw=>ZoZ r.from_ r.to r.month r.day w' (Glob.up (w':=w') hG hw)
 generalize Zf7 r.from_ r.to r.month r.day=x1 at *
 obtain⟨nm,fr,to,mo,⟨dk,dw,dd⟩,⟨cs,cb⟩,sv,le⟩:=r
 simp only at *
 show Does _ _ [.agg #[.string nm,.int .i64 fr,.int .i64 to,.int .i64 mo,.int .i64 dk,.int .i64 dw,.int .i64 dd,.int .i64 cs,.int .i64 cb,.int .i64 sv,.string le],.int .i64 least] w _
 refine Zaa Tryz.func309 rfl rfl rfl rfl ?_
 repeat' (first|(refine js ?_;(first|(refine Zac h1 ?_)|(refine bx ?_;intro bk)))|refine walk ?_|(refine Zaf rfl (fun hc=>?_) (fun hc=>?_)))
 all_goals exact clo1
theorem ZrR (r:Zab)(least:Int)(hl : -9223372036854775808<=least/\least<=0)(w:World):Does Tryz.prog 311 [.agg (Zab.enc r).toArray,.int .i64 least] w (fun v O=>v = .bool (Zdl r least 3)/\O=[]):=by
 unfold Zdl
 have h1:=ZqW r.at_ least hl
 generalize Zgd r.at_ least=x1 at *
 obtain⟨nm,fr,to,mo,⟨dk,dw,dd⟩,⟨cs,cb⟩,sv,le⟩:=r
 simp only at *
 show Does _ _ [.agg #[.string nm,.int .i64 fr,.int .i64 to,.int .i64 mo,.int .i64 dk,.int .i64 dw,.int .i64 dd,.int .i64 cs,.int .i64 cb,.int .i64 sv,.string le],.int .i64 least] w _
 refine Zaa Tryz.func311 rfl rfl rfl rfl ?_
 repeat' (first|(refine js ?_;(first|(refine Zac (fun w' hw=>h1 w') ?_)|(refine bx ?_;intro bk)))|refine walk ?_|(refine Zaf rfl (fun hc=>?_) (fun hc=>?_)))
 all_goals exact clo1
theorem ZrQ (r:Zab)(least:Int)(w:World):Does Tryz.prog 313 [.agg (Zab.enc r).toArray,.int .i64 least] w (fun v O=>v = .bool (Zdl r least 4)/\O=[]):=by
 unfold Zdl
 obtain⟨nm,fr,to,mo,⟨dk,dw,dd⟩,⟨cs,cb⟩,sv,le⟩:=r
 simp only at *
 show Does _ _ [.agg #[.string nm,.int .i64 fr,.int .i64 to,.int .i64 mo,.int .i64 dk,.int .i64 dw,.int .i64 dd,.int .i64 cs,.int .i64 cb,.int .i64 sv,.string le],.int .i64 least] w _
 refine Zaa Tryz.func313 rfl rfl rfl rfl ?_
 repeat' (first|(refine js ?_;(refine bx ?_;intro bk))|refine walk ?_|refine und ?_|(refine Zat rfl rfl rfl (fun hc=>?_) (fun hc=>?_))|(refine Zas rfl rfl rfl (fun hc=>?_) (fun hc=>?_))|(refine Zaf rfl (fun hc=>?_) (fun hc=>?_)))
 all_goals exact clo1
theorem ZrP (r:Zab)(least:Int)(hs:(r.letter.size:Int)<=9223372036854775807)(w:World):Does Tryz.prog 314 [.agg (Zab.enc r).toArray,.int .i64 least] w (fun v O=>v = .bool (Zdl r least 5)/\O=[]):=by
 unfold Zdl
 rw[show ByteArray.empty=⟨#[]⟩ from rfl]
 have h1:=Zov r.letter hs
 generalize ZiE r.letter=x1 at *
 obtain⟨nm,fr,to,mo,⟨dk,dw,dd⟩,⟨cs,cb⟩,sv,le⟩:=r
 simp only at *
 show Does _ _ [.agg #[.string nm,.int .i64 fr,.int .i64 to,.int .i64 mo,.int .i64 dk,.int .i64 dw,.int .i64 dd,.int .i64 cs,.int .i64 cb,.int .i64 sv,.string le],.int .i64 least] w _
 refine Zaa Tryz.func314 rfl rfl rfl rfl ?_
 repeat' (first|(refine js ?_;(first|(refine Zac (fun w' hw=>h1 w') ?_)|(refine bx ?_;intro bk)))|refine walk ?_|refine und ?_|(refine Zat rfl rfl rfl (fun hc=>?_) (fun hc=>?_))|(refine Zas rfl rfl rfl (fun hc=>?_) (fun hc=>?_))|(refine Zaf rfl (fun hc=>?_) (fun hc=>?_)))
 all_goals exact clo1
theorem Zj5 (r:Zab)(w:World):Does Tryz.prog 213 [.agg (Zab.enc r).toArray] w (fun v O=>v = .bool (Zeu r)/\O=[]):=by
 unfold Zeu
 obtain⟨nm,fr,to,mo,⟨dk,dw,dd⟩,⟨cs,cb⟩,sv,le⟩:=r
 simp only at *
 show Does _ _ [.agg #[.string nm,.int .i64 fr,.int .i64 to,.int .i64 mo,.int .i64 dk,.int .i64 dw,.int .i64 dd,.int .i64 cs,.int .i64 cb,.int .i64 sv,.string le]] w _
 refine Zaa Tryz.func213 rfl rfl rfl rfl ?_
 repeat' (first|(apply RL_pu;rfl;(apply Pu_rem;rfl;rfl;decide))|(refine js ?_;(refine bx ?_;intro bk))|refine walk1 ?_|refine und ?_|(refine Zat rfl rfl rfl (fun hc=>?_) (fun hc=>?_))|(refine Zas rfl rfl rfl (fun hc=>?_) (fun hc=>?_))|(refine Zaf rfl (fun hc=>?_) (fun hc=>?_)))
 all_goals exact clo1
theorem Zc1 (A:Option Addr)(c:Nat)(l:List Zab)(w:World)(hA:RdSl w A c Zab.enc 11 l):Does Tryz.prog 92 [.slice A l.length c] w (fun v O=>v = .int .i64 (Zah l)/\O=[]):=by
 have hle:=hA.le
 have hcp:=hA.cap
 unfold maxLen at hcp
 generalize hres:Zah l=res
 unfold Zah at hres
 refine Zaa Tryz.func92 rfl rfl rfl rfl ?_
 repeat (first|(refine js ?_;(refine bx ?_;intro bk))|refine walk ?_)
 refine Zao [(6,_),(7,_)] [] (fun g:Nat × Int=>[(3,.int .i64 g.2),(8,.int .i64 g.1)]) (fun _=>[]) (fun g=>g.1<=l.length/\(l.drop g.1).foldl (fun m r=>min m r.save) g.2=res) (fun g=>l.length - g.1) (0,0) SFA SOA ⟨Nat.zero_le _,hres⟩ ?_
 rintro⟨k,m⟩ ⟨hk,hi⟩
 dsimp only at hk hi ⊢
 repeat (first|(refine js ?_;(refine bx ?_;intro bk))|refine walk ?_)
 refine Zaf rfl (fun h=>?_) (fun h=>?_)
 ·have hlt:k<l.length:=by simpa using h
  obtain⟨hna,hca⟩:=hA.rd k _ (List.getElem?_eq_getElem hlt)
  rw[Zap hlt]at hi
  generalize l[k]=r at *
  obtain⟨nm,fr,to,mo,⟨dk,dw,dd⟩,⟨cs,cb⟩,sv,le⟩:=r
  simp only[Zab.enc,List.foldl_cons]at hca hi
  repeat (first|(apply RL_pu;rfl;(first|exact PuI|(apply Ze2;rfl;rfl)))|(refine js ?_;(refine bx ?_;intro bk))|refine walk1 ?_)
  rw[show(if sv<m then sv else m)=min m sv by split <;> omega]
  exact⟨(k+1,min m sv),OA,⟨OA,hi⟩,SFA,.nil⟩
 ·have hkl:k=l.length:=by
   have:=of_decide_eq_false h
   omega
  subst hkl
  rw[List.drop_length]at hi
  repeat (first|(refine js ?_;(refine bx ?_;intro bk))|refine walk ?_)
  exact ret_1 _ [] (.tmp rfl) .nil ⟨by rw[<- hi];rfl,rfl⟩
theorem Zka (A:Option Addr)(c:Nat)(l:List Zab)(w:World)(hA:RdSl w A c Zab.enc 11 l):Does Tryz.prog 137 [.slice A l.length c] w (fun v O=>v = .tuple #[.int .i64 (Zdc l).1,.bool (Zdc l).2]/\O=[]):=by
 have hle:=hA.le
 have hcp:=hA.cap
 unfold maxLen at hcp
 generalize hres:Zdc l=res
 unfold Zdc at hres
 refine Zaa Tryz.func137 rfl rfl rfl rfl ?_
 repeat (first|(refine js ?_;(refine bx ?_;intro bk))|refine walk ?_)
 refine Zao [(7,_),(8,_)] [] (fun g:Nat × Int=>[(4,.int .i64 g.2),(9,.int .i64 g.1)]) (fun _=>[]) (fun g=>g.1<=l.length/\ZcJ (l.drop g.1) g.2=res) (fun g=>l.length - g.1) (0,0) SFA SOA ⟨Nat.zero_le _,hres⟩ ?_
 rintro⟨k,m⟩ ⟨hk,hi⟩
 dsimp only at hk hi ⊢
 repeat (first|(refine js ?_;(refine bx ?_;intro bk))|refine walk ?_)
 refine Zaf rfl (fun h=>?_) (fun h=>?_)
 ·have hlt:k<l.length:=by simpa using h
  obtain⟨hna,hca⟩:=hA.rd k _ (List.getElem?_eq_getElem hlt)
  rw[Zap hlt,ZcJ]at hi
  generalize l[k]=r at *
  obtain⟨nm,fr,to,mo,⟨dk,dw,dd⟩,⟨cs,cb⟩,sv,le⟩:=r
  simp only[Zab.enc]at hca hi
  repeat (first|(apply RL_pu;rfl;exact PuI)|(refine js ?_;(refine bx ?_;intro bk))|refine walk1 ?_)
  refine Zaf rfl (fun h1=>?_) (fun h1=>?_)
  ·rw[if_pos (of_decide_eq_true h1)]at hi
   repeat (first|(refine js ?_;(refine bx ?_;intro bk))|refine walk ?_)
   exact⟨(k+1,m),OA,⟨OA,hi⟩,SFA,.nil⟩
  rw[if_neg (of_decide_eq_false h1)]at hi
  repeat' (first|(refine js ?_;(refine bx ?_;intro bk))|refine walk ?_|refine und ?_|(refine Zat rfl rfl rfl (fun hc=>?_) (fun hc=>?_))|(refine Zas rfl rfl rfl (fun hc=>?_) (fun hc=>?_))|(refine Zaf rfl (fun hc=>?_) (fun hc=>?_)))
  ·rename_i h0
   simp only[Bool.not_eq_true',decide_eq_false_iff_not]at h0 hc
   rw[if_pos ⟨h0,hc⟩]at hi
   exact ret_2 _ _ [] (.tmp rfl) (.tmp rfl) .nil ⟨by rw[<- hi],rfl⟩
  ·simp only[Bool.not_eq_false',decide_eq_true_eq]at hc
   rw[if_neg (fun e=>e.2 hc)]at hi
   exact⟨(k+1,sv),OA,⟨OA,hi⟩,SFA,.nil⟩
  ·simp only[Bool.not_eq_false',decide_eq_true_eq]at hc
   rw[if_neg (fun e=>e.1 hc)]at hi
   exact⟨(k+1,sv),OA,⟨OA,hi⟩,SFA,.nil⟩
 ·have hkl:k=l.length:=by
   have:=of_decide_eq_false h
   omega
  subst hkl
  rw[List.drop_length,ZcJ]at hi
  repeat (first|(refine js ?_;(refine bx ?_;intro bk))|refine walk ?_)
  exact ret_2 _ _ [] (.tmp rfl) (.tmp rfl) .nil ⟨by rw[<- hi],rfl⟩
end Go.Proofs.YtdlmhmmhdbbliaaGreatDoor
namespace Go.Wk
open Go Go.RowKit
section
variable {P:Program}{n:Nat}{wr:World}{fr:Fr}{O:List It}{Q:Exit->Fr->List It->Prop}
def RW (P:Program)(n:Nat)(wr:World)(c:Code)(Q:Exit->Fr->List It->Prop):Nat->Fr->List It->Prop
 | 0,_,_=>False
 | k+1,fr,O=>W P n wr c (Zau (RW P n wr c Q k) Q) fr O
theorem Znt {c:Code}:∀ (k:Nat) (fr:Fr) (O:List It),RW P n wr c Q k fr O->∀ a w,St n wr fr O a w->Code.rounds P c (lift n wr Q) k a w
 | 0,_,_,h,_,_,_=>h
 | k+1,fr,O,h,a,w,hs=>by
  rw[rounds_succ]
  refine wp_mono (h a w hs) ?_
  rintro e a' w' ⟨fr',O',hs',hq⟩
  cases e with
  | normal=>exact Znt k fr' O' hq a' w' hs'
  | _=>exact⟨fr',O',hs',hq⟩
theorem Zh5 {c:Code}(k:Nat)(h:RW P n wr c Q k fr O):W P n wr (.loop c) Q fr O:=fun a w hs=>wp_loop_rounds k (Znt k fr O h a w hs)
theorem Zbw {c:Code}{k:Nat}(h:W P n wr c (Zau (RW P n wr c Q k) Q) fr O):RW P n wr c Q (k+1) fr O:=h
theorem Does.monoH {f:FuncId}{args:List Value}{w:World}{R R':Value->List It->Prop}(h:Does P f args w R)(hr:∀ v O base w',R v O->Zay base O w'->∃ O',R' v O'/\Zay base O' w'):Does P f args w R' :=
 Calls.mono h fun _ _ ⟨v,O,h1,h2,h3,h4⟩=>by
  obtain⟨O',h5,h6⟩:=hr v O _ _ h4 h3
  exact⟨v,O',h1,h2,h6,h5⟩
end
section
variable {P:Program}{n:Nat}{wr:World}{fr:Fr}{O:List It}{ty:TypeId}
theorem ZnD {t len e sz:Nat}{x ix:Operand}{kk:IntKind}{i:Int}{cs vs:List Value}[hA:ArrT P t len e sz true](hx:ev fr x=some (.agg cs.toArray))(hi:ev fr ix=some (.int kk i))(h0:0<=i)(h1:i<len)(hv:(cs.drop (i.toNat*sz)).take sz=vs) :
  Pu P n wr fr O (.index t x ix) ty (.agg vs.toArray):=fun a w hs _ _ _ _=>by
 have h:=hA.h
 unfold ZkF at h
 split at h
 ·rename_i len' e' hu
  split at h
  ·rename_i sz' ag' ht
   simp only[Option.some.injEq,Prod.mk.injEq]at h
   obtain⟨rfl,rfl,rfl,rfl⟩:=h
   obtain⟨inf,dd,hinf,hsz,hag,_⟩:=Ty.parts ht
   have:Ty P e' sz' true:=⟨ht⟩
   subst hv
   simp only[execOp,hs.sim.ev hx,hs.sim.ev hi,Instr.index,asIntOf,Sem.run_bind,Sem.run_pure,Result.andThen_ok,run_underlying hu,h0,h1,and_self,if_true,part,ZdK,Zc0]
   simp[List.take_drop]
  ·cases h
 ·cases h
end
end Go.Wk
namespace Go.Proofs.YtdlmhmmhdbbliaaGreatDoor
open Go Go.RowKit Go.Wk
attribute [local irreducible] W RL Does Zau Zak retQ Calls Pu Stp RD Qy Ay Zaj Zdd
theorem ZiY {α:Type}(p:α->Bool):∀ (l:List α) (k:Nat),decide (0<=Zb6 p l k)=l.any p
 | [],k=>rfl
 | x::l,k=>by
  rw[Zb6,List.any_cons]
  by_cases h:p x=true
  ·rw[if_pos h,h];simp
  ·rw[if_neg h,ZiY p l (k+1)]
   simp[h]
theorem ZeW (A:Option Addr)(c:Nat)(l:List Zab)(f:FuncId)[Body Tryz.prog f](us cs:List Value)(p:Zab->Bool)(w:World)(hA:RdSl w A c Zab.enc 11 l)
  (hf:∀ r w',Bel w.heap.size w w'->Does Tryz.prog f (us++[.agg (Zab.enc r).toArray]++cs) w' (fun v O=>v = .bool (p r)/\O=[])) :
  Does Tryz.prog 175 [.slice A l.length c,.func (.func f) us.toArray cs.toArray] w (fun v O=>v = .bool (l.any p)/\O=[]):=by
 have h:=fun w' (hw:Bel w.heap.size w w')=>ZfI A c l f us cs p w' (hA.up hw) fun r w2 h2=>hf r w2 (hw.trans (h2.mono hw.size))
 rw[<- ZiY p l 0]
 generalize Zb6 p l 0=k at *
 refine Zaa Tryz.func175 rfl rfl rfl rfl ?_
 repeat (first|(refine js ?_;(refine Zac h ?_))|refine walk ?_)
 exact rtA
theorem Zuh (r:Zab)(w:World):Does Tryz.prog 173 [.agg (Zab.enc r).toArray] w (fun v O=>v = .bool (decide (r.save=0))/\O=[]):=by
 obtain⟨nm,fr,to,mo,⟨dk,dw,dd⟩,⟨cs,cb⟩,sv,le⟩:=r
 show Does _ _ [.agg #[.string nm,.int .i64 fr,.int .i64 to,.int .i64 mo,.int .i64 dk,.int .i64 dw,.int .i64 dd,.int .i64 cs,.int .i64 cb,.int .i64 sv,.string le]] w _
 refine Zaa Tryz.func173 rfl rfl rfl rfl ?_
 repeat' (first|(refine js ?_;(refine bx ?_;intro bk))|refine walk ?_|(refine Zaf rfl (fun hc=>?_) (fun hc=>?_)))
 all_goals exact clo1
theorem Zrt (r:Zab)(w:World):Does Tryz.prog 212 [.agg (Zab.enc r).toArray] w (fun v O=>v = .bool (!decide (r.to=1048576))/\O=[]):=by
 obtain⟨nm,fr,to,mo,⟨dk,dw,dd⟩,⟨cs,cb⟩,sv,le⟩:=r
 show Does _ _ [.agg #[.string nm,.int .i64 fr,.int .i64 to,.int .i64 mo,.int .i64 dk,.int .i64 dw,.int .i64 dd,.int .i64 cs,.int .i64 cb,.int .i64 sv,.string le]] w _
 refine Zaa Tryz.func212 rfl rfl rfl rfl ?_
 repeat' (first|(refine js ?_;(refine bx ?_;intro bk))|refine walk ?_|(refine Zaf rfl (fun hc=>?_) (fun hc=>?_)))
 all_goals exact clo1
theorem Zug (r:Zab)(ad:Addr)(m:Int)(w:World)(h:w.cell? ad=some (.int .i64 m)):Does Tryz.prog 174 [.agg (Zab.enc r).toArray,.pointer (some ad)] w (fun v O=>v = .bool (!decide (r.save=0)&&!decide (r.save=m))/\O=[]):=by
 obtain⟨nm,fr,to,mo,⟨dk,dw,dd⟩,⟨cs,cb⟩,sv,le⟩:=r
 show Does _ _ [.agg #[.string nm,.int .i64 fr,.int .i64 to,.int .i64 mo,.int .i64 dk,.int .i64 dw,.int .i64 dd,.int .i64 cs,.int .i64 cb,.int .i64 sv,.string le],.pointer (some ad)] w _
 refine Zaa Tryz.func174 rfl rfl rfl rfl ?_
 repeat' (first|(apply RL_pu;rfl;(apply Pu_loadO1;rfl;exact h))|(refine js ?_;(refine bx ?_;intro bk))|refine walk1 ?_|refine und ?_|(refine Zat rfl rfl rfl (fun hc=>?_) (fun hc=>?_))|(refine Zas rfl rfl rfl (fun hc=>?_) (fun hc=>?_))|(refine Zaf rfl (fun hc=>?_) (fun hc=>?_)))
 all_goals exact clo1
end Go.Proofs.YtdlmhmmhdbbliaaGreatDoor
