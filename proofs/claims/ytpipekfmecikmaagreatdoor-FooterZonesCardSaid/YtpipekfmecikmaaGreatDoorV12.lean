/- Parts of the proof. -/
import Derived.Shelf.Lay
import Derived.Shelf.Strings.OnBuilder
import Derived.Shelf.Strings.Prefix
import Derived.Shelf.Strings.Shaped
import Derived.Shelf.Strings.Cut
import Derived.Shelf.Pu.ParseUintPublic10
import Derived.Shelf.GgClosure.StringsRunes
import Derived.Test.YtpipekfmecikmaaGreatDoorV05
import Derived.Lib.CutLaws
import Derived.Test.YtpipekfmecikmaaGreatDoorV01
import Derived.Test.YtpipekfmecikmaaGreatDoorV09
import Derived.Lib.TrimUEq
import Derived.Lib.SmallJoins
import Derived.Test.YtpipekfmecikmaaGreatDoorV10
set_option maxHeartbeats 4000000
set_option linter.unusedVariables false
set_option linter.unusedSimpArgs false
namespace Go.Proofs.YtpipekfmecikmaaGreatDoor
open Go.Shelf Go.RowKit Go.Lib
def ZhX:Ren where
 f:=fun|156=>317|165=>332|166=>333|169=>334|240=>339|241=>340|276=>342|277=>343|n=>n
 t:=fun|31=>25|9=>9|3=>3|4=>4|0=>0|20=>20|72=>344|76=>346|70=>342|37=>239|75=>299|127=>360|164=>364|5=>5|80=>348|n=>n
 g:=fun n=>n
theorem Zsq:Lays.n156 Tryz.prog ZhX where
 mixed:=by kernel_rfl
 f156:=Tryz.func317.trans (congrArg some (by kernel_rfl))
 f165:=Tryz.func332.trans (congrArg some (by kernel_rfl))
 f166:=Tryz.func333.trans (congrArg some (by kernel_rfl))
 f169:=Tryz.func334.trans (congrArg some (by kernel_rfl))
 f240:=Tryz.func339.trans (congrArg some (by kernel_rfl))
 f241:=Tryz.func340.trans (congrArg some (by kernel_rfl))
 f276:=Tryz.func342.trans (congrArg some (by kernel_rfl))
 f277:=Tryz.func343.trans (congrArg some (by kernel_rfl))
 t0:=Tryz.underlying0
 a0:=Tryz.isAgg0
 z0:=Tryz.sizeOf0
 v0:=Tryz.zeroValue0
 t3:=Tryz.underlying3
 a3:=Tryz.isAgg3
 z3:=Tryz.sizeOf3
 v3:=Tryz.zeroValue3
 t4:=Tryz.underlying4
 a4:=Tryz.isAgg4
 z4:=Tryz.sizeOf4
 v4:=Tryz.zeroValue4
 t9:=Tryz.underlying9
 a9:=Tryz.isAgg9
 z9:=Tryz.sizeOf9
 v9:=Tryz.zeroValue9
 t20:=Tryz.underlying20
 a20:=Tryz.isAgg20
 z20:=Tryz.sizeOf20
 v20:=Tryz.zeroValue20
 t31:=Tryz.underlying25
 a31:=Tryz.isAgg25
 z31:=Tryz.sizeOf25
 v31:=Tryz.zeroValue25
 t37:=Tryz.underlying239
 a37:=Tryz.isAgg239
 z37:=Tryz.sizeOf239
 v37:=Tryz.zeroValue239
 t70:=Tryz.underlying342
 a70:=Tryz.isAgg342
 z70:=Tryz.sizeOf342
 v70:=Tryz.zeroValue342
 t72:=Tryz.underlying344
 a72:=Tryz.isAgg344
 z72:=Tryz.sizeOf344
 v72:=Tryz.zeroValue344
 t75:=Tryz.underlying299
 a75:=Tryz.isAgg299
 z75:=Tryz.sizeOf299
 v75:=Tryz.zeroValue299
 t76:=Tryz.underlying346
 a76:=Tryz.isAgg346
 z76:=Tryz.sizeOf346
 v76:=Tryz.zeroValue346
 t127:=Tryz.underlying360
 a127:=Tryz.isAgg360
 z127:=Tryz.sizeOf360
 v127:=Tryz.zeroValue360
 t164:=Tryz.underlying364
 a164:=Tryz.isAgg364
 z164:=Tryz.sizeOf364
 v164:=Tryz.zeroValue364
def Zno:Ren where
 f:=fun|99=>287|206=>301|n=>n
 t:=fun|9=>9|4=>4|3=>3|n=>n
 g:=fun n=>n
theorem Zx8:Lays.n99 Tryz.prog Zno where
 mixed:=by kernel_rfl
 f99:=Tryz.func287.trans (congrArg some (by kernel_rfl))
 f206:=Tryz.func301.trans (congrArg some (by kernel_rfl))
 t3:=Tryz.underlying3
 a3:=Tryz.isAgg3
 z3:=Tryz.sizeOf3
 v3:=Tryz.zeroValue3
 t4:=Tryz.underlying4
 a4:=Tryz.isAgg4
 z4:=Tryz.sizeOf4
 v4:=Tryz.zeroValue4
 t9:=Tryz.underlying9
 a9:=Tryz.isAgg9
 z9:=Tryz.sizeOf9
 v9:=Tryz.zeroValue9
def ZhI:Ren where
 f:=fun|14=>286|16=>299|17=>300|19=>320|20=>321|21=>322|22=>323|23=>324|24=>325|25=>335|27=>337|26=>336|28=>341|29=>344|30=>345|31=>346|32=>347|33=>348|35=>312|34=>349|36=>350|37=>351|38=>352|39=>353|40=>354|n=>n
 t:=fun|9=>9|3=>3|22=>286|24=>299|25=>300|4=>4|34=>331|5=>5|36=>308|37=>239|0=>0|39=>333|21=>21|44=>351|47=>360|50=>363|48=>361|2=>2|52=>368|55=>370|59=>373|60=>324|20=>20|61=>374|65=>375|66=>376|67=>348|n=>n
 g:=fun|0=>6|1=>7|2=>10|3=>11|4=>12|n=>n
theorem Zzh:LaysPu.n14 Tryz.prog ZhI where
 mixed:=by kernel_rfl
 f14:=Tryz.func286.trans (congrArg some (by kernel_rfl))
 f16:=Tryz.func299.trans (congrArg some (by kernel_rfl))
 f17:=Tryz.func300.trans (congrArg some (by kernel_rfl))
 f19:=Tryz.func320.trans (congrArg some (by kernel_rfl))
 f20:=Tryz.func321.trans (congrArg some (by kernel_rfl))
 f21:=Tryz.func322.trans (congrArg some (by kernel_rfl))
 f22:=Tryz.func323.trans (congrArg some (by kernel_rfl))
 f23:=Tryz.func324.trans (congrArg some (by kernel_rfl))
 f24:=Tryz.func325.trans (congrArg some (by kernel_rfl))
 f25:=Tryz.func335.trans (congrArg some (by kernel_rfl))
 f26:=Tryz.func336.trans (congrArg some (by kernel_rfl))
 f27:=Tryz.func337.trans (congrArg some (by kernel_rfl))
 f28:=Tryz.func341.trans (congrArg some (by kernel_rfl))
 f29:=Tryz.func344.trans (congrArg some (by kernel_rfl))
 f30:=Tryz.func345.trans (congrArg some (by kernel_rfl))
 f31:=Tryz.func346.trans (congrArg some (by kernel_rfl))
 f32:=Tryz.func347.trans (congrArg some (by kernel_rfl))
 f33:=Tryz.func348.trans (congrArg some (by kernel_rfl))
 f34:=Tryz.func349.trans (congrArg some (by kernel_rfl))
 f35:=Tryz.func312.trans (congrArg some (by kernel_rfl))
 f36:=Tryz.func350.trans (congrArg some (by kernel_rfl))
 f37:=Tryz.func351.trans (congrArg some (by kernel_rfl))
 f38:=Tryz.func352.trans (congrArg some (by kernel_rfl))
 f39:=Tryz.func353.trans (congrArg some (by kernel_rfl))
 f40:=Tryz.func354.trans (congrArg some (by kernel_rfl))
 t0:=Tryz.underlying0
 a0:=Tryz.isAgg0
 z0:=Tryz.sizeOf0
 v0:=Tryz.zeroValue0
 t2:=Tryz.underlying2
 a2:=Tryz.isAgg2
 z2:=Tryz.sizeOf2
 v2:=Tryz.zeroValue2
 t3:=Tryz.underlying3
 a3:=Tryz.isAgg3
 z3:=Tryz.sizeOf3
 v3:=Tryz.zeroValue3
 t4:=Tryz.underlying4
 a4:=Tryz.isAgg4
 z4:=Tryz.sizeOf4
 v4:=Tryz.zeroValue4
 t5:=Tryz.underlying5
 a5:=Tryz.isAgg5
 z5:=Tryz.sizeOf5
 v5:=Tryz.zeroValue5
 t9:=Tryz.underlying9
 a9:=Tryz.isAgg9
 z9:=Tryz.sizeOf9
 v9:=Tryz.zeroValue9
 t20:=Tryz.underlying20
 a20:=Tryz.isAgg20
 z20:=Tryz.sizeOf20
 v20:=Tryz.zeroValue20
 t21:=Tryz.underlying21
 a21:=Tryz.isAgg21
 z21:=Tryz.sizeOf21
 v21:=Tryz.zeroValue21
 t22:=Tryz.underlying286
 a22:=Tryz.isAgg286
 z22:=Tryz.sizeOf286
 v22:=Tryz.zeroValue286
 t24:=Tryz.underlying299
 a24:=Tryz.isAgg299
 z24:=Tryz.sizeOf299
 v24:=Tryz.zeroValue299
 t25:=Tryz.underlying300
 a25:=Tryz.isAgg300
 z25:=Tryz.sizeOf300
 v25:=Tryz.zeroValue300
 t34:=Tryz.underlying331
 a34:=Tryz.isAgg331
 z34:=Tryz.sizeOf331
 v34:=Tryz.zeroValue331
 t36:=Tryz.underlying308
 a36:=Tryz.isAgg308
 z36:=Tryz.sizeOf308
 v36:=Tryz.zeroValue308
 t37:=Tryz.underlying239
 a37:=Tryz.isAgg239
 z37:=Tryz.sizeOf239
 v37:=Tryz.zeroValue239
 t39:=Tryz.underlying333
 a39:=Tryz.isAgg333
 z39:=Tryz.sizeOf333
 v39:=Tryz.zeroValue333
 t44:=Tryz.underlying351
 a44:=Tryz.isAgg351
 z44:=Tryz.sizeOf351
 v44:=Tryz.zeroValue351
 t47:=Tryz.underlying360
 a47:=Tryz.isAgg360
 z47:=Tryz.sizeOf360
 v47:=Tryz.zeroValue360
 t48:=Tryz.underlying361
 a48:=Tryz.isAgg361
 z48:=Tryz.sizeOf361
 v48:=Tryz.zeroValue361
 t50:=Tryz.underlying363
 a50:=Tryz.isAgg363
 z50:=Tryz.sizeOf363
 v50:=Tryz.zeroValue363
 t52:=Tryz.underlying368
 a52:=Tryz.isAgg368
 z52:=Tryz.sizeOf368
 v52:=Tryz.zeroValue368
 t55:=Tryz.underlying370
 a55:=Tryz.isAgg370
 z55:=Tryz.sizeOf370
 v55:=Tryz.zeroValue370
 t59:=Tryz.underlying373
 a59:=Tryz.isAgg373
 z59:=Tryz.sizeOf373
 v59:=Tryz.zeroValue373
 t60:=Tryz.underlying324
 a60:=Tryz.isAgg324
 z60:=Tryz.sizeOf324
 v60:=Tryz.zeroValue324
 t61:=Tryz.underlying374
 a61:=Tryz.isAgg374
 z61:=Tryz.sizeOf374
 t65:=Tryz.underlying375
 a65:=Tryz.isAgg375
 z65:=Tryz.sizeOf375
 v65:=Tryz.zeroValue375
 t66:=Tryz.underlying376
 a66:=Tryz.isAgg376
 z66:=Tryz.sizeOf376
 v66:=Tryz.zeroValue376
 t67:=Tryz.underlying348
 a67:=Tryz.isAgg348
 z67:=Tryz.sizeOf348
 v67:=Tryz.zeroValue348
 i0:=by kernel_rfl
 i2:=by kernel_rfl
 i3:=by kernel_rfl
 i4:=by kernel_rfl
 i5:=by kernel_rfl
 i9:=by kernel_rfl
 i20:=by kernel_rfl
 i21:=by kernel_rfl
 i22:=by kernel_rfl
 i24:=by kernel_rfl
 i25:=by kernel_rfl
 i34:=by kernel_rfl
 c34:=by kernel_rfl
 i36:=by kernel_rfl
 i37:=by kernel_rfl
 i39:=by kernel_rfl
 i44:=by kernel_rfl
 i47:=by kernel_rfl
 i48:=by kernel_rfl
 i50:=by kernel_rfl
 i52:=by kernel_rfl
 i55:=by kernel_rfl
 i59:=by kernel_rfl
 i60:=by kernel_rfl
 i65:=by kernel_rfl
 i66:=by kernel_rfl
 i67:=by kernel_rfl
 g0:=by kernel_rfl
 m0:=by kernel_rfl
 g1:=by kernel_rfl
 m1:=by kernel_rfl
 g2:=by kernel_rfl
 m2:=by kernel_rfl
 g3:=by kernel_rfl
 m3:=by kernel_rfl
 g4:=by kernel_rfl
 m4:=by kernel_rfl
def Zjz:Ren where
 f:=fun|145=>211|220=>261|219=>285|217=>295|225=>296|224=>297|267=>298|266=>318|314=>319|n=>n
 t:=fun|9=>9|4=>4|59=>188|3=>3|5=>5|46=>308|146=>329|51=>324|n=>n
 g:=fun|1=>5|n=>n
theorem Zwg:LaysM.n145 Tryz.prog Zjz where
 mixed:=by kernel_rfl
 f145:=Tryz.func211.trans (congrArg some (by kernel_rfl))
 f217:=Tryz.func295.trans (congrArg some (by kernel_rfl))
 f219:=Tryz.func285.trans (congrArg some (by kernel_rfl))
 f220:=Tryz.func261.trans (congrArg some (by kernel_rfl))
 f224:=Tryz.func297.trans (congrArg some (by kernel_rfl))
 f225:=Tryz.func296.trans (congrArg some (by kernel_rfl))
 f266:=Tryz.func318.trans (congrArg some (by kernel_rfl))
 f267:=Tryz.func298.trans (congrArg some (by kernel_rfl))
 f314:=Tryz.func319.trans (congrArg some (by kernel_rfl))
 t3:=Tryz.underlying3
 a3:=Tryz.isAgg3
 z3:=Tryz.sizeOf3
 v3:=Tryz.zeroValue3
 t4:=Tryz.underlying4
 a4:=Tryz.isAgg4
 z4:=Tryz.sizeOf4
 v4:=Tryz.zeroValue4
 t5:=Tryz.underlying5
 a5:=Tryz.isAgg5
 z5:=Tryz.sizeOf5
 v5:=Tryz.zeroValue5
 t9:=Tryz.underlying9
 a9:=Tryz.isAgg9
 z9:=Tryz.sizeOf9
 v9:=Tryz.zeroValue9
 t46:=Tryz.underlying308
 a46:=Tryz.isAgg308
 z46:=Tryz.sizeOf308
 v46:=Tryz.zeroValue308
 t51:=Tryz.underlying324
 a51:=Tryz.isAgg324
 z51:=Tryz.sizeOf324
 v51:=Tryz.zeroValue324
 t59:=Tryz.underlying188
 a59:=Tryz.isAgg188
 z59:=Tryz.sizeOf188
 v59:=Tryz.zeroValue188
 t146:=Tryz.underlying329
 a146:=Tryz.isAgg329
 z146:=Tryz.sizeOf329
 v146:=Tryz.zeroValue329
 g1:=by kernel_rfl
 i3:=by kernel_rfl
 i4:=by kernel_rfl
 i5:=by kernel_rfl
 i9:=by kernel_rfl
 i46:=by kernel_rfl
 i51:=by kernel_rfl
 i59:=by kernel_rfl
 i146:=by kernel_rfl
 m1:=by kernel_rfl
 s1_3:=fun w h=>cell_of_shapedOpen_int (zero := #[.int .i64 0]) h (by decide) (by kernel_rfl) rfl (by kernel_rfl) (by kernel_rfl) Tryz.underlying3
def ZqG:Ren where
 f:=fun|15=>213|20=>263|n=>n
 t:=fun|9=>9|23=>236|3=>3|4=>4|0=>0|21=>21|n=>n
 g:=fun n=>n
theorem Zzu:LaysGw.n15 Tryz.prog ZqG where
 mixed:=by kernel_rfl
 f15:=Tryz.func213.trans (congrArg some (by kernel_rfl))
 f20:=Tryz.func263.trans (congrArg some (by kernel_rfl))
 t0:=Tryz.underlying0
 a0:=Tryz.isAgg0
 z0:=Tryz.sizeOf0
 v0:=Tryz.zeroValue0
 t3:=Tryz.underlying3
 a3:=Tryz.isAgg3
 z3:=Tryz.sizeOf3
 v3:=Tryz.zeroValue3
 t4:=Tryz.underlying4
 a4:=Tryz.isAgg4
 z4:=Tryz.sizeOf4
 v4:=Tryz.zeroValue4
 t9:=Tryz.underlying9
 a9:=Tryz.isAgg9
 z9:=Tryz.sizeOf9
 v9:=Tryz.zeroValue9
 t21:=Tryz.underlying21
 a21:=Tryz.isAgg21
 z21:=Tryz.sizeOf21
 v21:=Tryz.zeroValue21
 t23:=Tryz.underlying236
 a23:=Tryz.isAgg236
 z23:=Tryz.sizeOf236
 v23:=Tryz.zeroValue236
 i0:=by kernel_rfl
 i3:=by kernel_rfl
 i4:=by kernel_rfl
 i9:=by kernel_rfl
 i21:=by kernel_rfl
 i23:=by kernel_rfl
theorem ZlI:Builder.Extra Tryz.prog ZhX where
 sizeBuilder:=by kernel_rfl
 liesBuilder:=by kernel_rfl
 t5:=Tryz.underlying5
 a5:=Tryz.isAgg5
 z5:=Tryz.sizeOf5
 v5:=Tryz.zeroValue5
 infoByte:=by kernel_rfl
 cellsByte:=by kernel_rfl
 sizeByte:=by kernel_rfl
 neB5:=by decide
end Go.Proofs.YtpipekfmecikmaaGreatDoor
namespace Go.Wk
open Go Go.RowKit
theorem Zpb (p:List UInt8):∀ (f acc:List UInt8),Zbg p f acc=if 0<=Lib.index f p then some (acc++f.take (Lib.index f p).toNat,f.drop ((Lib.index f p).toNat+p.length)) else none
 | [],acc=>by
  simp only[Zbg,Lib.index,List.isEmpty_iff]
  by_cases h:p=[]
  ·simp[h]
  ·rw[if_neg h,if_neg h];rfl
 | c::l,acc=>by
  by_cases h:p.isPrefixOf (c::l)=true
  ·simp[Zbg,Lib.index,h]
  ·have e0:Lib.index (c::l) p=if (Lib.index l p==-1)=true then -1 else Lib.index l p+1:=by rw[Lib.index,if_neg h]
   generalize hI:Lib.index (c::l) p=I at *
   subst e0
   rw[Zbg,if_neg h,Zpb p l]
   clear hI
   have hge:=Lib.index_ge l p
   by_cases h2:Lib.index l p = -1
   ·simp[h2]
   ·rw[if_pos (show 0<=Lib.index l p by omega)]
    have hb:(Lib.index l p==-1)=false:=by simpa using h2
    rw[hb]
    simp only[Bool.false_eq_true,if_false]
    rw[if_pos (show 0<=Lib.index l p+1 by omega)]
    have e:(Lib.index l p+1).toNat=(Lib.index l p).toNat+1:=by omega
    rw[e,show(Lib.index l p).toNat+1+p.length=((Lib.index l p).toNat+p.length)+1 by omega]
    simp
def cutV (f p:List UInt8):List UInt8 × List UInt8 × Bool:=match Zbg p f [] with|some (a,b)=>(a,b,true)|none=>(f,[],false)
theorem Zys (f p:List UInt8):Lib.cut f p=cutV f p:=by
 unfold Lib.cut cutV
 rw[Zpb]
 by_cases h:0<=Lib.index f p
 ·rw[if_pos h,if_pos h];rfl
 ·rw[if_neg h,if_neg h]
theorem Zl3 {p f acc a b:List UInt8}(h:Zbg p f acc=some (a,b)):a.length+b.length+p.length<=acc.length+f.length:=by
 induction f generalizing acc with
 | nil =>
  simp only[Zbg]at h
  split at h
  ·rename_i hp;simp only[Option.some.injEq,Prod.mk.injEq]at h;obtain⟨rfl,rfl⟩:=h;simp[hp]
  ·cases h
 | cons c l ih =>
  simp only[Zbg]at h
  split at h
  ·rename_i hp
   simp only[Option.some.injEq,Prod.mk.injEq]at h
   obtain⟨rfl,rfl⟩:=h
   have:=List.IsPrefix.length_le (List.isPrefixOf_iff_prefix.1 hp)
   rw[List.length_drop]
   omega
  ·have:=ih h
   simp only[List.length_append,List.length_cons,List.length_nil]at this ⊢
   omega
end Go.Wk
namespace Go.Proofs.YtpipekfmecikmaaGreatDoor
open Go Go.RowKit Go.Wk
attribute [local irreducible] W RL Does Zat Zaj retQ Calls Pu Stp RD Qy Ay Zak
end Go.Proofs.YtpipekfmecikmaaGreatDoor
namespace Go.Wk
open Go Go.RowKit
def Zdg (c:Int):Bool:=(decide (c<65)||decide (90<c))&&(decide (c<97)||decide (122<c))
end Go.Wk
namespace Go.Proofs.YtpipekfmecikmaaGreatDoor
open Go Go.RowKit Go.Wk
attribute [local irreducible] W RL Does Zat Zaj retQ Calls Pu Stp RD Qy Ay Zak
theorem Zf2 (s:ByteArray)(ok:Bool)(w:World):Does Tryz.prog 149 [.string s,.bool ok] w (fun v O=>v = .tuple #[.string (if ok then s else ByteArray.empty),.int .i64 (if ok then 0 else 15)]/\O=[]):=by
 rw[show ByteArray.empty=⟨#[]⟩ from rfl]
 refine Zaa Tryz.func149 rfl rfl rfl rfl ?_
 cases ok
 ·repeat' (first|refine walk ?_|(refine Zaf rfl (fun hc=>?_) (fun hc=>?_)))
  all_goals exact clo2
 ·repeat' (first|refine walk ?_|(refine Zaf rfl (fun hc=>?_) (fun hc=>?_)))
  all_goals exact clo2
end Go.Proofs.YtpipekfmecikmaaGreatDoor
namespace Go.Wk
open Go Go.RowKit Go.Lib
theorem Zii {P:Program}{f:FuncId}{args:List Value}{w:World}{v:Value}(h:Calls P f args.toArray w fun e w'=>e = .returned v/\Below w.heap.size w w'):Does P f args w fun v' O=>v'=v/\O=[] :=
 h.mono fun _ _ ⟨he,hb⟩=>⟨v,[],he,⟨hb⟩,ZaA.nil _ _,rfl,rfl⟩
theorem Zyy (B:Nat)(w:World)(n:Nat):Below B w (w.drewN n):=⟨rfl,rfl,rfl,Nat.le_refl _,fun _ _=>rfl⟩
theorem Zss (s:ByteArray):∀ (f pos:Nat),s.size<=pos+f->(idxFuncFrom (fun r=>Zdg (r:Int)) true s f pos<0↔Zb3 (s.data.toList.drop pos)=true)
 | 0,pos,h=>by
  rw[List.drop_eq_nil_of_le (by simpa using h)]
  simp[idxFuncFrom,Zb3]
 | f+1,pos,h=>by
  unfold idxFuncFrom
  by_cases hp:pos<s.size
  ·rw[if_pos hp]
   have hp':pos<s.data.toList.length:=by simpa using hp
   rw[List.drop_eq_getElem_cons hp',Zb3,List.all_cons]
   have hg:s.get! pos=s.data.toList[pos]:=by
    rw[Array.getElem_toList]
    show s.data[pos]! = _
    rw[getElem!_pos s.data pos (by simpa using hp')]
   have ih:=Zss s f (pos+1) (by omega)
   unfold Zb3 at ih
   have hd:(s.data.toList[pos].toNat<128/\Utf8.decode s pos=(s.data.toList[pos].toNat,1))\/(128<=s.data.toList[pos].toNat/\128<=(Utf8.decode s pos).1):=by
    unfold Utf8.decode
    simp only[Nat.add_zero,hg]
    generalize s.data.toList[pos].toNat=b
    by_cases hb:b<128
    ·exact .inl ⟨hb,by rw[if_pos hb]⟩
    ·refine .inr ⟨by omega,?_⟩
     rw[if_neg hb]
     repeat' split
     all_goals first|(simp only[Utf8.runeError];omega)|(dsimp only;omega)|(dsimp only;simp only[Bool.and_eq_true,decide_eq_true_eq,ge_iff_le]at *;omega)|decide
   generalize s.data.toList[pos]=b at *
   rcases hd with⟨hb,hd⟩|⟨hb,hd⟩
   ·rw[hd]
    dsimp only
    by_cases hl:Zdg (b.toNat:Int)=true
    ·rw[if_pos hl]
     have:decide (ZbE b.toNat=1)=false:=by
      unfold Zdg at hl
      simp only[Bool.and_eq_true,Bool.or_eq_true,decide_eq_true_eq]at hl
      unfold ZbE
      rw[if_neg (by omega)]
      repeat' split
      all_goals decide
     rw[this]
     simp
    ·rw[if_neg hl,ih]
     have:decide (ZbE b.toNat=1)=true:=by
      unfold Zdg at hl
      simp only[Bool.and_eq_true,Bool.or_eq_true,decide_eq_true_eq]at hl
      unfold ZbE
      rw[if_pos (by omega)]
      rfl
     rw[this,Bool.true_and]
   ·have hl:Zdg ((Utf8.decode s pos).1:Int)=true:=by
     unfold Zdg
     simp only[Bool.and_eq_true,Bool.or_eq_true,decide_eq_true_eq]
     omega
    rw[if_pos hl]
    have:decide (ZbE b.toNat=1)=false:=by
     unfold ZbE
     rw[if_neg (by omega)]
     repeat' split
     all_goals decide
    rw[this]
    simp
  ·rw[if_neg hp,List.drop_eq_nil_of_le (by simpa using hp)]
   simp[Zb3]
theorem Zlt:∀ (l:List UInt8),l.length<=2->(match numU l with|some n=>∃ u:Nat,parseUintB 8 l = .ok u/\n=u/\u<=99|none=>parseUintB 8 l = .syntax)
 | [],_=>rfl
 | [a],_=>by
  unfold numU parseUintB
  simp only[parseUintM,List.isEmpty_cons,Bool.false_eq_true,if_false,List.all_cons,List.all_nil,Bool.and_true,List.foldl_cons,List.foldl_nil,reduceCtorEq]
  by_cases h:48<=a/\a<=57
  ·have h1:48<=a.toNat/\a.toNat<=57:=⟨UInt8.le_iff_toNat_le.1 h.1,UInt8.le_iff_toNat_le.1 h.2⟩
   rw[if_pos (by simp[h.1,h.2]),if_pos h1]
   dsimp only
   refine⟨_,by rw[if_neg (by omega),if_neg (by omega)],by omega,by omega⟩
  ·have h1:¬ (48<=a.toNat/\a.toNat<=57):=fun hh=>h ⟨UInt8.le_iff_toNat_le.2 hh.1,UInt8.le_iff_toNat_le.2 hh.2⟩
   rw[if_neg (by simpa using h),if_neg h1]
 | [a,b],_=>by
  unfold numU parseUintB
  simp only[parseUintM,List.isEmpty_cons,Bool.false_eq_true,if_false,List.all_cons,List.all_nil,Bool.and_true,List.foldl_cons,List.foldl_nil,reduceCtorEq]
  by_cases h:48<=a/\a<=57
  ·have h1:48<=a.toNat/\a.toNat<=57:=⟨UInt8.le_iff_toNat_le.1 h.1,UInt8.le_iff_toNat_le.1 h.2⟩
   by_cases h':48<=b/\b<=57
   ·have h2:48<=b.toNat/\b.toNat<=57:=⟨UInt8.le_iff_toNat_le.1 h'.1,UInt8.le_iff_toNat_le.1 h'.2⟩
    rw[if_pos (by simp[h.1,h.2,h'.1,h'.2]),if_pos h1,if_neg (by omega),if_neg (by omega),if_pos h2]
    dsimp only
    refine⟨_,by rw[if_neg (by omega),if_neg (by omega)],by omega,by omega⟩
   ·have h2:¬ (48<=b.toNat/\b.toNat<=57):=fun hh=>h' ⟨UInt8.le_iff_toNat_le.2 hh.1,UInt8.le_iff_toNat_le.2 hh.2⟩
    rw[if_neg (by intro hh;simp only[Bool.and_eq_true,decide_eq_true_eq]at hh;exact h' hh.2),if_pos h1,if_neg (by omega),if_neg (by omega),if_neg h2]
  ·have h1:¬ (48<=a.toNat/\a.toNat<=57):=fun hh=>h ⟨UInt8.le_iff_toNat_le.2 hh.1,UInt8.le_iff_toNat_le.2 hh.2⟩
   rw[if_neg (by intro hh;simp only[Bool.and_eq_true,decide_eq_true_eq]at hh;exact h hh.1),if_neg h1]
 | _::_::_::_,h=>by simp only[List.length_cons]at h;omega
end Go.Wk
namespace Go.Proofs.YtpipekfmecikmaaGreatDoor
open Go Go.RowKit Go.Wk Go.Lib
structure LibW (w:World):Prop where
 mxl:∃ m,w.cell? ⟨Zjz.g 1,0,none⟩=some (.int .i64 m)
 syn:∃ ev,w.cell? ⟨ZhI.g 0,0,none⟩=some ev/\(ev = .nilIface\/∃ te pe,ev = .iface te pe)
theorem Zky (s p:ByteArray)(w:World)(hL:LibW w)(hs:s.size<4294967281) :
  Does Tryz.prog 211 [.string s,.string p] w (fun v O=>v = .tuple #[.string ⟨(cutV s.data.toList p.data.toList).1.toArray⟩,.string ⟨(cutV s.data.toList p.data.toList).2.1.toArray⟩,.bool (cutV s.data.toList p.data.toList).2.2]/\O=[]):=by
 obtain⟨m,hm⟩:=hL.mxl
 rw[<- Zys]
 exact Zii ((Any.strings_Cut { Zwg with } s p m w hs hm).mono fun e w' ⟨he,n,hw⟩=>⟨he,hw▸Zyy _ _ _⟩)
theorem ZrT (s p:ByteArray)(w:World):Does Tryz.prog 287 [.string s,.string p] w (fun v O=>v = .bool (p.data.toList.isPrefixOf s.data.toList)/\O=[]) :=
 Zii ((Any.strings_HasPrefix Zx8 s p w).mono fun e w' ⟨he,hw⟩=>⟨he,hw▸Below.refl _ _⟩)
theorem ZsW (c:Int)(w:World):Calls Tryz.prog 214 #[.int .i32 c] w fun e w'=>e = .returned (.bool (Zdg c))/\∃ q,w'=w.drewN q:=by
 go_enter Tryz.func214,Tryz.ntmps214
 go_wp2
 all_goals go_ret
 all_goals refine⟨congrArg Ending.returned (congrArg Value.bool (?_:_=Zdg c)),0,rfl⟩
 all_goals unfold Zdg
 all_goals first|rfl|(simp[*];done)|(simp_all;done)|(simp_all;omega)
theorem Zvk (s:ByteArray)(w:World):Does Tryz.prog 213 [.string s,.func (.func 214) #[] #[]] w (fun v O=>v = .int .i64 (idxFunc (fun r=>Zdg (r:Int)) true s)/\O=[]) :=
 Zii (Any.strings_IndexFunc_runes Zzu 214 #[] (enters_of Tryz.func214 (by kernel_rfl) rfl) (fun r=>Zdg (r:Int)) s w (fun W x _ _=>by unfold FnGives;simpa using ZsW x W))
theorem ZuZ (s:ByteArray)(w:World)(hL:LibW w)(hs:s.size<=2) :
  Does Tryz.prog 286 [.string s,.int .i64 10,.int .i64 8] w (fun v O=>(match numU s.data.toList with|some n=>v = .tuple #[.int .u64 n,.nilIface]/\0<=n/\n<=99|none=>∃ t p,v = .tuple #[.int .u64 0,.iface t (.pointer p)])/\O=[]):=by
 have h:=Zlt s.data.toList (by simpa using hs)
 cases hn:numU s.data.toList with
 | none =>
  rw[hn]at h
  obtain⟨ev,h1,h2⟩:=hL.syn
  exact(Any.strconv_ParseUint_10_at8_syntax Zzh s (by omega) h ev w h1 h2).mono fun e w' ⟨N,he,_,_,hb⟩=>⟨_,[],he,⟨hb⟩,ZaA.nil _ _,⟨_,_,rfl⟩,rfl⟩
 | some n =>
  rw[hn]at h
  obtain⟨u,h1,rfl,h3⟩:=h
  exact(Any.strconv_ParseUint_10_at8_ok Zzh s (by omega) u h1 w).mono fun e w' ⟨he,hb⟩=>⟨_,[],he,⟨by rcases hb with rfl|rfl;exact Below.refl _ _;exact Go.Joins.below_bytesWorld _ _ _ _ (Nat.le_refl _)⟩,ZaA.nil _ _,⟨rfl,by omega,by omega⟩,rfl⟩
end Go.Proofs.YtpipekfmecikmaaGreatDoor
namespace Go.Wk
open Go Go.RowKit
theorem Zzw (n:Int)(h0:0<=n)(h1:n<=99):(dig2 n).map ZnX=[.int .u8 (48+n / 10),.int .u8 (48+n % 10)]:=by
 have a:(UInt8.ofNat (48+(n / 10).toNat)).toNat=48+(n / 10).toNat:=by rw[UInt8.toNat_ofNat'];omega
 have b:(UInt8.ofNat (48+(n % 10).toNat)).toNat=48+(n % 10).toNat:=by rw[UInt8.toNat_ofNat'];omega
 simp only[dig2,List.map_cons,List.map_nil,ZnX,a,b]
 congr 2
 ·congr 1;omega
 ·congr 2;omega
def Zry (off:Int):UInt8:=if off<0 then 45 else 43
def Zrx (off:Int):Int:=if off<0 then 45 else 43
def ZrV (p q r:Int):Nat:=if r≠0 then 3 else if q≠0 then 2 else 1
theorem ZuM (off:Int)(h0 : -86400<off)(h1:off<86400)(x:Int)(hx:(if off<0 then -off else off)=x):ZaL off=Zry off::(([x / 3600,x / 60 % 60,x % 60].take (ZrV (x / 3600) (x / 60 % 60) (x % 60))).flatMap dig2):=by
 unfold ZaL
 rw[if_neg (by omega)]
 simp only[hx,Zry]
 congr 1
 unfold ZrV
 by_cases h2:x % 60=0
 ·by_cases h3:x / 60 % 60=0
  ·have:x % 3600=0:=by omega
   simp[h2,h3,this]
  ·have:¬ x % 3600=0:=by omega
   simp[h2,h3,this]
 ·have:¬ x % 3600=0:=by omega
  simp[h2,this]
section
variable {P:Program}{n:Nat}{wr:World}{fr:Fr}{O:List It}{ty:TypeId}
theorem ZiE {t len e sz:Nat}{ag:Bool}{ps:List (Nat × Operand)}{vs:List (Nat × Value)}{z cs cs':List Value}[hA:ArrT P t len e sz ag][hz:ZeroT P t z](hx:evpO fr ps=some vs)(hb:bld (ZdT len sz) z vs=some cs)(hn:Nf cs cs') :
  Pu P n wr fr O (.build t ps.toArray) ty (.agg cs'.toArray):=by
 rw[<- hn.eq]
 intro a w hs _ _ _ _
 have h:=hz.h
 unfold Ze8 at h
 split at h
 ·rename_i i hi
  split at h
  ·rename_i zv hzv
   simp only[Option.some.injEq]at h
   subst h
   have h:=hA.h
   unfold ZjM at h
   split at h
   ·rename_i len' e' hu
    split at h
    ·rename_i sz' ag' ht
     simp only[Option.some.injEq,Prod.mk.injEq]at h
     obtain⟨rfl,rfl,rfl,rfl⟩:=h
     obtain⟨inf,dd,hinf,hsz,_,_⟩:=Ty.parts ht
     have hf:=Zid sz' len' vs zv.cells.toList cs hb
     have hf':Instr.fill (fun i=>some (i*sz',sz')) zv.cells vs=some cs.toArray:=by simpa using hf
     have hps:(Array.map (fun(x:Nat × Operand)=>(x.1,a.eval x.2)) ps.toArray).toList=vs:=by simpa using hs.sim.evpO hx
     simp only[execOp,Instr.build,Sem.run_bind,zeroValue,ZaK hi,Result.andThen_ok,hzv,Sem.run_pure,run_underlying hu,sizeOf,ZaK hinf,hsz]
     rw[hps]
     simp[hf']
    ·cases h
   ·cases h
  ·cases h
 ·cases h
end
end Go.Wk
namespace Go.Proofs.YtpipekfmecikmaaGreatDoor
open Go Go.RowKit Go.Wk
attribute [local irreducible] W RL Does Zat Zaj retQ Calls Pu Stp RD Qy Ay Zak RW
structure TG where
 k:Nat
 A:Option Addr
 c:Nat
 xs:List Value
theorem Zw5 {G:Prop}(h:G:=by(apply Zew;rfl;rfl;exact hb)):G:=h
theorem Zw4 {G:Prop}(h:G:=by(first|exact Zw5|(apply Zb6;rfl;rfl;exact hb2))):G:=h
theorem Zw3 {G:Prop}(h:G:=by(first|(apply Zaw;rfl;rfl;rfl)|(apply Zbn;rfl;rfl;decide;decide)|(apply Zms;rfl;(focus repeat' constructor);rfl)|(apply Zan;rfl;rfl;exact b2))):G:=h
theorem Zw2 {G:Prop}(h:G:=by(first|(apply Zaw;rfl;rfl;rfl)|(apply Zbn;rfl;rfl;decide;decide)|(apply Zms;rfl;(focus repeat' constructor);rfl)|(apply Zan;rfl;rfl;exact b1))):G:=h
theorem Zd4 (off:Int)(w:World):Does Tryz.prog 152 [.int .i64 off] w (fun v O=>v = .string ⟨(ZaL off).toArray⟩/\O=[]):=by
 refine Zaa Tryz.func152 rfl rfl rfl rfl ?_
 repeat (first|(refine js ?_;(refine bx ?_;intro bk))|refine walk ?_)
 refine ZyJ (fun _ _ _=>Zvp) ?_
 by_cases hlo:off <= -86400
 ·have e:ZaL off=[]:=by unfold ZaL;rw[if_pos (.inl hlo)]
  rw[e]
  have hb:decide (off <= -86400)=true:=decide_eq_true hlo
  repeat (first|(apply RL_pu;rfl;exact Zw5)|(refine js ?_;(refine bx ?_;intro bk))|refine walk1 ?_)
  exact rtA
 have hb:decide (off <= -86400)=false:=decide_eq_false hlo
 by_cases hhi:86400<=off
 ·have e:ZaL off=[]:=by unfold ZaL;rw[if_pos (.inr hhi)]
  rw[e]
  have hb2:decide (86400<=off)=true:=decide_eq_true hhi
  repeat (first|(apply RL_pu;rfl;exact Zw4)|(refine js ?_;(refine bx ?_;intro bk))|refine walk1 ?_)
  exact rtA
 have hb2:decide (86400<=off)=false:=decide_eq_false hhi
 obtain⟨x,hx⟩:∃ x,(if off<0 then -off else off)=x:=⟨_,rfl⟩
 have hx0:0<=x/\x<86400:=by split at hx <;> omega
 have hsg:ZnX (Zry off) = .int .u8 (Zrx off):=by unfold ZnX Zry Zrx;split <;> rfl
 rw[ZuM off (by omega) (by omega) x hx]
 generalize Zry off=sb at hsg ⊢
 obtain⟨sg,hsg2⟩:∃ sg,Zrx off=sg:=⟨_,rfl⟩
 rw[hsg2]at hsg
 repeat (first|(apply RL_pu;rfl;exact Zw4)|(refine js ?_;(refine bx ?_;intro bk))|refine walk1 ?_)
 refine ZbZ (fun fr' O'=>Sub [(0,.int .i64 x),(3,.int .u8 sg)] fr') ?_ ?_
 ·refine Zaf rfl (fun hc=>?_) (fun hc=>?_)
  ·have hneg:=of_decide_eq_true hc
   rw[if_pos hneg]at hx
   subst hx
   obtain rfl:sg=45:=by rw[<- hsg2,Zrx,if_pos hneg]
   repeat (first|(apply RL_pu;rfl;(apply Zha;rfl;(constructor <;> omega)))|(refine js ?_;(refine bx ?_;intro bk))|refine walk1 ?_)
   exact⟨rfl,SFA⟩
  ·have hneg:=of_decide_eq_false hc
   rw[if_neg hneg]at hx
   subst hx
   obtain rfl:sg=43:=by rw[<- hsg2,Zrx,if_neg hneg]
   repeat (first|(refine js ?_;(refine bx ?_;intro bk))|refine walk ?_)
   exact⟨rfl,SFA⟩
 intro fr' O' hfr
 refine thenQ_n ?_
 refine ZcO hfr .nil ?_
 have hp0:0<=x / 3600/\x / 3600<=99:=by omega
 have hp1:0<=x / 60 % 60/\x / 60 % 60<=99:=by omega
 have hp2:0<=x % 60/\x % 60<=99:=by omega
 repeat (first|(apply RL_pu;rfl;(first|(apply Pu_quo64;rfl;rfl;omega;omega;decide)|(apply Pu_remE;rfl;rfl;omega;decide)|(apply ZiE;rfl;rfl;(focus repeat (first|exact Nf.nil|apply Nf.cons)))))|(refine js ?_;(refine bx ?_;intro bk))|refine walk1 ?_)
 generalize x / 3600=p at *
 generalize x / 60 % 60=q at *
 generalize x % 60=r at *
 refine ZyL (thenQ_n ?_)
 obtain⟨N,hN⟩:∃ N,ZrV p q r=N:=⟨_,rfl⟩
 have hN3:1<=N/\N<=3:=by rw[<- hN];unfold ZrV;split <;> (try split) <;> omega
 refine W_seq (ZbZ (fun fr' O'=>Sub [(3,.int .u8 sg),(4,.pointer (some ⟨bk,0,none⟩)),(5,.int .i64 N)] fr'/\SubO [.blk bk [.int .i64 p,.int .i64 q,.int .i64 r] 238] O') ?_ ?_)
 ·refine W_block (Zpn 3 (ZdO ?_))
  unfold ZrV at hN
  by_cases h2:r=0
  ·rw[if_neg (fun h=>h h2)]at hN
   have b2:decide (r=0)=true:=decide_eq_true h2
   repeat (first|(apply RL_pu;rfl;exact Zw3)|(refine js ?_;(refine bx ?_;intro bk))|refine walk1 ?_)
   refine ZdO ?_
   by_cases h1:q=0
   ·rw[if_neg (fun h=>h h1)]at hN
    subst hN
    have b1:decide (q=0)=true:=decide_eq_true h1
    repeat (first|(apply RL_pu;rfl;exact Zw2)|(refine js ?_;(refine bx ?_;intro bk))|refine walk1 ?_)
    refine ZdO ?_
    repeat (first|(apply RL_pu;rfl;(apply Zaw;rfl;rfl;rfl))|(refine js ?_;(refine bx ?_;intro bk))|refine walk1 ?_)
    exact⟨rfl,SFA,SOA⟩
   ·rw[if_pos h1]at hN
    subst hN
    have b1:decide (q=0)=false:=decide_eq_false h1
    repeat (first|(apply RL_pu;rfl;exact Zw2)|(refine js ?_;(refine bx ?_;intro bk))|refine walk1 ?_)
    exact⟨rfl,SFA,SOA⟩
  ·rw[if_pos h2]at hN
   subst hN
   have b2:decide (r=0)=false:=decide_eq_false h2
   repeat (first|(apply RL_pu;rfl;exact Zw3)|(refine js ?_;(refine bx ?_;intro bk))|refine walk1 ?_)
   exact⟨rfl,SFA,SOA⟩
 rintro fr2 O2 ⟨hf2,hO2⟩
 rw[hN]
 refine thenQ_n ?_
 refine ZcO hf2 hO2 ?_
 clear hf2 hO2 hfr fr2 O2
 obtain⟨b3,hb3⟩:∃ b3,bk=b3:=⟨_,rfl⟩
 rw[hb3]
 clear hb3 bk
 repeat (first|(apply RL_pu;rfl;(apply Zmq;rfl;rfl;omega;omega))|(refine js ?_;(refine bx ?_;intro bk))|refine walk1 ?_)
 refine Zs3 (b:=bk) (m:=1) 1 (by repeat' constructor) rfl (by decide) ?_
 obtain⟨ps,hps⟩:∃ ps,[p,q,r]=ps:=⟨_,rfl⟩
 have hpl:ps.length=3:=by rw[<- hps];rfl
 have hpb:∀ (k:Nat) (x:Int),ps[k]?=some x->0<=x/\x<=99:=by
  intro k x hk
  rw[<- hps]at hk
  match k,hk with
  | 0,hk=>simp only[List.getElem?_cons_zero,Option.some.injEq]at hk;omega
  | 1,hk=>simp only[List.getElem?_cons_succ,List.getElem?_cons_zero,Option.some.injEq]at hk;omega
  | 2,hk=>simp only[List.getElem?_cons_succ,List.getElem?_cons_zero,Option.some.injEq]at hk;omega
  | k+3,hk=>simp at hk
 have hpv:[Value.int .i64 p,.int .i64 q,.int .i64 r]=ps.map (Value.int .i64):=by rw[<- hps];rfl
 rw[hpv,hps]
 refine Zai [(40,.slice (some ⟨b3,0,none⟩) N 3),(41,.int .i64 N)] [.blk b3 (ps.map (Value.int .i64)) 238] (fun g:TG=>[(6,.slice g.A (1+2*g.k) g.c),(42,.int .i64 g.k)]) (fun g=>[.row (.slice g.A (1+2*g.k) g.c) 5 1 (1+2*g.k) g.xs])
  (fun g=>g.k<=N/\g.A≠none/\g.xs=(sb::(ps.take g.k).flatMap dig2).map ZnX) (fun g=>N - g.k) ⟨0,some ⟨bk,0,none⟩,1,[.int .u8 sg]⟩ SFA SOA ⟨Nat.zero_le _,by simp,by rw[<- hsg];rfl⟩ ?_
 rintro⟨k,A,c,xs⟩ ⟨hk,hA,hx⟩
 dsimp only at hk hA hx ⊢
 repeat (first|(refine js ?_;(refine bx ?_;intro bk))|refine walk ?_)
 refine Zaf rfl (fun hc=>?_) (fun hc=>?_)
 ·simp only[decide_eq_true_eq,Int.ofNat_lt]at hc
  have hk3:k<ps.length:=by omega
  have hget:=List.getElem?_eq_getElem hk3
  have hbd:=hpb k _ hget
  have htk:=List.take_append_getElem hk3
  generalize ps[k]=x at *
  have hgv:(ps.map (Value.int .i64))[k*1]?=some (.int .i64 x):=by rw[Nat.mul_one,List.getElem?_map,hget];rfl
  repeat (first|(apply RL_pu;rfl;(first|(apply Pu_indexAddr;rfl;rfl;omega;omega;simp)|(apply ZiD;rfl;(focus repeat' constructor);exact hgv)|(apply Pu_quo64;rfl;rfl;omega;omega;decide)|(apply Pu_remE;rfl;rfl;omega;decide)|(apply ZvP;rfl;omega;omega)|(apply Zy2;rfl;rfl;(constructor <;> omega))))|(refine js ?_;(first|(apply ZaT;rfl;rfl;(intro A' c';(focus repeat' constructor));(intro w' _ hO;exact Zcu (hO.of (by repeat' constructor)));rfl;rfl;(simp only[maxLen];omega);omega;intro A' c' hc1 hc2 hc3)|(refine bx ?_;intro bk)))|refine walk1 ?_)
  refine⟨⟨k+1,A',c',xs++[.int .u8 (48+x / 10),.int .u8 (48+x % 10)]⟩,OA,⟨OA,hc3 (by omega),?_⟩,SFA,SOA⟩
  dsimp only
  rw[<- htk,hx,<- Zzw x hbd.1 hbd.2]
  simp
 ·have hkN:k=N:=by simp only[decide_eq_false_iff_not,Int.ofNat_lt]at hc;omega
  subst hkN
  have hlen:1+2*k=(sb::(ps.take k).flatMap dig2).length:=by
   have:∀ l:List Int,(l.flatMap dig2).length=2*l.length:=fun l=>by
    induction l with
    | nil=>rfl
    | cons y l ih=>simp only[List.flatMap_cons,List.length_append,ih,List.length_cons,dig2,List.length_nil];omega
   rw[List.length_cons,this,List.length_take]
   omega
  repeat (first|(apply RL_pu;rfl;(apply Zmw;rfl;(focus repeat' constructor);exact hx;exact hlen;exact hA))|(refine js ?_;(refine bx ?_;intro bk))|refine walk1 ?_)
  exact rtA
end Go.Proofs.YtpipekfmecikmaaGreatDoor
namespace Go.Wk
open Go Go.RowKit
section
variable {P:Program}{n:Nat}{wr:World}{fr:Fr}{O:List It}{ty:TypeId}
theorem ZeQ {t:TypeId}{x y z:Operand}{s r:ByteArray}{k k':IntKind}{i j:Int}[hS:StringT P t](hx:ev fr x=some (.string s))(hy:ev fr y=some (.int k i))(hz:ev fr z=some (.int k' j))(h0:0<=i)(h1:i<=j)(h2:j<=s.size)(hr:s.extract i.toNat j.toNat=r) :
  Pu P n wr fr O (.slice t x (some y) (some z) none) ty (.string r):=fun a w hs _ _ _ _=>by
 have h:=run_slice_string (P:=P) w t s k k' i j hS.h h0 h1 h2
 rw[hr]at h
 simp[execOp,hs.sim.ev hx,hs.sim.ev hy,hs.sim.ev hz,Instr.sliceAt,run_underlying hS.h,h]
theorem ZgN {t len e:Nat}{x ix:Operand}{kk:IntKind}{i:Int}{cs:List Value}{v:Value}[hA:ArrT P t len e 1 false](hx:ev fr x=some (.agg cs.toArray))(hi:ev fr ix=some (.int kk i))(h0:0<=i)(h1:i<len)(hv:cs[i.toNat]?=some v) :
  Pu P n wr fr O (.index t x ix) ty v:=fun a w hs _ _ _ _=>by
 have h:=hA.h
 unfold ZjM at h
 split at h
 ·rename_i len' e' hu
  split at h
  ·rename_i sz' ag' ht
   simp only[Option.some.injEq,Prod.mk.injEq]at h
   obtain⟨rfl,rfl,rfl,rfl⟩:=h
   obtain⟨inf,dd,hinf,hsz,hag,_⟩:=Ty.parts ht
   have:Ty P e' 1 false:=⟨ht⟩
   simp only[execOp,hs.sim.ev hx,hs.sim.ev hi,Instr.index,asIntOf,Sem.run_bind,Sem.run_pure,Result.andThen_ok,run_underlying hu,h0,h1,and_self,if_true,part,Zdd,ZcA]
   simp[hv]
  ·cases h
 ·cases h
theorem ZjX {t t':TypeId}{x:Operand}{v:Value}{b:Bool}(hu:∃ ms,P.underlying t=some (.interface ms))(hx:ev fr x=some v)(hv:(v = .nilIface/\b=false)\/(b=true/\∃ te p,v = .iface te (.pointer p))):Pu P n wr fr O (.binOp .neq t x (.const .nilIface) t') ty (.bool b):=fun a w hs _ _ _ _=>by
 obtain⟨ms,hu⟩:=hu
 have hc:a.eval (.const .nilIface) = .nilIface:=rfl
 have h:(binOp .neq t v .nilIface).run P w = .ok (.bool b) w:=by
  have:∀ d,(Op.equalIn (d+1) t v .nilIface).run P w = .ok (!b) w:=fun d=>by
   rcases hv with⟨rfl,rfl⟩|⟨rfl,te,p,rfl⟩ <;> simp[Op.equalIn,run_underlying hu]
  have hb:binOp .neq t v .nilIface=(do pure (.bool (!(<- Op.equal t v .nilIface)))):=by rcases hv with⟨rfl,rfl⟩|⟨rfl,te,p,rfl⟩ <;> rfl
  rw[hb,show Op.equal t v .nilIface=Op.equalIn (9999+1) t v .nilIface from rfl]
  simp only[Sem.run_bind,this 9999,Result.andThen_ok,Sem.run_pure,Bool.not_not]
 have hg:(eqGuard .neq t x (.const .nilIface) v .nilIface).run P w = .ok () w:=by
  rcases hv with⟨rfl,rfl⟩|⟨rfl,te,p,rfl⟩ <;> simp[eqGuard]
 simp only[execOp,hs.sim.ev hx,hc,Sem.run_bind,hg,Result.andThen_ok,h,Sem.run_pure]
theorem ZtB {t t':TypeId}{x y:Operand}{i j m:Int}(hx:ev fr x=some (.int .i64 i))(hy:ev fr y=some (.int .i64 j))(hm:i*j=m)(h : -9223372036854775808<=m/\m<=9223372036854775807):Pu P n wr fr O (.binOp .mul t x y t') ty (.int .i64 m):=hm▸Zc0 hx hy (hm▸h)
theorem ZyK {c:Code}{Q:Exit->Fr->List It->Prop}{K':Fr->List It->Prop}(I:Fr->List It->Prop)(h1:W P n wr c (Zat I Q) fr O)(h2:∀ fr' O',I fr' O'->K' fr' O'):W P n wr c (Zat K' Q) fr O :=
 Zwh h1 fun e fr' O' h=>by
  cases e with
  | normal=>exact h2 fr' O' h
  | _=>exact h
end
theorem Zrq (s:ByteArray)(a:Nat):(s.extract a (min (a+2) s.size)).data.toList=(s.data.toList.drop a).take 2:=by
 rw[ByteArray.data_extract]
 have hsz:s.size=s.data.toList.length:=by simp
 rw[hsz]
 simp only[Array.toList_extract,List.extract_eq_take_drop]
 apply List.ext_getElem?
 intro i
 simp only[List.getElem?_take,List.getElem?_drop]
 by_cases h:i<2
 ·rw[if_pos h]
  by_cases h2:a+i<s.data.toList.length
  ·rw[if_pos (by omega)]
  ·rw[List.getElem?_eq_none (by omega)];simp
 ·rw[if_neg h,if_neg (by omega)]
end Go.Wk
namespace Go.Proofs.YtpipekfmecikmaaGreatDoor
open Go Go.RowKit Go.Wk
attribute [local irreducible] W RL Does Zat Zaj retQ Calls Pu Stp RD Qy Ay Zak RW
structure PG where
 k:Nat
 off:Int
def prV:Option Int->Value
 | none => .tuple #[.int .i64 0,.int .i64 5]
 | some o => .tuple #[.int .i64 o,.int .i64 0]
def us60:List Int:=[3600,60,1]
theorem ZxZ {k:Nat}{u:Int}(h:us60[k]?=some u):1<=u/\u<=3600:=by
 unfold us60 at h
 match k,h with
 | 0,h=>simp only[List.getElem?_cons_zero,Option.some.injEq]at h;omega
 | 1,h=>simp only[List.getElem?_cons_succ,List.getElem?_cons_zero,Option.some.injEq]at h;omega
 | 2,h=>simp only[List.getElem?_cons_succ,List.getElem?_cons_zero,Option.some.injEq]at h;omega
 | k+3,h=>simp at h
theorem Zyb (l:List UInt8)(h:l.length<=2){n:Int}(hn:numU l=some n):0<=n/\n<=99:=by
 have:=Zlt l h
 rw[hn]at this
 obtain⟨u,_,rfl,h3⟩:=this
 omega
theorem Zt7 {G:Prop}(h:G:=by(first|(apply Zaz;rfl;rfl;exact hb3)|(apply ZgN;rfl;rfl;omega;omega;exact huv)|(apply Zc0;rfl;rfl;(constructor <;> omega))|(apply Zb6;rfl;rfl;exact hbg))):G:=h
theorem Zt6 {G:Prop}(h:G:=by(apply ZbX;rfl;rfl;exact hb)):G:=h
theorem Zt5 {G:Prop}(h:G:=by(first|exact Zt6|(apply Zcc;rfl;rfl;exact hb2))):G:=h
theorem Zqw (s:ByteArray)(w:World)(hL:∀ w',Bel w.heap.size w w'->LibW w')(hs:s.size<=1000000000000) :
  Does Tryz.prog 262 [.string s] w (fun v O=>v=prV (ZaY s.data.toList)/\O=[]):=by
 have hpre:=fun w'=>ZrT s ⟨#[45]⟩ w'
 have hsl:s.size=s.data.toList.length:=by simp
 have hemp:s=ByteArray.empty↔s.data.toList=[]:=⟨fun h=>by rw[h];rfl,fun h=>by
  apply ByteArray.ext
  rw[<- Array.toArray_toList (xs:=s.data),h]
  rfl⟩
 have hp0:([45]:List UInt8).isPrefixOf s.data.toList=decide (s.data.toList.head?=some 45):=by
  cases s.data.toList with
  | nil=>rfl
  | cons c l =>
   by_cases h:c=45
   ·subst h;simp
   ·rw[List.isPrefixOf,show((45:UInt8)==c)=false from beq_false_of_ne fun e=>h e.symm];simp[h]
 rw[show(⟨#[45]⟩:ByteArray).data.toList=[45] from rfl,hp0]at hpre
 obtain⟨r0,hr0⟩:∃ r0,ZcG s.data.toList [3600,60,1] 0 0=r0:=⟨_,rfl⟩
 unfold ZaY
 rw[hr0]
 refine Zaa Tryz.func262 rfl rfl rfl rfl ?_
 repeat (first|(apply RL_pu;rfl;(apply ZiE;rfl;rfl;(focus repeat (first|exact Nf.nil|apply Nf.cons))))|refine walkB1 ?_)
 refine ZyK (fun fr' O'=>∃ o:Int,r0=some o/\(0<=o/\o<=1200000)/\Sub [(0,.string s),(4,.int .i64 o)] fr') ?_ ?_
 ·apply W_block
  refine Zai [(0,.string s),(9,.agg (us60.map (Value.int .i64)).toArray)] [] (fun g:PG=>[(4,.int .i64 g.off),(10,.int .i64 g.k)]) (fun _=>[]) (fun g=>g.k<=3/\(0<=g.off/\g.off<=400000*g.k)/\ZcG s.data.toList (us60.drop g.k) g.k g.off=r0) (fun g=>3 - g.k) ⟨0,0⟩ SFA .nil ⟨Nat.zero_le _,⟨Int.le_refl _,Int.le_refl _⟩,hr0⟩ ?_
  rintro⟨k,off⟩ ⟨hk,ho,hi⟩
  dsimp only at hk ho hi ⊢
  by_cases hk3:k<3
  ·have hb3:decide ((k:Int)<3)=true:=decide_eq_true (by omega)
   have hku:k<us60.length:=hk3
   have hu:=List.getElem?_eq_getElem hku
   rw[Zag hku,ZcG]at hi
   generalize us60[k]=u at *
   have hub:=ZxZ hu
   have huv:(us60.map (Value.int .i64))[k]?=some (.int .i64 u):=by rw[List.getElem?_map,hu];rfl
   by_cases hge:s.data.toList.length<=1+2*k
   ·rw[if_pos hge]at hi
    have hbg:decide ((s.size:Int)<=1+2*k)=true:=decide_eq_true (by omega)
    repeat (first|(apply RL_pu;rfl;exact Zt7)|refine walk1 ?_)
    exact⟨off,hi.symm,⟨ho.1,OA⟩,SFA⟩
   ·rw[if_neg hge]at hi
    have hbg:decide ((s.size:Int)<=1+2*k)=false:=decide_eq_false (by omega)
    obtain⟨r,hr⟩:∃ r,s.extract (1+2*k) (min (1+2*k+2) s.size)=r:=⟨_,rfl⟩
    have hrl:r.data.toList=(s.data.toList.drop (1+2*k)).take 2:=by rw[<- hr];exact Zrq s _
    have hrs:r.size<=2:=by
     have:r.size=r.data.toList.length:=by simp
     rw[this,hrl,List.length_take]
     omega
    have hpu:=fun w' (hw:Bel w.heap.size w w')=>ZuZ r w' (hL w' hw) hrs
    rw[hrl]at hpu
    have hmn:(if (s.size:Int)<3+2*k then (s.size:Int) else 3+2*k)=((min (1+2*k+2) s.size:Nat):Int):=by split <;> omega
    have hex:s.extract (1+2*(k:Int)).toNat ((min (1+2*k+2) s.size:Nat):Int).toNat=r:=by
     rw[<- hr]
     congr 1
    have hm1:1+2*(k:Int)<=((min (1+2*k+2) s.size:Nat):Int):=by omega
    have hm2:((min (1+2*k+2) s.size:Nat):Int)<=s.size:=by omega
    generalize min (1+2*k+2) s.size=mm at *
    cases hn:numU ((s.data.toList.drop (1+2*k)).take 2) with
    | none =>
     rw[hn]at hi hpu
     dsimp only at hi hpu
     subst hi
     repeat (first|(apply RL_pu;rfl;(first|exact Zt7|(apply Zgp;rfl;rfl;exact hmn)|(apply ZeQ;rfl;rfl;rfl;omega;exact hm1;exact hm2;exact hex)|(apply ZjX;exact⟨_,Tryz.underlying299⟩;rfl;exact .inr ⟨rfl,_,_,rfl⟩)))|(refine js ?_;(apply Zae (h:=fun w' hw _=>hpu w' hw);rfl;rintro v O' ⟨⟨tt,pp,rfl⟩,rfl⟩))|refine walk1 ?_)
     exact rtB
    | some n =>
     rw[hn]at hi hpu
     dsimp only at hi hpu
     have hnb:0<=n/\n<=99:=Zyb _ (List.length_take_le _ _) hn
     ·have h1:0<=n*u:=Int.mul_nonneg hnb.1 (by omega)
      have h2:n*u<=99*3600:=Int.mul_le_mul hnb.2 hub.2 (by omega) (by omega)
      have hmul : -9223372036854775808<=n*u/\n*u<=9223372036854775807:=by omega
      generalize hnu:n*u=m at *
      repeat (first|(apply RL_pu;rfl;(first|(apply Zaz;rfl;rfl;exact hb3)|(apply ZgN;rfl;rfl;omega;omega;exact huv)|(apply ZtB;rfl;rfl;exact hnu;exact hmul)|(apply Zc0;rfl;rfl;(constructor <;> omega))|(apply Zb6;rfl;rfl;exact hbg)|(apply Zgp;rfl;rfl;exact hmn)|(apply ZeQ;rfl;rfl;rfl;omega;exact hm1;exact hm2;exact hex)|(apply ZjX;exact⟨_,Tryz.underlying299⟩;rfl;exact .inl ⟨rfl,rfl⟩)))|(refine js ?_;(apply Zae (h:=fun w' hw _=>hpu w' hw);rfl;rintro v O' ⟨⟨rfl,_,_⟩,rfl⟩))|refine walk1 ?_)
      exact⟨⟨k+1,off+m⟩,OA,⟨OA,⟨by dsimp only;omega,by dsimp only;omega⟩,hi⟩,SFA,.nil⟩
  ·obtain rfl:k=3:=by omega
   have hb3:decide (((3:Nat):Int)<3)=false:=by decide
   rw[show us60.drop 3=[] from rfl,ZcG]at hi
   repeat (first|(apply RL_pu;rfl;(apply Zaz;rfl;rfl;exact hb3))|refine walk1 ?_)
   exact⟨off,hi.symm,⟨ho.1,OA⟩,SFA⟩
 rintro fr' O' ⟨o,rfl,ho,hfr⟩
 refine ZcO hfr .nil ?_
 clear hfr fr' O' hr0
 dsimp only
 obtain⟨o2,ho2⟩:∃ o2,(if s.data.toList.head?=some 45 then -o else o)=o2:=⟨_,rfl⟩
 rw[ho2]
 refine W_seq ?_
 refine ZyK (fun fr' O'=>Sub [(0,.string s),(4,.int .i64 o2)] fr') ?_ ?_
 ·by_cases hm:s.data.toList.head?=some 45
  ·rw[if_pos hm]at ho2
   subst ho2
   rw[decide_eq_true hm]at hpre
   repeat (first|(apply RL_pu;rfl;(apply Zha;rfl;(constructor <;> omega)))|(refine js ?_;(refine Zab (fun w' hw=>hpre w') ?_))|refine walk1 ?_)
   exact SFA
  ·rw[if_neg hm]at ho2
   subst ho2
   rw[decide_eq_false hm]at hpre
   repeat (first|(refine js ?_;(refine Zab (fun w' hw=>hpre w') ?_))|refine walk ?_)
   exact SFA
 intro fr' O' hfr
 refine ZcO hfr .nil ?_
 clear hfr fr' O' ho2
 have htx:=fun w'=>Zd4 o2 w'
 by_cases hE:s.data.toList=[]
 ·have hb:decide (s=ByteArray.empty)=true:=decide_eq_true (hemp.2 hE)
  rw[if_pos (.inl (by rw[hE];rfl))]
  repeat (first|(apply RL_pu;rfl;exact Zt6)|refine walk1 ?_)
  exact rtB
 ·have hb:decide (s=ByteArray.empty)=false:=decide_eq_false (fun h=>hE (hemp.1 h))
  by_cases ht:ZaL o2=s.data.toList
  ·have hb2:(!decide ((⟨(ZaL o2).toArray⟩:ByteArray)=s))=false:=by
    rw[decide_eq_true (by rw[ht])];rfl
   rw[if_neg (by rintro(h|h);exact hE (List.isEmpty_iff.1 h);exact h ht)]
   repeat (first|(apply RL_pu;rfl;exact Zt5)|(refine js ?_;(refine Zab (fun w' hw=>htx w') ?_))|refine walk1 ?_)
   exact rtB
  ·have hb2:(!decide ((⟨(ZaL o2).toArray⟩:ByteArray)=s))=true:=by
    rw[decide_eq_false (fun h=>ht (by rw[<- h]))];rfl
   rw[if_pos (.inr ht)]
   repeat (first|(apply RL_pu;rfl;exact Zt5)|(refine js ?_;(refine Zab (fun w' hw=>htx w') ?_))|refine walk1 ?_)
   exact rtB
end Go.Proofs.YtpipekfmecikmaaGreatDoor
