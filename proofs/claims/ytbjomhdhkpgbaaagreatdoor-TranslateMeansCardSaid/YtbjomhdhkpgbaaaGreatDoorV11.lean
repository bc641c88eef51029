/- Parts of the proof. -/
import Derived.Shelf.Lay
import Derived.Shelf.Strings.OnBuilder
import Derived.Shelf.Strings.Prefix
import Derived.Shelf.Strings.Shaped
import Derived.Shelf.Strings.Cut
import Derived.Shelf.Pu.ParseUintPublic10
import Derived.Shelf.GgClosure.StringsRunes
import Derived.Test.YtbjomhdhkpgbaaaGreatDoorV05
import Derived.Lib.CutLaws
import Derived.Test.YtbjomhdhkpgbaaaGreatDoorV06
import Derived.Test.YtbjomhdhkpgbaaaGreatDoorV08
import Derived.Test.YtbjomhdhkpgbaaaGreatDoorV09
set_option maxHeartbeats 4000000
set_option linter.unusedVariables false
set_option linter.unusedSimpArgs false
namespace Go.Proofs.YtbjomhdhkpgbaaaGreatDoor
open Go.Shelf Go.RowKit Go.Lib
def Zjd:Ren where
 f:=fun|156=>246|165=>274|166=>275|169=>276|240=>281|241=>282|276=>284|277=>285|n=>n
 t:=fun|31=>30|9=>9|3=>3|4=>4|0=>0|20=>20|72=>354|76=>356|70=>352|37=>24|75=>271|127=>369|164=>374|5=>5|80=>358|n=>n
 g:=fun n=>n
theorem Zvl:Lays.n156 Tryz.prog Zjd where
 mixed:=by kernel_rfl
 f156:=Tryz.func246.trans (congrArg some (by kernel_rfl))
 f165:=Tryz.func274.trans (congrArg some (by kernel_rfl))
 f166:=Tryz.func275.trans (congrArg some (by kernel_rfl))
 f169:=Tryz.func276.trans (congrArg some (by kernel_rfl))
 f240:=Tryz.func281.trans (congrArg some (by kernel_rfl))
 f241:=Tryz.func282.trans (congrArg some (by kernel_rfl))
 f276:=Tryz.func284.trans (congrArg some (by kernel_rfl))
 f277:=Tryz.func285.trans (congrArg some (by kernel_rfl))
 t0:=Tryz.underlying0
 a0:=Tryz.isAgg0
 z0:=Tryz.sizeOf0
 v0:=Tryz.zeroValue0
 t3:=Tryz.underlying3
 a3:=Tryz.isAgg3
 z3:=Tryz.sizeOf3
 v3:=Tryz.zeroValue3
 t4:=Tryz.underlying4
 a4:=Tryz.isAgg4
 z4:=Tryz.sizeOf4
 v4:=Tryz.zeroValue4
 t9:=Tryz.underlying9
 a9:=Tryz.isAgg9
 z9:=Tryz.sizeOf9
 v9:=Tryz.zeroValue9
 t20:=Tryz.underlying20
 a20:=Tryz.isAgg20
 z20:=Tryz.sizeOf20
 v20:=Tryz.zeroValue20
 t31:=Tryz.underlying30
 a31:=Tryz.isAgg30
 z31:=Tryz.sizeOf30
 v31:=Tryz.zeroValue30
 t37:=Tryz.underlying24
 a37:=Tryz.isAgg24
 z37:=Tryz.sizeOf24
 v37:=Tryz.zeroValue24
 t70:=Tryz.underlying352
 a70:=Tryz.isAgg352
 z70:=Tryz.sizeOf352
 v70:=Tryz.zeroValue352
 t72:=Tryz.underlying354
 a72:=Tryz.isAgg354
 z72:=Tryz.sizeOf354
 v72:=Tryz.zeroValue354
 t75:=Tryz.underlying271
 a75:=Tryz.isAgg271
 z75:=Tryz.sizeOf271
 v75:=Tryz.zeroValue271
 t76:=Tryz.underlying356
 a76:=Tryz.isAgg356
 z76:=Tryz.sizeOf356
 v76:=Tryz.zeroValue356
 t127:=Tryz.underlying369
 a127:=Tryz.isAgg369
 z127:=Tryz.sizeOf369
 v127:=Tryz.zeroValue369
 t164:=Tryz.underlying374
 a164:=Tryz.isAgg374
 z164:=Tryz.sizeOf374
 v164:=Tryz.zeroValue374
def Zpj:Ren where
 f:=fun|99=>184|206=>219|n=>n
 t:=fun|9=>9|4=>4|3=>3|n=>n
 g:=fun n=>n
theorem ZAS:Lays.n99 Tryz.prog Zpj where
 mixed:=by kernel_rfl
 f99:=Tryz.func184.trans (congrArg some (by kernel_rfl))
 f206:=Tryz.func219.trans (congrArg some (by kernel_rfl))
 t3:=Tryz.underlying3
 a3:=Tryz.isAgg3
 z3:=Tryz.sizeOf3
 v3:=Tryz.zeroValue3
 t4:=Tryz.underlying4
 a4:=Tryz.isAgg4
 z4:=Tryz.sizeOf4
 v4:=Tryz.zeroValue4
 t9:=Tryz.underlying9
 a9:=Tryz.isAgg9
 z9:=Tryz.sizeOf9
 v9:=Tryz.zeroValue9
def ZiY:Ren where
 f:=fun|14=>183|16=>217|17=>218|19=>253|20=>254|21=>255|22=>256|23=>257|24=>258|25=>277|27=>25|26=>278|28=>47|29=>83|30=>118|31=>119|32=>120|33=>121|35=>158|34=>163|36=>164|37=>165|38=>166|39=>198|40=>199|n=>n
 t:=fun|9=>9|3=>3|22=>71|24=>271|25=>272|4=>4|34=>337|5=>5|36=>186|37=>24|0=>0|39=>339|21=>21|44=>360|47=>369|50=>372|48=>370|2=>2|52=>199|55=>202|59=>252|60=>244|20=>20|61=>253|65=>319|66=>320|67=>358|n=>n
 g:=fun|0=>9|1=>10|2=>3|3=>6|4=>7|n=>n
theorem ZCg:LaysPu.n14 Tryz.prog ZiY where
 mixed:=by kernel_rfl
 f14:=Tryz.func183.trans (congrArg some (by kernel_rfl))
 f16:=Tryz.func217.trans (congrArg some (by kernel_rfl))
 f17:=Tryz.func218.trans (congrArg some (by kernel_rfl))
 f19:=Tryz.func253.trans (congrArg some (by kernel_rfl))
 f20:=Tryz.func254.trans (congrArg some (by kernel_rfl))
 f21:=Tryz.func255.trans (congrArg some (by kernel_rfl))
 f22:=Tryz.func256.trans (congrArg some (by kernel_rfl))
 f23:=Tryz.func257.trans (congrArg some (by kernel_rfl))
 f24:=Tryz.func258.trans (congrArg some (by kernel_rfl))
 f25:=Tryz.func277.trans (congrArg some (by kernel_rfl))
 f26:=Tryz.func278.trans (congrArg some (by kernel_rfl))
 f27:=Tryz.func25.trans (congrArg some (by kernel_rfl))
 f28:=Tryz.func47.trans (congrArg some (by kernel_rfl))
 f29:=Tryz.func83.trans (congrArg some (by kernel_rfl))
 f30:=Tryz.func118.trans (congrArg some (by kernel_rfl))
 f31:=Tryz.func119.trans (congrArg some (by kernel_rfl))
 f32:=Tryz.func120.trans (congrArg some (by kernel_rfl))
 f33:=Tryz.func121.trans (congrArg some (by kernel_rfl))
 f34:=Tryz.func163.trans (congrArg some (by kernel_rfl))
 f35:=Tryz.func158.trans (congrArg some (by kernel_rfl))
 f36:=Tryz.func164.trans (congrArg some (by kernel_rfl))
 f37:=Tryz.func165.trans (congrArg some (by kernel_rfl))
 f38:=Tryz.func166.trans (congrArg some (by kernel_rfl))
 f39:=Tryz.func198.trans (congrArg some (by kernel_rfl))
 f40:=Tryz.func199.trans (congrArg some (by kernel_rfl))
 t0:=Tryz.underlying0
 a0:=Tryz.isAgg0
 z0:=Tryz.sizeOf0
 v0:=Tryz.zeroValue0
 t2:=Tryz.underlying2
 a2:=Tryz.isAgg2
 z2:=Tryz.sizeOf2
 v2:=Tryz.zeroValue2
 t3:=Tryz.underlying3
 a3:=Tryz.isAgg3
 z3:=Tryz.sizeOf3
 v3:=Tryz.zeroValue3
 t4:=Tryz.underlying4
 a4:=Tryz.isAgg4
 z4:=Tryz.sizeOf4
 v4:=Tryz.zeroValue4
 t5:=Tryz.underlying5
 a5:=Tryz.isAgg5
 z5:=Tryz.sizeOf5
 v5:=Tryz.zeroValue5
 t9:=Tryz.underlying9
 a9:=Tryz.isAgg9
 z9:=Tryz.sizeOf9
 v9:=Tryz.zeroValue9
 t20:=Tryz.underlying20
 a20:=Tryz.isAgg20
 z20:=Tryz.sizeOf20
 v20:=Tryz.zeroValue20
 t21:=Tryz.underlying21
 a21:=Tryz.isAgg21
 z21:=Tryz.sizeOf21
 v21:=Tryz.zeroValue21
 t22:=Tryz.underlying71
 a22:=Tryz.isAgg71
 z22:=Tryz.sizeOf71
 v22:=Tryz.zeroValue71
 t24:=Tryz.underlying271
 a24:=Tryz.isAgg271
 z24:=Tryz.sizeOf271
 v24:=Tryz.zeroValue271
 t25:=Tryz.underlying272
 a25:=Tryz.isAgg272
 z25:=Tryz.sizeOf272
 v25:=Tryz.zeroValue272
 t34:=Tryz.underlying337
 a34:=Tryz.isAgg337
 z34:=Tryz.sizeOf337
 v34:=Tryz.zeroValue337
 t36:=Tryz.underlying186
 a36:=Tryz.isAgg186
 z36:=Tryz.sizeOf186
 v36:=Tryz.zeroValue186
 t37:=Tryz.underlying24
 a37:=Tryz.isAgg24
 z37:=Tryz.sizeOf24
 v37:=Tryz.zeroValue24
 t39:=Tryz.underlying339
 a39:=Tryz.isAgg339
 z39:=Tryz.sizeOf339
 v39:=Tryz.zeroValue339
 t44:=Tryz.underlying360
 a44:=Tryz.isAgg360
 z44:=Tryz.sizeOf360
 v44:=Tryz.zeroValue360
 t47:=Tryz.underlying369
 a47:=Tryz.isAgg369
 z47:=Tryz.sizeOf369
 v47:=Tryz.zeroValue369
 t48:=Tryz.underlying370
 a48:=Tryz.isAgg370
 z48:=Tryz.sizeOf370
 v48:=Tryz.zeroValue370
 t50:=Tryz.underlying372
 a50:=Tryz.isAgg372
 z50:=Tryz.sizeOf372
 v50:=Tryz.zeroValue372
 t52:=Tryz.underlying199
 a52:=Tryz.isAgg199
 z52:=Tryz.sizeOf199
 v52:=Tryz.zeroValue199
 t55:=Tryz.underlying202
 a55:=Tryz.isAgg202
 z55:=Tryz.sizeOf202
 v55:=Tryz.zeroValue202
 t59:=Tryz.underlying252
 a59:=Tryz.isAgg252
 z59:=Tryz.sizeOf252
 v59:=Tryz.zeroValue252
 t60:=Tryz.underlying244
 a60:=Tryz.isAgg244
 z60:=Tryz.sizeOf244
 v60:=Tryz.zeroValue244
 t61:=Tryz.underlying253
 a61:=Tryz.isAgg253
 z61:=Tryz.sizeOf253
 t65:=Tryz.underlying319
 a65:=Tryz.isAgg319
 z65:=Tryz.sizeOf319
 v65:=Tryz.zeroValue319
 t66:=Tryz.underlying320
 a66:=Tryz.isAgg320
 z66:=Tryz.sizeOf320
 v66:=Tryz.zeroValue320
 t67:=Tryz.underlying358
 a67:=Tryz.isAgg358
 z67:=Tryz.sizeOf358
 v67:=Tryz.zeroValue358
 i0:=by kernel_rfl
 i2:=by kernel_rfl
 i3:=by kernel_rfl
 i4:=by kernel_rfl
 i5:=by kernel_rfl
 i9:=by kernel_rfl
 i20:=by kernel_rfl
 i21:=by kernel_rfl
 i22:=by kernel_rfl
 i24:=by kernel_rfl
 i25:=by kernel_rfl
 i34:=by kernel_rfl
 c34:=by kernel_rfl
 i36:=by kernel_rfl
 i37:=by kernel_rfl
 i39:=by kernel_rfl
 i44:=by kernel_rfl
 i47:=by kernel_rfl
 i48:=by kernel_rfl
 i50:=by kernel_rfl
 i52:=by kernel_rfl
 i55:=by kernel_rfl
 i59:=by kernel_rfl
 i60:=by kernel_rfl
 i65:=by kernel_rfl
 i66:=by kernel_rfl
 i67:=by kernel_rfl
 g0:=by kernel_rfl
 m0:=by kernel_rfl
 g1:=by kernel_rfl
 m1:=by kernel_rfl
 g2:=by kernel_rfl
 m2:=by kernel_rfl
 g3:=by kernel_rfl
 m3:=by kernel_rfl
 g4:=by kernel_rfl
 m4:=by kernel_rfl
def Zk6:Ren where
 f:=fun|145=>98|220=>140|219=>181|217=>213|225=>214|224=>215|267=>216|266=>251|314=>252|n=>n
 t:=fun|9=>9|4=>4|59=>180|3=>3|5=>5|46=>186|146=>335|51=>244|n=>n
 g:=fun|1=>5|n=>n
theorem ZzD:LaysM.n145 Tryz.prog Zk6 where
 mixed:=by kernel_rfl
 f145:=Tryz.func98.trans (congrArg some (by kernel_rfl))
 f217:=Tryz.func213.trans (congrArg some (by kernel_rfl))
 f219:=Tryz.func181.trans (congrArg some (by kernel_rfl))
 f220:=Tryz.func140.trans (congrArg some (by kernel_rfl))
 f224:=Tryz.func215.trans (congrArg some (by kernel_rfl))
 f225:=Tryz.func214.trans (congrArg some (by kernel_rfl))
 f266:=Tryz.func251.trans (congrArg some (by kernel_rfl))
 f267:=Tryz.func216.trans (congrArg some (by kernel_rfl))
 f314:=Tryz.func252.trans (congrArg some (by kernel_rfl))
 t3:=Tryz.underlying3
 a3:=Tryz.isAgg3
 z3:=Tryz.sizeOf3
 v3:=Tryz.zeroValue3
 t4:=Tryz.underlying4
 a4:=Tryz.isAgg4
 z4:=Tryz.sizeOf4
 v4:=Tryz.zeroValue4
 t5:=Tryz.underlying5
 a5:=Tryz.isAgg5
 z5:=Tryz.sizeOf5
 v5:=Tryz.zeroValue5
 t9:=Tryz.underlying9
 a9:=Tryz.isAgg9
 z9:=Tryz.sizeOf9
 v9:=Tryz.zeroValue9
 t46:=Tryz.underlying186
 a46:=Tryz.isAgg186
 z46:=Tryz.sizeOf186
 v46:=Tryz.zeroValue186
 t51:=Tryz.underlying244
 a51:=Tryz.isAgg244
 z51:=Tryz.sizeOf244
 v51:=Tryz.zeroValue244
 t59:=Tryz.underlying180
 a59:=Tryz.isAgg180
 z59:=Tryz.sizeOf180
 v59:=Tryz.zeroValue180
 t146:=Tryz.underlying335
 a146:=Tryz.isAgg335
 z146:=Tryz.sizeOf335
 v146:=Tryz.zeroValue335
 g1:=by kernel_rfl
 i3:=by kernel_rfl
 i4:=by kernel_rfl
 i5:=by kernel_rfl
 i9:=by kernel_rfl
 i46:=by kernel_rfl
 i51:=by kernel_rfl
 i59:=by kernel_rfl
 i146:=by kernel_rfl
 m1:=by kernel_rfl
 s1_3:=fun w h=>cell_of_shapedOpen_int (zero := #[.int .i64 0]) h (by decide) (by kernel_rfl) rfl (by kernel_rfl) (by kernel_rfl) Tryz.underlying3
def ZsX:Ren where
 f:=fun|15=>141|20=>182|n=>n
 t:=fun|9=>9|23=>229|3=>3|4=>4|0=>0|21=>21|n=>n
 g:=fun n=>n
theorem ZCv:LaysGw.n15 Tryz.prog ZsX where
 mixed:=by kernel_rfl
 f15:=Tryz.func141.trans (congrArg some (by kernel_rfl))
 f20:=Tryz.func182.trans (congrArg some (by kernel_rfl))
 t0:=Tryz.underlying0
 a0:=Tryz.isAgg0
 z0:=Tryz.sizeOf0
 v0:=Tryz.zeroValue0
 t3:=Tryz.underlying3
 a3:=Tryz.isAgg3
 z3:=Tryz.sizeOf3
 v3:=Tryz.zeroValue3
 t4:=Tryz.underlying4
 a4:=Tryz.isAgg4
 z4:=Tryz.sizeOf4
 v4:=Tryz.zeroValue4
 t9:=Tryz.underlying9
 a9:=Tryz.isAgg9
 z9:=Tryz.sizeOf9
 v9:=Tryz.zeroValue9
 t21:=Tryz.underlying21
 a21:=Tryz.isAgg21
 z21:=Tryz.sizeOf21
 v21:=Tryz.zeroValue21
 t23:=Tryz.underlying229
 a23:=Tryz.isAgg229
 z23:=Tryz.sizeOf229
 v23:=Tryz.zeroValue229
 i0:=by kernel_rfl
 i3:=by kernel_rfl
 i4:=by kernel_rfl
 i9:=by kernel_rfl
 i21:=by kernel_rfl
 i23:=by kernel_rfl
theorem ZnJ:Builder.Extra Tryz.prog Zjd where
 sizeBuilder:=by kernel_rfl
 liesBuilder:=by kernel_rfl
 t5:=Tryz.underlying5
 a5:=Tryz.isAgg5
 z5:=Tryz.sizeOf5
 v5:=Tryz.zeroValue5
 infoByte:=by kernel_rfl
 cellsByte:=by kernel_rfl
 sizeByte:=by kernel_rfl
 neB5:=by decide
end Go.Proofs.YtbjomhdhkpgbaaaGreatDoor
namespace Go.Wk
open Go Go.RowKit
theorem ZrF (p:List UInt8):∀ (f acc:List UInt8),Zc8 p f acc=if 0<=Lib.index f p then some (acc++f.take (Lib.index f p).toNat,f.drop ((Lib.index f p).toNat+p.length)) else none
 | [],acc=>by
  simp only[Zc8,Lib.index,List.isEmpty_iff]
  by_cases h:p=[]
  ·simp[h]
  ·rw[if_neg h,if_neg h];rfl
 | c::l,acc=>by
  by_cases h:p.isPrefixOf (c::l)=true
  ·simp[Zc8,Lib.index,h]
  ·have e0:Lib.index (c::l) p=if (Lib.index l p==-1)=true then -1 else Lib.index l p+1:=by rw[Lib.index,if_neg h]
   generalize hI:Lib.index (c::l) p=I at *
   subst e0
   rw[Zc8,if_neg h,ZrF p l]
   clear hI
   have hge:=Lib.index_ge l p
   by_cases h2:Lib.index l p = -1
   ·simp[h2]
   ·rw[if_pos (show 0<=Lib.index l p by omega)]
    have hb:(Lib.index l p==-1)=false:=by simpa using h2
    rw[hb]
    simp only[Bool.false_eq_true,if_false]
    rw[if_pos (show 0<=Lib.index l p+1 by omega)]
    have e:(Lib.index l p+1).toNat=(Lib.index l p).toNat+1:=by omega
    rw[e,show(Lib.index l p).toNat+1+p.length=((Lib.index l p).toNat+p.length)+1 by omega]
    simp
def cutV (f p:List UInt8):List UInt8 × List UInt8 × Bool:=match Zc8 p f [] with|some (a,b)=>(a,b,true)|none=>(f,[],false)
theorem ZBh (f p:List UInt8):Lib.cut f p=cutV f p:=by
 unfold Lib.cut cutV
 rw[ZrF]
 by_cases h:0<=Lib.index f p
 ·rw[if_pos h,if_pos h];rfl
 ·rw[if_neg h,if_neg h]
theorem Zn5 {p f acc a b:List UInt8}(h:Zc8 p f acc=some (a,b)):a.length+b.length+p.length<=acc.length+f.length:=by
 induction f generalizing acc with
 | nil =>
  simp only[Zc8]at h
  split at h
  ·rename_i hp;simp only[Option.some.injEq,Prod.mk.injEq]at h;obtain⟨rfl,rfl⟩:=h;simp[hp]
  ·cases h
 | cons c l ih =>
  simp only[Zc8]at h
  split at h
  ·rename_i hp
   simp only[Option.some.injEq,Prod.mk.injEq]at h
   obtain⟨rfl,rfl⟩:=h
   have:=List.IsPrefix.length_le (List.isPrefixOf_iff_prefix.1 hp)
   rw[List.length_drop]
   omega
  ·have:=ih h
   simp only[List.length_append,List.length_cons,List.length_nil]at this ⊢
   omega
theorem ZtH (z:Array Value)(k:Nat)(h:z.toList.all Value.oneCell'=true)(h0:0<z.size):(Builtin.zeroCells z k).toList.all Value.oneCell'=true:=by
 rw[List.all_eq_true]at h ⊢
 intro x hx
 unfold Builtin.zeroCells at hx
 rw[Array.toList_map,List.mem_map]at hx
 obtain⟨i,hi,rfl⟩:=hx
 have hlt:=Nat.mod_lt i h0
 rw[getElem!_pos z (i % z.size) hlt]
 exact h _ (by simp)
theorem Zrg:∀ (vs xs:List Value)(j:Nat),xs.length<=j->lay xs j vs=xs
 | [],_,_,_=>rfl
 | v::r,xs,j,h=>by rw[lay,List.set_eq_of_length_le h,Zrg r xs (j+1) (by omega)]
theorem Zzu:∀ (vs pre cs post:List Value),cs.length=vs.length->lay (pre++cs++post) pre.length vs=pre++vs++post
 | [],pre,cs,post,h=>by
  have:cs=[]:=List.eq_nil_of_length_eq_zero h
  rw[this];rfl
 | v::r,pre,[],post,h=>by simp at h
 | v::r,pre,c::cs,post,h=>by
  have:=Zzu r (pre++[v]) cs post (by simpa using h)
  rw[lay]
  rw[show(pre++c::cs++post).set pre.length v=pre++[v]++cs++post by simp]
  rw[List.length_append]at this
  simpa using this
end Go.Wk
namespace Go.Proofs.YtbjomhdhkpgbaaaGreatDoor
open Go Go.RowKit Go.Wk
attribute [local irreducible] W RL Does Zar Zal retQ Calls Pu Stp RD Qy Ay Zak Zdx
theorem Zjx {α:Type}(p:α->Bool):∀ (l:List α) (k:Nat),(ZbQ p l k = -1/\l.filter (fun r => !p r)=l)\/∃ i,ZbQ p l k=((k+i:Nat):Int)/\i<l.length/\(l.take (i+1)).filter (fun r => !p r)=l.take i
 | [],k => .inl ⟨rfl,rfl⟩
 | x::l,k=>by
  rw[ZbQ]
  by_cases h:p x=true
  ·rw[if_pos h]
   exact .inr ⟨0,rfl,by simp,by simp[h]⟩
  ·rw[if_neg h]
   rcases Zjx p l (k+1) with⟨h1,h2⟩|⟨i,h1,h2,h3⟩
   ·exact .inl ⟨h1,by rw[List.filter_cons,if_pos (by simp[h]),h2]⟩
   ·refine .inr ⟨i+1,by rw[h1];omega,by simpa using h2,?_⟩
    rw[List.take_succ_cons,List.filter_cons,if_pos (by simp[h]),h3,List.take_succ_cons]
theorem ZAP {base:Nat}{A:Option Addr}{c:Nat}{l:List Zab}{w:World}{O R:List It}(h:Zau base O w)(hp:Pick (rowR A c l) O R)(hlc:l.length<=c)(hcm:c<=maxLen):RdSl w A c Zab.enc 11 l :=
 ⟨hlc,hcm,fun k x hk=>by
  have hs:=h.sat _ (hp.perm.mem_iff.2 List.mem_cons_self)
  have hlt:=(List.getElem?_eq_some_iff.1 hk).1
  refine⟨Zca hs (by omega),fun j v hj=>?_⟩
  rw[Zbe]
  exact(Zcb hs (ZaK Zab.len l k x j v hk hj)).2⟩
instance zeroRule:ZeroV Tryz.prog 56 (.agg #[.string ByteArray.empty,.int .i64 0,.int .i64 0,.int .i64 0,.int .i64 0,.int .i64 0,.int .i64 0,.int .i64 0,.int .i64 0,.int .i64 0,.string ByteArray.empty]):=⟨by kernel_rfl⟩
structure DG where
 j:Nat
 C:List Zab
set_option maxHeartbeats 2000000 in
theorem ZpX (A:Option Addr)(c:Nat)(l:List Zab)(f:FuncId)[Body Tryz.prog f](p:Zab->Bool)(wr:World)(hn:l.length<=1000000)(hlc:l.length<=c)(hcm:c<=maxLen)(hAn:0<l.length->A≠none)(hf:∀ r w',Does Tryz.prog f [.agg (Zab.enc r).toArray] w' (fun v O=>v = .bool (p r)/\O=[])) :
  Zak Tryz.prog 169 [.slice A l.length c,.func (.func f) #[] #[]] wr [rowR A c l] (fun v O=>v = .slice A (l.filter fun r => !p r).length c/\O=[rowR A c (l.filter fun r => !p r)]):=by
 have hidx:=fun w' (hH:Zau wr.heap.size [rowR A c l] w')=>ZdZ A c l f [] [] p w' (ZAP hH .here hlc hcm) fun r w2 _=>hf r w2
 unfold maxLen at hcm
 generalize hres:(l.filter fun r => !p r)=res
 rcases Zjx p l 0 with⟨h1,h2⟩|⟨i,h1,h2,h3⟩
 ·rw[h1]at hidx
  rw[h2]at hres
  subst hres
  refine ZaD Tryz.func169 rfl rfl rfl rfl ?_
  repeat (first|(refine js ?_;(first|(apply Zad (h:=fun w' _ hH=>hidx w' hH);rfl;rintro v O' ⟨rfl,rfl⟩)|(refine bx ?_;intro bk)))|refine walk ?_)
  exact ret_1 _ _ (.tmp rfl) (.refl _) ⟨rfl,rfl⟩
 ·rw[h1,Nat.zero_add]at hidx
  have hA:=hAn (by omega)
  obtain⟨ad,rfl⟩:∃ ad,A=some ad:=by
   cases A with
   | none=>exact absurd rfl hA
   | some ad=>exact⟨ad,rfl⟩
  clear hA hAn
  refine ZaD Tryz.func169 rfl rfl rfl rfl ?_
  repeat (first|(refine js ?_;(first|(apply Zad (h:=fun w' _ hH=>hidx w' hH);rfl;rintro v O' ⟨rfl,rfl⟩)|(refine bx ?_;intro bk)))|refine Zkj ?_)
  refine Zcw (fun fr' O'=>Go.Wk.Sub [(0,.slice (some ad) l.length c),(5,.int .i64 res.length)] fr'/\SubO [.row (.slice (some ad) l.length c) 56 11 l.length ((res++l.drop res.length).flatMap Zab.enc)] O') ?_ ?_
  ·apply W_block
   refine Zaq [(0,_),(1,_)] [] (fun g:DG=>[(5,.int .i64 g.C.length),(6,.int .i64 g.j)]) (fun g=>[.row (.slice (some ad) l.length c) 56 11 l.length ((g.C++l.drop g.C.length).flatMap Zab.enc)])
    (fun g=>g.C=(l.take g.j).filter (fun r => !p r)/\g.C.length+1<=g.j/\g.j<=l.length) (fun g=>l.length - g.j) ⟨i+1,l.take i⟩ (by dsimp only;rw[List.length_take,Nat.min_eq_left (by omega)];exact⟨rfl,rfl,rfl,rfl,trivial⟩) (by dsimp only;rw[List.length_take,Nat.min_eq_left (by omega),List.take_append_drop];exact .refl _) ⟨h3.symm,by show(l.take i).length+1<=i+1;rw[List.length_take];omega,by show i+1<=l.length;omega⟩ ?_
   rintro⟨j,C⟩ ⟨hC,hCj,hj⟩
   dsimp only at hC hCj hj ⊢
   have hLl:(C++l.drop C.length).length=l.length:=by rw[List.length_append,List.length_drop];omega
   repeat (first|(refine js ?_;(refine bx ?_;intro bk))|refine walk ?_)
   refine Zah rfl (fun g=>?_) (fun g=>?_)
   ·have hjl:j<l.length:=by simpa using g
    have hx:∀ q v,(Zab.enc l[j])[q]?=some v->((C++l.drop C.length).flatMap Zab.enc)[(j:Int).toNat*11+q]?=some v:=fun q v hv=>by
     refine ZaK Zab.len _ j l[j] q v ?_ hv
     rw[List.getElem?_append_right (by omega),List.getElem?_drop,show C.length+(j - C.length)=j from by omega,List.getElem?_eq_getElem hjl]
    have hst:(l.take (j+1)).filter (fun r => !p r)=C++(if p l[j] then [] else [l[j]]):=by
     rw[List.take_succ_eq_append_getElem hjl,List.filter_append,<- hC]
     by_cases hp:p l[j]=true
     ·simp[hp]
     ·simp[hp]
    have hput:lay ((C++l.drop C.length).flatMap Zab.enc) (C.length*11) (Zab.enc l[j])=((C++[l[j]])++l.drop (C.length+1)).flatMap Zab.enc:=by
     have hlt:C.length<l.length:=by omega
     rw[Zao hlt,show C++l[C.length]::l.drop (C.length+1)=C++[l[C.length]]++l.drop (C.length+1) by simp,List.flatMap_append,List.flatMap_append,List.flatMap_append,List.flatMap_append,List.flatMap_singleton,List.flatMap_singleton]
     have:=Zzu (Zab.enc l[j]) (C.flatMap Zab.enc) (Zab.enc l[C.length]) ((l.drop (C.length+1)).flatMap Zab.enc) rfl
     rw[ZaJ Zab.len]at this
     exact this
    generalize l[j]=r at *
    obtain⟨nm,fr,to,mo,⟨dk,dw,dd⟩,⟨cs,cb⟩,sv,le⟩:=r
    have hfr:=hf ⟨nm,fr,to,mo,⟨dk,dw,dd⟩,⟨cs,cb⟩,sv,le⟩
    generalize p ⟨nm,fr,to,mo,⟨dk,dw,dd⟩,⟨cs,cb⟩,sv,le⟩=b at *
    simp only[Zab.enc]at hx hput hfr
    repeat (first|(apply RL_pu;rfl;(first|(apply Pu_indexAddr;rfl;rfl;omega;omega;nofun)|(apply ZbZ;rfl;(focus repeat' constructor);exact hx;rfl)))|(refine js ?_;(first|(apply Zap (f:=f) (us:=[]) (cs:=[]) (vs:=[.agg #[.string nm,.int .i64 fr,.int .i64 to,.int .i64 mo,.int .i64 dk,.int .i64 dw,.int .i64 dd,.int .i64 cs,.int .i64 cb,.int .i64 sv,.string le]]) (h:=fun w' hw _=>hfr w');rfl;rfl;rintro v O' ⟨rfl,rfl⟩)|(refine bx ?_;intro bk)))|refine walk1 ?_)
    refine Zah rfl (fun g2=>?_) (fun g2=>?_)
    ·have hb:b=false:=by simpa using g2
     rw[hb,if_neg (by decide)]at hst
     have hfl:((C++l.drop C.length).flatMap Zab.enc).length=l.length*11:=by rw[ZaJ Zab.len,hLl]
     repeat (first|(apply RL_pu;rfl;(apply Pu_indexAddr;rfl;rfl;omega;omega;nofun))|(refine js ?_;(first|(apply Zck (vs:=[.string nm,.int .i64 fr,.int .i64 to,.int .i64 mo,.int .i64 dk,.int .i64 dw,.int .i64 dd,.int .i64 cs,.int .i64 cb,.int .i64 sv,.string le]);rfl;rfl;(focus repeat' constructor);rfl;rfl;rfl;(rw[hfl];omega);decide;exact hput)|(refine bx ?_;intro bk)))|refine walk1 ?_)
     refine⟨⟨j+1,_⟩,OA,⟨hst.symm,by dsimp only;rw[List.length_append,List.length_singleton];omega,OA⟩,?_,?_⟩
     ·dsimp only
      rw[List.length_append,List.length_singleton]
      exact SFA
     ·dsimp only
      rw[List.length_append,List.length_singleton]
      exact SOA
    ·have hb:b=true:=by simpa using g2
     rw[hb,if_pos rfl,List.append_nil]at hst
     repeat (first|(refine js ?_;(refine bx ?_;intro bk))|refine walk ?_)
     exact⟨⟨j+1,C⟩,OA,⟨hst.symm,OA,OA⟩,SFA,SOA⟩
   ·have hjl:j=l.length:=by
     have:=of_decide_eq_false g
     omega
    rw[hjl,List.take_length,hres]at hC
    subst hC
    repeat (first|(refine js ?_;(refine bx ?_;intro bk))|refine walk ?_)
    exact⟨rfl,SFA,SOA⟩
  rintro fr' O' ⟨hf1,hO⟩
  apply thenQ_n
  refine ZcH hf1 hO ?_
  clear hf1 hO fr' O'
  have hrl:res.length<l.length:=by
   have h4:l.take (i+1)++l.drop (i+1)=l:=List.take_append_drop _ _
   have h5:res=l.take i++(l.drop (i+1)).filter (fun r => !p r):=by rw[<- hres,<- h3,<- List.filter_append,h4]
   have h6:=List.length_filter_le (fun r => !p r) (l.drop (i+1))
   rw[List.length_drop]at h6
   have h7:=congrArg List.length h5
   rw[List.length_append,List.length_take]at h7
   omega
  have hLl:((res++l.drop res.length).flatMap Zab.enc).length=l.length*11:=by rw[ZaJ Zab.len,List.length_append,List.length_drop];congr 1;omega
  have htk:∀ vs,(lay ((res++l.drop res.length).flatMap Zab.enc) ((res.length:Int).toNat*11) vs).take (res.length*11)=res.flatMap Zab.enc:=fun vs=>by
   rw[Zir,List.flatMap_append,List.take_left' (by rw[ZaJ Zab.len])]
   exact Zrg _ _ _ (by rw[ZaJ Zab.len];omega)
  repeat (first|((apply RL_st0;apply Zty (p:=(res.length:Int).toNat*11) (k:=l.length - (res.length:Int).toNat);rfl;(focus repeat' constructor);exact ZtH _ _ rfl (by decide);omega;(rw[hLl];omega));refine Zwq (m:=l.length) res.length (by omega) (by repeat' constructor) ?_;rw[htk])|(apply RL_pu;rfl;(apply ZwM;rfl;rfl;omega;omega;omega))|(refine js ?_;(refine bx ?_;intro bk))|refine walk1 ?_)
  exact ret_1 _ _ (.tmp rfl) (.refl _) ⟨rfl,rfl⟩
attribute [local irreducible] Zcz
def ZC2 (l:List Zab)(v:Value)(O:List It):Prop:=∃ A c,v = .slice A l.length c/\O=[rowR A c l]/\l.length<=c/\c<=maxLen/\(0<l.length->A≠none)
theorem Zl7 (A:Option Addr)(c:Nat)(x:List Zab)(w:World)(hA:RdSl w A c Zab.enc 11 x)(hn:x.length<=1000000) :
  Does Tryz.prog 63 [.slice A x.length c] w (ZC2 x) :=
 (ZcF A c x w hA hn).monoH fun v O base w' ⟨A,c,h1,h2⟩ hH=>by
  subst h2
  obtain⟨A2,c2,e1,h3,h4,h5,_⟩:=ZgH (hH.sat _ List.mem_cons_self)
  injection e1 with e2 _ e3
  subst e2 e3
  exact⟨_,⟨A,c,h1,rfl,h3,h4,h5⟩,hH⟩
theorem ZwX {G:Prop}(h:G:=by(first|(apply Pu_indexAddr;rfl;rfl;(first|decide|omega);(first|decide|omega);nofun)|(apply ZbZ;rfl;(focus repeat' constructor);exact hx1;rfl)|(apply ZbZ;rfl;(focus repeat' constructor);exact hx2;rfl))):G:=h
theorem ZzS {G:Prop}(h:G:=by first|(apply Qy_y;rfl;exact ZwX)|exact QyA):G:=h
theorem ZCS {G:Prop}(h:G:=by repeat (first|exact QF.nil|(apply QF.mk;rfl;rfl;decide +kernel;exact ZzS))):G:=h
theorem Zvh (A:Option Addr)(c:Nat)(l:List Zab)(w:World)(hA:RdSl w A c Zab.enc 11 l)(hn:l.length<=1000000) :
  Does Tryz.prog 126 [.slice A l.length c] w (fun v O=>v = .bool (Zii l)/\O=[]):=by
 have hfl:(l.filter fun r => !(!decide (r.to=1048576)))=l.filter fun r=>decide (r.to=1048576):=by
  congr 1;funext r;rw[Bool.not_not]
 have hlen:=List.length_filter_le (fun r:Zab=>decide (r.to=1048576)) l
 obtain⟨res,hres⟩:∃ res,Zii l=res:=⟨_,rfl⟩
 rw[hres]
 unfold Zii at hres
 refine Zaa Tryz.func126 rfl rfl rfl rfl ?_
 repeat (first|refine walk ?_|(refine jg ?_;(try intro F);(first|(apply Zad (h:=fun w' hw _=>Zl7 A c l w' (hA.up hw) hn);rfl;rintro v O' ⟨B,d,rfl,rfl,hb1,hb2,hb3⟩)|(refine bx ?_;intro bk)|(refine stA ?_));refine fin ?_)|(refine jn ?_;(try intro F);(first|(refine bx ?_;intro bk)|(refine stA ?_)|(apply Zag;exact PuA));refine fin ?_)|(apply RD_W;rfl;intro bk))
 have hdel:=ZpX B d l 170 (fun r => !decide (r.to=1048576)) w hn hb1 hb2 hb3 ZsV
 rw[hfl]at hdel
 generalize (l.filter fun r=>decide (r.to=1048576))=F at *
 repeat (first|refine walk ?_|(refine Zdc ?_;intro F;(apply ZaM (h:=hdel);rfl;exact .refl _;rintro v O' ⟨rfl,rfl⟩);refine⟨_,EndsA,SubO.right _ _,?_⟩)|(refine jn ?_;(try intro F);(first|(apply ZaM (h:=hdel);rfl;exact .refl _;rintro v O' ⟨rfl,rfl⟩)|(refine bx ?_;intro bk)|(refine stA ?_)|(apply Zag;exact PuA));refine fin ?_)|(apply RD_W;rfl;intro bk))
 rcases F with _|⟨a,_|⟨b,_|⟨x,F⟩⟩⟩
 ·repeat (first|refine walk ?_|(refine jn ?_;(try intro F);(first|(refine bx ?_;intro bk)|(refine stA ?_)|(apply Zag;exact PuA));refine fin ?_)|(apply RD_W;rfl;intro bk))
  exact ret_1 _ [] (.tmp rfl) .nil ⟨by rw[<- hres],rfl⟩
 ·repeat (first|refine walk ?_|(refine jn ?_;(try intro F);(first|(refine bx ?_;intro bk)|(refine stA ?_)|(apply Zag;exact PuA));refine fin ?_)|(apply RD_W;rfl;intro bk))
  exact ret_1 _ [] (.tmp rfl) .nil ⟨by rw[<- hres],rfl⟩
 ·have hB:=hb3 (by simp at hlen;omega)
  obtain⟨ad,rfl⟩:∃ ad,B=some ad:=by
   cases B with
   | none=>exact absurd rfl hB
   | some ad=>exact⟨ad,rfl⟩
  dsimp only at hres
  have hpa:=ZkE a
  have hpb:=ZkE b
  generalize Zcz a=pa at *
  generalize Zcz b=pb at *
  have hx1:∀ q v,(Zab.enc a)[q]?=some v->([a,b].flatMap Zab.enc)[(0:Int).toNat*11+q]?=some v:=fun q v hv=>ZaK Zab.len _ 0 a q v rfl hv
  have hx2:∀ q v,(Zab.enc b)[q]?=some v->([a,b].flatMap Zab.enc)[(1:Int).toNat*11+q]?=some v:=fun q v hv=>ZaK Zab.len _ 1 b q v rfl hv
  simp only[rowR,List.length_cons,List.length_nil,Nat.zero_add,Nat.reduceAdd]
  generalize hxs:[a,b].flatMap Zab.enc=xs at *
  clear hxs
  obtain⟨nm,fr,to,mo,⟨dk,dw,dd⟩,⟨cs,cb⟩,sv,le⟩:=a
  obtain⟨nm2,fr2,to2,mo2,⟨dk2,dw2,dd2⟩,⟨cs2,cb2⟩,sv2,le2⟩:=b
  simp only[Zab.enc]at hx1 hx2 hpa hpb
  repeat (first|(apply RL_pu;rfl;exact ZwX)|(apply RD_Q;rfl;rfl;decide +kernel;rfl;rfl;exact ZzS)|refine walk1 ?_|(refine jn ?_;(try intro F);(first|(refine bx ?_;intro bk)|(refine stA ?_)|(apply Zag;first|exact ZwX|exact PuA));first|refine⟨_,EndsA,ZCS,?_⟩|refine fin ?_)|(apply RD_W;rfl;intro bk))
  repeat' (first|(refine js ?_;(first|(refine Zae (fun w' _=>hpa w') ?_)|(refine Zae (fun w' _=>hpb w') ?_)|(refine bx ?_;intro bk)))|refine walk ?_|(refine Zdc ?_;intro F;(first|(refine Zae (fun w' _=>hpa w') ?_)|(refine Zae (fun w' _=>hpb w') ?_));refine⟨_,EndsA,SubO.right _ _,?_⟩)|(refine RD_Lw ?_;intro F;(first|(refine Zae (fun w' _=>hpa w') ?_)|(refine Zae (fun w' _=>hpb w') ?_)|(refine bx ?_;intro bk)|(refine stA ?_)|(apply Zag;exact PuA));refine⟨_,EndsA,QFA,?_⟩)|(apply RD_W;rfl;intro bk)|refine und ?_|(refine Zax rfl rfl rfl (fun hc=>?_) (fun hc=>?_))|(refine Zaw rfl rfl rfl (fun hc=>?_) (fun hc=>?_))|(refine Zah rfl (fun hc=>?_) (fun hc=>?_)))
  all_goals clear hx1 hx2 hpa hpb hdel hA hb1 hb2
  all_goals subst hres
  all_goals exact clo1
 ·repeat (first|refine walk ?_|(refine jn ?_;(try intro F);(first|(refine bx ?_;intro bk)|(refine stA ?_)|(apply Zag;exact PuA));refine fin ?_)|(apply RD_W;rfl;intro bk))
  exact ret_1 _ [] (.tmp rfl) .nil ⟨by rw[<- hres],rfl⟩
attribute [local irreducible] RW
def ZxN (l:List Zab):Nat × Int :=
 if (l.any fun r=>decide (r.save=0))=false\/(Zaj l<0/\(l.any fun r => !decide (r.save=0)&&!decide (r.save=Zaj l))=true) then (0,14)
 else if Zii l=false then (0,16)
 else (0,0)
def outR (l:List Zab):Option (Nat × Int)->Nat × Int
 | some x=>x
 | none=>ZxN l
theorem ZxX (l:List Zab):Zes l=outR l (Zbp (Zaj l) l 0):=by
 unfold Zes outR ZxN
 cases Zbp (Zaj l) l 0 <;> rfl
theorem ZsA (r:Zab)(least:Int):Zcp r least=if ZdJ r least 0=false then 3 else if ZdJ r least 1=false then 12 else if ZdJ r least 2=false then 3 else if ZdJ r least 3=false then 3 else if ZdJ r least 4=false then 14 else if ZdJ r least 5=false then 15 else 0:=by
 by_cases h:r.to<r.from_
 ·have e:ZdJ r least 1=false:=decide_eq_false (by omega)
  rw[e,if_pos rfl,Zcp,if_pos h];rfl
 ·have e:ZdJ r least 1=true:=decide_eq_true (by omega)
  rw[e,if_neg (show ¬ true=false by decide),Zcp,if_neg h];rfl
theorem Zvd (l:List Zab):∀ m:Int,-4611686018427387904<=m->m<=4611686018427387904->(∀ r∈l,-4611686018427387904<=r.save/\r.save<=4611686018427387904) -> -4611686018427387904<=l.foldl (fun m r=>min m r.save) m/\l.foldl (fun m r=>min m r.save) m<=4611686018427387904:=by
 induction l with
 | nil=>intro m h1 h2 _;exact⟨h1,h2⟩
 | cons r l ih =>
  intro m h1 h2 h
  have hr:=h r List.mem_cons_self
  exact ih (min m r.save) (by omega) (by omega) fun x hx=>h x (List.mem_cons_of_mem _ hx)
theorem ZpF (l:List Zab):∀ m:Int,-9223372036854775808<=m->m<=0->(∀ r∈l,-9223372036854775808<=r.save/\r.save<=9223372036854775807) -> -9223372036854775808<=l.foldl (fun m r=>min m r.save) m/\l.foldl (fun m r=>min m r.save) m<=0:=by
 induction l with
 | nil=>intro m h1 h2 _;exact⟨h1,h2⟩
 | cons r l ih =>
  intro m h1 h2 h
  have hr:=h r List.mem_cons_self
  exact ih (min m r.save) (by omega) (by omega) fun x hx=>h x (List.mem_cons_of_mem _ hx)
def Zn7 (j:Nat):FuncId:=if j=0 then 315 else if j=1 then 317 else if j=2 then 318 else if j=3 then 320 else if j=4 then 322 else 323
def errN (j:Nat):Int:=if j=0 then 3 else if j=1 then 12 else if j=2 then 3 else if j=3 then 3 else if j=4 then 14 else 15
def ZhD (b:Nat->Bool):Nat->Int
 | 0=>0
 | n+1=>if b (5 - n)=false then errN (5 - n) else ZhD b n
theorem Zm8 (r:Zab)(least:Int):Zcp r least=ZhD (ZdJ r least) 6:=ZsA r least
theorem Ztj (j:Nat)(hj:j<6):(Zg2.drop (((j:Int)).toNat*2)).take 2=[fnV (Zn7 j),.int .i64 (errN j)]:=by
 have h:j=0\/j=1\/j=2\/j=3\/j=4\/j=5:=by omega
 rcases h with rfl|rfl|rfl|rfl|rfl|rfl <;> rfl
theorem Zti (j:Nat)(hj:j<6)(r:Zab)(least:Int)(w:World)(hG:Glob w)(hl : -9223372036854775808<=least/\least<=0)(hs:(r.letter.size:Int)<=9223372036854775807) :
  Does Tryz.prog (Zn7 j) [.agg (Zab.enc r).toArray,.int .i64 least] w (fun v O=>v = .bool (ZdJ r least j)/\O=[]):=by
 have h:j=0\/j=1\/j=2\/j=3\/j=4\/j=5:=by omega
 rcases h with rfl|rfl|rfl|rfl|rfl|rfl
 ·exact Ztp r least w
 ·exact Zto r least w
 ·exact Ztn r least w hG
 ·exact Ztm r least hl w
 ·exact Ztl r least w
 ·exact Ztk r least hs w
theorem ZpZ (j:Nat):Body Tryz.prog (Zn7 j):=by
 unfold Zn7
 split
 ·infer_instance
 split
 ·infer_instance
 split
 ·infer_instance
 split
 ·infer_instance
 split <;> infer_instance
theorem ZAj {G:Prop}(h:G:=by(first|exact PuI|(apply Pu_loadON;rfl;exact hG.con;rfl))):G:=h
theorem ZAi {G:Prop}(h:G:=by(apply Zoz;rfl;rfl;omega;omega;exact hcc)):G:=h
theorem Zm9 (A:Option Addr)(c:Nat)(l:List Zab)(w:World)(hG:Glob w)(hA:RdSl w A c Zab.enc 11 l)(hn:l.length<=1000000)(hR:∀ r∈l,(-9223372036854775808<=r.save/\r.save<=9223372036854775807)/\(r.letter.size:Int)<=9223372036854775807) :
  Does Tryz.prog 89 [.slice A l.length c] w (fun v O=>v = .tuple #[.int .i64 (Zes l).1,.int .i64 (Zes l).2]/\O=[]):=by
 have hls:=ZpF l 0 (by omega) (by omega) fun r hr=>(hR r hr).1
 have hlast:=fun w' (hw:Bel w.heap.size w w')=>Zvh A c l w' (hA.up hw) hn
 have hany1:=fun w' (hw:Bel w.heap.size w w')=>ZdI A c l 123 [] [] (fun r=>decide (r.save=0)) w' (hA.up hw) fun r w2 _=>ZvY r w2
 have hany2:=fun(b:Nat) w' (hw:Bel w.heap.size w w') (hc:Zam w' ⟨b,0,none⟩ [.int .i64 (Zaj l)])=>ZdI A c l 124 [] [.pointer (some ⟨b,0,none⟩)] (fun r => !decide (r.save=0)&&!decide (r.save=Zaj l)) w' (hA.up hw) fun r w2 h2=>ZvX r ⟨b,0,none⟩ (Zaj l) w2 ((hc.up h2 (Nat.le_refl _)) 0 _ rfl)
 have hlst:=fun w' (hw:Bel w.heap.size w w')=>Zch A c l w' (hA.up hw)
 obtain⟨res,hres⟩:∃ res,Zes l=res:=⟨_,rfl⟩
 rw[hres]
 rw[ZxX]at hres
 have htl:∃ t,ZxN l=t:=⟨_,rfl⟩
 change -9223372036854775808<=Zaj l/\Zaj l<=0 at hls
 refine Zaa Tryz.func89 rfl rfl rfl rfl ?_
 repeat (first|refine walk ?_|(refine jg ?_;(try intro F);(first|(refine Zae hlst ?_)|(refine bx ?_;intro bk)|(refine stA ?_));refine fin ?_)|(refine jn ?_;(try intro F);(first|(refine bx ?_;intro bk)|(refine stA ?_)|(apply Zag;exact PuA));refine fin ?_)|(apply RD_W;rfl;intro bk))
 refine Zaq [(0,.slice A l.length c),(4,.pointer (some ⟨bk,0,none⟩)),(13,.slice A l.length c),(14,.int .i64 l.length)] [.blk bk [.int .i64 (Zaj l)] 2] (fun k:Nat=>[(15,.int .i64 k)]) (fun _=>[]) (fun k=>k<=l.length/\outR l (Zbp (Zaj l) (l.drop k) k)=res) (fun k=>l.length - k) 0 SFA SOA ⟨Nat.zero_le _,hres⟩ ?_
 rintro k ⟨hk,hi⟩
 repeat (first|refine walk ?_|(refine jn ?_;(try intro F);(first|(refine bx ?_;intro bk)|(refine stA ?_)|(apply Zag;exact PuA));refine fin ?_)|(apply RD_W;rfl;intro bk))
 refine Zah rfl (fun h=>?_) (fun h=>?_)
 ·have hlt:k<l.length:=by simpa using h
  obtain⟨hna,hca⟩:=hA.rd k _ (List.getElem?_eq_getElem hlt)
  have hRr:=hR l[k] (List.getElem_mem hlt)
  rw[Zao hlt,Zbp,Zm8]at hi
  generalize l[k]=r at *
  have hcs:=fun j (hj:j<6) w' (hw:Bel w.heap.size w w')=>Zti j hj r (Zaj l) w' (hG.up hw) hls hRr.2
  generalize ZdJ r (Zaj l)=bb at *
  obtain⟨nm,fr,to,mo,⟨dk,dw,dd⟩,⟨cs,cb⟩,sv,le⟩:=r
  simp only[Zab.enc]at hca hcs
  obtain⟨b4,hb4⟩:∃ b4,bk=b4:=⟨_,rfl⟩
  rw[hb4]at *
  clear hb4 bk
  repeat (first|(apply RL_pu;rfl;exact ZAj)|(apply RD_Q;rfl;rfl;decide +kernel;rfl;rfl;exact QyRsE0)|refine walk1 ?_|(refine jn ?_;(try intro F);(first|(refine bx ?_;intro bk)|(refine stA ?_)|(apply Zag;first|exact ZAj|exact PuA));first|refine⟨_,EndsA,QFRsE0,?_⟩|refine fin ?_)|(apply RD_W;rfl;intro bk))
  refine Zaq [(20,.agg Zg2.toArray),(6,.pointer (some ⟨bk,0,none⟩)),(5,.int .i64 k),(15,.int .i64 k),(0,.slice A l.length c),(4,.pointer (some ⟨b4,0,none⟩)),(13,.slice A l.length c),(14,.int .i64 l.length)] [.blk bk [.string nm,.int .i64 fr,.int .i64 to,.int .i64 mo,.int .i64 dk,.int .i64 dw,.int .i64 dd,.int .i64 cs,.int .i64 cb,.int .i64 sv,.string le] 56,.blk b4 [.int .i64 (Zaj l)] 2] (fun j:Nat=>[(21,.int .i64 j)]) (fun _=>[]) (fun j=>j<=6/\ZhD bb (6 - j)=ZhD bb 6) (fun j=>6 - j) 0 SFA SOA ⟨Nat.zero_le _,rfl⟩ ?_
  rintro j ⟨hj,he⟩
  repeat (first|refine walk ?_|(refine jn ?_;(try intro F);(first|(refine bx ?_;intro bk)|(refine stA ?_)|(apply Zag;exact PuA));refine fin ?_)|(apply RD_W;rfl;intro bk))
  refine Zah rfl (fun h2=>?_) (fun h2=>?_)
  ·have hj6:j<6:=by have:=of_decide_eq_true h2;omega
   have hcj:=hcs j hj6
   have hcc:=Ztj j hj6
   haveI:=ZpZ j
   rw[show 6 - j=(5 - j)+1 by omega,ZhD,show 5 - (5 - j)=j by omega]at he
   have hne:errN j≠0:=by
    unfold errN
    repeat' split
    all_goals decide
   generalize Zn7 j=cf at *
   generalize bb j=bj at *
   generalize errN j=ej at *
   repeat (first|(apply RL_pu;rfl;exact ZAi)|(apply RD_Q;rfl;rfl;decide +kernel;rfl;rfl;exact QyRsE1)|refine walk1 ?_|(refine jg ?_;(try intro F);(first|(apply Zap (f:=cf) (us:=[]) (cs:=[]) (vs:=[.agg #[.string nm,.int .i64 fr,.int .i64 to,.int .i64 mo,.int .i64 dk,.int .i64 dw,.int .i64 dd,.int .i64 cs,.int .i64 cb,.int .i64 sv,.string le],.int .i64 (Zaj l)]) (h:=fun w' hw _=>hcj w' hw);rfl;rfl;rintro v O' ⟨rfl,rfl⟩)|(refine bx ?_;intro bk)|(refine stA ?_));first|refine⟨_,EndsA,QFRsE1,?_⟩|refine fin ?_)|(refine jn ?_;(try intro F);(first|(refine bx ?_;intro bk)|(refine stA ?_)|(apply Zag;first|exact ZAi|exact PuA));first|refine⟨_,EndsA,QFRsE1,?_⟩|refine fin ?_)|(apply RD_W;rfl;intro bk))
   refine Zah rfl (fun h3=>?_) (fun h3=>?_)
   ·have hb:bj=false:=by simpa using h3
    rw[if_pos hb]at he
    rw[<- he,if_neg hne]at hi
    repeat (first|refine walk ?_|(refine jn ?_;(try intro F);(first|(refine bx ?_;intro bk)|(refine stA ?_)|(apply Zag;exact PuA));refine fin ?_)|(apply RD_W;rfl;intro bk))
    exact ret_2 _ _ [] (.tmp rfl) (.tmp rfl) .nil ⟨by rw[<- hi];rfl,rfl⟩
   ·have hb:bj=true:=by simpa using h3
    rw[if_neg (by rw[hb];decide)]at he
    repeat (first|refine walk ?_|(refine jn ?_;(try intro F);(first|(refine bx ?_;intro bk)|(refine stA ?_)|(apply Zag;exact PuA));refine fin ?_)|(apply RD_W;rfl;intro bk))
    exact⟨j+1,OA,⟨OA,by rw[show 6 - (j+1)=5 - j by omega];exact he⟩,SFA,SOA⟩
  ·have hj6:j=6:=by have:=of_decide_eq_false h2;omega
   subst hj6
   rw[show ZhD bb (6 - 6)=0 from rfl]at he
   rw[<- he,if_pos rfl]at hi
   repeat (first|refine walk ?_|(refine jn ?_;(try intro F);(first|(refine bx ?_;intro bk)|(refine stA ?_)|(apply Zag;exact PuA));refine fin ?_)|(apply RD_W;rfl;intro bk))
   exact⟨k+1,OA,⟨OA,hi⟩,SFA,SOA⟩
 ·have hkl:k=l.length:=by
   have:=of_decide_eq_false h
   omega
  subst hkl
  rw[List.drop_length,Zbp,outR,ZxN]at hi
  generalize l.any (fun r=>decide (r.save=0))=a1 at *
  generalize l.any (fun r => !decide (r.save=0)&&!decide (r.save=Zaj l))=a2 at *
  generalize Zii l=a3 at *
  have hany3:=hany2 bk
  clear hany2 hlst
  repeat' (first|(refine js ?_;(first|(refine Zae hany1 ?_)|(apply Zad (h:=fun w' hw hH=>hany3 w' hw (hH.cells (by repeat' constructor)));rfl;rintro v O' ⟨rfl,rfl⟩)|(refine Zae hlast ?_)|(refine bx ?_;intro bk)))|refine walk ?_|(refine Zdc ?_;intro F;(first|(refine Zae hany1 ?_)|(apply Zad (h:=fun w' hw hH=>hany3 w' hw (hH.cells (by repeat' constructor)));rfl;rintro v O' ⟨rfl,rfl⟩)|(refine Zae hlast ?_));refine⟨_,EndsA,SubO.right _ _,?_⟩)|(refine RD_Lw ?_;intro F;(first|(refine Zae hany1 ?_)|(apply Zad (h:=fun w' hw hH=>hany3 w' hw (hH.cells (by repeat' constructor)));rfl;rintro v O' ⟨rfl,rfl⟩)|(refine Zae hlast ?_)|(refine bx ?_;intro bk)|(refine stA ?_)|(apply Zag;exact PuA));refine⟨_,EndsA,QFA,?_⟩)|(apply RD_W;rfl;intro bk)|refine und ?_|(refine Zax rfl rfl rfl (fun hc=>?_) (fun hc=>?_))|(refine Zaw rfl rfl rfl (fun hc=>?_) (fun hc=>?_))|(refine Zah rfl (fun hc=>?_) (fun hc=>?_)))
  all_goals clear hany1 hany3 hlast hG hA hR
  all_goals subst hi
  all_goals try(have h0:¬ Zaj l<0:=of_decide_eq_false (by assumption);simp only[h0,false_and,or_false])
  all_goals exact clo2
end Go.Proofs.YtbjomhdhkpgbaaaGreatDoor
namespace Go.Proofs.YtbjomhdhkpgbaaaGreatDoor
open Go Go.RowKit Go.Wk
attribute [local irreducible] W RL Does Zar Zal retQ Calls Pu Stp RD Qy Ay Zak
theorem Zr9 {G:Prop}(h:G:=by(apply ZeX;rfl;rfl;(constructor <;> omega))):G:=h
theorem Zy1 (a b:Int)(h : -9223372036854775808<=a+b/\a+b<=9223372036854775807)(w:World):Does Tryz.prog 116 [.int .i64 a,.int .i64 b] w (fun v O=>v = .tuple #[.int .i64 (a+b),.bool true]/\O=[]):=by
 have hd:¬ ((!(decide (a<a+b)==decide (0<b)))=true):=by
  rw[show decide (a<a+b)=decide (0<b) from by rw[Bool.eq_iff_iff];simp only[decide_eq_true_eq];omega]
  simp
 refine Zaa Tryz.func116 rfl rfl rfl rfl ?_
 repeat' (first|(apply RL_pu;rfl;exact Zr9)|refine walk1 ?_|refine und ?_|(refine Zax rfl rfl rfl (fun hc=>?_) (fun hc=>?_))|(refine Zaw rfl rfl rfl (fun hc=>?_) (fun hc=>?_))|(refine Zah rfl (fun hc=>?_) (fun hc=>?_)))
 all_goals first|(exfalso;simp_all;done)|exact rtB|skip
theorem Zi0 (y m:Int)(d:DDay) : -2000000000000<=(onD y m d).1/\(onD y m d).1<=2000000000000:=by
 unfold onD
 split
 ·exact⟨by decide,by decide⟩
 ·rename_i h1
  split
  ·exact⟨by decide,by decide⟩
  ·rename_i h2
   split
   ·exact⟨by decide,by decide⟩
   ·simp only[Bool.not_eq_false]at h1 h2
    have hb:=ZrD h1
    have hl:=ZlS y m
    have hd:=Zn4 h2
    simp only[ZfY,Zgv,Zfu]
    repeat' split
    all_goals omega
theorem ZhW (u:ZaZ)(hc : -604799<=u.at_.sec/\u.at_.sec<=604799)(w:World)(hG:Glob w):Does Tryz.prog 162 [.agg (ZaZ.enc u).toArray] w (fun v O=>v = .int .i64 (86400*(onD u.year u.month u.day).1+u.at_.sec)/\O=[]):=by
 have ho:=fun w' (hw:Bel w.heap.size w w')=>Zpn u.year u.month u.day w' (hG.up hw)
 have hb:=Zi0 u.year u.month u.day
 generalize onD u.year u.month u.day=x at *
 obtain⟨x1,x2⟩:=x
 obtain⟨is,yr,mo,⟨dk,dw,dd⟩,⟨cs,cb⟩⟩:=u
 simp only at *
 show Does _ _ [.agg #[.bool is,.int .i64 yr,.int .i64 mo,.int .i64 dk,.int .i64 dw,.int .i64 dd,.int .i64 cs,.int .i64 cb]] w _
 refine Zaa Tryz.func162 rfl rfl rfl rfl ?_
 repeat' (first|(apply RL_pu;rfl;exact Zr9)|(refine js ?_;(first|(refine Zae ho ?_)|(refine bx ?_;intro bk)))|refine walk1 ?_|(refine Zah rfl (fun hc=>?_) (fun hc=>?_)))
 all_goals exact clo1
theorem ZiA {G:Prop}(h:G:=by(apply Pu_add;rfl;rfl;(constructor <;> (simp only[decide_eq_false_iff_not,decide_eq_true_eq]at *;omega)))):G:=h
theorem ZiG (u:ZaZ)(least:Int)(w:World)(hG:Glob w):Does Tryz.prog 137 [.agg (ZaZ.enc u).toArray,.int .i64 least] w (fun v O=>v = .int .i64 (ZaI u least)/\O=[]):=by
 have ho:=fun w' (hw:Bel w.heap.size w w')=>Zpn u.year u.month u.day w' (hG.up hw)
 have hcc:=ZeK u.at_
 have hcb:ZaQ u.at_=true -> -604799<=u.at_.sec/\u.at_.sec<=604799:=fun hc=>by
  simp only[ZaQ,Bool.and_eq_true,decide_eq_true_eq]at hc
  omega
 unfold ZaI
 generalize onD u.year u.month u.day=x at *
 generalize ZaQ u.at_=y at *
 obtain⟨x1,x2⟩:=x
 obtain⟨is,yr,mo,⟨dk,dw,dd⟩,⟨cs,cb⟩⟩:=u
 simp only at *
 cases y
 ·clear hcb
  show Does _ _ [.agg #[.bool is,.int .i64 yr,.int .i64 mo,.int .i64 dk,.int .i64 dw,.int .i64 dd,.int .i64 cs,.int .i64 cb],.int .i64 least] w _
  refine Zaa Tryz.func137 rfl rfl rfl rfl ?_
  repeat' (first|(apply RL_pu;rfl;exact ZiA)|(refine js ?_;(first|(refine Zae (fun w' hw=>hcc w') ?_)|(refine bx ?_;intro bk)))|refine walk1 ?_|refine und ?_|(refine Zax rfl rfl rfl (fun hc=>?_) (fun hc=>?_))|(refine Zaw rfl rfl rfl (fun hc=>?_) (fun hc=>?_))|(refine Zah rfl (fun hc=>?_) (fun hc=>?_)))
  all_goals clear ho hcc hG
  all_goals exact clo1
 ·have hb:=hcb rfl
  clear hcb
  show Does _ _ [.agg #[.bool is,.int .i64 yr,.int .i64 mo,.int .i64 dk,.int .i64 dw,.int .i64 dd,.int .i64 cs,.int .i64 cb],.int .i64 least] w _
  refine Zaa Tryz.func137 rfl rfl rfl rfl ?_
  repeat' (first|(apply RL_pu;rfl;exact ZiA)|(refine js ?_;(first|(refine Zae (fun w' hw=>hcc w') ?_)|(refine Zae ho ?_)|(refine bx ?_;intro bk)))|refine walk1 ?_|refine und ?_|(refine Zax rfl rfl rfl (fun hc=>?_) (fun hc=>?_))|(refine Zaw rfl rfl rfl (fun hc=>?_) (fun hc=>?_))|(refine Zah rfl (fun hc=>?_) (fun hc=>?_)))
  all_goals clear ho hcc hG
  all_goals exact clo1
theorem Zgi {u:ZaZ}{least:Int}(h:ZaI u least=0):(-10800<=least/\least<=0)/\-604799<=u.at_.sec/\u.at_.sec<=604799:=by
 unfold ZaI at h
 split at h
 ·cases h
 split at h
 ·cases h
 split at h
 ·cases h
 ·rename_i h1 _ h2
  have hc:ZaQ u.at_=true:=by
   cases hc:ZaQ u.at_
   ·exact absurd (.inr (.inr hc)) h2
   ·rfl
  simp only[ZaQ,Bool.and_eq_true,decide_eq_true_eq]at hc
  omega
theorem Zff (u:ZaZ)(least:Int)(w:World)(hG:Glob w):Does Tryz.prog 138 [.agg (ZaZ.enc u).toArray,.int .i64 least] w (fun v O=>v = .tuple #[.int .i64 (ZaF u least).1,.int .i64 (ZaF u least).2]/\O=[]):=by
 have hcu:=fun w' (hw:Bel w.heap.size w w')=>ZiG u least w' (hG.up hw)
 unfold ZaF
 by_cases he:ZaI u least=0
 ·obtain⟨hl,hc⟩:=Zgi he
  have hs:=fun w' (hw:Bel w.heap.size w w')=>ZhW u hc w' (hG.up hw)
  have hb:=Zi0 u.year u.month u.day
  rw[if_neg (by simpa using he)]
  rw[he]at hcu
  generalize onD u.year u.month u.day=x at *
  obtain⟨x1,x2⟩:=x
  clear he
  obtain⟨is,yr,mo,⟨dk,dw,dd⟩,⟨cs,cb⟩⟩:=u
  simp only at *
  show Does _ _ [.agg #[.bool is,.int .i64 yr,.int .i64 mo,.int .i64 dk,.int .i64 dw,.int .i64 dd,.int .i64 cs,.int .i64 cb],.int .i64 least] w _
  refine Zaa Tryz.func138 rfl rfl rfl rfl ?_
  repeat' (first|(apply RL_pu;rfl;exact ZiA)|(refine js ?_;(first|(refine Zae hcu ?_)|(refine Zae hs ?_)|(refine bx ?_;intro bk)))|refine walk1 ?_|(refine Zah rfl (fun hc=>?_) (fun hc=>?_)))
  all_goals clear hs hcu hG
  all_goals exact clo2
 ·rw[if_pos he]
  generalize ZaI u least=x at *
  obtain⟨is,yr,mo,⟨dk,dw,dd⟩,⟨cs,cb⟩⟩:=u
  simp only at *
  show Does _ _ [.agg #[.bool is,.int .i64 yr,.int .i64 mo,.int .i64 dk,.int .i64 dw,.int .i64 dd,.int .i64 cs,.int .i64 cb],.int .i64 least] w _
  refine Zaa Tryz.func138 rfl rfl rfl rfl ?_
  repeat (first|(apply RL_pu;rfl;exact ZiA)|(refine js ?_;(first|(refine Zae hcu ?_)|(refine bx ?_;intro bk)))|refine walkB1 ?_)
  refine Zah rfl (fun h1=>?_) (fun h1=>?_)
  ·repeat (first|(refine js ?_;(refine bx ?_;intro bk))|refine walk ?_)
   exact rtB
  ·exact absurd (by simpa using h1) he
end Go.Proofs.YtbjomhdhkpgbaaaGreatDoor
