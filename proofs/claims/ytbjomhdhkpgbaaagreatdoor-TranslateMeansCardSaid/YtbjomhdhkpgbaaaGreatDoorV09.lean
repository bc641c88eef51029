/- Parts of the proof. -/
import Derived.Laws.Externs
import Derived.Test.YtbjomhdhkpgbaaaGreatDoorV07
import Derived.Scope
import Derived.Laws.IdiomStrings
import Derived.Test.YtbjomhdhkpgbaaaGreatDoorV06
import Derived.Test.YtbjomhdhkpgbaaaGreatDoorV04
set_option maxHeartbeats 4000000
set_option linter.unusedVariables false
set_option linter.unusedSimpArgs false
namespace Go.Wk
open Go Go.RowKit
section
variable {P:Program}{n:Nat}{wr:World}{fr:Fr}{O:List It}{ty:TypeId}{pos:String}{af:Array Edge}{dst:Option Tmp}{g:Option (Nat × Bool)}{Kp:Value->List It->Prop}
theorem Zic {t kt et:Nat}{x:Operand}{kk:IntKind}{i:Int}[hM:MapT P t kt et](hx:ev fr x=some (.int kk i))(k:∀ b,Kp (.map (some b)) (.mp b []::O)):Stp P n wr fr O ⟨dst,.makeMap t (some x),ty,pos,af,g⟩ Kp :=
 Zb6 fun a w hs=>by
  have hB:Bel w.heap.size w (w.alloc (.map #[] 0)):=(Bel.refl _ _).alloc (Nat.le_refl _) _
  have hu:=MapT.parts hM.h
  refine⟨.map (some w.heap.size),w.alloc (.map #[] 0),_,?_,hs.old.trans (hB.mono hs.old.size),hs.own.grow (O':=[.mp w.heap.size []]) hB hs.old.size ⟨fun i hi=>?_,fun i hi b hb=>?_,List.pairwise_singleton _ _⟩,k _⟩
  ·simp[execOp,hs.sim.ev hx,Instr.makeMap,run_underlying hu,asInt,asIntOf,newObj,Sem.run]
  ·rw[List.mem_singleton.1 hi]
   exact⟨#[],0,heap_alloc_new w _,rfl,ZqP⟩
  ·rw[List.mem_singleton.1 hi]at hb
   simp only[It.S]at hb
   subst hb
   exact⟨Nat.le_refl _,by simp⟩
theorem Zf3 (es:Array MapEntry)(j:Nat):(es.eraseIdxIfInBounds j).toList=es.toList.eraseIdx j:=by
 unfold Array.eraseIdxIfInBounds
 split
 ·simp
 ·rw[List.eraseIdx_of_length_le (by simp;omega)]
theorem Zsu {es:Array MapEntry}{c:Nat}(h:stOk es c)(j:Nat):stOk (es.eraseIdxIfInBounds j) c:=by
 unfold stOk
 rw[Zf3]
 have hsub:((es.toList.eraseIdx j).map (·.born)).Sublist (es.toList.map (·.born)):=(List.eraseIdx_sublist _ _).map _
 exact⟨h.1.sublist hsub,fun n hn=>h.2 n (hsub.subset hn)⟩
theorem Ztx {t t2 kt et b:Nat}{x ix:Operand}{m:List (ByteArray × Value)}{k:ByteArray}{O':List It}[hM:MapT P t kt et][StringT P kt](hx:ev fr x=some (.map (some b)))(hi:ev fr ix=some (.string k))
  (hu:Upd O (.mp b m) (.mp b (mdel m k)) O') (kk:Kp (.tuple #[]) O'):Stp P n wr fr O ⟨dst,.call ⟨.builtin .delete,#[x,ix],#[t,t2]⟩,ty,pos,af,g⟩ Kp :=
 Zb6 fun a w hs=>by
  have ht:=MapT.parts hM.h
  obtain⟨es,c,h1,h2,h9⟩:=hs.own.sat _ hu.mem
  have hf:=Znp k m es.toList 0 h2
  cases hfi:Zfi m k 0 with
  | none =>
   rw[hfi]at hf
   have hst:=hs.setMap (es':=es) (c':=c) hu (by unfold Zcs;rw[hf];exact h2) h9
   refine⟨.tuple #[],_,O',?_,hst.1,hst.2,kk⟩
   simp only[execOp,resolve,invoke,builtin,Builtin.delete_,hs.sim.ev hx,hs.sim.ev hi]
   simp[hs.sim.ev hx,hs.sim.ev hi,Builtin.delete_,run_underlying ht,Zby h1,ZcW _ k 9999,Zdu k m es.toList w h2,hfi,setObj,Sem.run,h1]
  | some p =>
   obtain⟨j,u⟩:=p
   rw[hfi]at hf
   obtain⟨_,hf2⟩:=hf
   rw[Nat.sub_zero]at hf2
   have hst:=hs.setMap (es':=es.eraseIdxIfInBounds j) (c':=c) hu (by unfold Zcs;rw[Zf3];exact hf2) (Zsu h9 j)
   refine⟨.tuple #[],_,O',?_,hst.1,hst.2,kk⟩
   simp only[execOp,resolve,invoke,builtin,Builtin.delete_,hs.sim.ev hx,hs.sim.ev hi]
   simp[hs.sim.ev hx,hs.sim.ev hi,Builtin.delete_,run_underlying ht,Zby h1,ZcW _ k 9999,Zdu k m es.toList w h2,hfi,setObj,Sem.run,h1]
def MpAt (w:World)(b:Nat)(m:List (ByteArray × Value)):Prop:=(It.mp b m).sat w
theorem MpAt.up {w w':World}{b:Nat}{m:List (ByteArray × Value)}{B:Nat}(h:MpAt w b m)(hb:Bel B w w')(hB:w.heap.size<=B):MpAt w' b m:=by
 refine It.sat_congr h fun k hk=>?_
 obtain rfl:k=b:=hk
 obtain⟨es,c,h1,_⟩:=h
 exact hb.block k (Nat.lt_of_lt_of_le (Array.getElem?_eq_some_iff.1 h1).1 hB)
theorem Zow {t kt et b:Nat}{x ix:Operand}{m:List (ByteArray × Value)}{k:ByteArray}{z v:Value}[hM:MapT P t kt et][StringT P kt][ZeroV P et z](hx:ev fr x=some (.map (some b)))(hi:ev fr ix=some (.string k))
  (hp:MpAt wr b m) (hv:(mget m k).getD z=v):Pu P n wr fr O (.lookup t x ix false) ty v:=hv▸ZtB (kt:=kt) (et:=et) hx hi (fun _ hw _=>hp.up hw (Nat.le_refl _))
theorem Zge {t kt et b:Nat}{x ix:Operand}{m:List (ByteArray × Value)}{k:ByteArray}{z v:Value}{c:Bool}[hM:MapT P t kt et][StringT P kt][ZeroV P et z](hx:ev fr x=some (.map (some b)))(hi:ev fr ix=some (.string k))
  (hp:MpAt wr b m) (hv:(mget m k).getD z=v) (hc:(mget m k).isSome=c):Pu P n wr fr O (.lookup t x ix true) ty (.tuple [v,.bool c].toArray) :=
 fun a w hs _ _ _ _=>by
  have:=ZfB (P:=P) (t:=t) (kt:=kt) (et:=et) (k:=k) (z:=z) (hp.up hs.old (Nat.le_refl _)) true
  simp only[execOp,hs.sim.ev hx,hs.sim.ev hi,Sem.run_bind,this,Result.andThen_ok,Sem.run_pure]
  rw[<- hv,<- hc]
  rfl
theorem Zqs {t t' kt et:Nat}{x:Operand}{p:Option Nat}[hM:MapT P t kt et](hx:ev fr x=some (.map p)):Pu P n wr fr O (.binOp .eql t x (.const (.map none)) t') ty (.bool p.isNone) :=
 fun a w hs _ _ _ _=>by
  have hu:=MapT.parts hM.h
  have h:(binOp .eql t (.map p) (.map none)).run P w = .ok (.bool p.isNone) w:=by
   simp only[binOp]
   have:∀ d,(Op.equalIn (d+1) t (.map p) (.map none)).run P w = .ok p.isNone w:=fun d=>by cases p <;> simp[Op.equalIn,run_underlying hu]
   rw[show Op.equal t (.map p) (.map none)=Op.equalIn (9999+1) t (.map p) (.map none) from rfl]
   simp only[Sem.run_bind,this 9999,Result.andThen_ok,Sem.run_pure]
  have hc:a.eval (.const (.map none)) = .map none:=rfl
  simp[execOp,hs.sim.ev hx,hc,eqGuard,h]
theorem Zqr {t kt et:Nat}{x:Operand}{v:Value}[hM:MapT P t kt et](hx:ev fr x=some v):Pu P n wr fr O (.makeInterface t x) ty (.iface t v) :=
 fun a w hs _ _ _ _=>by
  have hu:=MapT.parts hM.h
  simp[execOp,hs.sim.ev hx,Instr.makeInterface,run_underlying hu]
theorem ZoB {t xt kt et:Nat}{x:Operand}{v:Value}[hM:MapT P t kt et](hx:ev fr x=some (.iface t v)):Pu P n wr fr O (.typeAssert x xt t false) ty v :=
 fun a w hs _ _ _ _=>by
  have hu:=MapT.parts hM.h
  simp[execOp,hs.sim.ev hx,Instr.typeAssert,run_underlying hu]
def Zvm (P:Program)(f:FuncId):Prop:=∀ (args:Array Value) (w:World),(callFunc f args).run P w=((Extern.MapsClone.clone args).run P w).andThen fun v w' => .ok (.value v) w'
theorem Zmi {f t b:Nat}{x:Operand}{ts:Array TypeId}{m:List (ByteArray × Value)}(hf:Zvm P f)(hx:ev fr x=some (.iface t (.map (some b))))(hp:∀ w,Bel wr.heap.size wr w->Zau wr.heap.size O w->MpAt w b m)
  (kk:∀ b2,Kp (.iface t (.map (some b2))) (.mp b2 m::O)):Stp P n wr fr O ⟨dst,.call ⟨.value (.func f),#[x],ts⟩,ty,pos,af,g⟩ Kp :=
 Zb6 fun a w hs=>by
  obtain⟨es,c,h1,h2⟩:=hp w hs.old hs.own
  have hB:Bel w.heap.size w (w.alloc (.map es c)):=(Bel.refl _ _).alloc (Nat.le_refl _) _
  have hrun:(Extern.MapsClone.clone #[.iface t (.map (some b))]).run P w = .ok (.iface t (.map (some w.heap.size))) (w.alloc (.map es c)):=by
   have e:Extern.MapsClone.clone #[.iface t (.map (some b))]=(getObj b >>= fun o=>match o with
     | .map entries clock=>(newObj (.map entries clock) >>= fun n=>pure (.iface t (.map (some n))))
     | _=>stuck "maps.clone: a map expected"):=rfl
   rw[e]
   simp[Zby h1,newObj,Sem.run]
  refine⟨.iface t (.map (some w.heap.size)),w.alloc (.map es c),_,?_,hs.old.trans (hB.mono hs.old.size),hs.own.grow (O':=[.mp w.heap.size m]) hB hs.old.size ⟨fun i hi=>?_,fun i hi b hb=>?_,List.pairwise_singleton _ _⟩,kk _⟩
  ·have hev:=hs.sim.ev hx
   have he:a.eval (.func f) = .func (.func f) #[] #[]:=rfl
   have hc:=hf #[.iface t (.map (some b))] w
   rw[hrun,Result.andThen_ok]at hc
   simp[execOp,resolve,he,Deferred.ofValue,invoke,hc,hev]
  ·rw[List.mem_singleton.1 hi]
   exact⟨es,c,heap_alloc_new w _,h2⟩
  ·rw[List.mem_singleton.1 hi]at hb
   simp only[It.S]at hb
   subst hb
   exact⟨Nat.le_refl _,by simp⟩
end
def Nd (m:List (ByteArray × Value)):Prop:=(m.map (·.1)).Nodup
theorem Zex (k:ByteArray):∀ m:List (ByteArray × Value),mget m k=none↔k ∉ m.map (·.1)
 | []=>by simp[mget]
 | (x,v)::r=>by
  simp only[mget,List.map_cons,List.mem_cons,not_or]
  by_cases h:k=x
  ·simp[h]
  ·simp[h,Zex k r]
theorem ZhY (k:ByteArray)(v:Value):∀ m:List (ByteArray × Value),k∈m.map (·.1)->(mset m k v).map (·.1)=m.map (·.1)
 | [],h=>by simp at h
 | (x,u)::r,h=>by
  simp only[mset]
  by_cases hk:k=x
  ·simp[hk]
  ·rw[if_neg hk]
   simp only[List.map_cons,List.mem_cons,hk,false_or]at h ⊢
   rw[ZhY k v r h]
theorem ZgM (k:ByteArray)(v:Value):∀ m:List (ByteArray × Value),k ∉ m.map (·.1)->(mset m k v).map (·.1)=m.map (·.1)++[k]
 | [],_=>by simp[mset]
 | (x,u)::r,h=>by
  simp only[List.map_cons,List.mem_cons,not_or]at h
  simp only[mset,if_neg h.1,List.map_cons,ZgM k v r h.2,List.cons_append]
theorem Nd.set {m:List (ByteArray × Value)}(h:Nd m)(k:ByteArray)(v:Value):Nd (mset m k v):=by
 unfold Nd at h ⊢
 by_cases hk:k∈m.map (·.1)
 ·rw[ZhY k v m hk];exact h
 ·rw[ZgM k v m hk,List.nodup_append]
  exact⟨h,by simp,fun a ha b hb=>by simp only[List.mem_singleton]at hb;subst hb;exact fun e=>hk (e▸ha)⟩
theorem Zrc (k:ByteArray):∀ m:List (ByteArray × Value),(mdel m k).Sublist m
 | []=>List.Sublist.slnil
 | (x,u)::r=>by
  simp only[mdel]
  split
  ·exact List.sublist_cons_self _ _
  ·exact(Zrc k r).cons_cons _
theorem Nd.del {m:List (ByteArray × Value)}(h:Nd m)(k:ByteArray):Nd (mdel m k):=List.Nodup.sublist ((Zrc k m).map _) h
theorem Znm (k x:ByteArray):∀ {m:List (ByteArray × Value)},Nd m->mget (mdel m k) x=if x=k then none else mget m x
 | [],_=>by simp[mdel,mget]
 | (y,u)::r,h=>by
  unfold Nd at h
  simp only[List.map_cons,List.nodup_cons]at h
  simp only[mdel]
  by_cases hk:k=y
  ·subst hk
   rw[if_pos rfl]
   by_cases hx:x=k
   ·subst hx
    rw[if_pos rfl]
    exact(Zex x r).2 h.1
   ·rw[if_neg hx,mget,if_neg hx]
  ·rw[if_neg hk]
   simp only[mget]
   by_cases hx:x=y
   ·subst hx
    rw[if_pos rfl,if_pos rfl,if_neg (fun e=>hk e.symm)]
   ·rw[if_neg hx,if_neg hx,Znm k x h.2]
theorem Zrd (k:ByteArray):∀ {m:List (ByteArray × Value)},(mget m k).isSome=true->(mdel m k).length+1=m.length
 | [],h=>by simp[mget]at h
 | (y,u)::r,h=>by
  simp only[mget]at h
  simp only[mdel]
  by_cases hk:k=y
  ·simp[hk]
  ·rw[if_neg hk]at h ⊢
   simp[Zrd k h]
theorem Ziq (k:ByteArray)(v:Value):∀ m:List (ByteArray × Value),(mset m k v).length<=m.length+1
 | []=>by simp[mset]
 | (y,u)::r=>by
  simp only[mset]
  split
  ·simp
  ·simp[Ziq k v r]
section
variable {P:Program}{n:Nat}{wr:World}{Q:Exit->Fr->List It->Prop}{fr:Fr}{O:List It}{K:Fr->List It->Prop}
theorem ZyG {l:Nat}{rs:List ResultVar}{R:Value->List It->Prop}:¬ retQ P wr rs R (.goto l) fr O:=id
theorem ZBz {c:Code}(hg:∀ l fr O,¬ Q (.goto l) fr O)(h:W P n wr c Q fr O):W P n wr (.scope c) Q fr O:=by
 intro a w hs
 refine wp_scope_straight (wp_mono (h a w hs) ?_)
 rintro e a' w' ⟨fr',O',hs',hq⟩
 cases e with
 | goto l=>exact(hg l _ _ hq).elim
 | _=>exact⟨fr',O',hs',hq⟩
theorem ZBB {l:Nat}(h:Q .normal fr O):W P n wr (.label l) Q fr O:=fun _ _ hs=>wp_label ⟨fr,O,hs,h⟩
end
section
variable {P:Program}{n:Nat}{wr:World}{fr:Fr}{O:List It}{ty:TypeId}{pos:String}{af:Array Edge}{dst:Option Tmp}{g:Option (Nat × Bool)}{Kp:Value->List It->Prop}
theorem Zov {t len e sz b:Nat}{ag:Bool}{x y:Operand}{h:Int}[hA:ArrT P t len e sz ag](hx:ev fr x=some (.pointer (some ⟨b,0,none⟩)))(hy:ev fr y=some (.int .i64 h))(h0:0<=h)(h1:h<=len) :
  Pu P n wr fr O (.slice t x none (some y) none) ty (.slice (some ⟨b,0,none⟩) h.toNat len) :=
 fun a w hs _ _ _ _=>by
  have h:=hA.h
  unfold Zlf at h
  split at h
  ·rename_i len' e' hu
   split at h
   ·rename_i sz' ag' ht
    simp only[Option.some.injEq,Prod.mk.injEq]at h
    obtain⟨rfl,rfl,rfl,rfl⟩:=h
    obtain⟨inf,dd,hinf,hsz,_,_⟩:=Ty.parts ht
    simp[execOp,hs.sim.ev hx,hs.sim.ev hy,Instr.sliceAt,run_underlying hu,Instr.sureAddr,Instr.sliceBounds,run_sliceBound,h0,h1,sizeOf,ZaR hinf,Addr.add]
   ·cases h
  ·cases h
theorem Zj6 {t sz b p:Nat}{x:Operand}{cs:List Value}{bt:TypeId}{v:Value}{R:List It}[Ty P t sz false](hx:ev fr x=some (.pointer (some ((adr (some ⟨b,0,none⟩)).add p))))
  (hp:Pick (.blk b cs bt) O R) (hv:cs[p]?=some v):Pu P n wr fr O (.load t x) ty v :=
 Pu_loadB1 (by rw[hx,show adr (some (⟨b,0,none⟩:Addr))=⟨b,0,none⟩ from rfl,Zcv,Nat.zero_add]) hp hv
theorem Zox {t sz b p:Nat}{x:Operand}{cs:List Value}{bt:TypeId}{v:Value}{R:List It}[Ty P t sz false](hx:ev fr x=some (.pointer (some ((⟨b,0,none⟩:Addr).add p))))
  (hp:Pick (.blk b cs bt) O R) (hv:cs[p]?=some v):Pu P n wr fr O (.load t x) ty v :=
 Pu_loadB1 (by rw[hx,Zcv,Nat.zero_add]) hp hv
theorem Zhe {t:TypeId}{x:Operand}{i:Int}(hx:ev fr x=some (.int .i64 i))(h : -9223372036854775807<=i/\i<=9223372036854775807):Pu P n wr fr O (.unOp .neg t x) ty (.int .i64 (-i)):=by
 have:=Pu_negW (P:=P) (n:=n) (wr:=wr) (O:=O) (ty:=ty) (t:=t) hx
 rwa[Int.zero_sub,ZbS (by omega)]at this
def Zp6 (c:UInt8):Value := .int .u8 (c.toNat:Int)
theorem ZoA {t t' e sz bytes et c:Nat}{x:Operand}{A:Option Addr}{m:Nat}{l:List UInt8}{xs:List Value}{R:List It}[hE:ElemT P t e sz bytes][hU:IntT P e .u8][hS:StringT P t'](hx:ev fr x=some (.slice A m c))
  (hp:Pick (.row (.slice A m c) et 1 m xs) O R) (hxs:xs=l.map Zp6) (hm:m=l.length) (hA:A≠none):Pu P n wr fr O (.convert t t' x) ty (.string ⟨l.toArray⟩) :=
 fun a w hs _ _ _ _=>by
  have h:=hE.h
  unfold ZhE at h
  split at h
  ·rename_i e' hu
   split at h
   ·simp only[Option.some.injEq,Prod.mk.injEq]at h
    obtain⟨rfl,_,_⟩:=h
    obtain⟨ad,rfl⟩:=Option.ne_none_iff_exists'.1 hA
    subst hm hxs
    have hsat:=hs.own.sat _ (hp.perm.mem_iff.2 List.mem_cons_self)
    have hc:∀ j (hj:j<l.length),w.cell? (ad.add j)=some (.int .u8 (l[j].toNat:Int)):=fun j hj=>by
     have:=Zcb hsat (j:=j) (u:=Zp6 l[j]) (by rw[List.getElem?_map,List.getElem?_eq_getElem hj];rfl)
     exact this.2
    have hrun:=run_convert_bytes_back (P:=P) w t t' e' ad c l hu hU.h hS.h hc
    simp[execOp,hs.sim.ev hx,hrun]
   ·cases h
  ·cases h
theorem Za2 {t t':TypeId}{x y:Operand}{kk:IntKind}{i j:Int}{b:Bool}(hx:ev fr x=some (.int kk i))(hy:ev fr y=some (.int kk j))(h:decide (i<j)=b):Pu P n wr fr O (.binOp .lss t x y t') ty (.bool b):=h▸Pu_lss hx hy
theorem ZeP {t t':TypeId}{x y:Operand}{kk:IntKind}{i j:Int}{b:Bool}(hx:ev fr x=some (.int kk i))(hy:ev fr y=some (.int kk j))(h:decide (i<=j)=b):Pu P n wr fr O (.binOp .leq t x y t') ty (.bool b):=h▸Pu_leq hx hy
theorem Za3 {t t':TypeId}{x y:Operand}{kk:IntKind}{i j:Int}{b:Bool}(hx:ev fr x=some (.int kk i))(hy:ev fr y=some (.int kk j))(h:decide (j<i)=b):Pu P n wr fr O (.binOp .gtr t x y t') ty (.bool b):=h▸Pu_gtr hx hy
theorem ZcJ {t t':TypeId}{x y:Operand}{kk:IntKind}{i j:Int}{b:Bool}(hx:ev fr x=some (.int kk i))(hy:ev fr y=some (.int kk j))(h:decide (j<=i)=b):Pu P n wr fr O (.binOp .geq t x y t') ty (.bool b):=h▸Pu_geq hx hy
theorem ZaA {t t':TypeId}{x y:Operand}{kk:IntKind}{i j:Int}{b:Bool}(hx:ev fr x=some (.int kk i))(hy:ev fr y=some (.int kk j))(h:decide (i=j)=b):Pu P n wr fr O (.binOp .eql t x y t') ty (.bool b):=h▸Pu_eql hx hy
theorem ZaH {t t':TypeId}{x y:Operand}{kk:IntKind}{i j:Int}{b:Bool}(hx:ev fr x=some (.int kk i))(hy:ev fr y=some (.int kk j))(h:(!decide (i=j))=b):Pu P n wr fr O (.binOp .neq t x y t') ty (.bool b):=h▸Pu_neq hx hy
theorem Zhg {t t':TypeId}{x y:Operand}{i j:ByteArray}{b:Bool}(hx:ev fr x=some (.string i))(hy:ev fr y=some (.string j))(h:decide (i=j)=b):Pu P n wr fr O (.binOp .eql t x y t') ty (.bool b):=h▸Pu_eqlS hx hy
theorem ZeN {t t':TypeId}{x y:Operand}{i j:ByteArray}{b:Bool}(hx:ev fr x=some (.string i))(hy:ev fr y=some (.string j))(h:(!decide (i=j))=b):Pu P n wr fr O (.binOp .neq t x y t') ty (.bool b):=h▸Pu_neqS hx hy
end
end Go.Wk
namespace Go.Proofs.YtbjomhdhkpgbaaaGreatDoor
open Go Go.RowKit Go.Wk
attribute [local irreducible] W RL Does Zar Zal retQ Calls Pu Stp RD Qy Ay
theorem ZaU {G G':Prop}(k:G')(h:Hold G'->G:=by intro k9;(first|refine walk ?_|(refine jn ?_;(try intro F);(apply Zag;exact PuA);refine fin ?_));exact k9.out):G:=h ⟨k⟩
theorem ZiD {G G':Prop}(k:G')(h:Hold G'->G:=by intro k9;(first|(apply RL_pu;rfl;exact PuI)|(apply RD_Q;rfl;rfl;decide +kernel;rfl;rfl;exact QyI)|refine walk1 ?_|(refine jn ?_;(try intro F);(apply Zag;first|exact PuI|exact PuA);first|refine⟨_,EndsA,QFI,?_⟩|refine fin ?_));exact k9.out):G:=h ⟨k⟩
theorem Zgu (A B:Option Addr)(ca cb:Nat)(x y:List ByteArray)(w:World)(hA:RdSl w A ca Zav 1 x)(hB:RdSl w B cb Zav 1 y) :
  Does Tryz.prog 19 [.slice A x.length ca,.slice B y.length cb] w (fun v O=>v = .bool (decide (x=y))/\O=[]):=by
 have hs1:=hA.le
 have hs2:=hA.cap
 unfold maxLen at hs2
 generalize hres:decide (x=y)=res
 refine Zaa Tryz.func19 rfl rfl rfl rfl ?_
 repeat refine ZaU ?_
 refine Zah rfl (fun h1=>?_) (fun h1=>?_)
 ·repeat refine ZaU ?_
  exact ret_1 _ [] (.tmp rfl) .nil ⟨by rw[<- hres,ZhH];simp at h1;omega,rfl⟩
 have hlen:x.length=y.length:=by simp at h1;omega
 clear h1
 repeat refine ZaU ?_
 refine Zaq [(0,_),(1,_),(4,_),(12,_)] _ (fun k:Nat=>[(13,.int .i64 k)]) (fun _=>[]) (fun k=>k<=x.length/\decide (x.drop k=y.drop k)=res) (fun k=>x.length - k) 0 ⟨rfl,rfl,rfl,rfl,rfl,trivial⟩ (.refl _) ⟨by omega,hres⟩ ?_
 rintro k ⟨hk,hi⟩
 repeat refine ZaU ?_
 refine Zah rfl (fun hc=>?_) (fun hc=>?_)
 ·simp only[decide_eq_true_eq,Int.ofNat_lt]at hc
  have hcy:k<y.length:=by omega
  obtain⟨hna,hca⟩:=hA.rd k _ (List.getElem?_eq_getElem hc)
  obtain⟨hnb,hcb⟩:=hB.rd k _ (List.getElem?_eq_getElem hcy)
  rw[Zao hc,Zao hcy,ZfO]at hi
  generalize x[k]=p at *
  generalize y[k]=q at *
  repeat refine ZiD ?_
  refine Zah rfl (fun h3=>?_) (fun h3=>?_)
  ·repeat refine ZaU ?_
   exact ret_1 _ [] (.tmp rfl) .nil ⟨by simp at h3;simp[<- hi,h3],rfl⟩
  repeat refine ZaU ?_
  simp at h3
  exact⟨k+1,by omega,⟨by omega,by rw[<- hi];simp[h3]⟩,SFA,SOA⟩
 simp only[decide_eq_false_iff_not,Int.ofNat_lt]at hc
 repeat refine ZaU ?_
 exact ret_1 _ [] (.tmp rfl) .nil ⟨by rw[<- hi,ZhG (by omega) (by omega)],rfl⟩
theorem ZjH (A B:Option Addr)(ca cb:Nat)(x y:List DEra)(w:World)(hA:RdSl w A ca DEra.enc 13 x)(hB:RdSl w B cb DEra.enc 13 y) :
  Does Tryz.prog 70 [.slice A x.length ca,.slice B y.length cb] w (fun v O=>v = .bool (decide (x=y))/\O=[]):=by
 have hs1:=hA.le
 have hs2:=hA.cap
 unfold maxLen at hs2
 generalize hres:decide (x=y)=res
 refine Zaa Tryz.func70 rfl rfl rfl rfl ?_
 repeat refine ZaU ?_
 refine Zah rfl (fun h1=>?_) (fun h1=>?_)
 ·repeat refine ZaU ?_
  exact ret_1 _ [] (.tmp rfl) .nil ⟨by rw[<- hres,ZhH];simp at h1;omega,rfl⟩
 have hlen:x.length=y.length:=by simp at h1;omega
 clear h1
 repeat refine ZaU ?_
 refine Zaq [(0,_),(1,_),(4,_),(12,_)] _ (fun k:Nat=>[(13,.int .i64 k)]) (fun _=>[]) (fun k=>k<=x.length/\decide (x.drop k=y.drop k)=res) (fun k=>x.length - k) 0 ⟨rfl,rfl,rfl,rfl,rfl,trivial⟩ (.refl _) ⟨by omega,hres⟩ ?_
 rintro k ⟨hk,hi⟩
 repeat refine ZaU ?_
 refine Zah rfl (fun hc=>?_) (fun hc=>?_)
 ·simp only[decide_eq_true_eq,Int.ofNat_lt]at hc
  have hcy:k<y.length:=by omega
  obtain⟨hna,hca⟩:=hA.rd k _ (List.getElem?_eq_getElem hc)
  obtain⟨hnb,hcb⟩:=hB.rd k _ (List.getElem?_eq_getElem hcy)
  rw[Zao hc,Zao hcy,ZfO]at hi
  generalize x[k]=p at *
  generalize y[k]=q at *
  repeat refine ZiD ?_
  refine Zah rfl (fun h3=>?_) (fun h3=>?_)
  ·repeat refine ZaU ?_
   exact ret_1 _ [] (.tmp rfl) .nil ⟨by simp at h3;simp[<- hi,h3],rfl⟩
  repeat refine ZaU ?_
  simp at h3
  exact⟨k+1,by omega,⟨by omega,by rw[<- hi];simp[h3]⟩,SFA,SOA⟩
 simp only[decide_eq_false_iff_not,Int.ofNat_lt]at hc
 repeat refine ZaU ?_
 exact ret_1 _ [] (.tmp rfl) .nil ⟨by rw[<- hi,ZhG (by omega) (by omega)],rfl⟩
theorem ZjG (A B:Option Addr)(ca cb:Nat)(x y:List Zbl)(w:World)(hA:RdSl w A ca Zbl.enc 2 x)(hB:RdSl w B cb Zbl.enc 2 y) :
  Does Tryz.prog 17 [.slice A x.length ca,.slice B y.length cb] w (fun v O=>v = .bool (decide (x=y))/\O=[]):=by
 have hs1:=hA.le
 have hs2:=hA.cap
 unfold maxLen at hs2
 generalize hres:decide (x=y)=res
 refine Zaa Tryz.func17 rfl rfl rfl rfl ?_
 repeat refine ZaU ?_
 refine Zah rfl (fun h1=>?_) (fun h1=>?_)
 ·repeat refine ZaU ?_
  exact ret_1 _ [] (.tmp rfl) .nil ⟨by rw[<- hres,ZhH];simp at h1;omega,rfl⟩
 have hlen:x.length=y.length:=by simp at h1;omega
 clear h1
 repeat refine ZaU ?_
 refine Zaq [(0,_),(1,_),(4,_),(12,_)] _ (fun k:Nat=>[(13,.int .i64 k)]) (fun _=>[]) (fun k=>k<=x.length/\decide (x.drop k=y.drop k)=res) (fun k=>x.length - k) 0 ⟨rfl,rfl,rfl,rfl,rfl,trivial⟩ (.refl _) ⟨by omega,hres⟩ ?_
 rintro k ⟨hk,hi⟩
 repeat refine ZaU ?_
 refine Zah rfl (fun hc=>?_) (fun hc=>?_)
 ·simp only[decide_eq_true_eq,Int.ofNat_lt]at hc
  have hcy:k<y.length:=by omega
  obtain⟨hna,hca⟩:=hA.rd k _ (List.getElem?_eq_getElem hc)
  obtain⟨hnb,hcb⟩:=hB.rd k _ (List.getElem?_eq_getElem hcy)
  rw[Zao hc,Zao hcy,ZfO]at hi
  generalize x[k]=p at *
  generalize y[k]=q at *
  repeat refine ZiD ?_
  refine Zah rfl (fun h3=>?_) (fun h3=>?_)
  ·repeat refine ZaU ?_
   exact ret_1 _ [] (.tmp rfl) .nil ⟨by simp at h3;simp[<- hi,h3],rfl⟩
  repeat refine ZaU ?_
  simp at h3
  exact⟨k+1,by omega,⟨by omega,by rw[<- hi];simp[h3]⟩,SFA,SOA⟩
 simp only[decide_eq_false_iff_not,Int.ofNat_lt]at hc
 repeat refine ZaU ?_
 exact ret_1 _ [] (.tmp rfl) .nil ⟨by rw[<- hi,ZhG (by omega) (by omega)],rfl⟩
theorem Zed (k:ByteArray)(v:Value)(x:ByteArray):∀ m:List (ByteArray × Value),mget (mset m k v) x=if x=k then some v else mget m x
 | []=>by simp[mset,mget]
 | (y,u)::r=>by
  simp only[mset]
  split
  ·rename_i h;subst h;simp only[mget];split <;> simp_all
  ·rename_i h
   simp only[mget,Zed k v x r]
   split
   ·rename_i h2;subst h2;rw[if_neg (fun e=>h e.symm)]
   ·rfl
def MpB (m:List (ByteArray × Value))(l:List ByteArray):Prop:=∀ x,(mget m x).getD (.bool false) = .bool (memB x l)
theorem MpB.set {m:List (ByteArray × Value)}{l:List ByteArray}(h:MpB m l)(y:ByteArray):MpB (mset m y (.bool true)) (l++[y]):=fun x=>by
 rw[Zed,Zi4]
 by_cases e:x=y
 ·subst e;simp
 ·rw[if_neg e,h x];simp[show ¬ y=x from fun h=>e h.symm]
theorem MpB.nil:MpB [] []:=fun _=>rfl
structure MG (α:Type) where
 k:Nat
 A:Option Addr
 c:Nat
 m:Nat
 xs:List Value
 acc:List α
 mp:List (ByteArray × Value)
theorem ZkO (Ar Az Al As:Option Addr)(cr cz cl cs:Nat)(a:Zac)(w:World)(hA:Zan w Ar Az Al As cr cz cl cs a)(hn:a.rules.length<=1000000) :
  Does Tryz.prog 86 [srcV Ar Az Al As cr cz cl cs a] w (Zik 9 1 Zav (ZaS a.rules [])):=by
 generalize hres:ZaS a.rules []=res
 refine Zaa Tryz.func86 rfl rfl rfl rfl ?_
 repeat (first|(refine js ?_;(refine bx ?_;intro bk))|refine walk ?_)
 refine Zdj 9 1 ?_
 refine Zaq [(3,_),(9,_),(10,_)] [] (fun g:MG ByteArray=>[(4,.slice g.A g.m g.c),(11,.int .i64 g.k)]) (fun g=>[.row (.slice g.A g.m g.c) 9 1 g.m g.xs,.mp _ g.mp]) (fun g=>g.k<=a.rules.length/\g.m=g.acc.length/\g.xs=g.acc.flatMap Zav/\g.m<=g.k/\MpB g.mp g.acc/\ZaS (a.rules.drop g.k) g.acc=res) (fun g=>a.rules.length - g.k) ⟨0,none,0,0,[],[],[]⟩ ⟨rfl,rfl,rfl,rfl,rfl,trivial⟩ SOA ⟨by simp,rfl,rfl,Nat.le_refl _,.nil,by simpa using hres⟩ ?_
 rintro⟨k,A,c,m,xs,acc,mp⟩ ⟨hk,hm,hx,hmk,hp,hi⟩
 dsimp only at hk hm hx hmk hp hi ⊢
 repeat (first|(refine js ?_;(refine bx ?_;intro bk))|refine walk ?_)
 refine Zah rfl (fun hc=>?_) (fun hc=>?_)
 ·simp only[decide_eq_true_eq,Int.ofNat_lt]at hc
  obtain⟨hna,hca⟩:=hA.r.rd k _ (List.getElem?_eq_getElem hc)
  have hnb:=hna
  have hcb:=hca
  rw[Zao hc,ZaS]at hi
  generalize a.rules[k]=r at *
  repeat (first|(apply RL_pu;rfl;(first|exact PuI|(apply ZhQ;rfl;rfl;(focus repeat' constructor);exact hp _)))|(refine js ?_;(refine bx ?_;intro bk))|refine walk1 ?_)
  refine Zah rfl (fun h3=>?_) (fun h3=>?_)
  ·simp only[Bool.not_eq_true']at h3
   rw[h3]at hi
   repeat (first|(apply RL_pu;rfl;exact PuI)|(refine js ?_;(first|(apply Zay;rfl;rfl;(intro A' c';(focus repeat' constructor));(intro w' _ hO;exact Zbv (hO.of (by repeat' constructor)));rfl;rfl;(simp only[maxLen];omega);omega;intro A' c' hc1 hc2 hc3)|(refine bx ?_;intro bk)))|refine walk1 ?_)
   exact⟨⟨k+1,A',c',m+1,xs++Zav r.name,acc++[r.name],mset mp r.name (.bool true)⟩,OA,⟨OA,by simp[hm],by rw[hx];exact Zfs acc r.name,OA,hp.set _,by rw[<- hi];simp⟩,SFA,SOA⟩
  simp only[Bool.not_eq_false']at h3
  rw[h3]at hi
  repeat (first|(refine js ?_;(refine bx ?_;intro bk))|refine walk ?_)
  exact⟨⟨k+1,A,c,m,xs,acc,mp⟩,OA,⟨OA,hm,hx,OA,hp,by rw[<- hi];simp⟩,SFA,SOA⟩
 simp only[decide_eq_false_iff_not,Int.ofNat_lt]at hc
 rw[List.drop_eq_nil_of_le (by omega),ZaS]at hi
 subst hi
 repeat (first|(refine js ?_;(refine bx ?_;intro bk))|refine walk ?_)
 exact ret_1 _ [.row (.slice A acc.length c) 9 1 acc.length (acc.flatMap Zav)] (.tmp rfl) (by subst hm hx;exact SOA) ⟨A,c,by rw[hm],rfl⟩
structure ZrW where
 name:ByteArray
 rs:List Zab
 A:Option Addr
 c:Nat
 m:Nat
 xs:List Value
def ZrW.v (g:ZrW):Value := .slice g.A g.m g.c
def ZrW.row (g:ZrW):It := .row (.slice g.A g.m g.c) 56 11 g.m g.xs
structure Fits (a:Zac):Prop where
 r:a.rules.length<=1000000
 z:a.zones.length<=1000000
 l:a.links.length<=1000000
 s:a.shifts.length<=1000000
 e:∀ z∈a.zones,z.eras.length<=1000000
structure ZE where
 z:ZaO
 A:Option Addr
 c:Nat
def ZE.enc (q:ZE):List Value:=[.string q.z.name,.slice q.A q.z.eras.length q.c]
theorem ZE.len (x:ZE):x.enc.length=2:=rfl
theorem oneZ (x:ZE):x.enc.all Value.oneCell'=true:=rfl
def ZaN (Zs:List ZE)(w:World):Prop:=∀ q∈Zs,RdSl w q.A q.c DEra.enc 13 q.z.eras
theorem ZxB {w:World}{A:Option Addr}{c:Nat}{Zs:List ZE}(h:RdSl w A c ZE.enc 2 Zs)(he:ZaN Zs w):RdZ w A (Zs.map ZE.z):=fun k z hz=>by
 rw[List.getElem?_map]at hz
 cases hq:Zs[k]? with
 | none=>rw[hq]at hz;cases hz
 | some q =>
  rw[hq]at hz
  injection hz with hz
  subst hz
  exact⟨(h.rd k q hq).1,q.enc,⟨q.A,q.c,he q (List.mem_of_getElem? hq),rfl⟩,(h.rd k q hq).2⟩
abbrev rowR (A:Option Addr)(c:Nat)(l:List Zab):It := .row (.slice A l.length c) 56 11 l.length (l.flatMap Zab.enc)
abbrev rowZ (A:Option Addr)(c:Nat)(l:List ZE):It := .row (.slice A l.length c) 46 2 l.length (l.flatMap ZE.enc)
abbrev rowL (A:Option Addr)(c:Nat)(l:List Zbl):It := .row (.slice A l.length c) 69 2 l.length (l.flatMap Zbl.enc)
abbrev rowS (A:Option Addr)(c:Nat)(l:List ByteArray):It := .row (.slice A l.length c) 9 1 l.length (l.flatMap Zav)
def Zhk (s:Zac)(v:Value)(O:List It):Prop :=
 ∃ Ar cr Az cz Al cl As cs Zs S,v=srcV Ar Az Al As cr cz cl cs s/\Zs.map ZE.z=s.zones/\O=[rowR Ar cr s.rules,rowZ Az cz Zs,rowL Al cl s.links,rowS As cs s.shifts,.fact S (ZaN Zs)]
theorem Zbt {w:World}{Ar Az Al As:Option Addr}{cr cz cl cs:Nat}{Zs:List ZE}{S:Nat->Prop}{s:Zac}(hz:Zs.map ZE.z=s.zones)(h1:(rowR Ar cr s.rules).sat w)(h2:(rowZ Az cz Zs).sat w)(h3:(rowL Al cl s.links).sat w)(h4:(rowS As cs s.shifts).sat w)(h5:(It.fact S (ZaN Zs)).sat w) :
  Zan w Ar Az Al As cr cz cl cs s:=by
 have h:=Zbc ZE.len h2
 have hl:s.zones.length=Zs.length:=by rw[<- hz,List.length_map]
 exact⟨Zbc Zab.len h1,by rw[hl];exact h.le,h.cap,hz▸ZxB h (Za6 h5),Zbc Zbl.len h3,Zbc Zav.len h4⟩
end Go.Proofs.YtbjomhdhkpgbaaaGreatDoor
namespace Go.Proofs.YtbjomhdhkpgbaaaGreatDoor
open Go Go.RowKit Go.Wk
abbrev ZaG (q:ZE):It := .row (.slice q.A q.z.eras.length q.c) 54 13 q.z.eras.length (q.z.eras.flatMap DEra.enc)
def Zd4 (s:Zac)(v:Value)(O:List It):Prop :=
 ∃ Ar cr Az cz Al cl As cs Zs,v=srcV Ar Az Al As cr cz cl cs s/\Zs.map ZE.z=s.zones/\O=rowR Ar cr s.rules::rowZ Az cz Zs::rowL Al cl s.links::rowS As cs s.shifts::Zs.map ZaG
theorem ZcX {s:Zac}{v:Value}{O:List It}(h:Zd4 s v O):∃ O',Zhk s v O'/\∀ base w',Zau base O w'->Zau base O' w':=by
 obtain⟨Ar,cr,Az,cz,Al,cl,As,cs,Zs,rfl,hz,rfl⟩:=h
 refine⟨_,⟨Ar,cr,Az,cz,Al,cl,As,cs,Zs,foot (Zs.map ZaG),rfl,hz,rfl⟩,fun base w' hH=>?_⟩
 have h1:Zau base (Zs.map ZaG++[rowR Ar cr s.rules,rowZ Az cz Zs,rowL Al cl s.links,rowS As cs s.shifts]) w':=hH.perm (List.perm_append_comm (l₁:=[rowR Ar cr s.rules,rowZ Az cz Zs,rowL Al cl s.links,rowS As cs s.shifts]))
 have h2:=h1.fact (p:=ZaN Zs) (fun w2 hi q hq=>Zbc DEra.len (hi (ZaG q) (List.mem_map.2 ⟨q,hq,rfl⟩)))
 exact h2.perm (List.perm_append_comm (l₁:=[_]) (l₂:=[rowR Ar cr s.rules,rowZ Az cz Zs,rowL Al cl s.links,rowS As cs s.shifts]))
theorem SubO.permT {l A B O:List It}(h:SubO (l++A) O)(hp:A.Perm B):SubO (l++B) O:=by
 obtain⟨R,hR⟩:=h.perm
 exact SubO.ofPerm (R:=R) (hR.trans ((hp.append_left l).append_right R))
section
variable {P:Program}{n:Nat}{wr:World}{fr:Fr}{O:List It}{ops:Array Oper}{K:Fr->List It->Prop}
end
attribute [local irreducible] W RL Does Zar Zal retQ Calls Pu Stp RD Qy Ay
attribute [local irreducible] Zak
def ZdY (x y:ByteArray):Bool:=Op.bytesLess x.toList y.toList
theorem ZsZ (x:ByteArray)(w:World):Does Tryz.prog 196 [.string x] w (fun v O=>v = .bool false/\O=[]):=by
 refine Zaa Tryz.func196 rfl rfl rfl rfl ?_
 repeat (first|refine walk ?_)
 exact ret_1 _ [] (.tmp rfl) .nil ⟨by simp,rfl⟩
theorem Zu9 (x y:ByteArray)(w:World):Does Tryz.prog 154 [.string x,.string y] w (fun v O=>v = .bool (ZdY x y)/\O=[]):=by
 refine Zaa Tryz.func154 rfl rfl rfl rfl ?_
 repeat (first|(refine js ?_;(refine Zae (fun w' _=>ZsZ x w') ?_))|refine walk ?_)
 exact rtA
set_option maxRecDepth 100000 in
theorem ZsT (x:Int)(h0:0<=x)(h1:x<=255)(w:World):Does Tryz.prog 158 [.int .u64 x] w (fun v O=>(∃ i,v = .int .i64 i)/\O=[]):=by
 refine Zaa Tryz.func158 rfl rfl rfl rfl ?_
 repeat (first|refine walk ?_)
 refine Zah rfl (fun g1=>absurd g1 (by simp;omega)) (fun _=>?_)
 repeat (first|refine walk ?_)
 refine Zah rfl (fun g1=>absurd g1 (by simp;omega)) (fun _=>?_)
 repeat (first|refine walk ?_)
 refine Zah rfl (fun g1=>absurd g1 (by simp;omega)) (fun _=>?_)
 repeat (first|refine walk ?_)
 have hw:IntKind.u8.wrap x=x:=by simp[IntKind.wrap,IntKind.signed,IntKind.bits];omega
 refine ZDo 21 (.int .u8 x) rfl (by rw[hw]) ?_
 repeat (first|(apply RL_pu;rfl;(first|(apply Zj7;rfl;rfl;omega;(show x<((256:Nat):Int);omega))|(apply Zj9;rfl;rfl)))|refine walk1 ?_)
 exact ret_1 _ [] (.tmp rfl) .nil ⟨⟨_,rfl⟩,rfl⟩
theorem Zv5 (x:Int)(h0:0<=x)(h1:x<=255)(w:World):Does Tryz.prog 108 [.int .u64 x] w (fun v O=>(∃ i,v = .int .i64 i)/\O=[]):=by
 refine Zaa Tryz.func108 rfl rfl rfl rfl ?_
 repeat (first|(refine js ?_;(apply Zad (h:=fun w' _ _=>ZsT x h0 h1 w');rfl;rintro v O' ⟨⟨i,rfl⟩,rfl⟩))|refine walk ?_)
 exact ret_1 _ [] (.tmp rfl) .nil ⟨⟨_,rfl⟩,rfl⟩
def Zcq (P:List ByteArray)(x:ByteArray)(j:Nat):List ByteArray:=P.take j++x::P.drop j
def insB (P:List ByteArray)(x:ByteArray):Nat->List ByteArray
 | 0=>Zcq P x 0
 | j+1=>if ZdY x (P.getD j ByteArray.empty) then insB P x j else Zcq P x (j+1)
def Zdd (l:List ByteArray):List ByteArray:=l.foldl (fun P x=>insB P x P.length) []
theorem Zbh (P:List ByteArray)(x:ByteArray)(j:Nat):(Zcq P x j).length=P.length+1:=by
 simp[Zcq];omega
theorem Zrn (P:List ByteArray)(x:ByteArray):∀ j,(insB P x j).length=P.length+1
 | 0=>Zbh P x 0
 | j+1=>by
  rw[insB]
  split
  ·exact Zrn P x j
  ·exact Zbh P x (j+1)
theorem Zt9 (L:List ByteArray)(p:Nat):(L.flatMap Zav)[p]?=(L[p]?).map Value.string:=by
 induction L generalizing p with
 | nil=>simp
 | cons y L ih =>
  cases p with
  | zero=>simp[Zav]
  | succ p=>simp only[List.flatMap_cons,Zav,List.singleton_append,List.getElem?_cons_succ];exact ih p
theorem Zt7 (L:List ByteArray)(p:Nat)(y:ByteArray):(L.flatMap Zav).set p (.string y)=(L.set p y).flatMap Zav:=by
 induction L generalizing p with
 | nil=>simp
 | cons z L ih =>
  cases p with
  | zero=>simp[Zav]
  | succ p=>simp only[List.flatMap_cons,Zav,List.singleton_append,List.set_cons_succ];rw[<- ih p]
theorem Zt8 (L:List ByteArray):(L.flatMap Zav).length=L.length:=by
 have:=ZaJ Zav.len L
 omega
theorem ZkD (P R:List ByteArray)(x:ByteArray)(j:Nat)(hj:j<=P.length):(Zcq P x j++R)[j]?=some x:=by
 rw[List.getElem?_append_left (by rw[Zbh];omega),Zcq,List.getElem?_append_right (by rw[List.length_take];omega),List.length_take,show j - min j P.length=0 from by omega]
 rfl
theorem Znc (P R:List ByteArray)(x:ByteArray)(j:Nat)(hj:j<P.length):(Zcq P x (j+1)++R)[j]?=some (P.getD j ByteArray.empty):=by
 rw[List.getElem?_append_left (by rw[Zbh];omega),Zcq,List.getElem?_append_left (by rw[List.length_take];omega),List.getElem?_take,if_pos (by omega),List.getD_eq_getElem?_getD,List.getElem?_eq_getElem hj]
 rfl
theorem ZsG (P R:List ByteArray)(x:ByteArray)(j:Nat)(hj:j<P.length):((Zcq P x (j+1)++R).set (j+1) (P.getD j ByteArray.empty)).set j x=Zcq P x j++R:=by
 have hg:P.getD j ByteArray.empty=P[j]:=by rw[List.getD_eq_getElem?_getD,List.getElem?_eq_getElem hj];rfl
 apply List.ext_getElem?
 intro i
 have hlen:(Zcq P x (j+1)++R).length=P.length+1+R.length:=by rw[List.length_append,Zbh]
 rw[List.getElem?_set,List.getElem?_set,List.length_set,hlen]
 by_cases h1:j=i
 ·subst h1
  rw[if_pos rfl,if_pos (by omega),ZkD P R x j (by omega)]
 ·rw[if_neg h1]
  by_cases h2:j+1=i
  ·subst h2
   rw[if_pos rfl,if_pos (by omega),List.getElem?_append_left (by rw[Zbh];omega),Zcq,List.getElem?_append_right (by rw[List.length_take];omega),List.length_take,show j+1 - min j P.length=1 from by omega,List.getElem?_cons_succ,List.getElem?_drop,List.getElem?_eq_getElem (by omega),hg]
   simp
  ·rw[if_neg h2]
   by_cases h3:i<j
   ·rw[List.getElem?_append_left (by rw[Zbh];omega),List.getElem?_append_left (by rw[Zbh];omega),Zcq,Zcq,List.getElem?_append_left (by rw[List.length_take];omega),List.getElem?_append_left (by rw[List.length_take];omega),List.getElem?_take,List.getElem?_take,if_pos (by omega),if_pos (by omega)]
   ·by_cases h4:i<P.length+1
    ·rw[List.getElem?_append_left (by rw[Zbh];omega),List.getElem?_append_left (by rw[Zbh];omega),Zcq,Zcq,List.getElem?_append_right (by rw[List.length_take];omega),List.getElem?_append_right (by rw[List.length_take];omega),List.length_take,List.length_take,show i - min (j+1) P.length=(i - j - 2)+1 from by omega,show i - min j P.length=(i - j - 1)+1 from by omega,List.getElem?_cons_succ,List.getElem?_cons_succ,List.getElem?_drop,List.getElem?_drop,show j+1+(i - j - 2)=j+(i - j - 1) from by omega]
    ·rw[List.getElem?_append_right (by rw[Zbh];omega),List.getElem?_append_right (by rw[Zbh];omega),Zbh,Zbh]
theorem Zk0 (l:List ByteArray)(i:Nat)(hi:i<l.length):Zdd (l.take (i+1))=insB (Zdd (l.take i)) l[i] (Zdd (l.take i)).length:=by
 rw[<- List.take_append_getElem hi,Zdd,List.foldl_append]
 rfl
theorem ZgD (l:List ByteArray):∀ i,i<=l.length->(Zdd (l.take i)).length=i
 | 0,_=>by simp[Zdd]
 | i+1,h=>by rw[Zk0 l i (by omega),Zrn,ZgD l i (by omega)]
theorem Zen {G G':Prop}(k:G')(h:Hold G'->G:=by intro k9;(first|refine walk ?_|(refine jn ?_;(try intro F);(first|(refine stA ?_)|(apply Zag;exact PuA));refine fin ?_));exact k9.out):G:=h ⟨k⟩
theorem Zhi {G:Prop}(h:G:=by(first|(apply Pu_indexAddr;rfl;rfl;omega;omega;exact hAn)|(apply ZdU;rfl;(focus repeat' constructor);first|exact hx1|exact hx2))):G:=h
theorem Zmm {G:Prop}(h:G:=by first|(apply Qy_y;rfl;exact Zhi)|exact QyA):G:=h
theorem Zmo {G:Prop}(h:G:=by repeat (first|exact QF.nil|(apply QF.mk;rfl;rfl;decide +kernel;exact Zmm))):G:=h
set_option maxHeartbeats 4000000 in
theorem Zf7 (A:Option Addr)(c:Nat)(l:List ByteArray)(wr:World)(R:List It)(hn:l.length<=1000000)(hAn:0<l.length->A≠none) :
  Zak Tryz.prog 148 [.slice A l.length c,.int .i64 0,.int .i64 l.length] wr (rowS A c l::R) (fun _ O=>O=rowS A c (Zdd l)::R):=by
 refine ZaD Tryz.func148 rfl rfl rfl rfl ?_
 repeat refine Zen ?_
 refine Zaq [(0,_),(1,_),(2,_)] R (fun i:Nat=>[(6,.int .i64 i)]) (fun i=>[.row (.slice A l.length c) 9 1 l.length ((Zdd (l.take i)++l.drop i).flatMap Zav)]) (fun i=>1<=i/\i<=l.length+1) (fun i=>l.length+1 - i) 1 SFA (by
   have e:Zdd (l.take 1)++l.drop 1=l:=by
    cases l with
    | nil=>rfl
    | cons x l=>rfl
   rw[e]
   exact .refl _) ⟨Nat.le_refl _,by omega⟩ ?_
 rintro i ⟨hi1,hi2⟩
 repeat refine Zen ?_
 refine Zah rfl (fun g1=>?_) (fun g1=>?_)
 ·simp only[decide_eq_true_eq]at g1
  have hil:i<l.length:=by omega
  have hAn:=hAn (by omega)
  have hPl:=ZgD l i (by omega)
  have hfs:=Zk0 l i hil
  have hdr:Zdd (l.take i)++l.drop i=Zcq (Zdd (l.take i)) l[i] i++l.drop (i+1):=by
   generalize Zdd (l.take i)=Q at *
   rw[Zcq,List.take_of_length_le (l:=Q) (by omega),List.drop_of_length_le (l:=Q) (by omega),Zao hil]
   simp
  rw[hPl]at hfs
  rw[hdr]
  generalize Zdd (l.take i)=Q at *
  generalize l[i]=x at *
  generalize hrest:l.drop (i+1)=rest at *
  have hrl:rest.length=l.length - (i+1):=by rw[<- hrest,List.length_drop]
  repeat refine Zen ?_
  refine Zaq [(0,_),(1,_),(2,_),(6,_)] R (fun j:Nat=>[(7,.int .i64 j)]) (fun j=>[.row (.slice A l.length c) 9 1 l.length ((Zcq Q x j++rest).flatMap Zav)]) (fun j=>j<=i/\insB Q x j=insB Q x i) (fun j=>j) i SFA (.refl _) ⟨Nat.le_refl _,rfl⟩ ?_
  rintro j ⟨hj,hins⟩
  repeat refine Zen ?_
  refine ZrY 19 rfl (fun g2=>?_) (fun g2=>?_)
  ·simp only[decide_eq_true_eq]at g2
   obtain⟨j,rfl⟩:∃ j',j=j'+1:=⟨j - 1,by omega⟩
   have hjQ:j<Q.length:=by omega
   have hx1:((Zcq Q x (j+1)++rest).flatMap Zav)[(((j+1:Nat):Int)).toNat*1]?=some (.string x):=by
    rw[show(((j+1:Nat):Int)).toNat*1=j+1 from by omega,Zt9,ZkD Q rest x (j+1) (by omega)];rfl
   have hx2:((Zcq Q x (j+1)++rest).flatMap Zav)[(((j+1:Nat):Int) - 1).toNat*1]?=some (.string (Q.getD j ByteArray.empty)):=by
    rw[show(((j+1:Nat):Int) - 1).toNat*1=j from by omega,Zt9,Znc Q rest x j (by omega)];rfl
   have hsw:=ZsG Q rest x j hjQ
   have hll:(Zcq Q x (j+1)++rest).length=l.length:=by rw[List.length_append,Zbh];omega
   rw[insB]at hins
   generalize Q.getD j ByteArray.empty=y at *
   repeat (first|(apply RL_pu;rfl;exact Zhi)|(apply RD_Q;rfl;rfl;decide +kernel;rfl;rfl;exact Zmm)|refine walk1 ?_|(refine jg ?_;(try intro F);(first|(refine Zae (fun w' _=>Zu9 x y w') ?_)|(refine stA ?_));first|refine⟨_,EndsA,Zmo,?_⟩|refine fin ?_)|(refine jn ?_;(try intro F);(first|(refine stA ?_)|(apply Zag;first|exact Zhi|exact PuA));first|refine⟨_,EndsA,Zmo,?_⟩|refine fin ?_))
   refine Zah rfl (fun g3=>?_) (fun g3=>?_)
   ·rw[if_pos g3]at hins
    repeat (first|(apply RL_pu;rfl;exact Zhi)|(refine js ?_;(apply Zck;rfl;rfl;(focus repeat' constructor);rfl;rfl;rfl;(simp only[lay_length,Zt8,hll];omega);decide;rfl))|(apply RD_Q;rfl;rfl;decide +kernel;rfl;rfl;exact Zmm)|refine walk1 ?_|(refine RD_Lw ?_;intro F;(first|(apply Zck;rfl;rfl;(focus repeat' constructor);rfl;rfl;rfl;(simp only[lay_length,Zt8,hll];omega);decide;rfl)|(refine stA ?_)|(apply Zag;first|exact Zhi|exact PuA));refine⟨_,EndsA,Zmo,?_⟩))
    have hfin:lay (lay ((Zcq Q x (j+1)++rest).flatMap Zav) ((((j+1:Nat):Int)).toNat*1) (Value.string y).cells.toList) ((((j+1:Nat):Int) - 1).toNat*1) (Value.string x).cells.toList=(Zcq Q x j++rest).flatMap Zav:=by
     rw[show(((j+1:Nat):Int)).toNat*1=j+1 from by omega,show(((j+1:Nat):Int) - 1).toNat*1=j from by omega,<- hsw,<- Zt7,<- Zt7]
     rfl
    exact⟨j,OA,⟨OA,hins⟩,by
     refine⟨?_,SFA⟩
     show some (Value.int .i64 ((((j+1:Nat):Int)) - 1))=some (.int .i64 (j:Int))
     congr 2
     omega,by rw[<- hfin];exact .refl _⟩
   rw[if_neg (by simp[g3])]at hins
   repeat refine Zen ?_
   exact⟨i+1,OA,⟨OA,OA⟩,SFA,by rw[hfs,hrest,<- hins];exact .refl _⟩
  have hj0:j=0:=by simp at g2;omega
  subst hj0
  repeat refine Zen ?_
  exact⟨i+1,OA,⟨OA,OA⟩,SFA,by rw[hfs,hrest,<- hins];exact .refl _⟩
 simp only[decide_eq_false_iff_not]at g1
 rw[List.take_of_length_le (by omega),List.drop_of_length_le (by omega),List.append_nil]
 have hlen:(Zdd l).length=l.length:=by have:=ZgD l l.length (Nat.le_refl _);rwa[List.take_length]at this
 repeat refine Zen ?_
 exact ZgI _ (.refl _) (by unfold rowS;rw[hlen];rfl)
theorem Zuz {P:Program}{wr:World}{fr:Fr}{O:List It}{R:Value->List It->Prop}(O':List It)(hO:SubO O' O)(hR:R (.tuple #[]) O'):retQ P wr [] R .ret fr O:=by unfold retQ;exact⟨[],O',rfl,hO,hR⟩
theorem Zx3 (A:Option Addr)(c:Nat)(l:List ByteArray)(lim:Int)(wr:World)(R:List It)(hn:l.length<=12)(hAn:0<l.length->A≠none) :
  Zak Tryz.prog 107 [.slice A l.length c,.int .i64 0,.int .i64 l.length,.int .i64 lim] wr (rowS A c l::R) (fun _ O=>O=rowS A c (Zdd l)::R):=by
 refine ZaD Tryz.func107 rfl rfl rfl rfl ?_
 repeat (first|refine Zkj ?_|(refine jn ?_;(try intro F);(apply Zag;exact PuA);refine fin ?_))
 apply W_block
 refine Zaq [(0,_),(1,_),(2,_),(3,_)] (rowS A c l::R) (fun _:Unit=>[]) (fun _=>[]) (fun _=>True) (fun _=>0) () SFA (.refl _) trivial ?_
 rintro _ _
 repeat (first|refine walk ?_|(refine jn ?_;(try intro F);(apply Zag;exact PuA);refine fin ?_))
 refine Zah rfl (fun _=>?_) (fun g1=>absurd g1 (by simp;omega))
 repeat (first|refine walk ?_|(refine Zdc ?_;intro F;(apply ZaM (h:=Zf7 A c l wr _ (by omega) hAn);rfl;exact .refl _;rintro v O' rfl);refine⟨_,EndsA,SubO.right _ _,?_⟩)|(refine jn ?_;(try intro F);(first|(apply ZaM (h:=Zf7 A c l wr _ (by omega) hAn);rfl;exact .refl _;rintro v O' rfl)|(apply Zag;exact PuA));refine fin ?_))
 exact Zuz _ (.refl _) rfl
theorem Zui (A:Option Addr)(c:Nat)(l:List ByteArray)(wr:World)(R:List It)(hn:l.length<=12)(hAn:0<l.length->A≠none) :
  Zak Tryz.prog 74 [.slice A l.length c] wr (rowS A c l::R) (fun _ O=>O=rowS A c (Zdd l)::R):=by
 refine ZaD Tryz.func74 rfl rfl rfl rfl ?_
 have hw:IntKind.u64.wrap (l.length:Int)=l.length:=by simp[IntKind.wrap,IntKind.signed,IntKind.bits];omega
 repeat (first|(refine js ?_;(first|(apply Zad (h:=fun w' _ _=>Zv5 (IntKind.u64.wrap (l.length:Int)) (by rw[hw];omega) (by rw[hw];omega) w');rfl;rintro v O' ⟨⟨lim,rfl⟩,rfl⟩)|(apply ZaM (h:=Zx3 A c l lim wr _ hn hAn);rfl;exact .refl _;rintro v O' rfl)))|refine walk ?_)
 exact ZgI _ (.refl _) rfl
theorem Zm2 (l:List ByteArray):(Zdd l).length=l.length:=by have:=ZgD l l.length (Nat.le_refl _);rwa[List.take_length]at this
end Go.Proofs.YtbjomhdhkpgbaaaGreatDoor
