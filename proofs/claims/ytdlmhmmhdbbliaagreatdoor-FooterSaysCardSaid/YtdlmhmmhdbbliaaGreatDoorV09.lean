/- Parts of the proof. -/
import Derived.Laws.Externs
import Derived.Test.YtdlmhmmhdbbliaaGreatDoorV07
import Derived.Scope
import Derived.Laws.IdiomStrings
import Derived.Test.YtdlmhmmhdbbliaaGreatDoorV02
import Derived.Test.YtdlmhmmhdbbliaaGreatDoorV01
set_option maxHeartbeats 4000000
set_option linter.unusedVariables false
set_option linter.unusedSimpArgs false
namespace Go.Wk
open Go Go.RowKit
section
variable {P:Program}{n:Nat}{wr:World}{fr:Fr}{O:List It}{ty:TypeId}{pos:String}{af:Array Edge}{dst:Option Tmp}{g:Option (Nat × Bool)}{Kp:Value->List It->Prop}
theorem ZhO {t kt et:Nat}{x:Operand}{kk:IntKind}{i:Int}[hM:MapT P t kt et](hx:ev fr x=some (.int kk i))(k:∀ b,Kp (.map (some b)) (.mp b []::O)):Stp P n wr fr O ⟨dst,.makeMap t (some x),ty,pos,af,g⟩ Kp :=
 Zce fun a w hs=>by
  have hB:Bel w.heap.size w (w.alloc (.map #[] 0)):=(Bel.refl _ _).alloc (Nat.le_refl _) _
  have hu:=MapT.parts hM.h
  refine⟨.map (some w.heap.size),w.alloc (.map #[] 0),_,?_,hs.old.trans (hB.mono hs.old.size),hs.own.grow (O':=[.mp w.heap.size []]) hB hs.old.size ⟨fun i hi=>?_,fun i hi b hb=>?_,List.pairwise_singleton _ _⟩,k _⟩
  ·simp[execOp,hs.sim.ev hx,Instr.makeMap,run_underlying hu,asInt,asIntOf,newObj,Sem.run]
  ·rw[List.mem_singleton.1 hi]
   exact⟨#[],0,heap_alloc_new w _,rfl,ZpH⟩
  ·rw[List.mem_singleton.1 hi]at hb
   simp only[It.S]at hb
   subst hb
   exact⟨Nat.le_refl _,by simp⟩
theorem ZfD (es:Array MapEntry)(j:Nat):(es.eraseIdxIfInBounds j).toList=es.toList.eraseIdx j:=by
 unfold Array.eraseIdxIfInBounds
 split
 ·simp
 ·rw[List.eraseIdx_of_length_le (by simp;omega)]
theorem ZqZ {es:Array MapEntry}{c:Nat}(h:stOk es c)(j:Nat):stOk (es.eraseIdxIfInBounds j) c:=by
 unfold stOk
 rw[ZfD]
 have hsub:((es.toList.eraseIdx j).map (·.born)).Sublist (es.toList.map (·.born)):=(List.eraseIdx_sublist _ _).map _
 exact⟨h.1.sublist hsub,fun n hn=>h.2 n (hsub.subset hn)⟩
theorem Zr1 {t t2 kt et b:Nat}{x ix:Operand}{m:List (ByteArray × Value)}{k:ByteArray}{O':List It}[hM:MapT P t kt et][StringT P kt](hx:ev fr x=some (.map (some b)))(hi:ev fr ix=some (.string k))
  (hu:Upd O (.mp b m) (.mp b (mdel m k)) O') (kk:Kp (.tuple #[]) O'):Stp P n wr fr O ⟨dst,.call ⟨.builtin .delete,#[x,ix],#[t,t2]⟩,ty,pos,af,g⟩ Kp :=
 Zce fun a w hs=>by
  have ht:=MapT.parts hM.h
  obtain⟨es,c,h1,h2,h9⟩:=hs.own.sat _ hu.mem
  have hf:=Zmt k m es.toList 0 h2
  cases hfi:ZeN m k 0 with
  | none =>
   rw[hfi]at hf
   have hst:=hs.setMap (es':=es) (c':=c) hu (by unfold ZcG;rw[hf];exact h2) h9
   refine⟨.tuple #[],_,O',?_,hst.1,hst.2,kk⟩
   simp only[execOp,resolve,invoke,builtin,Builtin.delete_,hs.sim.ev hx,hs.sim.ev hi]
   simp[hs.sim.ev hx,hs.sim.ev hi,Builtin.delete_,run_underlying ht,Zbh h1,ZcA _ k 9999,Zc9 k m es.toList w h2,hfi,setObj,Sem.run,h1]
  | some p =>
   obtain⟨j,u⟩:=p
   rw[hfi]at hf
   obtain⟨_,hf2⟩:=hf
   rw[Nat.sub_zero]at hf2
   have hst:=hs.setMap (es':=es.eraseIdxIfInBounds j) (c':=c) hu (by unfold ZcG;rw[ZfD];exact hf2) (ZqZ h9 j)
   refine⟨.tuple #[],_,O',?_,hst.1,hst.2,kk⟩
   simp only[execOp,resolve,invoke,builtin,Builtin.delete_,hs.sim.ev hx,hs.sim.ev hi]
   simp[hs.sim.ev hx,hs.sim.ev hi,Builtin.delete_,run_underlying ht,Zbh h1,ZcA _ k 9999,Zc9 k m es.toList w h2,hfi,setObj,Sem.run,h1]
def MpAt (w:World)(b:Nat)(m:List (ByteArray × Value)):Prop:=(It.mp b m).sat w
theorem MpAt.up {w w':World}{b:Nat}{m:List (ByteArray × Value)}{B:Nat}(h:MpAt w b m)(hb:Bel B w w')(hB:w.heap.size<=B):MpAt w' b m:=by
 refine It.sat_congr h fun k hk=>?_
 obtain rfl:k=b:=hk
 obtain⟨es,c,h1,_⟩:=h
 exact hb.block k (Nat.lt_of_lt_of_le (Array.getElem?_eq_some_iff.1 h1).1 hB)
theorem ZnA {t kt et b:Nat}{x ix:Operand}{m:List (ByteArray × Value)}{k:ByteArray}{z v:Value}[hM:MapT P t kt et][StringT P kt][ZeroV P et z](hx:ev fr x=some (.map (some b)))(hi:ev fr ix=some (.string k))
  (hp:MpAt wr b m) (hv:(mget m k).getD z=v):Pu P n wr fr O (.lookup t x ix false) ty v:=hv▸Zr5 (kt:=kt) (et:=et) hx hi (fun _ hw _=>hp.up hw (Nat.le_refl _))
theorem ZfP {t kt et b:Nat}{x ix:Operand}{m:List (ByteArray × Value)}{k:ByteArray}{z v:Value}{c:Bool}[hM:MapT P t kt et][StringT P kt][ZeroV P et z](hx:ev fr x=some (.map (some b)))(hi:ev fr ix=some (.string k))
  (hp:MpAt wr b m) (hv:(mget m k).getD z=v) (hc:(mget m k).isSome=c):Pu P n wr fr O (.lookup t x ix true) ty (.tuple [v,.bool c].toArray) :=
 fun a w hs _ _ _ _=>by
  have:=Ze8 (P:=P) (t:=t) (kt:=kt) (et:=et) (k:=k) (z:=z) (hp.up hs.old (Nat.le_refl _)) true
  simp only[execOp,hs.sim.ev hx,hs.sim.ev hi,Sem.run_bind,this,Result.andThen_ok,Sem.run_pure]
  rw[<- hv,<- hc]
  rfl
theorem Zpg {t t' kt et:Nat}{x:Operand}{p:Option Nat}[hM:MapT P t kt et](hx:ev fr x=some (.map p)):Pu P n wr fr O (.binOp .eql t x (.const (.map none)) t') ty (.bool p.isNone) :=
 fun a w hs _ _ _ _=>by
  have hu:=MapT.parts hM.h
  have h:(binOp .eql t (.map p) (.map none)).run P w = .ok (.bool p.isNone) w:=by
   simp only[binOp]
   have:∀ d,(Op.equalIn (d+1) t (.map p) (.map none)).run P w = .ok p.isNone w:=fun d=>by cases p <;> simp[Op.equalIn,run_underlying hu]
   rw[show Op.equal t (.map p) (.map none)=Op.equalIn (9999+1) t (.map p) (.map none) from rfl]
   simp only[Sem.run_bind,this 9999,Result.andThen_ok,Sem.run_pure]
  have hc:a.eval (.const (.map none)) = .map none:=rfl
  simp[execOp,hs.sim.ev hx,hc,eqGuard,h]
theorem Zpf {t kt et:Nat}{x:Operand}{v:Value}[hM:MapT P t kt et](hx:ev fr x=some v):Pu P n wr fr O (.makeInterface t x) ty (.iface t v) :=
 fun a w hs _ _ _ _=>by
  have hu:=MapT.parts hM.h
  simp[execOp,hs.sim.ev hx,Instr.makeInterface,run_underlying hu]
theorem ZnF {t xt kt et:Nat}{x:Operand}{v:Value}[hM:MapT P t kt et](hx:ev fr x=some (.iface t v)):Pu P n wr fr O (.typeAssert x xt t false) ty v :=
 fun a w hs _ _ _ _=>by
  have hu:=MapT.parts hM.h
  simp[execOp,hs.sim.ev hx,Instr.typeAssert,run_underlying hu]
def ZtE (P:Program)(f:FuncId):Prop:=∀ (args:Array Value) (w:World),(callFunc f args).run P w=((Extern.MapsClone.clone args).run P w).andThen fun v w' => .ok (.value v) w'
theorem Zly {f t b:Nat}{x:Operand}{ts:Array TypeId}{m:List (ByteArray × Value)}(hf:ZtE P f)(hx:ev fr x=some (.iface t (.map (some b))))(hp:∀ w,Bel wr.heap.size wr w->Zay wr.heap.size O w->MpAt w b m)
  (kk:∀ b2,Kp (.iface t (.map (some b2))) (.mp b2 m::O)):Stp P n wr fr O ⟨dst,.call ⟨.value (.func f),#[x],ts⟩,ty,pos,af,g⟩ Kp :=
 Zce fun a w hs=>by
  obtain⟨es,c,h1,h2⟩:=hp w hs.old hs.own
  have hB:Bel w.heap.size w (w.alloc (.map es c)):=(Bel.refl _ _).alloc (Nat.le_refl _) _
  have hrun:(Extern.MapsClone.clone #[.iface t (.map (some b))]).run P w = .ok (.iface t (.map (some w.heap.size))) (w.alloc (.map es c)):=by
   have e:Extern.MapsClone.clone #[.iface t (.map (some b))]=(getObj b >>= fun o=>match o with
     | .map entries clock=>(newObj (.map entries clock) >>= fun n=>pure (.iface t (.map (some n))))
     | _=>stuck "maps.clone: a map expected"):=rfl
   rw[e]
   simp[Zbh h1,newObj,Sem.run]
  refine⟨.iface t (.map (some w.heap.size)),w.alloc (.map es c),_,?_,hs.old.trans (hB.mono hs.old.size),hs.own.grow (O':=[.mp w.heap.size m]) hB hs.old.size ⟨fun i hi=>?_,fun i hi b hb=>?_,List.pairwise_singleton _ _⟩,kk _⟩
  ·have hev:=hs.sim.ev hx
   have he:a.eval (.func f) = .func (.func f) #[] #[]:=rfl
   have hc:=hf #[.iface t (.map (some b))] w
   rw[hrun,Result.andThen_ok]at hc
   simp[execOp,resolve,he,Deferred.ofValue,invoke,hc,hev]
  ·rw[List.mem_singleton.1 hi]
   exact⟨es,c,heap_alloc_new w _,h2⟩
  ·rw[List.mem_singleton.1 hi]at hb
   simp only[It.S]at hb
   subst hb
   exact⟨Nat.le_refl _,by simp⟩
end
def Nd (m:List (ByteArray × Value)):Prop:=(m.map (·.1)).Nodup
theorem Zgm (k:ByteArray):∀ m:List (ByteArray × Value),mget m k=none↔k ∉ m.map (·.1)
 | []=>by simp[mget]
 | (x,v)::r=>by
  simp only[mget,List.map_cons,List.mem_cons,not_or]
  by_cases h:k=x
  ·simp[h]
  ·simp[h,Zgm k r]
theorem ZhD (k:ByteArray)(v:Value):∀ m:List (ByteArray × Value),k∈m.map (·.1)->(mset m k v).map (·.1)=m.map (·.1)
 | [],h=>by simp at h
 | (x,u)::r,h=>by
  simp only[mset]
  by_cases hk:k=x
  ·simp[hk]
  ·rw[if_neg hk]
   simp only[List.map_cons,List.mem_cons,hk,false_or]at h ⊢
   rw[ZhD k v r h]
theorem Zgl (k:ByteArray)(v:Value):∀ m:List (ByteArray × Value),k ∉ m.map (·.1)->(mset m k v).map (·.1)=m.map (·.1)++[k]
 | [],_=>by simp[mset]
 | (x,u)::r,h=>by
  simp only[List.map_cons,List.mem_cons,not_or]at h
  simp only[mset,if_neg h.1,List.map_cons,Zgl k v r h.2,List.cons_append]
theorem Nd.set {m:List (ByteArray × Value)}(h:Nd m)(k:ByteArray)(v:Value):Nd (mset m k v):=by
 unfold Nd at h ⊢
 by_cases hk:k∈m.map (·.1)
 ·rw[ZhD k v m hk];exact h
 ·rw[Zgl k v m hk,List.nodup_append]
  exact⟨h,by simp,fun a ha b hb=>by simp only[List.mem_singleton]at hb;subst hb;exact fun e=>hk (e▸ha)⟩
theorem Zp3 (k:ByteArray):∀ m:List (ByteArray × Value),(mdel m k).Sublist m
 | []=>List.Sublist.slnil
 | (x,u)::r=>by
  simp only[mdel]
  split
  ·exact List.sublist_cons_self _ _
  ·exact(Zp3 k r).cons_cons _
theorem Nd.del {m:List (ByteArray × Value)}(h:Nd m)(k:ByteArray):Nd (mdel m k):=List.Nodup.sublist ((Zp3 k m).map _) h
theorem Zmq (k x:ByteArray):∀ {m:List (ByteArray × Value)},Nd m->mget (mdel m k) x=if x=k then none else mget m x
 | [],_=>by simp[mdel,mget]
 | (y,u)::r,h=>by
  unfold Nd at h
  simp only[List.map_cons,List.nodup_cons]at h
  simp only[mdel]
  by_cases hk:k=y
  ·subst hk
   rw[if_pos rfl]
   by_cases hx:x=k
   ·subst hx
    rw[if_pos rfl]
    exact(Zgm x r).2 h.1
   ·rw[if_neg hx,mget,if_neg hx]
  ·rw[if_neg hk]
   simp only[mget]
   by_cases hx:x=y
   ·subst hx
    rw[if_pos rfl,if_pos rfl,if_neg (fun e=>hk e.symm)]
   ·rw[if_neg hx,if_neg hx,Zmq k x h.2]
theorem Zp4 (k:ByteArray):∀ {m:List (ByteArray × Value)},(mget m k).isSome=true->(mdel m k).length+1=m.length
 | [],h=>by simp[mget]at h
 | (y,u)::r,h=>by
  simp only[mget]at h
  simp only[mdel]
  by_cases hk:k=y
  ·simp[hk]
  ·rw[if_neg hk]at h ⊢
   simp[Zp4 k h]
theorem Zk7 (k:ByteArray)(v:Value):∀ m:List (ByteArray × Value),(mset m k v).length<=m.length+1
 | []=>by simp[mset]
 | (y,u)::r=>by
  simp only[mset]
  split
  ·simp
  ·simp[Zk7 k v r]
section
variable {P:Program}{n:Nat}{wr:World}{Q:Exit->Fr->List It->Prop}{fr:Fr}{O:List It}{K:Fr->List It->Prop}
theorem ZwQ {l:Nat}{rs:List ResultVar}{R:Value->List It->Prop}:¬ retQ P wr rs R (.goto l) fr O:=id
theorem ZzI {c:Code}(hg:∀ l fr O,¬ Q (.goto l) fr O)(h:W P n wr c Q fr O):W P n wr (.scope c) Q fr O:=by
 intro a w hs
 refine wp_scope_straight (wp_mono (h a w hs) ?_)
 rintro e a' w' ⟨fr',O',hs',hq⟩
 cases e with
 | goto l=>exact(hg l _ _ hq).elim
 | _=>exact⟨fr',O',hs',hq⟩
theorem ZzK {l:Nat}(h:Q .normal fr O):W P n wr (.label l) Q fr O:=fun _ _ hs=>wp_label ⟨fr,O,hs,h⟩
end
section
variable {P:Program}{n:Nat}{wr:World}{fr:Fr}{O:List It}{ty:TypeId}{pos:String}{af:Array Edge}{dst:Option Tmp}{g:Option (Nat × Bool)}{Kp:Value->List It->Prop}
theorem Znz {t len e sz b:Nat}{ag:Bool}{x y:Operand}{h:Int}[hA:ArrT P t len e sz ag](hx:ev fr x=some (.pointer (some ⟨b,0,none⟩)))(hy:ev fr y=some (.int .i64 h))(h0:0<=h)(h1:h<=len) :
  Pu P n wr fr O (.slice t x none (some y) none) ty (.slice (some ⟨b,0,none⟩) h.toNat len) :=
 fun a w hs _ _ _ _=>by
  have h:=hA.h
  unfold ZkF at h
  split at h
  ·rename_i len' e' hu
   split at h
   ·rename_i sz' ag' ht
    simp only[Option.some.injEq,Prod.mk.injEq]at h
    obtain⟨rfl,rfl,rfl,rfl⟩:=h
    obtain⟨inf,dd,hinf,hsz,_,_⟩:=Ty.parts ht
    simp[execOp,hs.sim.ev hx,hs.sim.ev hy,Instr.sliceAt,run_underlying hu,Instr.sureAddr,Instr.sliceBounds,run_sliceBound,h0,h1,sizeOf,ZaK hinf,Addr.add]
   ·cases h
  ·cases h
theorem Zjv {t sz b p:Nat}{x:Operand}{cs:List Value}{bt:TypeId}{v:Value}{R:List It}[Ty P t sz false](hx:ev fr x=some (.pointer (some ((adr (some ⟨b,0,none⟩)).add p))))
  (hp:Pick (.blk b cs bt) O R) (hv:cs[p]?=some v):Pu P n wr fr O (.load t x) ty v :=
 Pu_loadB1 (by rw[hx,show adr (some (⟨b,0,none⟩:Addr))=⟨b,0,none⟩ from rfl,Zcd,Nat.zero_add]) hp hv
theorem ZnB {t sz b p:Nat}{x:Operand}{cs:List Value}{bt:TypeId}{v:Value}{R:List It}[Ty P t sz false](hx:ev fr x=some (.pointer (some ((⟨b,0,none⟩:Addr).add p))))
  (hp:Pick (.blk b cs bt) O R) (hv:cs[p]?=some v):Pu P n wr fr O (.load t x) ty v :=
 Pu_loadB1 (by rw[hx,Zcd,Nat.zero_add]) hp hv
theorem Zeo {t:TypeId}{x:Operand}{i:Int}(hx:ev fr x=some (.int .i64 i))(h : -9223372036854775807<=i/\i<=9223372036854775807):Pu P n wr fr O (.unOp .neg t x) ty (.int .i64 (-i)):=by
 have:=Pu_negW (P:=P) (n:=n) (wr:=wr) (O:=O) (ty:=ty) (t:=t) hx
 rwa[Int.zero_sub,ZbB (by omega)]at this
def ZoQ (c:UInt8):Value := .int .u8 (c.toNat:Int)
theorem ZnE {t t' e sz bytes et c:Nat}{x:Operand}{A:Option Addr}{m:Nat}{l:List UInt8}{xs:List Value}{R:List It}[hE:ElemT P t e sz bytes][hU:IntT P e .u8][hS:StringT P t'](hx:ev fr x=some (.slice A m c))
  (hp:Pick (.row (.slice A m c) et 1 m xs) O R) (hxs:xs=l.map ZoQ) (hm:m=l.length) (hA:A≠none):Pu P n wr fr O (.convert t t' x) ty (.string ⟨l.toArray⟩) :=
 fun a w hs _ _ _ _=>by
  have h:=hE.h
  unfold Zhh at h
  split at h
  ·rename_i e' hu
   split at h
   ·simp only[Option.some.injEq,Prod.mk.injEq]at h
    obtain⟨rfl,_,_⟩:=h
    obtain⟨ad,rfl⟩:=Option.ne_none_iff_exists'.1 hA
    subst hm hxs
    have hsat:=hs.own.sat _ (hp.perm.mem_iff.2 List.mem_cons_self)
    have hc:∀ j (hj:j<l.length),w.cell? (ad.add j)=some (.int .u8 (l[j].toNat:Int)):=fun j hj=>by
     have:=Za0 hsat (j:=j) (u:=ZoQ l[j]) (by rw[List.getElem?_map,List.getElem?_eq_getElem hj];rfl)
     exact this.2
    have hrun:=run_convert_bytes_back (P:=P) w t t' e' ad c l hu hU.h hS.h hc
    simp[execOp,hs.sim.ev hx,hrun]
   ·cases h
  ·cases h
theorem ZaS {t t':TypeId}{x y:Operand}{kk:IntKind}{i j:Int}{b:Bool}(hx:ev fr x=some (.int kk i))(hy:ev fr y=some (.int kk j))(h:decide (i<j)=b):Pu P n wr fr O (.binOp .lss t x y t') ty (.bool b):=h▸Pu_lss hx hy
theorem Zcg {t t':TypeId}{x y:Operand}{kk:IntKind}{i j:Int}{b:Bool}(hx:ev fr x=some (.int kk i))(hy:ev fr y=some (.int kk j))(h:decide (i<=j)=b):Pu P n wr fr O (.binOp .leq t x y t') ty (.bool b):=h▸Pu_leq hx hy
theorem ZaC {t t':TypeId}{x y:Operand}{kk:IntKind}{i j:Int}{b:Bool}(hx:ev fr x=some (.int kk i))(hy:ev fr y=some (.int kk j))(h:decide (j<i)=b):Pu P n wr fr O (.binOp .gtr t x y t') ty (.bool b):=h▸Pu_gtr hx hy
theorem Zcr {t t':TypeId}{x y:Operand}{kk:IntKind}{i j:Int}{b:Bool}(hx:ev fr x=some (.int kk i))(hy:ev fr y=some (.int kk j))(h:decide (j<=i)=b):Pu P n wr fr O (.binOp .geq t x y t') ty (.bool b):=h▸Pu_geq hx hy
theorem Zaw {t t':TypeId}{x y:Operand}{kk:IntKind}{i j:Int}{b:Bool}(hx:ev fr x=some (.int kk i))(hy:ev fr y=some (.int kk j))(h:decide (i=j)=b):Pu P n wr fr O (.binOp .eql t x y t') ty (.bool b):=h▸Pu_eql hx hy
theorem Zaz {t t':TypeId}{x y:Operand}{kk:IntKind}{i j:Int}{b:Bool}(hx:ev fr x=some (.int kk i))(hy:ev fr y=some (.int kk j))(h:(!decide (i=j))=b):Pu P n wr fr O (.binOp .neq t x y t') ty (.bool b):=h▸Pu_neq hx hy
theorem ZcY {t t':TypeId}{x y:Operand}{i j:ByteArray}{b:Bool}(hx:ev fr x=some (.string i))(hy:ev fr y=some (.string j))(h:decide (i=j)=b):Pu P n wr fr O (.binOp .eql t x y t') ty (.bool b):=h▸Pu_eqlS hx hy
theorem ZbW {t t':TypeId}{x y:Operand}{i j:ByteArray}{b:Bool}(hx:ev fr x=some (.string i))(hy:ev fr y=some (.string j))(h:(!decide (i=j))=b):Pu P n wr fr O (.binOp .neq t x y t') ty (.bool b):=h▸Pu_neqS hx hy
end
def jan1 (y:Int):Int:=365*y+(y+3) / 4 - (y+99) / 100+(y+399) / 400 - 719528
def Zq2 (y:Int):Int:=if Zex y then 366 else 365
theorem ZmI (y:Int):Zex y=true↔y % 4=0/\(y % 100≠0\/y % 400=0):=by
 unfold Zex
 simp
theorem ZeS (y:Int):jan1 (y+1)=jan1 y+Zq2 y:=by
 unfold Zq2
 have h:=ZmI y
 by_cases hl:Zex y=true
 ·rw[if_pos hl]
  have:=h.1 hl
  unfold jan1
  omega
 ·rw[if_neg hl]
  have:¬ (y % 4=0/\(y % 100≠0\/y % 400=0)):=fun e=>hl (h.2 e)
  unfold jan1
  omega
theorem ZhX (y:Int):365<=Zq2 y/\Zq2 y<=366:=by unfold Zq2;split <;> omega
theorem Zha (y:Int):jan1 y=Zan y 1 1:=by
 unfold Zan Zb3 jan1
 rw[if_pos (by decide),show((1:Int)+12 - 3).toNat=10 by decide,show ZaN.getD 10 0=306 by decide]
 omega
theorem Zku (y:Int)(m:Nat)(h0:1<=m)(h1:m<=11):Zan y ((m:Int)+1) 1=Zan y m 1+lenM y m:=by
 have h:=ZmI y
 have hm:m=1\/m=2\/m=3\/m=4\/m=5\/m=6\/m=7\/m=8\/m=9\/m=10\/m=11:=by omega
 rcases hm with rfl|rfl|rfl|rfl|rfl|rfl|rfl|rfl|rfl|rfl|rfl
 ·show Zb3 (y - 1) 14 1=Zb3 (y - 1) 13 1+31
  unfold Zb3
  rw[show((14:Int) - 3).toNat=11 by decide,show((13:Int) - 3).toNat=10 by decide,show ZaN.getD 11 0=337 by decide,show ZaN.getD 10 0=306 by decide]
  omega
 ·show Zb3 y 3 1=Zb3 (y - 1) 14 1+(if Zex y then 29 else 28)
  unfold Zb3
  rw[show((14:Int) - 3).toNat=11 by decide,show((3:Int) - 3).toNat=0 by decide,show ZaN.getD 11 0=337 by decide,show ZaN.getD 0 0=0 by decide]
  by_cases hl:Zex y=true
  ·rw[if_pos hl]
   have:=h.1 hl
   omega
  ·rw[if_neg hl]
   have:¬ (y % 4=0/\(y % 100≠0\/y % 400=0)):=fun e=>hl (h.2 e)
   omega
 all_goals
  show Zb3 y _ 1=Zb3 y _ 1+_
  unfold Zb3
 ·show y / 400*146097+y % 400*365+y % 400 / 4 - y % 400 / 100+31+1 - 1 - 719468=y / 400*146097+y % 400*365+y % 400 / 4 - y % 400 / 100+0+1 - 1 - 719468+31
  omega
 ·show y / 400*146097+y % 400*365+y % 400 / 4 - y % 400 / 100+61+1 - 1 - 719468=y / 400*146097+y % 400*365+y % 400 / 4 - y % 400 / 100+31+1 - 1 - 719468+30
  omega
 ·show y / 400*146097+y % 400*365+y % 400 / 4 - y % 400 / 100+92+1 - 1 - 719468=y / 400*146097+y % 400*365+y % 400 / 4 - y % 400 / 100+61+1 - 1 - 719468+31
  omega
 ·show y / 400*146097+y % 400*365+y % 400 / 4 - y % 400 / 100+122+1 - 1 - 719468=y / 400*146097+y % 400*365+y % 400 / 4 - y % 400 / 100+92+1 - 1 - 719468+30
  omega
 ·show y / 400*146097+y % 400*365+y % 400 / 4 - y % 400 / 100+153+1 - 1 - 719468=y / 400*146097+y % 400*365+y % 400 / 4 - y % 400 / 100+122+1 - 1 - 719468+31
  omega
 ·show y / 400*146097+y % 400*365+y % 400 / 4 - y % 400 / 100+184+1 - 1 - 719468=y / 400*146097+y % 400*365+y % 400 / 4 - y % 400 / 100+153+1 - 1 - 719468+31
  omega
 ·show y / 400*146097+y % 400*365+y % 400 / 4 - y % 400 / 100+214+1 - 1 - 719468=y / 400*146097+y % 400*365+y % 400 / 4 - y % 400 / 100+184+1 - 1 - 719468+30
  omega
 ·show y / 400*146097+y % 400*365+y % 400 / 4 - y % 400 / 100+245+1 - 1 - 719468=y / 400*146097+y % 400*365+y % 400 / 4 - y % 400 / 100+214+1 - 1 - 719468+31
  omega
 ·show y / 400*146097+y % 400*365+y % 400 / 4 - y % 400 / 100+275+1 - 1 - 719468=y / 400*146097+y % 400*365+y % 400 / 4 - y % 400 / 100+245+1 - 1 - 719468+30
  omega
theorem Zwz (q:Int)(h0:0<=q):10<=monN q 11↔306<=q:=by
 have b11:ZaN.getD 11 0=337:=by decide
 have b10:ZaN.getD 10 0=306:=by decide
 have hle:∀ m,monN q m<=m:=by
  intro m
  induction m with
  | zero=>exact Nat.le_refl _
  | succ m ih=>rw[monN];split <;> omega
 rw[monN,monN]
 simp only[b11,show ZaN.getD (9+1) 0=306 from b10,show ZaN.getD (10+1) 0=337 from b11]
 have h9:=hle 9
 split
 ·constructor <;> intro <;> omega
 ·split
  ·constructor <;> intro <;> omega
  ·constructor <;> intro <;> omega
theorem ZwJ (c y:Int)(h0:0<=y)(h1:y<=399):jan1 (c*400+y+1)=c*146097+(y*365+y / 4 - y / 100)+306 - 719468:=by
 have e1:(c*400+y+1+3) / 4=100*c+y / 4+1:=by omega
 have e2:(c*400+y+1+99) / 100=4*c+y / 100+1:=by omega
 have e3:(c*400+y+1+399) / 400=c+1:=by omega
 unfold jan1
 rw[e1,e2,e3]
 omega
theorem Znc (n:Int):jan1 (Zhj n)<=n/\n<jan1 (Zhj n+1):=by
 have hD:Zhj n=if 10<=monN ((n+719468) % 146097 - (ZcR ((n+719468) % 146097)*365+ZcR ((n+719468) % 146097) / 4 - ZcR ((n+719468) % 146097) / 100)) 11 then (n+719468) / 146097*400+ZcR ((n+719468) % 146097)+1 else (n+719468) / 146097*400+ZcR ((n+719468) % 146097):=rfl
 have c3:0<=(n+719468) % 146097/\(n+719468) % 146097<146097:=by omega
 have hn:n=(n+719468) / 146097*146097+(n+719468) % 146097 - 719468:=by omega
 have hb:=ZpA _ c3.1 c3.2
 generalize (n+719468) % 146097=r at *
 generalize (n+719468) / 146097=c at *
 generalize ZcR r=y at *
 obtain⟨y1,y2,y3,y4⟩:=hb
 have ht:=Zwz _ y3
 have hm:=ZwJ c y y1 y2
 by_cases h:10<=monN (r - (y*365+y / 4 - y / 100)) 11
 ·rw[if_pos h]at hD
  have hq:=ht.1 h
  have h2:=ZeS (c*400+y+1)
  have h3:=ZhX (c*400+y+1)
  rw[hD,h2,hm]
  omega
 ·rw[if_neg h]at hD
  have hq:¬ 306<=r - (y*365+y / 4 - y / 100):=fun e=>h (ht.2 e)
  have h2:=ZeS (c*400+y)
  have h3:=ZhX (c*400+y)
  rw[hD]
  omega
theorem ZcE (a:Int)(k:Nat):jan1 a+365*k<=jan1 (a+k):=by
 induction k with
 | zero=>simp
 | succ k ih =>
  have:=ZeS (a+k)
  have h2:=ZhX (a+k)
  rw[show a+((k+1:Nat):Int)=a+k+1 by omega,this]
  omega
theorem ZrK (y m:Int):Zan y m 1+365<=Zan (y+1) m 1:=by
 unfold Zan Zb3
 split <;> omega
theorem ZrL (y m:Int)(k:Nat):Zan y m 1+365*k<=Zan (y+k) m 1:=by
 induction k with
 | zero=>simp
 | succ k ih =>
  have:=ZrK (y+k) m
  rw[show y+((k+1:Nat):Int)=y+k+1 by omega]
  omega
theorem Zkv (y:Int):∀ (m:Nat),m<=11->jan1 y<=Zan y ((m:Int)+1) 1/\Zan y ((m:Int)+1) 1<=jan1 y+31*m
 | 0,_=>by rw[Zha];simp
 | m+1,h=>by
  have ih:=Zkv y m (by omega)
  have h1:=Zku y (m+1) (by omega) (by omega)
  have h2:=Zg9 y ((m+1:Nat):Int)
  rw[h1]
  rw[show((m+1:Nat):Int)=(m:Int)+1 by omega]at *
  omega
theorem Zna (y m:Int)(h0:1<=m)(h1:m<=12):jan1 y<=Zan y m 1/\Zan y m 1<=jan1 y+341:=by
 have h:=Zkv y (m - 1).toNat (by omega)
 rw[show(((m - 1).toNat:Nat):Int)+1=m by omega]at h
 omega
theorem Zs7 {y m:Int}{d:DDay}(h:(onD y m d).2=0):1<=m/\m<=12/\Zan y m 1 - 6<=(onD y m d).1/\(onD y m d).1<=Zan y m 1+36:=by
 unfold onD at h ⊢
 by_cases h1:ZaL y m 1=false
 ·rw[if_pos h1]at h;simp at h
 rw[if_neg h1]at h ⊢
 by_cases h2:ZbT d=false
 ·rw[if_pos h2]at h;simp at h
 rw[if_neg h2]at h ⊢
 by_cases h3:lenM y m<d.day
 ·rw[if_pos h3]at h;simp at h
 rw[if_neg h3]
 have hl:=Zg9 y m
 have hm:1<=m/\m<=12:=by
  simp only[ZaL,Bool.not_eq_false,Bool.and_eq_true,decide_eq_true_eq]at h1
  have h4:=h1.2
  unfold lenM at h4
  by_cases hb:m<1\/12<m
  ·rw[if_pos hb]at h4;omega
  ·omega
 have hd:ZbT d=true:=by simpa using h2
 refine⟨hm.1,hm.2,?_⟩
 simp only[ZbT,dayK,ZlX,Bool.and_eq_true,Bool.or_eq_false_iff,Bool.not_eq_true',decide_eq_true_eq,decide_eq_false_iff_not]at hd
 simp only[ZaL,Bool.not_eq_false,Bool.and_eq_true,decide_eq_true_eq]at h1
 obtain⟨⟨k1,k2⟩,hk⟩:=hd
 have hdd:d.kind≠2->1<=d.day:=by
  intro h5
  have e1:(!decide (d.kind=2))=true:=by simpa using h5
  obtain⟨⟨⟨⟨⟨_,_⟩,_⟩,h7⟩,h8⟩,_⟩:=hk
  rw[e1]at h7
  simp at h7
  omega
 unfold Zey Zel ZeX
 dsimp only
 split
 ·omega
 ·split
  ·omega
  ·split <;> omega
theorem Zbr {least:Int}{r:Zab}{i y:Int}{e:Zad}(h:onR least r i y=some e):e.year=y/\e.rule=i/\max r.from_ (-2000000000)<=y/\y<=2000000000/\-604799<=r.at_.sec/\r.at_.sec<=604799/\(onD y r.month r.day).2=0/\e.nominal=86400*(onD y r.month r.day).1+(r.at_.sec+(if r.at_.base=1 then max least (-10800) else 0)):=by
 unfold onR at h
 split at h
 ·cases h
 rename_i h1
 split at h
 ·cases h
 rename_i h2
 cases h
 have hc:ZaP r.at_=true:=by
  cases hc:ZaP r.at_
  ·exact absurd (.inr (.inr hc)) h1
  ·rfl
 simp only[ZaP,Bool.and_eq_true,decide_eq_true_eq]at hc
 have hl:¬ lastY r<y:=fun h=>h1 (.inr (.inl h))
 have hl2:lastY r<=2000000000:=by unfold lastY;split <;> omega
 refine⟨rfl,rfl,?_,by omega,hc.1.1.1,hc.1.1.2,Decidable.not_not.1 h2,?_⟩
 ·have:¬ y<max r.from_ (-2000000000):=fun h=>h1 (.inl h)
  omega
 ·dsimp only
  omega
theorem Zxu {least:Int}(hl:least<=0){r:Zab}{i y:Int}{e:Zad}(h:onR least r i y=some e):jan1 y*86400 - 1700000<=e.nominal/\e.nominal<=jan1 (y+1)*86400+1700000:=by
 obtain⟨_,_,_,_,h3,h4,h5,h6⟩:=Zbr h
 obtain⟨m1,m2,d1,d2⟩:=Zs7 h5
 have hj:=Zna y r.month m1 m2
 have hs:=ZeS y
 have hz:=ZhX y
 have hm : -10800<=(if r.at_.base=1 then max least (-10800) else 0)/\(if r.at_.base=1 then max least (-10800) else 0)<=0:=by split <;> omega
 generalize (if r.at_.base=1 then max least (-10800) else 0)=mx at *
 generalize (onD y r.month r.day).1=D at *
 omega
theorem Zd9 {least:Int}{r:Zab}{i i' y y':Int}{e e':Zad}(h:onR least r i y=some e)(h':onR least r i' y'=some e')(hy:y<y'):e.nominal<e'.nominal:=by
 obtain⟨_,_,_,_,h3,h4,h5,h6⟩:=Zbr h
 obtain⟨_,_,_,_,g3,g4,g5,g6⟩:=Zbr h'
 obtain⟨m1,m2,d1,d2⟩:=Zs7 h5
 obtain⟨n1,n2,e1,e2⟩:=Zs7 g5
 have hk:=ZrL y r.month (y' - y).toNat
 rw[show y+((y' - y).toNat:Int)=y' by omega]at hk
 rw[h6,g6]
 generalize r.at_.sec+(if r.at_.base=1 then max least (-10800) else 0)=s at *
 generalize (onD y r.month r.day).1=D at *
 generalize (onD y' r.month r.day).1=D' at *
 omega
theorem ZlT {y y':Int}(h:jan1 y*86400 - 2100000<jan1 (y'+1)*86400+2100000):y<=y'+1:=by
 by_cases hc:y<=y'+1
 ·exact hc
 ·have:=ZcE (y'+1) (y - (y'+1)).toNat
  rw[show y'+1+((y - (y'+1)).toNat:Int)=y by omega]at this
  omega
theorem ZqS {t:Int}(h0 : -40000000000000000<=t)(h1:t<=40000000000000000):jan1 (ZaA t)*86400<=t/\t<jan1 (ZaA t+1)*86400:=by
 have h:=Znc (t / 86400)
 have hb : -2000000000<=Zhj (t / 86400)/\Zhj (t / 86400)<=2000000000:=by
  unfold jan1 at h
  omega
 have e:ZaA t=Zhj (t / 86400):=by unfold ZaA;omega
 rw[e]
 omega
def mar1 (y:Int):Int:=y / 400*146097+y % 400*365+y % 400 / 4 - y % 400 / 100 - 719468
theorem Zmw (y:Int):mar1 y+365<=mar1 (y+1)/\mar1 (y+1)<=mar1 y+366:=by unfold mar1;omega
theorem Zmx (y:Int):∀ k:Nat,mar1 y+365*k<=mar1 (y+k)
 | 0=>by simp
 | k+1=>by
  have h1:=Zmx y k
  have h2:=Zmw (y+k)
  rw[show y+((k+1:Nat):Int)=y+k+1 by omega]
  omega
theorem ZdC {y z:Int}(h:y<z):mar1 y+365<=mar1 z:=by
 have h1:=Zmx y (z - y).toNat
 rw[show y+((z - y).toNat:Int)=z by omega]at h1
 omega
theorem Zf1 {y z:Int}(h:y<=z):mar1 y<=mar1 z:=by
 by_cases he:y=z
 ·subst he;exact Int.le_refl _
 ·have:=ZdC (y:=y) (z:=z) (by omega)
  omega
theorem Zm9 (y m d:Int)(h:3<=m):Zan y m d=mar1 y+ZaN.getD (m - 3).toNat 0+d - 1:=by
 unfold Zan Zb3 mar1
 rw[if_neg (by omega)]
 omega
theorem Zt6 (y:Int):mar1 y - 29<=Zan y 2 1/\Zan y 2 1<=mar1 y - 28:=by
 have h:=Zmw (y - 1)
 rw[show y - 1+1=y by omega]at h
 unfold Zan Zb3
 rw[if_pos (by omega),show ZaN.getD ((2:Int)+12 - 3).toNat 0=337 by decide]
 unfold mar1 at *
 omega
theorem Zf4 (y m:Int)(h0:1<=m)(h1:m<=12):28<=lenM y m:=by
 unfold lenM
 rw[if_neg (by omega)]
 split
 ·split <;> omega
 ·split <;> omega
def Zes (d:DDay):Prop:=(d.kind=2/\0<=d.week/\d.week<=6/\d.day=0)\/(d.kind=3/\0<=d.week/\d.week<=6/\1<=d.day/\d.day<=22/\d.day.tmod 7=1)\/(d.kind=1/\d.week=0/\1<=d.day/\d.day<=28)
theorem Zes.chk {d:DDay}(h:Zes d):ZbT d=true:=by
 obtain⟨k,w,n⟩:=d
 simp only[Zes]at h
 rcases h with⟨rfl,h1,h2,rfl⟩|⟨rfl,h1,h2,h3,h4,_⟩|⟨rfl,rfl,h3,h4⟩
 ·simp[ZbT,dayK,ZlX];omega
 ·simp[ZbT,dayK,ZlX];omega
 ·simp[ZbT,dayK,ZlX];omega
theorem Zes.le28 {d:DDay}(h:Zes d):d.day<=28:=by
 unfold Zes at h
 omega
theorem Zes.on {d:DDay}(h:Zes d){y m:Int}(hy:inY y=true)(h0:1<=m)(h1:m<=12):(onD y m d).2=0/\Zan y m 1<=(onD y m d).1/\(onD y m d).1<=Zan y m 1+30:=by
 have hl:=Zf4 y m h0 h1
 have hl2:=Zg9 y m
 have h28:=h.le28
 have hd:ZaL y m 1=true:=by
  unfold ZaL
  rw[hy]
  simp
  omega
 unfold onD
 rw[if_neg (by rw[hd];decide),if_neg (by rw[h.chk];decide),if_neg (by omega)]
 refine⟨rfl,?_⟩
 dsimp only
 generalize Zan y m 1=D
 generalize lenM y m=L at *
 obtain⟨k,w,n⟩:=d
 simp only[Zes]at h
 unfold Zey Zel ZeX
 dsimp only at h28 ⊢
 rcases h with⟨rfl,h1,h2,rfl⟩|⟨rfl,h1,h2,h3,h4,_⟩|⟨rfl,rfl,h3,h4⟩
 ·rw[if_neg (by decide),if_pos rfl];omega
 ·rw[if_neg (by decide),if_neg (by decide),if_pos rfl];omega
 ·rw[if_pos rfl];omega
structure DrRule (r:Zab):Prop where
 f0:1900<=r.from_
 f1:r.from_<=2149
 ft:r.from_<=r.to
 t1:r.to<=2149\/r.to=1048576
 mon:(2<=r.month/\r.month<=4)\/r.month=6\/(8<=r.month/\r.month<=10)
 day:Zes r.day
 clk:0<=r.at_.sec/\r.at_.sec<=86400/\0<=r.at_.base/\r.at_.base<=2
 save : -3600<=r.save/\r.save<=7200
 letter:r.letter∈[ByteArray.empty,⟨#[83]⟩,⟨#[68]⟩,⟨#[68,84]⟩]
def sea (m:Int):Int:=if m<=4 then 0 else if m<=7 then 1 else 2
def loS (m:Int):Int:=if m<=4 then -29 else if m<=7 then 92 else 153
def hiS (m:Int):Int:=if m<=4 then 62 else if m<=7 then 123 else 245
theorem DrRule.mon12 {r:Zab}(h:DrRule r):1<=r.month/\r.month<=12:=by have:=h.mon;omega
theorem ZAr {m:Int}(h:(2<=m/\m<=4)\/m=6\/(8<=m/\m<=10))(y:Int):mar1 y+loS m<=Zan y m 1/\Zan y m 1+31<=mar1 y+hiS m:=by
 have hc:m=2\/m=3\/m=4\/m=6\/m=8\/m=9\/m=10:=by omega
 have hf:=Zt6 y
 rcases hc with rfl|rfl|rfl|rfl|rfl|rfl|rfl
 ·simp only[loS,hiS]
  omega
 all_goals
  rw[Zm9 _ _ _ (by decide)]
  simp only[loS,hiS,ZaN]
  simp
  omega
theorem DrRule.ev {r:Zab}(h:DrRule r){least i y:Int}{e:Zad}(hl : -3600<=least/\least<=0)(he:onR least r i y=some e) :
  e.year=y/\e.rule=i/\r.from_<=y/\(r.to<=2149->y<=r.to)/\86400*(mar1 y+loS r.month) - 3600<=e.nominal/\e.nominal<=86400*(mar1 y+hiS r.month):=by
 have hf0:=h.f0
 have hc:=h.clk
 obtain⟨m0,m1⟩:=h.mon12
 obtain⟨b1,b2⟩:=ZAr h.mon y
 unfold onR at he
 split at he
 ·cases he
 rename_i hy
 split at he
 ·cases he
 cases he
 have hyr:¬ y<max r.from_ (-2000000000):=fun hh=>hy (.inl hh)
 have hyl:¬ lastY r<y:=fun hh=>hy (.inr (.inl hh))
 have hl2:lastY r<=2000000000:=by unfold lastY;split <;> omega
 have hyt:r.to<=2149->y<=r.to:=fun hh=>by
  have:lastY r=r.to:=by unfold lastY;rw[if_neg (by omega)];omega
  omega
 have hin:inY y=true:=by
  unfold inY
  simp
  omega
 obtain⟨_,o1,o2⟩:=h.day.on hin m0 m1
 refine⟨rfl,rfl,by omega,hyt,?_⟩
 dsimp only
 have hm : -3600<=(if r.at_.base=1 then max least (-10800) else 0)/\(if r.at_.base=1 then max least (-10800) else 0)<=0:=by split <;> omega
 generalize (if r.at_.base=1 then max least (-10800) else 0)=mx at *
 generalize (onD y r.month r.day).1=D at *
 omega
def Dist (a b:Zab):Prop:=a.to<b.from_\/sea a.month≠sea b.month
theorem Zoc {a b:Int}(ha:(2<=a/\a<=4)\/a=6\/(8<=a/\a<=10))(hb:(2<=b/\b<=4)\/b=6\/(8<=b/\b<=10))(h:sea a≠sea b):hiS a+30<=loS b\/hiS b+30<=loS a:=by
 unfold sea at h
 unfold hiS loS
 split at h <;> split at h <;> (try split at h) <;> (try split at h) <;> omega
theorem ZdR (m:Int) : -29<=loS m/\hiS m<=245:=by
 unfold loS hiS
 split
 ·omega
 ·split <;> omega
theorem DrRule.far {a b:Zab}(ha:DrRule a)(hb:DrRule b){least i j y z:Int}{e f:Zad}(hl : -3600<=least/\least<=0)(he:onR least a i y=some e)(hf:onR least b j z=some f)(hd:y=z->Dist a b\/Dist b a) :
  259200<=e.nominal - f.nominal\/259200<=f.nominal - e.nominal:=by
 obtain⟨_,_,a1,a2,a3,a4⟩:=ha.ev hl he
 obtain⟨_,_,b1,b2,b3,b4⟩:=hb.ev hl hf
 have la:=ZdR a.month
 have lb:=ZdR b.month
 rcases Int.lt_trichotomy y z with h|h|h
 ·have:=ZdC h
  omega
 ·subst h
  have hs:sea a.month≠sea b.month:=by
   have af:=ha.f1
   have bf:=hb.f1
   rcases hd rfl with(h|h)|(h|h)
   ·have:=a2 (by omega);omega
   ·exact h
   ·have:=b2 (by omega);omega
   ·exact fun hh=>h hh.symm
  have:=Zoc ha.mon hb.mon hs
  omega
 ·have:=ZdC h
  omega
end Go.Wk
namespace Go.Proofs.YtdlmhmmhdbbliaaGreatDoor
open Go Go.RowKit Go.Wk
def atB (l:List Int)(i n:Int):Int:=if l.length=0 then 0 else l.getD (i % (l.length:Int)).toNat 0 % n
theorem Zaq (l:List Int)(i n:Int)(hn:0<n):0<=atB l i n/\atB l i n<n:=by
 unfold atB
 split
 ·exact⟨Int.le_refl 0,hn⟩
 ·exact⟨Int.emod_nonneg _ (by omega),Int.emod_lt_of_pos _ hn⟩
def Zev (l:List Int)(i:Int):Ze6:=⟨atB l i 49*1800,atB l (i+1) 3⟩
def dayB (l:List Int)(i:Int):List DDay:=[⟨2,atB l i 7,0⟩,⟨3,atB l i 7,1+7*atB l (i+1) 4⟩,⟨1,0,1+atB l (i+1) 28⟩]
def ZhT (l:List Int)(i:Int):DDay:=(dayB l i).getD (atB l (i+2) 3).toNat ⟨0,0,0⟩
def letA:List ByteArray:=[⟨#[83]⟩,⟨#[68]⟩,⟨#[68,84]⟩]
def letB:List ByteArray:=[⟨#[]⟩,⟨#[83]⟩]
def Zoe (l:List Int)(i a b save:Int):Zab:=⟨ByteArray.empty,a,b,2+atB l i 3,ZhT l (i+3),Zev l (i+6),save,letA.getD (atB l (i+8) 3).toNat ByteArray.empty⟩
def Zq6 (l:List Int)(i a b save:Int):Zab:=⟨ByteArray.empty,a,b,8+atB l (i+1) 3,ZhT l (i+9),Zev l (i+12),save,letB.getD (atB l (i+14) 2).toNat ByteArray.empty⟩
def Zgj (l:List Int)(i a b save:Int):List Zab:=if atB l (i+2) 4=0 then [Zoe l i a b 0,Zq6 l i a b save] else [Zoe l i a b save,Zq6 l i a b 0]
theorem Zdb (l:List Int)(i a b save:Int):(Zgj l i a b save).length=2:=by
 unfold Zgj
 split <;> rfl
def Zg0:List Int:=[3600,3600,1800,7200,-3600]
def ZbC (l:List Int):Int:=Zg0.getD (atB l 0 5).toNat 0
def Zy6 (l:List Int)(f:Int):Zab:=⟨⟨#[]⟩,f,f,6,⟨1,0,1+atB l 3 28⟩,Zev l 4,0,⟨#[83]⟩⟩
def m1 (l:List Int):List Zab × Int:=if atB l 2 3=0 then ([Zy6 l (1900+atB l 1 80)],1900+atB l 1 80+1) else ([],1900+atB l 1 80)
def m2 (l:List Int)(o:List Zab)(f:Int):List Zab × Int:=if atB l 5 2=0 then (o++Zgj l 7 f (f+atB l 6 12) (ZbC l),f+atB l 6 12+1+atB l 8 5) else (o,f)
def to17 (l:List Int)(f:Int):Int:=if 0<atB l 10 3 then 1048576 else f+atB l 9 6
def m3 (l:List Int)(o:List Zab)(f:Int):List Zab:=o++Zgj l 11 f (to17 l f) (ZbC l)
def ZcL (x:ByteArray)(r:Zab):Zab:={ r with name:=x }
def Zca (l:List Int)(x:ByteArray):List Zab:=(m3 l (m2 l (m1 l).1 (m1 l).2).1 (m2 l (m1 l).1 (m1 l).2).2).map (ZcL x)
theorem ZmC (l:List Int):(m1 l).1.length<=1/\1900<=(m1 l).2/\(m1 l).2<=1980:=by
 have h1:=Zaq l 1 80 (by decide)
 unfold m1
 split <;> refine⟨by simp,?_,?_⟩ <;> dsimp only <;> omega
theorem Zp5 (l:List Int)(o:List Zab)(f:Int)(ho:o.length<=1)(h1:1900<=f)(h2:f<=1980):(m2 l o f).1.length<=3/\1900<=(m2 l o f).2/\(m2 l o f).2<=2000:=by
 have h3:=Zaq l 6 12 (by decide)
 have h4:=Zaq l 8 5 (by decide)
 unfold m2
 split <;> refine⟨?_,?_,?_⟩ <;> dsimp only <;> first|omega|(rw[List.length_append,Zdb];omega)
def Zzc:ZaY:=⟨false,0,0,⟨0,0,0⟩,⟨0,0⟩⟩
theorem Zrm (l:List Int)(x:ByteArray):(Zca l x).length<=5:=by
 obtain⟨q1,q2,q3⟩:=ZmC l
 obtain⟨q4,q5,q6⟩:=Zp5 l (m1 l).1 (m1 l).2 q1 q2 q3
 rw[Zca,List.length_map,m3,List.length_append,Zdb]
 omega
end Go.Proofs.YtdlmhmmhdbbliaaGreatDoor
