/- Parts of the proof. -/
import Derived.Maps.RangeRun
import Derived.ChangeMaps4
import Derived.Test.YtbjomhdhkpgbaaaGreatDoorV09
import Derived.RangeFuncIn
import Derived.RangeFuncLeaves
import Derived.RangeFuncRecord
import Derived.RangeFuncSeq
import Derived.TacticsIn
import Derived.ControlIn
import Derived.RangeFuncCalls
import Derived.Test.YtbjomhdhkpgbaaaGreatDoorV07
import Derived.Test.YtbjomhdhkpgbaaaGreatDoorV08
set_option maxHeartbeats 4000000
set_option linter.unusedVariables false
set_option linter.unusedSimpArgs false
namespace Go.Wk
open Go Go.RowKit Go.ChangeMaps
def Rng (b r:Nat)(m left:List (ByteArray × Value))(cur:Option (ByteArray × Value))(w:World):Prop :=
 ∃ (es:Array MapEntry) (clock since:Nat) (seen:Array Nat) (c0:Nat),w.heap[b]?=some (.map es clock)/\Zcs m es/\stOk es clock/\(∀ x∈es.toList,x.born<since)/\since<=c0/\since<=clock/\w.heap[r]?=some (.mapIter (some b) since seen c0)/\Zcs left (leftOf es seen) /\
  ∀ kv,cur=some kv->∃ e∈es.toList,∃ s0:Array Nat,seen=s0.push e.born/\c0=clock/\e.key = .string kv.1/\e.val=kv.2
theorem Rng.congr {b r:Nat}{m left:List (ByteArray × Value)}{cur:Option (ByteArray × Value)}{w w':World}(h:Rng b r m left cur w)(h1:w'.heap[b]?=w.heap[b]?)(h2:w'.heap[r]?=w.heap[r]?):Rng b r m left cur w':=by
 obtain⟨es,clock,since,seen,c0,a1,a2,a3,a4,a5,a5',a6,a7,a8⟩:=h
 exact⟨es,clock,since,seen,c0,h1.trans a1,a2,a3,a4,a5,a5',h2.trans a6,a7,a8⟩
abbrev rng (b r:Nat)(m left:List (ByteArray × Value))(cur:Option (ByteArray × Value)):It := .fact (fun k=>k=b\/k=r) (Rng b r m left cur)
theorem Zuy {b r:Nat}{m left:List (ByteArray × Value)}{cur:Option (ByteArray × Value)}{w:World}(h:Rng b r m left cur w):(rng b r m left cur).sat w:=fun _ ha=>h.congr (ha b (.inl rfl)) (ha r (.inr rfl))
theorem Zoi (w:World)(o:Obj)(i:Nat)(h:i<w.heap.size):(w.alloc o).heap[i]?=w.heap[i]?:=by
 show(w.heap.push o)[i]?=_
 rw[Array.getElem?_push,if_neg (by omega)]
theorem Zyp (es:Array MapEntry):leftOf es #[]=es:=by
 unfold leftOf
 rw[Array.filter_eq_self]
 intro x _
 simp
theorem Zvc (es:Array MapEntry)(seen:Array Nat)(n:Nat):(leftOf es (seen.push n)).toList=(leftOf es seen).toList.filter fun x => !decide (x.born=n):=by
 unfold leftOf
 rw[Array.toList_filter,Array.toList_filter,List.filter_filter]
 refine List.filter_congr fun x _=>?_
 rw[Array.contains_push]
 cases seen.contains x.born <;> simp[beq_iff_eq,Bool.beq_eq_decide_eq,eq_comm]
theorem Zta {LA LB:List MapEntry}{e:MapEntry}(h:((LA++e::LB).map (·.born)).Nodup):(LA++e::LB).filter (fun x => !decide (x.born=e.born))=LA++LB:=by
 rw[List.map_append,List.map_cons,List.nodup_append]at h
 obtain⟨_,h2,h3⟩:=h
 rw[List.nodup_cons]at h2
 rw[List.filter_append,List.filter_cons,if_neg (by simp)]
 congr 1
 ·refine List.filter_eq_self.2 fun x hx=>?_
  have:=h3 x.born (List.mem_map.2 ⟨x,hx,rfl⟩) e.born List.mem_cons_self
  simp[this]
 ·refine List.filter_eq_self.2 fun x hx=>?_
  have:x.born≠e.born:=fun hh=>h2.1 (hh▸List.mem_map.2 ⟨x,hx,rfl⟩)
  simp[this]
section
variable {P:Program}{n:Nat}{wr:World}{fr:Fr}{O:List It}{ty:TypeId}{pos:String}{af:Array Edge}{dst:Option Tmp}{g:Option (Nat × Bool)}{Kp:Value->List It->Prop}
theorem Zon {t kt et b:Nat}{x:Operand}{m:List (ByteArray × Value)}{O':Nat->List It}[hM:MapT P t kt et](hx:ev fr x=some (.map (some b)))(hu:∀ r,Upd O (.mp b m) (rng b r m m none) (O' r))(kk:∀ r,Kp (.pointer (some ⟨r,0,none⟩)) (O' r)) :
  Stp P n wr fr O ⟨dst,.range t x,ty,pos,af,g⟩ Kp :=
 Zb6 fun a w hs=>by
  obtain⟨es,c,h1,h2,h9⟩:=hs.own.sat _ (hu 0).mem
  have ht:=MapT.parts hM.h
  have hin:=hs.own.inb _ (hu 0).mem b rfl
  have hb2:(w.alloc (.mapIter (some b) c #[] c)).heap[b]?=some (.map es c):=by
   rw[Zoi w _ b hin.2,h1]
  refine⟨.pointer (some ⟨w.heap.size,0,none⟩),w.alloc (.mapIter (some b) c #[] c),O' w.heap.size,?_,hs.old.alloc hs.old.size _,hs.own.upd (hu _) hs.old.size (by simp) (fun i hi _=>Zoi w _ i hi) (Zuy ?_) (fun i hi=>?_),kk _⟩
  ·simp[execOp,hs.sim.ev hx,run_range_map w t kt et b es c ht h1]
  ·exact⟨es,c,c,#[],c,hb2,h2,h9,fun x hx=>h9.2 _ (List.mem_map.2 ⟨x,hx,rfl⟩),Nat.le_refl _,Nat.le_refl _,heap_alloc_new w _,by rw[Zyp];exact h2,fun kv h=>by cases h⟩
  ·rcases hi with rfl|rfl
   ·exact .inl rfl
   ·exact .inr ⟨Nat.le_refl _,by simp⟩
theorem ZrV {b r:Nat}{x:Operand}{m left:List (ByteArray × Value)}{cur:Option (ByteArray × Value)}{O':List (ByteArray × Value)->Option (ByteArray × Value)->List It}(hx:ev fr x=some (.pointer (some ⟨r,0,none⟩)))
  (hu:∀ l c,Upd O (rng b r m left cur) (rng b r m l c) (O' l c)) (k0:left=[]->Kp (.tuple #[.bool false]) O) (k1:∀ A kv B,left=A++kv::B->Kp (.tuple #[.bool true,.string kv.1,kv.2]) (O' (A++B) (some kv))) :
  Stp P n wr fr O ⟨dst,.next x false,ty,pos,af,g⟩ Kp :=
 Zb6 fun a w hs=>by
  obtain⟨es,clock,since,seen,c0,a1,a2,a3,a4,a5,a5',a6,a7,a8⟩:=Za6 (hs.own.sat _ (hu [] none).mem)
  have hin:=hs.own.inb _ (hu [] none).mem r (.inr rfl)
  have hbr:b≠r:=by
   rintro rfl
   rw[a1]at a6
   cases a6
  rcases run_next_at (P:=P) w ty r b since c0 seen es clock a6 a1 a4 a5 with⟨h1,h2⟩|⟨e,he,w1,hw1,h2⟩
  ·refine⟨_,w,O,?_,hs.old,hs.own,k0 ?_⟩
   ·simp only[execOp,hs.sim.ev hx,h2,Sem.run_bind,Result.andThen_ok,Sem.run_pure]
   ·have hl:=congrArg List.length a7
    rw[List.length_map,List.length_map,Array.length_toList,h1]at hl
    exact List.eq_nil_of_length_eq_zero hl.symm
  ·obtain⟨LA,LB,hl⟩:=List.append_of_mem he
   have hm:left.map (fun x=>(Value.string x.1,x.2))=(LA++e::LB).map (fun e=>(e.key,e.val)):=by rw[<- hl];exact a7.symm
   rw[List.map_append]at hm
   obtain⟨A,R,hAR,hA,hR⟩:=List.map_eq_append_iff.1 hm
   obtain⟨kv,B,hkv,hk1,hB⟩:=List.map_eq_cons_iff.1 hR
   subst hkv
   have hke:e.key = .string kv.1/\e.val=kv.2:=by
    have h1:=congrArg Prod.fst hk1
    have h2:=congrArg Prod.snd hk1
    exact⟨h1.symm,h2.symm⟩
   rw[hke.1,hke.2]at h2
   have hes:e∈es.toList:=by
    unfold leftOf at he
    rw[Array.toList_filter]at he
    exact(List.mem_filter.1 he).1
   have hnd:((leftOf es seen).toList.map (·.born)).Nodup:=by
    unfold leftOf
    rw[Array.toList_filter]
    exact a3.1.sublist ((List.filter_sublist).map _)
   have hH:w1.heap=w.heap:=by rcases hw1 with rfl|rfl <;> rfl
   have hb2:(setBlock w1 r (.mapIter (some b) since (seen.push e.born) clock)).heap[b]?=some (.map es clock):=by
    show(w1.heap.setIfInBounds r _)[b]?=_
    rw[Array.getElem?_setIfInBounds_ne (Ne.symm hbr),hH,a1]
   have hr2:(setBlock w1 r (.mapIter (some b) since (seen.push e.born) clock)).heap[r]?=some (.mapIter (some b) since (seen.push e.born) clock):=by
    show(w1.heap.setIfInBounds r _)[r]?=_
    rw[Array.getElem?_setIfInBounds,if_pos rfl,if_pos (by rw[hH];exact hin.2)]
   have hold:∀ i,i≠r->(setBlock w1 r (.mapIter (some b) since (seen.push e.born) clock)).heap[i]?=w.heap[i]?:=fun i hi=>by
    show(w1.heap.setIfInBounds r _)[i]?=_
    rw[Array.getElem?_setIfInBounds_ne (Ne.symm hi),hH]
   have hsz:w.heap.size<=(setBlock w1 r (.mapIter (some b) since (seen.push e.born) clock)).heap.size:=by
    show _<=(w1.heap.setIfInBounds r _).size
    rw[Array.size_setIfInBounds,hH]
    exact Nat.le_refl _
   have hbel:Bel wr.heap.size wr w1:=by
    rcases hw1 with rfl|rfl
    ·exact hs.old
    ·exact hs.old.drew
   refine⟨_,setBlock w1 r (.mapIter (some b) since (seen.push e.born) clock),O' (A++B) (some kv),?_,?_,hs.own.upd (hu _ _) hs.old.size hsz (fun i hi hn=>hold i fun hh=>hn (.inr hh)) (Zuy ?_) (fun i hi => .inl hi),k1 A kv B hAR⟩
   ·simp only[execOp,hs.sim.ev hx,h2,Sem.run_bind,Result.andThen_ok,Sem.run_pure]
   ·refine hbel.trans ⟨⟨rfl,rfl,rfl,by show _<=(w1.heap.setIfInBounds r _).size;rw[Array.size_setIfInBounds];exact Nat.le_refl _,fun i hi=>?_⟩⟩
    show(w1.heap.setIfInBounds r _)[i]?=_
    rw[Array.getElem?_setIfInBounds_ne (by omega)]
   ·refine⟨es,clock,since,seen.push e.born,clock,hb2,a2,a3,a4,a5',a5',hr2,?_,fun kv' hk=>?_⟩
    ·unfold Zcs
     rw[Zvc,hl,Zta (by rw[<- hl];exact hnd),List.map_append,List.map_append,hA,hB]
    ·cases hk
     exact⟨e,hes,seen,rfl,rfl,hke.1,hke.2⟩
theorem Zr6 {b r:Nat}{x:Operand}{m left:List (ByteArray × Value)}{kv:ByteArray × Value}{R:List It}(hx:ev fr x=some (.pointer (some ⟨r,0,none⟩)))(hp:Pick (rng b r m left (some kv)) O R):Pu P n wr fr O (.entry x) ty (.tuple #[.string kv.1,kv.2]) :=
 fun a w hs _ _ _ _=>by
  obtain⟨es,clock,since,seen,c0,a1,a2,a3,a4,a5,a5',a6,a7,a8⟩:=Za6 (hs.own.sat _ (hp.perm.mem_iff.2 List.mem_cons_self))
  obtain⟨e,he,s0,rfl,rfl,h1,h2⟩:=a8 kv rfl
  have:=run_entry_at (P:=P) w r b since s0 es c0 e a6 a1 he a3.1
  simp only[execOp,hs.sim.ev hx,this,Sem.run_bind,Result.andThen_ok,Sem.run_pure,h1,h2]
theorem ZrX {ops:Array Oper}{rest:List Oper}{K:Fr->List It->Prop}{b r:Nat}{m left:List (ByteArray × Value)}{cur:Option (ByteArray × Value)}{O':List It}(hu:Upd O (rng b r m left cur) (.mp b m) O')(h:RL P n wr ops rest K fr O'):RL P n wr ops rest K fr O:=fun a w hs=>by
 refine h a w ⟨hs.sim,hs.old,?_⟩
 obtain⟨es,clock,since,seen,c0,a1,a2,a3,_⟩:=Za6 (hs.own.sat _ hu.mem)
 exact hs.own.upd hu hs.old.size (Nat.le_refl _) (fun _ _ _=>rfl) ⟨es,clock,a1,a2,a3⟩ (fun i hi => .inl (.inl hi))
end
open Go Go.RowKit
def WF (F:Fence):Prop:=F=Fence.wide\/∃ l,F=Fence.wide.inRound l
theorem WF.fn {F:Fence}(h:WF F)(f:FuncId):F.fn f:=by rcases h with rfl|⟨l,rfl⟩ <;> trivial
theorem WF.depth {F:Fence}(h:WF F):F.depth=none:=by rcases h with rfl|⟨l,rfl⟩ <;> rfl
theorem WF.calls {F:Fence}(h:WF F){n:Nat}{P:Program}{f:FuncId}{args:Array Value}{w:World}{R:Ending->World->Prop}(hc:Calls P f args w R):CallsIn F n P f args w R:=by
 rcases h with rfl|⟨l,rfl⟩
 ·exact callsIn_wide.2 hc
 ·exact CallsIn.inRound l (callsIn_wide.2 hc)
def calm:Result Next->Prop
 | .ok (.value _) _=>True
 | .ok .skip _=>True
 | .ok (.enter _ _) _=>True
 | .halt _ _=>True
 | _=>False
theorem ZtL {F:Fence}(hF:WF F){n:Nat}{P:Program}{o:Oper}{a a2:Act}{w:World}{K K2:Act->World->Prop}{Q Q2:Exit->Act->World->Prop}(he:a2.eval=a.eval)(hd:∀ c,o.op ≠ .defer c)(hc:calm ((execOp a.eval o).run P w))(h:o.wp P a w K Q)(hQ:∀ e a w,¬ Q e a w)
  (hK:∀ v w',K (a.put o.dst v) w'->K2 (a2.put o.dst v) w'):o.wpIn F n P a2 w K2 Q2:=by
 refine⟨fun f _=>hF.fn f,?_⟩
 rw[Oper.semAt_eq _ _ _ hd,he]
 unfold Oper.wp at h
 generalize (execOp a.eval o).run P w=r at *
 cases r with
 | ok nx w' =>
  cases nx with
  | value v=>exact hK _ _ h
  | skip=>exact hK _ _ h
  | enter f args =>
   rw[Oper.upon_enter]at h
   rw[Oper.uponIn_enter]
   refine⟨fun hh=>(by rw[hF.depth]at hh;cases hh),(hF.calls h).mono ?_⟩
   intro e w'' he
   cases e with
   | returned v=>exact hK _ _ he
   | panicked c=>exact(hQ _ _ _ he).elim
   | outgrown=>exact he.elim fun a h=>h.elim fun w h=>(hQ _ _ _ h).elim
  | _=>exact hc.elim
 | halt x w' =>
  cases x with
  | panic v=>exact(hQ _ _ _ h).elim
  | _=>exact h.elim
section
variable {F:Fence}{P:Program}{n:Nat}{wr:World}{ops:Array Oper}{rest:List Oper}{K:Fr->List It->Prop}{fr:Fr}{O:List It}{ty:TypeId}{pos:String}{af:Array Edge}{D:List Deferred}
def actD (D:List Deferred)(a:Act):Act:={ a with defers:=D }
def ZDc (D:List Deferred)(n:Nat)(wr:World)(K:Fr->List It->Prop):Exit->Act->World->Prop:=fun e a w=>e = .normal/\a.defers=D/\∃ fr O,St n wr fr O (actD [] a) w/\K fr O
def RLI (F:Fence)(D:List Deferred)(P:Program)(n:Nat)(wr:World)(ops:Array Oper)(l:List Oper)(K:Fr->List It->Prop)(fr:Fr)(O:List It):Prop :=
 ∀ a w,St n wr fr O a w->wpListIn F 0 P ops (ZDc D n wr K) l (actD D a) w
theorem ZdS {a:Act}{fr:Fr}{w:World}(h:St n wr fr O a w):actD [] (actD D a)=a:=by
 have:=h.sim.defers
 cases a
 simp only at this
 subst this
 rfl
theorem ZcS (a:Act)(d:Option Tmp)(v:Value):(actD D a).put d v=actD D (a.put d v):=by cases d <;> rfl
theorem Za0 (h:K fr O):RLI F D P n wr ops [] K fr O:=fun a w hs=>⟨rfl,rfl,fr,O,by rw[ZdS hs];exact hs,h⟩
theorem Za9 (hF:WF F){d:Nat}{op:Op}{v:Value}(hd:Nat.ble (d+1) n=true)(hop:∀ c,op ≠ .defer c)(h:Pu P n wr fr O op ty v)(k:RLI F D P n wr ops rest K ((d,v)::fr) O) :
  RLI F D P n wr ops (⟨some d,op,ty,pos,af,none⟩::rest) K fr O:=by
 intro a w hs
 have hrun:=h a w hs (some d) pos af none
 refine wpListIn_plain rfl fun K' hK=>ZtL (a:=a) (K:=fun x w=>x=a.put (some d) v/\St n wr ((d,v)::fr) O x w) (Q:=fun _ _ _=>False) hF rfl hop (by rw[hrun];trivial) ?_ (fun _ _ _ h=>h) ?_
 ·unfold Oper.wp
  rw[hrun,Oper.upon_value]
  exact⟨rfl,hs.sim.put hd v,hs.old,hs.own⟩
 ·rintro u w' ⟨e,hst⟩
  rw[ZcS]
  exact hK _ _ (k _ _ (e▸hst))
theorem ZbH (hF:WF F){dst:Option Tmp}{op:Op}(hd:∀ d,dst=some d->Nat.ble (d+1) n=true)(hop:∀ c,op ≠ .defer c)(hc:∀ a w,St n wr fr O a w->calm ((execOp a.eval ⟨dst,op,ty,pos,af,none⟩).run P w))
  (h:Stp P n wr fr O ⟨dst,op,ty,pos,af,none⟩ fun v O'=>RLI F D P n wr ops rest K (updF fr dst v) O'):RLI F D P n wr ops (⟨dst,op,ty,pos,af,none⟩::rest) K fr O:=by
 intro a w hs
 refine wpListIn_plain rfl fun K' hK=>ZtL (a:=a) (K:=fun x w=>∃ v O',x=a.put dst v/\Bel wr.heap.size wr w/\Zau wr.heap.size O' w/\RLI F D P n wr ops rest K (updF fr dst v) O') (Q:=fun _ _ _=>False) hF rfl hop (hc a w hs) ?_ (fun _ _ _ h=>h) ?_
 ·exact h a w hs _ _ fun v O' w' h1 h2 h3=>⟨v,O',rfl,h1,h2,h3⟩
 ·rintro u w' ⟨v,O',e,h1,h2,h3⟩
  rw[ZcS]
  refine hK _ _ (h3 _ _ ?_)
  show St n wr _ O' (a.put dst u) w'
  rw[e]
  cases dst with
  | none=>exact⟨hs.sim,h1,h2⟩
  | some d=>exact⟨hs.sim.put (hd d rfl) v,h1,h2⟩
theorem Zv1 {dst:Option Tmp}{g:Option (Nat × Bool)}{f:FuncId}{xs:List Operand}{ts:Array TypeId}[Body P f](a:Act)(w:World):calm ((execOp a.eval ⟨dst,.call ⟨.value (.func f),xs.toArray,ts⟩,ty,pos,af,g⟩).run P w):=by
 simp[execOp,resolve,Act.eval,Deferred.ofValue,invoke,ZbE,calm]
theorem Zcj {dst:Option Tmp}{g:Option (Nat × Bool)}{f:FuncId}{gx:Operand}{xs:List Operand}{ts:Array TypeId}{us cs:List Value}[Body P f]{a:Act}{w:World}(hs:St n wr fr O a w)(hg:ev fr gx=some (.func (.func f) us.toArray cs.toArray)) :
  calm ((execOp a.eval ⟨dst,.call ⟨.value gx,xs.toArray,ts⟩,ty,pos,af,g⟩).run P w):=by
 simp[execOp,resolve,hs.sim.ev hg,Deferred.ofValue,invoke,ZbE,calm]
theorem Zdq {dst:Option Tmp}{g:Option (Nat × Bool)}{t:TypeId}{x y:Operand}(a:Act)(w:World):calm ((execOp a.eval ⟨dst,.store t x y,ty,pos,af,g⟩).run P w):=by
 simp only[execOp,Sem.run_bind]
 generalize (Instr.storeAt t (a.eval x) (a.eval y)).run P w=r
 cases r <;> simp[calm,Result.andThen]
theorem Zj4 {dst:Option Tmp}{op:Op}{j:Nat}{b:Bool}{oj:Oper}{d:Nat}(hj:ops[j]?=some oj)(hd:oj.dst=some d)(hb:look fr d=some (.bool b))
  (k:RLI F D P n wr ops (⟨dst,op,ty,pos,af,none⟩::rest) K fr O):RLI F D P n wr ops (⟨dst,op,ty,pos,af,some (j,b)⟩::rest) K fr O:=by
 intro a w hs
 have:=k a w hs
 have hy:yielded ops (actD D a).tmps j=some b:=by
  show yielded ops a.tmps j=some b
  simp[yielded,hj,hd,hs.sim.at_ d _ hb]
 simp only[wpListIn,Region.wanted,hy,if_true,beq_self_eq_true]at this ⊢
 exact this
theorem Zos (hF:WF F){d':Nat}{op:Op}{j:Nat}{b b':Bool}{oj:Oper}{d:Nat}(hj:ops[j]?=some oj)(hd:oj.dst=some d)(hb:look fr d=some (.bool b'))(hne:b' = !b)(hdn:Nat.ble (d'+1) n=true)
  (k:RLI F D P n wr ops rest K ((d',undef)::fr) O):RLI F D P n wr ops (⟨some d',op,ty,pos,af,some (j,b)⟩::rest) K fr O:=by
 intro a w hs
 have:=k (a.put (some d') undef) w ⟨hs.sim.put hdn undef,hs.old,hs.own⟩
 have hy:yielded ops (actD D a).tmps j=some b':=by
  show yielded ops a.tmps j=some b'
  simp[yielded,hj,hd,hs.sim.at_ d _ hb]
 have hw:Region.wanted (⟨some d',op,ty,pos,af,some (j,b)⟩:Oper) (yielded ops (actD D a).tmps)=false:=by
  subst hne
  simp[Region.wanted,hy]
 simp only[wpListIn,hw]
 exact⟨fun f _=>hF.fn f,by rw[ZcS];exact this⟩
def ZpD (D:List Deferred)(n:Nat)(wr:World)(Q:Exit->Fr->List It->Prop):Exit->Act->World->Prop:=fun e a w=>a.defers=D/\∃ fr O,St n wr fr O (actD [] a) w/\Q e fr O
def WI (F:Fence)(D:List Deferred)(P:Program)(n:Nat)(wr:World)(c:Code)(Q:Exit->Fr->List It->Prop)(fr:Fr)(O:List It):Prop :=
 ∀ a w,St n wr fr O a w->c.wpIn F 0 P (ZpD D n wr Q) (actD D a) w
theorem Zc3 {a:Act}(h:a.defers=D):actD D (actD [] a)=a:=by cases a;simp only at h;subst h;rfl
variable {Q:Exit->Fr->List It->Prop}
theorem ZbP {x y:Code}(h:WI F D P n wr x (Zar (WI F D P n wr y Q) Q) fr O):WI F D P n wr (.seq x y) Q fr O:=by
 intro a w hs
 refine wpIn_seq (wpIn_mono (h a w hs) ?_)
 rintro e a' w' ⟨hd,fr',O',hs',hq⟩
 cases e with
 | normal =>
  have:=hq _ w' hs'
  rw[Zc3 hd]at this
  exact this
 | _=>exact⟨hd,fr',O',hs',hq⟩
theorem Zfw (h:Q .normal fr O):WI F D P n wr .skip Q fr O:=fun a _ hs=>wpIn_skip ⟨rfl,fr,O,by rw[ZdS hs];exact hs,h⟩
theorem Zgd (h:Q .ret fr O):WI F D P n wr .ret Q fr O:=fun a _ hs=>wpIn_ret ⟨rfl,fr,O,by rw[ZdS hs];exact hs,h⟩
theorem ZbW {c:Operand}{x y:Code}{b:Bool}(hc:ev fr c=some (.bool b))(ht:b=true->WI F D P n wr x Q fr O)(hf:b=false->WI F D P n wr y Q fr O):WI F D P n wr (.cond c x y) Q fr O:=by
 intro a w hs
 have he:(actD D a).eval c = .bool b:=hs.sim.ev hc
 exact wpIn_cond_split he (fun h=>ht h a w hs) (fun h=>hf h a w hs)
theorem Zbb {id:Nat}{l:List Oper}(h:RLI F D P n wr l.toArray l (Q .normal) fr O):WI F D P n wr (.region id l.toArray false) Q fr O:=by
 intro a w hs
 refine wpIn_mono (wpIn_region_lit (h a w hs)) ?_
 rintro e a' w' ⟨rfl,hd,fr',O',hs',hq⟩
 exact⟨hd,fr',O',hs',hq⟩
def Za1 (l:Nat)(r:Loop):It := .fact (fun k=>k=l) (fun w=>w.heap[l]?=some (.loop r))
def ZbC (b:Nat):It := .fact (fun k=>k=b) (fun w=>w.heap[b]?=some (.deferred (some [])))
theorem Za1.at {l:Nat}{r:Loop}{w:World}(h:(Za1 l r).sat w):w.heap[l]?=some (.loop r):=Za6 h
theorem ZbC.at {b:Nat}{w:World}(h:(ZbC b).sat w):w.heap[b]?=some (.deferred (some [])):=Za6 h
theorem Zet (w:World)(l:Nat)(o:Obj):(w.putObj l o).heap.size=w.heap.size:=by simp[World.putObj]
theorem Zdr {a:Act}{w:World}{l:Nat}{r r':Loop}{O':List It}(hs:St n wr fr O a w)(hu:Upd O (Za1 l r) (Za1 l r') O'):St n wr fr O' a (w.putObj l (.loop r')):=by
 have hin:=hs.own.inb _ hu.mem l rfl
 refine⟨hs.sim,hs.old.trans ⟨⟨rfl,rfl,rfl,by rw[Zet];exact Nat.le_refl _,fun i hi=>World.putObj_heap_other (by omega)⟩⟩,hs.own.upd hu hs.old.size (by rw[Zet];exact Nat.le_refl _) (fun i _ hi=>World.putObj_heap_other hi) ?_ (fun i hi => .inl hi)⟩
 intro w' ha
 rw[ha l rfl]
 exact World.putObj_heap_same hin.2
def Zzq (l:Nat)(r:Loop)(R:Bool->List It->Prop):Exit->Fr->List It->Prop
 | .normal=>fun _ O=>∃ O',Upd O (Za1 l { r with state := .busy }) (Za1 l { r with state := .ready,pending:=none }) O'/\R true O'
 | .ret=>fun _ O=>∃ O',Upd O (Za1 l { r with state := .busy }) (Za1 l { r with state := .done,pending:=some .ret }) O'/\R false O'
 | _=>fun _ _=>False
def Zcd (P:Program)(l:Nat)(v:Value)(wr:World)(O:List It)(R:Bool->List It->Prop):Prop :=
 ∀ w,Bel wr.heap.size wr w->Zau wr.heap.size O w->YieldAt Fence.wide 0 P l #[v] w fun e w'=>∃ b O',e = .returned (.bool b)/\Bel wr.heap.size wr w'/\Zau wr.heap.size O' w'/\R b O'
theorem Ze3 {l p:Nat}{r:Loop}{v:Value}{a0:Act}{O1:List It}{R:Bool->List It->Prop}(hp:r.params = #[p])(hr:r.state = .ready)(ht:r.tmps=a0.tmps)(hsim:Sim n fr a0)(hpn:Nat.ble (p+1) n=true)
  (hu:Upd O (Za1 l r) (Za1 l { r with state := .busy }) O1) {id:Nat} {la:List Oper} (hass:r.assign = .region id la.toArray false)
  (hb:RLI (Fence.wide.inRound l) [] P n wr la.toArray la (fun fr' O'=>O'=O/\WI (Fence.wide.inRound l) [] P n wr r.body (Zzq l r R) fr' O1) ((p,v)::fr) O):Zcd P l v wr O R:=by
 intro w hB hH
 have hl:=Za1.at (hH.sat _ hu.mem)
 have hy:=run_yield (P:=P) (args := #[v]) hl (by rw[hp];rfl)
 rw[hp,ht]at hy
 refine⟨r.fn,_,r.assign,r.body,hy,roundIn_of_wpIn trivial ?_⟩
 have hst:St n wr ((p,v)::fr) O { tmps:=a0.tmps.setIfInBounds p v,defers:=[] } w:=by
  have:=hsim.put hpn v
  refine⟨?_,hB,hH⟩
  have e:({ tmps:=a0.tmps.setIfInBounds p v,defers:=[] }:Act)=a0.put (some p) v:=by
   have:=hsim.defers
   simp[Act.put,this]
  rw[e]
  exact this
 rw[hass,show Array.foldl (fun tmps (x:Tmp × Value)=>match x with|(t,a)=>tmps.setIfInBounds t a) a0.tmps (#[p].zip #[v])=a0.tmps.setIfInBounds p v by simp]
 refine wpIn_mono (wpIn_region_lit (hb _ w hst)) ?_
 rintro e a' w' ⟨rfl,hd,fr',O',hs',rfl,hW⟩
 have hl':=Za1.at (hs'.own.sat _ hu.mem)
 refine⟨_,run_beginRound hl' hr,?_⟩
 have hs2:=Zdr hs' hu
 have h3:=hW _ _ hs2
 rw[Zc3 hd]at h3
 refine wpIn_mono h3 ?_
 rintro e2 a2 w2 ⟨hd2,fr2,O2,hs3,hq⟩
 cases e2 with
 | normal =>
  obtain⟨O3,hu3,hR⟩:=hq
  have hl3:=Za1.at (hs3.own.sat _ hu3.mem)
  have hs4:=Zdr hs3 hu3
  exact⟨_,_,run_endRound none hl3,true,O3,rfl,hs4.old,hs4.own,hR⟩
 | ret =>
  obtain⟨O3,hu3,hR⟩:=hq
  have hl3:=Za1.at (hs3.own.sat _ hu3.mem)
  have hs4:=Zdr hs3 hu3
  exact⟨_,_,run_endRound (some .ret) hl3,false,O3,rfl,hs4.old,hs4.own,hR⟩
 | exit id=>exact hq.elim
 | goto t=>exact hq.elim
 | panic ch=>exact hq.elim
 | outgrown=>exact hq.elim
theorem Zor {d l:Nat}{gx y:Operand}{ts:Array TypeId}{v:Value}{R:Bool->List It->Prop}(hd:Nat.ble (d+1) n=true)(hg:ev fr gx=some (.func (.yield l) #[] #[]))(hx:ev fr y=some v)(h:Zcd P l v wr O R)
  (k:∀ b O',R b O'->RLI Fence.wide [] P n wr ops rest K ((d,.bool b)::fr) O'):RLI Fence.wide [] P n wr ops (⟨some d,.call ⟨.value gx,#[y],ts⟩,ty,pos,af,none⟩::rest) K fr O:=by
 intro a w hs
 refine wpListIn_plain rfl fun K' hK=>⟨fun f _=>trivial,?_⟩
 obtain⟨fn,tmps,assign,body,hy,hR⟩:=h w hs.old hs.own
 have e:actD [] a=a:=by
  have:=hs.sim.defers
  cases a;simp only at this;subst this;rfl
 rw[e]
 have hrun:(Oper.semAt Fence.wide.round a.eval ⟨some d,.call ⟨.value gx,#[y],ts⟩,ty,pos,af,none⟩).run P w = .ok (.round l fn tmps assign body) w:=by
  rw[Oper.semAt_eq _ _ _ (by intro c hc;cases hc)]
  simp[execOp,resolve,hs.sim.ev hg,hs.sim.ev hx,Deferred.ofValue,invoke,hy]
 rw[hrun,Oper.uponIn_round]
 refine⟨fun hh=>(by cases hh),hR.mono ?_⟩
 rintro e2 w' ⟨b,O',rfl,h1,h2,h3⟩
 have:=k b O' h3 (a.put (some d) (.bool b)) w' ⟨hs.sim.put hd _,h1,h2⟩
 refine hK _ _ ?_
 have e2:actD [] (a.put (some d) (.bool b))=a.put (some d) (.bool b):=by rw[<- ZcS,e]
 rw[e2]at this
 exact this
theorem Zom {id:Nat}{l:List Oper}(h:RLI Fence.wide [] P n wr l.toArray l (Q .normal) fr O):W P n wr (.region id l.toArray false) Q fr O:=by
 intro a w hs
 have e:actD [] a=a:=by
  have:=hs.sim.defers
  cases a;simp only at this;subst this;rfl
 have h1:=h a w hs
 rw[e]at h1
 refine wpIn_wide.1 (wpIn_mono (wpIn_region_lit h1) ?_)
 rintro e a' w' ⟨rfl,hd,fr',O',hs',hq⟩
 refine⟨fr',O',?_,hq⟩
 rw[show a'=actD [] a' from(by cases a';simp only at hd;subst hd;rfl)]
 exact hs'
theorem SubO.trans {A B C:List It}(h:SubO A B)(k:SubO B C):SubO A C:=by
 obtain⟨R1,h1⟩:=h.perm
 obtain⟨R2,h2⟩:=k.perm
 exact SubO.ofPerm (R:=R1++R2) (h2.trans (by rw[<- List.append_assoc];exact h1.append_right R2))
theorem Zuz {R:Value->List It->Prop}(O':List It)(hO:SubO O' O)(hR:R (.tuple #[]) O'):retQ P wr [] R .ret fr O:=⟨[],O',rfl,hO,hR⟩
theorem Zg9 {id d0 d1 d2 l:Nat}{x y g:Operand}{op1:Op}{ty0 ty1:TypeId}{p0 p1:String}{f0 f1:Array Edge}{ts:Array TypeId}{u v:Value}{R:Bool->List It->Prop}(n0:Nat.ble (d0+1) n=true)(n1:Nat.ble (d1+1) n=true)(n2:Nat.ble (d2+1) n=true)(hop:∀ c,op1 ≠ .defer c)
  (hx:ev fr x=some u) (h1:Pu P n wr ((d0,u)::fr) O op1 ty1 v) (hg:ev ((d1,v)::(d0,u)::fr) g=some (.func (.yield l) #[] #[])) (hy:ev ((d1,v)::(d0,u)::fr) y=some v) (hY:Zcd P l v wr O R)
  (k:∀ b O',R b O'->RLI Fence.wide [] P n wr (⟨some d0,.move x,ty0,p0,f0,none⟩::⟨some d1,op1,ty1,p1,f1,none⟩::⟨some d2,.call ⟨.value g,#[y],ts⟩,ty,pos,af,none⟩::rest).toArray rest (Q .normal) ((d2,.bool b)::(d1,v)::(d0,u)::fr) O') :
  W P n wr (.region id (⟨some d0,.move x,ty0,p0,f0,none⟩::⟨some d1,op1,ty1,p1,f1,none⟩::⟨some d2,.call ⟨.value g,#[y],ts⟩,ty,pos,af,none⟩::rest).toArray false) Q fr O :=
 Zom (Za9 (.inl rfl) n0 (by intro c h;cases h) (Pu_move hx) (Za9 (.inl rfl) n1 hop h1 (Zor n2 hg hy hY k)))
theorem St.allocFact {a:Act}{w:World}(hs:St n wr fr O a w)(o:Obj):St n wr fr (.fact (fun k=>k=w.heap.size) (fun w'=>w'.heap[w.heap.size]?=some o)::O) a (w.alloc o):=by
 have hB:Bel w.heap.size w (w.alloc o):=(Bel.refl _ _).alloc (Nat.le_refl _) _
 refine⟨hs.sim,hs.old.trans (hB.mono hs.old.size),hs.own.grow (O':=[_]) hB hs.old.size ⟨fun i hi=>?_,fun i hi b hb=>?_,List.pairwise_singleton _ _⟩⟩
 ·rw[List.mem_singleton.1 hi]
  intro w' ha
  rw[ha _ rfl]
  exact World.alloc_heap_new w o
 ·rw[List.mem_singleton.1 hi]at hb
  obtain rfl:b=w.heap.size:=hb
  exact⟨Nat.le_refl _,by simp⟩
def ZdX (D:Nat):List Deferred:=[{ target := .collected D,args := #[] }]
def ZfW (fn:FuncId)(tm:Array Value)(p:Tmp)(assign body:Code)(D:Nat):Loop:={ state := .ready,pending:=none,fn:=fn,tmps:=tm,params := #[p],assign:=assign,body:=body,defers:=D }
theorem Zim {gf:FuncId}[Body P gf]{lb:List Value}{g:Operand}{p:Tmp}{assign body:Code}{Q2:Exit->Act->World->Prop}{a:Act}{w:World}(K:Option Code->List It->Prop)(hs:St n wr fr O a w)(hg:ev fr g=some (.func (.func gf) #[] lb.toArray))
  (hit:∀ fn l D,Zak P gf (.func (.yield l) #[] #[]::lb) wr (Za1 l (ZfW fn a.tmps p assign body D)::ZbC D::O) fun _ O'=>∃ jump O2 st,SubO (Za1 l { ZfW fn a.tmps p assign body D with state:=st,pending:=jump }::ZbC D::O2) O'/\st ≠ .busy/\K jump O2)
  (hk:∀ jump O2 D w',K jump O2->St n wr fr (ZbC D::O2) a w'->match jump with|none=>Q2 .normal (actD (ZdX D) a) w'|some c=>c.wp P Q2 (actD (ZdX D) a) w'):(Code.rangeFunc g #[p] assign body).wp P Q2 a w:=by
 refine(wpIn_wide (n:=0)).1 (wpIn_rangeFunc fun fn _=>?_)
 have h1:=hs.allocFact (.deferred (some []))
 have h2:=h1.allocFact (.loop (ZfW fn a.tmps p assign body w.heap.size))
 rw[World.size_alloc]at h2
 have hst:St n wr fr (Za1 (w.heap.size+1) (ZfW fn a.tmps p assign body w.heap.size)::ZbC w.heap.size::O) a ((w.alloc (.deferred (some []))).alloc (.loop (ZfW fn a.tmps p assign body w.heap.size))):=h2
 have hen:=run_enterLoop_outer (P:=P) (w:=w) fn a.tmps #[p] assign body
 generalize hW1:(w.alloc (.deferred (some []))).alloc (.loop (ZfW fn a.tmps p assign body w.heap.size))=W1 at hst
 rw[show(w.alloc (.deferred (some []))).alloc (.loop { state := .ready,pending:=none,fn:=fn,tmps:=a.tmps,params := #[p],assign:=assign,body:=body,defers:=w.heap.size })=W1 from hW1]at hen
 refine⟨w.heap.size+1,ZdX w.heap.size,W1,{ target := .fn (.func gf) lb.toArray,args := #[.func (.yield (w.heap.size+1)) #[] #[]] },W1,gf,#[.func (.yield (w.heap.size+1)) #[] #[]]++lb.toArray,W1,hen,?_,fun _ _=>trivial,?_,fun hh=>(by cases hh),?_⟩
 ·have hcv:a.eval (.const (.func (.yield (w.heap.size+1)) #[] #[])) = .func (.yield (w.heap.size+1)) #[] #[]:=rfl
  simp[resolve,hs.sim.ev hg,hcv,Deferred.ofValue]
 ·simp[invoke,ZbE]
 ·refine callsIn_wide.2 ?_
  have hc:=hit fn (w.heap.size+1) w.heap.size _ hst.old hst.own
  rw[show(Value.func (.yield (w.heap.size+1)) #[] #[]::lb).toArray = #[.func (.yield (w.heap.size+1)) #[] #[]]++lb.toArray by simp]at hc
  refine hc.mono ?_
  rintro e w3 ⟨v,O',rfl,hB,hH,jump,O2,st,hsub,hne,hK⟩
  have hs3:St n wr fr (Za1 (w.heap.size+1) { ZfW fn a.tmps p assign body w.heap.size with state:=st,pending:=jump }::ZbC w.heap.size::O2) a w3:=⟨hs.sim,hB,hH.sub hsub⟩
  have hl:=Za1.at (hs3.own.sat _ List.mem_cons_self)
  have hs4:=Zdr (r':={ ZfW fn a.tmps p assign body w.heap.size with state := .exhausted,pending:=jump }) hs3 .here
  have hk2:=hk jump O2 w.heap.size _ hK ⟨hs4.sim,hs4.old,hs4.own.tail⟩
  refine⟨jump,_,run_endLoop hl hne,?_⟩
  have e0:({ a with defers:=ZdX w.heap.size++a.defers }:Act)=actD (ZdX w.heap.size) a:=by
   have:=hs.sim.defers
   simp[actD,this]
  rw[e0]
  cases jump with
  | none=>exact hk2
  | some c=>exact wpIn_wide.2 hk2
theorem Zlr {f:FuncId}{fn:Func}{c:Code}{args:List Value}{w:World}{R:Ending->World->Prop}(hf:P.funcs[f]?=some fn)(hb:fn.body=some c)(hn:fn.ntmps=n)(ha:Nat.ble args.length n=true)
  (h:∀ a,St n w (ZeW 0 args) [] a w->c.wp P (bodyPostM Fence.wide 0 P fn R) a w):Calls P f args.toArray w R:=by
 refine(callsIn_wide (n:=0)).1 (callsIn_of_wp_marks hf hb trivial ?_)
 refine(wpIn_wide (n:=0)).2 (h _ ?_)
 have ha':args.length<=n:=Nat.le_of_ble_eq_true ha
 refine⟨⟨rfl,by simp;omega,fun t v hv=>?_⟩,Bel.refl _ _,Zau.nil _ _⟩
 have:=(ZcD args 0 t v hv).2
 simp only[Nat.sub_zero]at this
 have hlt:t<args.length:=(List.getElem?_eq_some_iff.1 this).1
 rw[Array.getElem?_append_left (by simpa using hlt)]
 simpa using this
theorem Zak.sub {f:FuncId}{args:List Value}{O':List It}{R R':Value->List It->Prop}(h:Zak P f args wr O R)(hO:SubO O O')(hR:∀ v O,R v O->R' v O):Zak P f args wr O' R' :=
 fun w hB hH=>(h w hB (hH.sub hO)).mono fun _ _ ⟨v,O1,h1,h2,h3,h4⟩=>⟨v,O1,h1,h2,h3,hR v O1 h4⟩
theorem WI.at {c:Code}{a:Act}{w:World}(h:WI F D P n wr c Q fr O)(hs:St n wr fr O a w):c.wpIn F 0 P (ZpD D n wr Q) (actD D a) w:=h a w hs
theorem Zdk {id:Nat}{c:Code}(h:WI F D P n wr c (Zal id Q) fr O):WI F D P n wr (.block id c) Q fr O:=by
 intro a w hs
 refine wpIn_block (wpIn_mono (h a w hs) ?_)
 rintro e a' w' ⟨hd,fr',O',hs',hq⟩
 cases e with
 | exit k =>
  simp only[Exit.inBlock,Zal]at hq ⊢
  split
  ·rename_i hk;rw[if_pos hk]at hq;exact⟨hd,fr',O',hs',hq⟩
  ·rename_i hk;rw[if_neg hk]at hq;exact⟨hd,fr',O',hs',hq⟩
 | _=>exact⟨hd,fr',O',hs',hq⟩
end
end Go.Wk
namespace Go.Proofs.YtbjomhdhkpgbaaaGreatDoor
open Go Go.RowKit Go.Wk
attribute [local irreducible] W RL Does Zar Zal retQ Calls Pu Stp RD Qy Ay Zak
theorem Zjp (x:ByteArray)(z:ZaO):∀ (l:List ZaO) (k:Nat),Zbd x (l++[z]) k=(Zbd x l k).or (if z.name=x then some (k+l.length) else none)
 | [],k=>by simp[Zbd]
 | y::l,k=>by
  simp only[List.cons_append,Zbd,Zjp x z l]
  split
  ·rfl
  ·rw[List.length_cons,show k+1+l.length=k+(l.length+1) by omega]
theorem Zjs (x:ByteArray)(z:Zbl):∀ (l:List Zbl) (k:Nat),ZbV x (l++[z]) k=(ZbV x l k).or (if z.name=x then some (k+l.length) else none)
 | [],k=>by simp[ZbV]
 | y::l,k=>by
  simp only[List.cons_append,ZbV,Zjs x z l]
  split
  ·rfl
  ·rw[List.length_cons,show k+1+l.length=k+(l.length+1) by omega]
theorem ZnQ (x:ByteArray):∀ (l:List Zbl) (k i:Nat),ZbV x l k=some i->k<=i/\i<k+l.length
 | [],_,_,h=>by cases h
 | z::l,k,i,h=>by
  simp only[ZbV]at h
  split at h
  ·simp only[Option.some.injEq]at h;subst h;simp
  ·have:=ZnQ x l (k+1) i h;simp only[List.length_cons];omega
theorem Zk2 {z:ZaO}:∀ {l:List ZaO} (k:Nat),z∈l->∃ j,Zbd z.name l k=some j
 | y::l,k,h=>by
  simp only[Zbd]
  split
  ·exact⟨_,rfl⟩
  ·rename_i hn
   rcases List.mem_cons.1 h with rfl|h
   ·exact absurd rfl hn
   ·exact Zk2 (k+1) h
theorem Zk3 {z:Zbl}:∀ {l:List Zbl} (k:Nat),z∈l->∃ j,ZbV z.name l k=some j
 | y::l,k,h=>by
  simp only[ZbV]
  split
  ·exact⟨_,rfl⟩
  ·rename_i hn
   rcases List.mem_cons.1 h with rfl|h
   ·exact absurd rfl hn
   ·exact Zk3 (k+1) h
def IxM (m:List (ByteArray × Value))(f:ByteArray->Option Nat):Prop:=∀ x,mget m x=(f x).map fun i:Nat=>Value.int .i64 (i:Int)
theorem IxM.some {m:List (ByteArray × Value)}{f:ByteArray->Option Nat}(h:IxM m f){x:ByteArray}{i:Nat}(hf:f x=some i):(mget m x).getD (.int .i64 0) = .int .i64 i/\(mget m x).isSome=true:=by
 rw[h x,hf];exact⟨rfl,rfl⟩
theorem IxM.none {m:List (ByteArray × Value)}{f:ByteArray->Option Nat}(h:IxM m f){x:ByteArray}(hf:f x=none):(mget m x).getD (.int .i64 0) = .int .i64 0/\(mget m x).isSome=false:=by
 rw[h x,hf];exact⟨rfl,rfl⟩
theorem IxM.set {m:List (ByteArray × Value)}{f f':ByteArray->Option Nat}(h:IxM m f){k:ByteArray}{i:Nat}(hf:∀ x,f' x=if x=k then Option.some i else f x):IxM (mset m k (.int .i64 i)) f':=fun x=>by
 rw[Zed,hf x]
 split
 ·rfl
 ·exact h x
def ZC3 (f:ByteArray->Option Nat)(N:Nat)(v:Value)(O:List It):Prop:=∃ b m,v = .map (some b)/\O=[.mp b m]/\IxM m f/\Nd m/\m.length<=N
structure LG where
 k:Nat
 mp:List (ByteArray × Value)
theorem Zse {G:Prop}(h:G:=by(first|exact PuI|(apply Zcl;rfl;rfl;(focus repeat' constructor);exact hv0;exact hc0))):G:=h
theorem Zgq (Ar Az Al As:Option Addr)(cr cz cl cs:Nat)(a:Zac)(w:World)(hA:Zan w Ar Az Al As cr cz cl cs a)(hn:a.zones.length<=1000000) :
  Does Tryz.prog 35 [srcV Ar Az Al As cr cz cl cs a] w (ZC3 (fun x=>Zbd x a.zones 0) a.zones.length):=by
 refine Zaa Tryz.func35 rfl rfl rfl rfl ?_
 repeat (first|(refine js ?_;(first|(apply Zic;rfl;intro bk)|(refine bx ?_;intro bk)))|refine walk ?_)
 refine Zaq [(3,.map (some bk)),(13,.slice Az a.zones.length cz),(14,.int .i64 a.zones.length)] [] (fun g:LG=>[(15,.int .i64 g.k)]) (fun g=>[.mp bk g.mp]) (fun g=>g.k<=a.zones.length/\IxM g.mp (fun x=>Zbd x (a.zones.take g.k) 0)/\Nd g.mp/\g.mp.length<=g.k) (fun g=>a.zones.length - g.k) ⟨0,[]⟩ SFA SOA ⟨Nat.zero_le _,fun x=>rfl,List.nodup_nil,Nat.le_refl _⟩ ?_
 obtain⟨bm,hbm⟩:∃ bm,bk=bm:=⟨_,rfl⟩
 rw[hbm]
 clear hbm bk
 rintro⟨k,mp⟩ ⟨hk,hm,hd,hl⟩
 dsimp only at hk hm hd hl ⊢
 repeat (first|(refine js ?_;(refine bx ?_;intro bk))|refine walk ?_)
 refine Zah rfl (fun hc=>?_) (fun hc=>?_)
 ·simp only[decide_eq_true_eq,Int.ofNat_lt]at hc
  obtain⟨hna,cs1,⟨Ae,ce,_,rfl⟩,hca⟩:=hA.z k _ (List.getElem?_eq_getElem hc)
  have ht:=List.take_append_getElem hc
  have hlen:(a.zones.take k).length=k:=by rw[List.length_take];omega
  generalize a.zones[k]=z at *
  have hsn:=fun x=>Zjp x z (a.zones.take k) 0
  rw[ht,hlen]at hsn
  cases hf:Zbd z.name (a.zones.take k) 0 with
  | none =>
   obtain⟨hv0,hc0⟩:=hm.none hf
   repeat (first|(apply RL_pu;rfl;exact Zse)|(refine js ?_;(refine bx ?_;intro bk))|refine walk1 ?_)
   refine⟨⟨k+1,mset mp z.name (.int .i64 k)⟩,OA,⟨OA,hm.set (k:=z.name) (i:=k) (fun x=>?_),hd.set _ _,?_⟩,SFA,SOA⟩
   ·dsimp only
    rw[hsn x]
    by_cases e:x=z.name
    ·subst e;simp[hf]
    ·rw[if_neg e,if_neg (fun h=>e h.symm),Option.or_none]
   ·have:=Ziq z.name (.int .i64 (k:Int)) mp
    dsimp only
    omega
  | some j =>
   obtain⟨hv0,hc0⟩:=hm.some hf
   repeat (first|(apply RL_pu;rfl;exact Zse)|(refine js ?_;(refine bx ?_;intro bk))|refine walk1 ?_)
   refine⟨⟨k+1,mp⟩,OA,⟨OA,fun x=>?_,hd,OA⟩,SFA,SOA⟩
   dsimp only
   rw[hm x,hsn x]
   dsimp only
   by_cases e:z.name=x
   ·subst e;rw[hf];rfl
   ·rw[if_neg e,Option.or_none]
 ·simp only[decide_eq_false_iff_not,Int.ofNat_lt]at hc
  rw[List.take_of_length_le (by omega)]at hm
  repeat (first|(refine js ?_;(refine bx ?_;intro bk))|refine walk ?_)
  exact ret_1 _ [.mp bm mp] (.tmp rfl) SOA ⟨bm,mp,rfl,rfl,hm,hd,by omega⟩
theorem Zey (Ar Az Al As:Option Addr)(cr cz cl cs:Nat)(a:Zac)(w:World)(hA:Zan w Ar Az Al As cr cz cl cs a)(hn:a.links.length<=1000000) :
  Does Tryz.prog 37 [srcV Ar Az Al As cr cz cl cs a] w (ZC3 (fun x=>ZbV x a.links 0) a.links.length):=by
 refine Zaa Tryz.func37 rfl rfl rfl rfl ?_
 repeat (first|(refine js ?_;(first|(apply Zic;rfl;intro bk)|(refine bx ?_;intro bk)))|refine walk ?_)
 refine Zaq [(3,.map (some bk)),(13,.slice Al a.links.length cl),(14,.int .i64 a.links.length)] [] (fun g:LG=>[(15,.int .i64 g.k)]) (fun g=>[.mp bk g.mp]) (fun g=>g.k<=a.links.length/\IxM g.mp (fun x=>ZbV x (a.links.take g.k) 0)/\Nd g.mp/\g.mp.length<=g.k) (fun g=>a.links.length - g.k) ⟨0,[]⟩ SFA SOA ⟨Nat.zero_le _,fun x=>rfl,List.nodup_nil,Nat.le_refl _⟩ ?_
 obtain⟨bm,hbm⟩:∃ bm,bk=bm:=⟨_,rfl⟩
 rw[hbm]
 clear hbm bk
 rintro⟨k,mp⟩ ⟨hk,hm,hd,hl⟩
 dsimp only at hk hm hd hl ⊢
 repeat (first|(refine js ?_;(refine bx ?_;intro bk))|refine walk ?_)
 refine Zah rfl (fun hc=>?_) (fun hc=>?_)
 ·simp only[decide_eq_true_eq,Int.ofNat_lt]at hc
  obtain⟨hna,hca⟩:=hA.l.rd k _ (List.getElem?_eq_getElem hc)
  have ht:=List.take_append_getElem hc
  have hlen:(a.links.take k).length=k:=by rw[List.length_take];omega
  generalize a.links[k]=z at *
  have hsn:=fun x=>Zjs x z (a.links.take k) 0
  rw[ht,hlen]at hsn
  cases hf:ZbV z.name (a.links.take k) 0 with
  | none =>
   obtain⟨hv0,hc0⟩:=hm.none hf
   repeat (first|(apply RL_pu;rfl;exact Zse)|(refine js ?_;(refine bx ?_;intro bk))|refine walk1 ?_)
   refine⟨⟨k+1,mset mp z.name (.int .i64 k)⟩,OA,⟨OA,hm.set (k:=z.name) (i:=k) (fun x=>?_),hd.set _ _,?_⟩,SFA,SOA⟩
   ·dsimp only
    rw[hsn x]
    by_cases e:x=z.name
    ·subst e;simp[hf]
    ·rw[if_neg e,if_neg (fun h=>e h.symm),Option.or_none]
   ·have:=Ziq z.name (.int .i64 (k:Int)) mp
    dsimp only
    omega
  | some j =>
   obtain⟨hv0,hc0⟩:=hm.some hf
   repeat (first|(apply RL_pu;rfl;exact Zse)|(refine js ?_;(refine bx ?_;intro bk))|refine walk1 ?_)
   refine⟨⟨k+1,mp⟩,OA,⟨OA,fun x=>?_,hd,OA⟩,SFA,SOA⟩
   dsimp only
   rw[hm x,hsn x]
   dsimp only
   by_cases e:z.name=x
   ·subst e;rw[hf];rfl
   ·rw[if_neg e,Option.or_none]
 ·simp only[decide_eq_false_iff_not,Int.ofNat_lt]at hc
  rw[List.take_of_length_le (by omega)]at hm
  repeat (first|(refine js ?_;(refine bx ?_;intro bk))|refine walk ?_)
  exact ret_1 _ [.mp bm mp] (.tmp rfl) SOA ⟨bm,mp,rfl,rfl,hm,hd,by omega⟩
theorem ZyT:Zvm Tryz.prog 109:=fun args w=>by
 rw[run_callFunc_extern Tryz.func109 (by kernel_rfl) (by kernel_rfl) (by kernel_rfl) (e:=Extern.MapsClone.clone) (by kernel_rfl)]
theorem Zpt (b:Nat)(m:List (ByteArray × Value))(w:World)(h:MpAt w b m) :
  Does Tryz.prog 76 [.map (some b)] w (fun v O=>∃ b2,v = .map (some b2)/\O=[.mp b2 m]):=by
 refine Zaa Tryz.func76 rfl rfl rfl rfl ?_
 repeat (first|(apply RL_pu;rfl;(first|(apply Zqs;rfl)|(apply Zqr;rfl)|(apply ZoB;rfl)))|(refine js ?_;(apply Zmi;exact ZyT;rfl;(intro w' hw _;exact h.up hw (Nat.le_refl _));intro bk))|refine walk1 ?_)
 exact ret_1 _ _ (.tmp rfl) (.refl _) ⟨_,rfl,rfl⟩
structure FG where
 seen:List ByteArray
 x:ByteArray
 mp:List (ByteArray × Value)
 f:Nat
theorem Zu0 (x y:ByteArray)(l:List ByteArray):memB x (y::l)=(decide (y=x)||memB x l):=rfl
theorem ZAl {G:Prop}(h:G:=by(apply Zge;rfl;rfl;exact h1;exact hv0;exact hc0)):G:=h
theorem Zw7 {G:Prop}(h:G:=by(first|exact ZAl|(apply Zge;rfl;rfl;exact h2;exact hv1;exact hc1)|(apply Zcl;rfl;rfl;(focus repeat' constructor);exact hv2;exact hc2))):G:=h
theorem Zjk (Ar Az Al As:Option Addr)(cr cz cl cs:Nat)(a:Zac)(b1 b2:Nat)(mk ml:List (ByteArray × Value))(name:ByteArray)(w:World)(hA:Zan w Ar Az Al As cr cz cl cs a)(h1:MpAt w b1 mk)(h2:MpAt w b2 ml)
  (hk:IxM mk fun x=>Zbd x a.zones 0) (hl:IxM ml fun x=>ZbV x a.links 0) (hd:Nd ml) (hlen:ml.length<=a.links.length) :
  Does Tryz.prog 40 [srcV Ar Az Al As cr cz cl cs a,.map (some b1),.map (some b2),.string name] w (fun v O=>v = .tuple #[.int .i64 (ZaW a (a.links.length+1) [] name).1,.int .i64 (ZaW a (a.links.length+1) [] name).2]/\O=[]):=by
 obtain⟨res,hres⟩:∃ res,ZaW a (a.links.length+1) [] name=res:=⟨_,rfl⟩
 rw[hres]
 refine Zaa Tryz.func40 rfl rfl rfl rfl ?_
 repeat (first|(refine js ?_;(first|(apply Zad (h:=fun w' hw _=>Zpt b2 ml w' (h2.up hw (Nat.le_refl _)));rfl;rintro v O' ⟨bc,rfl,rfl⟩)|(refine bx ?_;intro bk)))|refine walk ?_)
 refine Zaq [(1,.map (some b1)),(2,.map (some b2)),(4,.pointer (some ⟨bk,0,none⟩)),(10,.map (some bc))] [.blk bk [.slice Ar a.rules.length cr,.slice Az a.zones.length cz,.slice Al a.links.length cl,.slice As a.shifts.length cs] 32] (fun g:FG=>[(3,.string g.x)]) (fun g=>[.mp bc g.mp])
  (fun g=>Nd g.mp/\(∀ x,mget g.mp x=if memB x g.seen then none else mget ml x)/\ZaW a g.f g.seen g.x=res/\g.mp.length<g.f) (fun g=>g.mp.length) ⟨[],name,ml,a.links.length+1⟩ SFA SOA ⟨hd,fun x=>rfl,hres,by dsimp only;omega⟩ ?_
 rintro⟨seen,x,mp,f⟩ ⟨hd2,hm,hi,hf⟩
 dsimp only at hd2 hm hi hf ⊢
 obtain⟨f,rfl⟩:∃ f',f=f'+1:=⟨f - 1,by omega⟩
 rw[ZaW]at hi
 cases hz:Zbd x a.zones 0 with
 | some i =>
  rw[hz]at hi
  obtain⟨hv0,hc0⟩:=hk.some hz
  repeat (first|(apply RL_pu;rfl;exact ZAl)|(refine js ?_;(refine bx ?_;intro bk))|refine walk1 ?_)
  exact ret_2 _ _ [] (.tmp rfl) (.tmp rfl) .nil ⟨by rw[<- hi] <;> rfl,rfl⟩
 | none =>
  rw[hz]at hi
  obtain⟨hv0,hc0⟩:=hk.none hz
  cases hy:ZbV x a.links 0 with
  | none =>
   rw[hy]at hi
   obtain⟨hv1,hc1⟩:=hl.none hy
   have hg:mget mp x=none:=by
    rw[hm x,hl x]
    dsimp only
    rw[hy]
    split <;> rfl
   have hv2:(mget mp x).getD (.int .i64 0) = .int .i64 0:=by rw[hg];rfl
   have hc2:(mget mp x).isSome=false:=by rw[hg];rfl
   repeat (first|(apply RL_pu;rfl;exact Zw7)|(refine js ?_;(refine bx ?_;intro bk))|refine walk1 ?_)
   exact ret_2 _ _ [] (.tmp rfl) (.tmp rfl) .nil ⟨by rw[<- hi] <;> rfl,rfl⟩
  | some i =>
   rw[hy]at hi
   dsimp only at hi
   obtain⟨hv1,hc1⟩:=hl.some hy
   cases hs:memB x seen with
   | true =>
    rw[hs,if_pos rfl]at hi
    have hg:mget mp x=none:=by rw[hm x,hs];rfl
    have hv2:(mget mp x).getD (.int .i64 0) = .int .i64 0:=by rw[hg];rfl
    have hc2:(mget mp x).isSome=false:=by rw[hg];rfl
    repeat (first|(apply RL_pu;rfl;exact Zw7)|(refine js ?_;(refine bx ?_;intro bk))|refine walk1 ?_)
    exact ret_2 _ _ [] (.tmp rfl) (.tmp rfl) .nil ⟨by rw[<- hi] <;> rfl,rfl⟩
   | false =>
    rw[hs,if_neg (by decide)]at hi
    have hg:mget mp x=some (.int .i64 i):=by rw[hm x,hs,hl x];dsimp only;rw[hy];rfl
    have hv2:(mget mp x).getD (.int .i64 0) = .int .i64 i:=by rw[hg];rfl
    have hc2:(mget mp x).isSome=true:=by rw[hg];rfl
    have hdl:=Zrd x hc2
    have hlt:i<a.links.length:=by have:=ZnQ x a.links 0 i hy;omega
    obtain⟨hna,hca⟩:=hA.l.rd i _ (List.getElem?_eq_getElem hlt)
    rw[List.getElem?_eq_getElem hlt]at hi
    generalize a.links[i]=lk at *
    simp only[Option.map_some,Option.getD_some]at hi
    repeat (first|(apply RL_pu;rfl;(first|exact Zw7|exact PuI))|(refine js ?_;(first|(apply Ztx;rfl;rfl;(focus repeat' constructor))|(refine bx ?_;intro bk)))|refine walk1 ?_)
    refine⟨⟨x::seen,lk.target,mdel mp x,f⟩,OA,⟨hd2.del _,fun y=>?_,hi,OA⟩,SFA,SOA⟩
    dsimp only
    rw[Znm x y hd2,hm y,Zu0]
    by_cases e:x=y
    ·subst e;simp
    ·rw[if_neg (fun h=>e h.symm),show decide (x=y)=false from decide_eq_false e,Bool.false_or]
def Zew (m:List (ByteArray × Value)):List (ByteArray × Value)->List (ByteArray × Value)
 | []=>m
 | e::l=>Zew (mset m e.1 e.2) l
theorem ZuV (m a b:List (ByteArray × Value)):Zew m (a++b)=Zew (Zew m a) b:=by
 induction a generalizing m with
 | nil=>rfl
 | cons e a ih=>rw[List.cons_append,Zew,Zew,ih]
structure MRG where
 left:List (ByteArray × Value)
 cur:Option (ByteArray × Value)
 done:List (ByteArray × Value)
set_option maxHeartbeats 2000000 in
theorem ZsM (b1 b2:Nat)(m1 m2:List (ByteArray × Value))(wr:World) :
  Zak Tryz.prog 36 [.map (some b1),.map (some b2)] wr [.mp b1 m1,.mp b2 m2] (fun v O=>v = .tuple #[]/\∃ l,l.Perm m2/\O=[.mp b1 (Zew m1 l),.mp b2 m2]):=by
 refine ZaD Tryz.func36 rfl rfl rfl rfl ?_
 repeat (first|(refine js ?_;(apply Zon;rfl;(intro r;(focus repeat' constructor));intro r))|refine walk ?_)
 refine Zaq [(0,.map (some b1)),(7,.pointer (some ⟨r,0,none⟩))] [] (fun _:MRG=>[]) (fun g=>[.mp b1 (Zew m1 g.done),rng b2 r m2 g.left g.cur]) (fun g=>(g.done++g.left).Perm m2) (fun g=>g.left.length) ⟨m2,none,[]⟩ SFA SOA (List.Perm.refl _) ?_
 rintro⟨left,cur,dn⟩ hp
 dsimp only at hp ⊢
 apply W_seq
 apply W_region
 apply RL_st
 rfl
 refine ZrV (O':=fun l c=>[.mp b1 (Zew m1 dn),rng b2 r m2 l c]) rfl (fun l c => .there .here) (fun h0=>?_) (fun A kv B hl=>?_)
 ·subst h0
  rw[List.append_nil]at hp
  refine ZrX (O':=[.mp b1 (Zew m1 dn),.mp b2 m2]) (.there .here) ?_
  repeat (first|refine walk ?_)
  exact ZgI _ (.refl _) ⟨rfl,dn,hp,rfl⟩
 ·obtain⟨k,v⟩:=kv
  subst hl
  repeat (first|(apply RL_pu;rfl;(apply Zr6;rfl;(focus repeat' constructor)))|refine walk1 ?_)
  refine⟨⟨A++B,some (k,v),dn++[(k,v)]⟩,by simp,?_,SFA,?_⟩
  ·exact(show((dn++[(k,v)])++(A++B)).Perm m2 by rw[List.append_assoc];exact(List.Perm.append_left dn (List.perm_middle (a:=(k,v)) (l₁:=A) (l₂:=B)).symm).trans hp)
  ·rw[ZuV]
   exact SOA
end Go.Proofs.YtbjomhdhkpgbaaaGreatDoor
namespace Go.Wk
open Go Go.RowKit
def cutI (l:List UInt8):Option Nat:=l.findIdx? (·==47)
theorem ZjM:∀ (l acc:List UInt8),Zg1 l acc=match cutI l with|none=>[acc++l]|some i=>(acc++l.take i)::Zg1 (l.drop (i+1)) []
 | [],acc=>by simp[Zg1,cutI]
 | c::l,acc=>by
  rw[Zg1]
  by_cases h:c=47
  ·subst h
   simp[cutI,List.findIdx?_cons]
  ·rw[if_neg h,ZjM l]
   have hb:(c==47)=false:=by simpa using h
   simp only[cutI,List.findIdx?_cons,hb]
   cases h2:l.findIdx? (·==47) with
   | none=>simp
   | some i=>simp
theorem ZBi {l:List UInt8}{i:Nat}(h:cutI l=some i):i<l.length:=(List.findIdx?_eq_some_iff_findIdx_eq.1 h).1
theorem ZnS (s:ByteArray):firstIdx s 47=match cutI s.data.toList with|none => -1|some i=>(i:Int):=by
 unfold firstIdx cutI
 have hsz:s.size=s.data.toList.length:=rfl
 have key:∀ (l:List UInt8) (f:Nat->UInt8),(∀ i,i<l.length->f i=l.getD i 0)->(List.range l.length).find? (fun i=>f i==47)=l.findIdx? (·==47):=by
  intro l
  induction l with
  | nil=>intro f _;rfl
  | cons c l ih =>
   intro f hf
   rw[List.length_cons,List.range_succ_eq_map,List.find?_cons,List.findIdx?_cons]
   have h0:f 0=c:=by rw[hf 0 (by simp)];rfl
   rw[h0]
   cases hc:c==47 with
   | true=>rfl
   | false =>
    rw[List.find?_map]
    have:=ih (fun i=>f (i+1)) (fun i hi=>by rw[hf (i+1) (by simp;omega)];rfl)
    simp only[Function.comp_def]at this ⊢
    rw[show(fun x:Nat=>f (Nat.succ x)==47)=fun i=>f (i+1)==47 from rfl,this]
    cases l.findIdx? (·==47) <;> rfl
 have hk:=key s.data.toList (fun i=>s[i]!) (fun i hi=>by
  have:i<s.size:=hi
  rw[List.getD_eq_getElem?_getD,List.getElem?_eq_getElem hi]
  simp[getElem!_def,this]
  rfl)
 rw[hsz]
 rw[hk]
 cases s.data.toList.findIdx? (·==47) <;> rfl
end Go.Wk
namespace Go.Proofs.YtbjomhdhkpgbaaaGreatDoor
open Go Go.RowKit Go.Wk
attribute [local irreducible] W RL Does Zar Zal retQ Calls Pu Stp RD Qy Ay Zak
theorem ZA6 (args:Array Value)(w:World):(callFunc 251 args).run Tryz.prog w=((Extern.BytealgIndexByte.indexByte args).run Tryz.prog w).andThen fun v w' => .ok (.value v) w':=by
 rw[run_callFunc_extern Tryz.func251 (by kernel_rfl) (by kernel_rfl) (by kernel_rfl) (e:=Extern.BytealgIndexByte.indexByte) (by kernel_rfl)]
section
variable {n:Nat}{wr:World}{fr:Fr}{O:List It}{ty:TypeId}{pos:String}{af:Array Edge}{dst:Option Tmp}{g:Option (Nat × Bool)}{Kp:Value->List It->Prop}
theorem ZBD {x y:Operand}{ts:Array TypeId}{s:ByteArray}{c:Int}(hx:ev fr x=some (.string s))(hy:ev fr y=some (.int .u8 c))(kk:Kp (.int .i64 (firstIdx s c.toNat.toUInt8)) O) :
  Stp Tryz.prog n wr fr O ⟨dst,.call ⟨.value (.func 251),#[x,y],ts⟩,ty,pos,af,g⟩ Kp :=
 Zb6 fun a w hs=>by
  refine⟨_,w,O,?_,hs.old,hs.own,kk⟩
  have h1:=hs.sim.ev hx
  have h2:=hs.sim.ev hy
  have he:a.eval (.func 251) = .func (.func 251) #[] #[]:=rfl
  have hc:=ZA6 #[.string s,.int .u8 c] w
  rw[run_indexByte_string,Result.andThen_ok]at hc
  simp[execOp,resolve,he,Deferred.ofValue,invoke,hc,h1,h2]
end
theorem Zyx (s:ByteArray)(c:Int)(w:World):Does Tryz.prog 213 [.string s,.int .u8 c] w (fun v O=>v = .int .i64 (firstIdx s c.toNat.toUInt8)/\O=[]):=by
 refine Zaa Tryz.func213 rfl rfl rfl rfl ?_
 repeat (first|(refine js ?_;(apply ZBD;rfl;rfl))|refine walk ?_)
 exact rtA
theorem ZnR (s:ByteArray)(c:UInt8)(h:(⟨#[c]⟩:ByteArray)=s):firstIdx s c=0:=by
 subst h
 have hs:(⟨#[c]⟩:ByteArray).size=1:=rfl
 unfold firstIdx
 rw[hs]
 have:(⟨#[c]⟩:ByteArray)[0]! = c:=rfl
 simp[List.range_succ,this]
theorem ZwP {G:Prop}(h:G:=by(apply Zhg;rfl;rfl;exact hb)):G:=h
theorem Zyy (s:ByteArray)(c:UInt8)(w:World):Does Tryz.prog 181 [.string s,.string ⟨#[c]⟩] w (fun v O=>v = .int .i64 (firstIdx s c)/\O=[]):=by
 have hu:((c.toNat:Int)).toNat.toUInt8=c:=by simp
 have hi:=fun w'=>Zyx s (c.toNat:Int) w'
 rw[hu]at hi
 have hsz:(0:Int)<((⟨#[c]⟩:ByteArray).size:Int):=show(0:Int)<1 by decide
 by_cases he:(⟨#[c]⟩:ByteArray)=s
 ·have hb:decide ((⟨#[c]⟩:ByteArray)=s)=true:=decide_eq_true he
  have h0:=ZnR s c he
  refine Zaa Tryz.func181 rfl rfl rfl rfl ?_
  repeat (first|(apply RL_pu;rfl;exact ZwP)|refine walk1 ?_)
  exact ret_1 _ [] (.tmp rfl) .nil ⟨by rw[h0],rfl⟩
 ·have hb:decide ((⟨#[c]⟩:ByteArray)=s)=false:=decide_eq_false he
  refine Zaa Tryz.func181 rfl rfl rfl rfl ?_
  repeat (first|(apply RL_pu;rfl;(first|exact ZwP|(apply Zj7;rfl;rfl;decide;exact hsz)))|(refine js ?_;(refine Zae (fun w' _=>hi w') ?_))|refine walk1 ?_)
  exact rtA
theorem ZpK (s:ByteArray)(c:UInt8)(w:World):Does Tryz.prog 244 [.string s,.string ⟨#[c]⟩] w (fun v O=>v = .int .i64 (firstIdx s c)/\O=[]):=by
 have hi:=fun w'=>Zyy s c w'
 refine Zaa Tryz.func244 rfl rfl rfl rfl ?_
 repeat (first|(refine js ?_;(refine Zae (fun w' _=>hi w') ?_))|refine walk ?_)
 exact rtA
def itO (b1 b2 b3:Nat)(s p:ByteArray):List It:=[.blk b1 [.string s] 9,.blk b2 [.string p] 9,.blk b3 [.int .i64 0] 3]
def itV (b1 b2 b3:Nat):Value := .func (.func 242) #[] #[.pointer (some ⟨b2,0,none⟩),.pointer (some ⟨b1,0,none⟩),.pointer (some ⟨b3,0,none⟩)]
theorem ZlD (s p:ByteArray)(w:World):Does Tryz.prog 205 [.string s,.string p,.int .i64 0] w (fun v O=>∃ b1 b2 b3,v=itV b1 b2 b3/\O=itO b1 b2 b3 s p):=by
 refine Zaa Tryz.func205 rfl rfl rfl rfl ?_
 apply W_seq
 apply W_region
 apply RL_st;rfl;(apply Stp_boxNf;rfl;(focus repeat (first|exact Nf.nil|apply Nf.cons));intro b1)
 apply RL_st;rfl;(apply Stp_boxNf;rfl;(focus repeat (first|exact Nf.nil|apply Nf.cons));intro b2)
 apply RL_st;rfl;(apply Stp_boxNf;rfl;(focus repeat (first|exact Nf.nil|apply Nf.cons));intro b3)
 repeat (first|(refine js ?_;(refine bx ?_;intro bk))|refine walk ?_)
 exact ret_1 _ (itO b1 b2 b3 s p) (.tmp rfl) SOA ⟨b1,b2,b3,rfl,rfl⟩
theorem Zmj (s p:ByteArray)(w:World):Does Tryz.prog 175 [.string s,.string p] w (fun v O=>∃ b1 b2 b3,v=itV b1 b2 b3/\O=itO b1 b2 b3 s p):=by
 have hi:=fun w'=>ZlD s p w'
 refine Zaa Tryz.func175 rfl rfl rfl rfl ?_
 repeat (first|(refine js ?_;(apply Zad (h:=fun w' _ _=>hi w');rfl;rintro v O' ⟨b1,b2,b3,rfl,rfl⟩))|refine walk ?_)
 exact ret_1 _ (itO b1 b2 b3 s p) (.tmp rfl) SOA ⟨b1,b2,b3,rfl,rfl⟩
end Go.Proofs.YtbjomhdhkpgbaaaGreatDoor
