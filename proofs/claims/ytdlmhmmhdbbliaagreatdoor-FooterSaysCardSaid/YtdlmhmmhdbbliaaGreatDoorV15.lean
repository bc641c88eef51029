/- Parts of the proof. -/
import Derived.RangeFuncIn
import Derived.RangeFuncLeaves
import Derived.RangeFuncRecord
import Derived.RangeFuncSeq
import Derived.TacticsIn
import Derived.ControlIn
import Derived.RangeFuncCalls
import Derived.Test.YtdlmhmmhdbbliaaGreatDoorV09
import Derived.Test.YtdlmhmmhdbbliaaGreatDoorV08
import Derived.Laws.Strings2
set_option maxHeartbeats 4000000
set_option linter.unusedVariables false
set_option linter.unusedSimpArgs false
namespace Go.Wk
open Go Go.RowKit
def WF (F:Fence):Prop:=F=Fence.wide\/∃ l,F=Fence.wide.inRound l
theorem WF.fn {F:Fence}(h:WF F)(f:FuncId):F.fn f:=by rcases h with rfl|⟨l,rfl⟩ <;> trivial
theorem WF.depth {F:Fence}(h:WF F):F.depth=none:=by rcases h with rfl|⟨l,rfl⟩ <;> rfl
theorem WF.calls {F:Fence}(h:WF F){n:Nat}{P:Program}{f:FuncId}{args:Array Value}{w:World}{R:Ending->World->Prop}(hc:Calls P f args w R):CallsIn F n P f args w R:=by
 rcases h with rfl|⟨l,rfl⟩
 ·exact callsIn_wide.2 hc
 ·exact CallsIn.inRound l (callsIn_wide.2 hc)
def calm:Result Next->Prop
 | .ok (.value _) _=>True
 | .ok .skip _=>True
 | .ok (.enter _ _) _=>True
 | .halt _ _=>True
 | _=>False
theorem Zsi {F:Fence}(hF:WF F){n:Nat}{P:Program}{o:Oper}{a a2:Act}{w:World}{K K2:Act->World->Prop}{Q Q2:Exit->Act->World->Prop}(he:a2.eval=a.eval)(hd:∀ c,o.op ≠ .defer c)(hc:calm ((execOp a.eval o).run P w))(h:o.wp P a w K Q)(hQ:∀ e a w,¬ Q e a w)
  (hK:∀ v w',K (a.put o.dst v) w'->K2 (a2.put o.dst v) w'):o.wpIn F n P a2 w K2 Q2:=by
 refine⟨fun f _=>hF.fn f,?_⟩
 rw[Oper.semAt_eq _ _ _ hd,he]
 unfold Oper.wp at h
 generalize (execOp a.eval o).run P w=r at *
 cases r with
 | ok nx w' =>
  cases nx with
  | value v=>exact hK _ _ h
  | skip=>exact hK _ _ h
  | enter f args =>
   rw[Oper.upon_enter]at h
   rw[Oper.uponIn_enter]
   refine⟨fun hh=>(by rw[hF.depth]at hh;cases hh),(hF.calls h).mono ?_⟩
   intro e w'' he
   cases e with
   | returned v=>exact hK _ _ he
   | panicked c=>exact(hQ _ _ _ he).elim
   | outgrown=>exact he.elim fun a h=>h.elim fun w h=>(hQ _ _ _ h).elim
  | _=>exact hc.elim
 | halt x w' =>
  cases x with
  | panic v=>exact(hQ _ _ _ h).elim
  | _=>exact h.elim
section
variable {F:Fence}{P:Program}{n:Nat}{wr:World}{ops:Array Oper}{rest:List Oper}{K:Fr->List It->Prop}{fr:Fr}{O:List It}{ty:TypeId}{pos:String}{af:Array Edge}{D:List Deferred}
def actD (D:List Deferred)(a:Act):Act:={ a with defers:=D }
def ZBl (D:List Deferred)(n:Nat)(wr:World)(K:Fr->List It->Prop):Exit->Act->World->Prop:=fun e a w=>e = .normal/\a.defers=D/\∃ fr O,St n wr fr O (actD [] a) w/\K fr O
def RLI (F:Fence)(D:List Deferred)(P:Program)(n:Nat)(wr:World)(ops:Array Oper)(l:List Oper)(K:Fr->List It->Prop)(fr:Fr)(O:List It):Prop :=
 ∀ a w,St n wr fr O a w->wpListIn F 0 P ops (ZBl D n wr K) l (actD D a) w
theorem ZgI {a:Act}{fr:Fr}{w:World}(h:St n wr fr O a w):actD [] (actD D a)=a:=by
 have:=h.sim.defers
 cases a
 simp only at this
 subst this
 rfl
theorem Zfq (a:Act)(d:Option Tmp)(v:Value):(actD D a).put d v=actD D (a.put d v):=by cases d <;> rfl
theorem Zbt (h:K fr O):RLI F D P n wr ops [] K fr O:=fun a w hs=>⟨rfl,rfl,fr,O,by rw[ZgI hs];exact hs,h⟩
theorem Zdx (hF:WF F){d:Nat}{op:Op}{v:Value}(hd:Nat.ble (d+1) n=true)(hop:∀ c,op ≠ .defer c)(h:Pu P n wr fr O op ty v)(k:RLI F D P n wr ops rest K ((d,v)::fr) O) :
  RLI F D P n wr ops (⟨some d,op,ty,pos,af,none⟩::rest) K fr O:=by
 intro a w hs
 have hrun:=h a w hs (some d) pos af none
 refine wpListIn_plain rfl fun K' hK=>Zsi (a:=a) (K:=fun x w=>x=a.put (some d) v/\St n wr ((d,v)::fr) O x w) (Q:=fun _ _ _=>False) hF rfl hop (by rw[hrun];trivial) ?_ (fun _ _ _ h=>h) ?_
 ·unfold Oper.wp
  rw[hrun,Oper.upon_value]
  exact⟨rfl,hs.sim.put hd v,hs.old,hs.own⟩
 ·rintro u w' ⟨e,hst⟩
  rw[Zfq]
  exact hK _ _ (k _ _ (e▸hst))
theorem Zcf (hF:WF F){dst:Option Tmp}{op:Op}(hd:∀ d,dst=some d->Nat.ble (d+1) n=true)(hop:∀ c,op ≠ .defer c)(hc:∀ a w,St n wr fr O a w->calm ((execOp a.eval ⟨dst,op,ty,pos,af,none⟩).run P w))
  (h:Stp P n wr fr O ⟨dst,op,ty,pos,af,none⟩ fun v O'=>RLI F D P n wr ops rest K (updF fr dst v) O'):RLI F D P n wr ops (⟨dst,op,ty,pos,af,none⟩::rest) K fr O:=by
 intro a w hs
 refine wpListIn_plain rfl fun K' hK=>Zsi (a:=a) (K:=fun x w=>∃ v O',x=a.put dst v/\Bel wr.heap.size wr w/\Zay wr.heap.size O' w/\RLI F D P n wr ops rest K (updF fr dst v) O') (Q:=fun _ _ _=>False) hF rfl hop (hc a w hs) ?_ (fun _ _ _ h=>h) ?_
 ·exact h a w hs _ _ fun v O' w' h1 h2 h3=>⟨v,O',rfl,h1,h2,h3⟩
 ·rintro u w' ⟨v,O',e,h1,h2,h3⟩
  rw[Zfq]
  refine hK _ _ (h3 _ _ ?_)
  show St n wr _ O' (a.put dst u) w'
  rw[e]
  cases dst with
  | none=>exact⟨hs.sim,h1,h2⟩
  | some d=>exact⟨hs.sim.put (hd d rfl) v,h1,h2⟩
theorem Zfm {dst:Option Tmp}{g:Option (Nat × Bool)}{f:FuncId}{gx:Operand}{xs:List Operand}{ts:Array TypeId}{us cs:List Value}[Body P f]{a:Act}{w:World}(hs:St n wr fr O a w)(hg:ev fr gx=some (.func (.func f) us.toArray cs.toArray)) :
  calm ((execOp a.eval ⟨dst,.call ⟨.value gx,xs.toArray,ts⟩,ty,pos,af,g⟩).run P w):=by
 simp[execOp,resolve,hs.sim.ev hg,Deferred.ofValue,invoke,Zb1,calm]
theorem ZdV {dst:Option Tmp}{g:Option (Nat × Bool)}{t:TypeId}{x y:Operand}(a:Act)(w:World):calm ((execOp a.eval ⟨dst,.store t x y,ty,pos,af,g⟩).run P w):=by
 simp only[execOp,Sem.run_bind]
 generalize (Instr.storeAt t (a.eval x) (a.eval y)).run P w=r
 cases r <;> simp[calm,Result.andThen]
theorem Zjs {dst:Option Tmp}{op:Op}{j:Nat}{b:Bool}{oj:Oper}{d:Nat}(hj:ops[j]?=some oj)(hd:oj.dst=some d)(hb:look fr d=some (.bool b))
  (k:RLI F D P n wr ops (⟨dst,op,ty,pos,af,none⟩::rest) K fr O):RLI F D P n wr ops (⟨dst,op,ty,pos,af,some (j,b)⟩::rest) K fr O:=by
 intro a w hs
 have:=k a w hs
 have hy:yielded ops (actD D a).tmps j=some b:=by
  show yielded ops a.tmps j=some b
  simp[yielded,hj,hd,hs.sim.at_ d _ hb]
 simp only[wpListIn,Region.wanted,hy,if_true,beq_self_eq_true]at this ⊢
 exact this
theorem Znu (hF:WF F){d':Nat}{op:Op}{j:Nat}{b b':Bool}{oj:Oper}{d:Nat}(hj:ops[j]?=some oj)(hd:oj.dst=some d)(hb:look fr d=some (.bool b'))(hne:b' = !b)(hdn:Nat.ble (d'+1) n=true)
  (k:RLI F D P n wr ops rest K ((d',undef)::fr) O):RLI F D P n wr ops (⟨some d',op,ty,pos,af,some (j,b)⟩::rest) K fr O:=by
 intro a w hs
 have:=k (a.put (some d') undef) w ⟨hs.sim.put hdn undef,hs.old,hs.own⟩
 have hy:yielded ops (actD D a).tmps j=some b':=by
  show yielded ops a.tmps j=some b'
  simp[yielded,hj,hd,hs.sim.at_ d _ hb]
 have hw:Region.wanted (⟨some d',op,ty,pos,af,some (j,b)⟩:Oper) (yielded ops (actD D a).tmps)=false:=by
  subst hne
  simp[Region.wanted,hy]
 simp only[wpListIn,hw]
 exact⟨fun f _=>hF.fn f,by rw[Zfq];exact this⟩
def ZwB (D:List Deferred)(n:Nat)(wr:World)(Q:Exit->Fr->List It->Prop):Exit->Act->World->Prop:=fun e a w=>a.defers=D/\∃ fr O,St n wr fr O (actD [] a) w/\Q e fr O
def WI (F:Fence)(D:List Deferred)(P:Program)(n:Nat)(wr:World)(c:Code)(Q:Exit->Fr->List It->Prop)(fr:Fr)(O:List It):Prop :=
 ∀ a w,St n wr fr O a w->c.wpIn F 0 P (ZwB D n wr Q) (actD D a) w
theorem ZeZ {a:Act}(h:a.defers=D):actD D (actD [] a)=a:=by cases a;simp only at h;subst h;rfl
variable {Q:Exit->Fr->List It->Prop}
theorem ZgM {x y:Code}(h:WI F D P n wr x (Zau (WI F D P n wr y Q) Q) fr O):WI F D P n wr (.seq x y) Q fr O:=by
 intro a w hs
 refine wpIn_seq (wpIn_mono (h a w hs) ?_)
 rintro e a' w' ⟨hd,fr',O',hs',hq⟩
 cases e with
 | normal =>
  have:=hq _ w' hs'
  rw[ZeZ hd]at this
  exact this
 | _=>exact⟨hd,fr',O',hs',hq⟩
theorem Zjq (h:Q .normal fr O):WI F D P n wr .skip Q fr O:=fun a _ hs=>wpIn_skip ⟨rfl,fr,O,by rw[ZgI hs];exact hs,h⟩
theorem Zjr (h:Q .ret fr O):WI F D P n wr .ret Q fr O:=fun a _ hs=>wpIn_ret ⟨rfl,fr,O,by rw[ZgI hs];exact hs,h⟩
theorem Zcq {c:Operand}{x y:Code}{b:Bool}(hc:ev fr c=some (.bool b))(ht:b=true->WI F D P n wr x Q fr O)(hf:b=false->WI F D P n wr y Q fr O):WI F D P n wr (.cond c x y) Q fr O:=by
 intro a w hs
 have he:(actD D a).eval c = .bool b:=hs.sim.ev hc
 exact wpIn_cond_split he (fun h=>ht h a w hs) (fun h=>hf h a w hs)
theorem ZbU {id:Nat}{l:List Oper}(h:RLI F D P n wr l.toArray l (Q .normal) fr O):WI F D P n wr (.region id l.toArray false) Q fr O:=by
 intro a w hs
 refine wpIn_mono (wpIn_region_lit (h a w hs)) ?_
 rintro e a' w' ⟨rfl,hd,fr',O',hs',hq⟩
 exact⟨hd,fr',O',hs',hq⟩
def Za3 (l:Nat)(r:Loop):It := .fact (fun k=>k=l) (fun w=>w.heap[l]?=some (.loop r))
def Zdp (b:Nat):It := .fact (fun k=>k=b) (fun w=>w.heap[b]?=some (.deferred (some [])))
theorem Za3.at {l:Nat}{r:Loop}{w:World}(h:(Za3 l r).sat w):w.heap[l]?=some (.loop r):=Zef h
theorem Zdp.at {b:Nat}{w:World}(h:(Zdp b).sat w):w.heap[b]?=some (.deferred (some [])):=Zef h
theorem Zd7 (w:World)(l:Nat)(o:Obj):(w.putObj l o).heap.size=w.heap.size:=by simp[World.putObj]
theorem Zc4 {a:Act}{w:World}{l:Nat}{r r':Loop}{O':List It}(hs:St n wr fr O a w)(hu:Upd O (Za3 l r) (Za3 l r') O'):St n wr fr O' a (w.putObj l (.loop r')):=by
 have hin:=hs.own.inb _ hu.mem l rfl
 refine⟨hs.sim,hs.old.trans ⟨⟨rfl,rfl,rfl,by rw[Zd7];exact Nat.le_refl _,fun i hi=>World.putObj_heap_other (by omega)⟩⟩,hs.own.upd hu hs.old.size (by rw[Zd7];exact Nat.le_refl _) (fun i _ hi=>World.putObj_heap_other hi) ?_ (fun i hi => .inl hi)⟩
 intro w' ha
 rw[ha l rfl]
 exact World.putObj_heap_same hin.2
def Zxr (l:Nat)(r:Loop)(R:Bool->List It->Prop):Exit->Fr->List It->Prop
 | .normal=>fun _ O=>∃ O',Upd O (Za3 l { r with state := .busy }) (Za3 l { r with state := .ready,pending:=none }) O'/\R true O'
 | .ret=>fun _ O=>∃ O',Upd O (Za3 l { r with state := .busy }) (Za3 l { r with state := .done,pending:=some .ret }) O'/\R false O'
 | _=>fun _ _=>False
def Zfr (P:Program)(l:Nat)(v:Value)(wr:World)(O:List It)(R:Bool->List It->Prop):Prop :=
 ∀ w,Bel wr.heap.size wr w->Zay wr.heap.size O w->YieldAt Fence.wide 0 P l #[v] w fun e w'=>∃ b O',e = .returned (.bool b)/\Bel wr.heap.size wr w'/\Zay wr.heap.size O' w'/\R b O'
theorem ZlS {l p:Nat}{r:Loop}{v:Value}{a0:Act}{O1:List It}{R:Bool->List It->Prop}(hp:r.params = #[p])(hr:r.state = .ready)(ht:r.tmps=a0.tmps)(hsim:Sim n fr a0)(hpn:Nat.ble (p+1) n=true)
  (hu:Upd O (Za3 l r) (Za3 l { r with state := .busy }) O1) {id:Nat} {la:List Oper} (hass:r.assign = .region id la.toArray false)
  (hb:RLI (Fence.wide.inRound l) [] P n wr la.toArray la (fun fr' O'=>O'=O/\WI (Fence.wide.inRound l) [] P n wr r.body (Zxr l r R) fr' O1) ((p,v)::fr) O):Zfr P l v wr O R:=by
 intro w hB hH
 have hl:=Za3.at (hH.sat _ hu.mem)
 have hy:=run_yield (P:=P) (args := #[v]) hl (by rw[hp];rfl)
 rw[hp,ht]at hy
 refine⟨r.fn,_,r.assign,r.body,hy,roundIn_of_wpIn trivial ?_⟩
 have hst:St n wr ((p,v)::fr) O { tmps:=a0.tmps.setIfInBounds p v,defers:=[] } w:=by
  have:=hsim.put hpn v
  refine⟨?_,hB,hH⟩
  have e:({ tmps:=a0.tmps.setIfInBounds p v,defers:=[] }:Act)=a0.put (some p) v:=by
   have:=hsim.defers
   simp[Act.put,this]
  rw[e]
  exact this
 rw[hass,show Array.foldl (fun tmps (x:Tmp × Value)=>match x with|(t,a)=>tmps.setIfInBounds t a) a0.tmps (#[p].zip #[v])=a0.tmps.setIfInBounds p v by simp]
 refine wpIn_mono (wpIn_region_lit (hb _ w hst)) ?_
 rintro e a' w' ⟨rfl,hd,fr',O',hs',rfl,hW⟩
 have hl':=Za3.at (hs'.own.sat _ hu.mem)
 refine⟨_,run_beginRound hl' hr,?_⟩
 have hs2:=Zc4 hs' hu
 have h3:=hW _ _ hs2
 rw[ZeZ hd]at h3
 refine wpIn_mono h3 ?_
 rintro e2 a2 w2 ⟨hd2,fr2,O2,hs3,hq⟩
 cases e2 with
 | normal =>
  obtain⟨O3,hu3,hR⟩:=hq
  have hl3:=Za3.at (hs3.own.sat _ hu3.mem)
  have hs4:=Zc4 hs3 hu3
  exact⟨_,_,run_endRound none hl3,true,O3,rfl,hs4.old,hs4.own,hR⟩
 | ret =>
  obtain⟨O3,hu3,hR⟩:=hq
  have hl3:=Za3.at (hs3.own.sat _ hu3.mem)
  have hs4:=Zc4 hs3 hu3
  exact⟨_,_,run_endRound (some .ret) hl3,false,O3,rfl,hs4.old,hs4.own,hR⟩
 | exit id=>exact hq.elim
 | goto t=>exact hq.elim
 | panic ch=>exact hq.elim
 | outgrown=>exact hq.elim
theorem ZuI {d l:Nat}{gx y:Operand}{ts:Array TypeId}{v:Value}{R:Bool->List It->Prop}(hd:Nat.ble (d+1) n=true)(hg:ev fr gx=some (.func (.yield l) #[] #[]))(hx:ev fr y=some v)(h:Zfr P l v wr O R)
  (k:∀ b O',R b O'->RLI Fence.wide [] P n wr ops rest K ((d,.bool b)::fr) O'):RLI Fence.wide [] P n wr ops (⟨some d,.call ⟨.value gx,#[y],ts⟩,ty,pos,af,none⟩::rest) K fr O:=by
 intro a w hs
 refine wpListIn_plain rfl fun K' hK=>⟨fun f _=>trivial,?_⟩
 obtain⟨fn,tmps,assign,body,hy,hR⟩:=h w hs.old hs.own
 have e:actD [] a=a:=by
  have:=hs.sim.defers
  cases a;simp only at this;subst this;rfl
 rw[e]
 have hrun:(Oper.semAt Fence.wide.round a.eval ⟨some d,.call ⟨.value gx,#[y],ts⟩,ty,pos,af,none⟩).run P w = .ok (.round l fn tmps assign body) w:=by
  rw[Oper.semAt_eq _ _ _ (by intro c hc;cases hc)]
  simp[execOp,resolve,hs.sim.ev hg,hs.sim.ev hx,Deferred.ofValue,invoke,hy]
 rw[hrun,Oper.uponIn_round]
 refine⟨fun hh=>(by cases hh),hR.mono ?_⟩
 rintro e2 w' ⟨b,O',rfl,h1,h2,h3⟩
 have:=k b O' h3 (a.put (some d) (.bool b)) w' ⟨hs.sim.put hd _,h1,h2⟩
 refine hK _ _ ?_
 have e2:actD [] (a.put (some d) (.bool b))=a.put (some d) (.bool b):=by rw[<- Zfq,e]
 rw[e2]at this
 exact this
theorem ZuE {id:Nat}{l:List Oper}(h:RLI Fence.wide [] P n wr l.toArray l (Q .normal) fr O):W P n wr (.region id l.toArray false) Q fr O:=by
 intro a w hs
 have e:actD [] a=a:=by
  have:=hs.sim.defers
  cases a;simp only at this;subst this;rfl
 have h1:=h a w hs
 rw[e]at h1
 refine wpIn_wide.1 (wpIn_mono (wpIn_region_lit h1) ?_)
 rintro e a' w' ⟨rfl,hd,fr',O',hs',hq⟩
 refine⟨fr',O',?_,hq⟩
 rw[show a'=actD [] a' from(by cases a';simp only at hd;subst hd;rfl)]
 exact hs'
theorem SubO.trans {A B C:List It}(h:SubO A B)(k:SubO B C):SubO A C:=by
 obtain⟨R1,h1⟩:=h.perm
 obtain⟨R2,h2⟩:=k.perm
 exact SubO.ofPerm (R:=R1++R2) (h2.trans (by rw[<- List.append_assoc];exact h1.append_right R2))
theorem ZAf {R:Value->List It->Prop}(O':List It)(hO:SubO O' O)(hR:R (.tuple #[]) O'):retQ P wr [] R .ret fr O:=⟨[],O',rfl,hO,hR⟩
theorem Zjp {id d0 d1 d2 l:Nat}{x y g:Operand}{op1:Op}{ty0 ty1:TypeId}{p0 p1:String}{f0 f1:Array Edge}{ts:Array TypeId}{u v:Value}{R:Bool->List It->Prop}(n0:Nat.ble (d0+1) n=true)(n1:Nat.ble (d1+1) n=true)(n2:Nat.ble (d2+1) n=true)(hop:∀ c,op1 ≠ .defer c)
  (hx:ev fr x=some u) (h1:Pu P n wr ((d0,u)::fr) O op1 ty1 v) (hg:ev ((d1,v)::(d0,u)::fr) g=some (.func (.yield l) #[] #[])) (hy:ev ((d1,v)::(d0,u)::fr) y=some v) (hY:Zfr P l v wr O R)
  (k:∀ b O',R b O'->RLI Fence.wide [] P n wr (⟨some d0,.move x,ty0,p0,f0,none⟩::⟨some d1,op1,ty1,p1,f1,none⟩::⟨some d2,.call ⟨.value g,#[y],ts⟩,ty,pos,af,none⟩::rest).toArray rest (Q .normal) ((d2,.bool b)::(d1,v)::(d0,u)::fr) O') :
  W P n wr (.region id (⟨some d0,.move x,ty0,p0,f0,none⟩::⟨some d1,op1,ty1,p1,f1,none⟩::⟨some d2,.call ⟨.value g,#[y],ts⟩,ty,pos,af,none⟩::rest).toArray false) Q fr O :=
 ZuE (Zdx (.inl rfl) n0 (by intro c h;cases h) (Pu_move hx) (Zdx (.inl rfl) n1 hop h1 (ZuI n2 hg hy hY k)))
theorem St.allocFact {a:Act}{w:World}(hs:St n wr fr O a w)(o:Obj):St n wr fr (.fact (fun k=>k=w.heap.size) (fun w'=>w'.heap[w.heap.size]?=some o)::O) a (w.alloc o):=by
 have hB:Bel w.heap.size w (w.alloc o):=(Bel.refl _ _).alloc (Nat.le_refl _) _
 refine⟨hs.sim,hs.old.trans (hB.mono hs.old.size),hs.own.grow (O':=[_]) hB hs.old.size ⟨fun i hi=>?_,fun i hi b hb=>?_,List.pairwise_singleton _ _⟩⟩
 ·rw[List.mem_singleton.1 hi]
  intro w' ha
  rw[ha _ rfl]
  exact World.alloc_heap_new w o
 ·rw[List.mem_singleton.1 hi]at hb
  obtain rfl:b=w.heap.size:=hb
  exact⟨Nat.le_refl _,by simp⟩
def Zg8 (D:Nat):List Deferred:=[{ target := .collected D,args := #[] }]
def ZhS (fn:FuncId)(tm:Array Value)(p:Tmp)(assign body:Code)(D:Nat):Loop:={ state := .ready,pending:=none,fn:=fn,tmps:=tm,params := #[p],assign:=assign,body:=body,defers:=D }
theorem ZpS {gf:FuncId}[Body P gf]{lb:List Value}{g:Operand}{p:Tmp}{assign body:Code}{Q2:Exit->Act->World->Prop}{a:Act}{w:World}(K:Option Code->List It->Prop)(hs:St n wr fr O a w)(hg:ev fr g=some (.func (.func gf) #[] lb.toArray))
  (hit:∀ fn l D,Zaj P gf (.func (.yield l) #[] #[]::lb) wr (Za3 l (ZhS fn a.tmps p assign body D)::Zdp D::O) fun _ O'=>∃ jump O2 st,SubO (Za3 l { ZhS fn a.tmps p assign body D with state:=st,pending:=jump }::Zdp D::O2) O'/\st ≠ .busy/\K jump O2)
  (hk:∀ jump O2 D w',K jump O2->St n wr fr (Zdp D::O2) a w'->match jump with|none=>Q2 .normal (actD (Zg8 D) a) w'|some c=>c.wp P Q2 (actD (Zg8 D) a) w'):(Code.rangeFunc g #[p] assign body).wp P Q2 a w:=by
 refine(wpIn_wide (n:=0)).1 (wpIn_rangeFunc fun fn _=>?_)
 have h1:=hs.allocFact (.deferred (some []))
 have h2:=h1.allocFact (.loop (ZhS fn a.tmps p assign body w.heap.size))
 rw[World.size_alloc]at h2
 have hst:St n wr fr (Za3 (w.heap.size+1) (ZhS fn a.tmps p assign body w.heap.size)::Zdp w.heap.size::O) a ((w.alloc (.deferred (some []))).alloc (.loop (ZhS fn a.tmps p assign body w.heap.size))):=h2
 have hen:=run_enterLoop_outer (P:=P) (w:=w) fn a.tmps #[p] assign body
 generalize hW1:(w.alloc (.deferred (some []))).alloc (.loop (ZhS fn a.tmps p assign body w.heap.size))=W1 at hst
 rw[show(w.alloc (.deferred (some []))).alloc (.loop { state := .ready,pending:=none,fn:=fn,tmps:=a.tmps,params := #[p],assign:=assign,body:=body,defers:=w.heap.size })=W1 from hW1]at hen
 refine⟨w.heap.size+1,Zg8 w.heap.size,W1,{ target := .fn (.func gf) lb.toArray,args := #[.func (.yield (w.heap.size+1)) #[] #[]] },W1,gf,#[.func (.yield (w.heap.size+1)) #[] #[]]++lb.toArray,W1,hen,?_,fun _ _=>trivial,?_,fun hh=>(by cases hh),?_⟩
 ·have hcv:a.eval (.const (.func (.yield (w.heap.size+1)) #[] #[])) = .func (.yield (w.heap.size+1)) #[] #[]:=rfl
  simp[resolve,hs.sim.ev hg,hcv,Deferred.ofValue]
 ·simp[invoke,Zb1]
 ·refine callsIn_wide.2 ?_
  have hc:=hit fn (w.heap.size+1) w.heap.size _ hst.old hst.own
  rw[show(Value.func (.yield (w.heap.size+1)) #[] #[]::lb).toArray = #[.func (.yield (w.heap.size+1)) #[] #[]]++lb.toArray by simp]at hc
  refine hc.mono ?_
  rintro e w3 ⟨v,O',rfl,hB,hH,jump,O2,st,hsub,hne,hK⟩
  have hs3:St n wr fr (Za3 (w.heap.size+1) { ZhS fn a.tmps p assign body w.heap.size with state:=st,pending:=jump }::Zdp w.heap.size::O2) a w3:=⟨hs.sim,hB,hH.sub hsub⟩
  have hl:=Za3.at (hs3.own.sat _ List.mem_cons_self)
  have hs4:=Zc4 (r':={ ZhS fn a.tmps p assign body w.heap.size with state := .exhausted,pending:=jump }) hs3 .here
  have hk2:=hk jump O2 w.heap.size _ hK ⟨hs4.sim,hs4.old,hs4.own.tail⟩
  refine⟨jump,_,run_endLoop hl hne,?_⟩
  have e0:({ a with defers:=Zg8 w.heap.size++a.defers }:Act)=actD (Zg8 w.heap.size) a:=by
   have:=hs.sim.defers
   simp[actD,this]
  rw[e0]
  cases jump with
  | none=>exact hk2
  | some c=>exact wpIn_wide.2 hk2
theorem Zr9 {f:FuncId}{fn:Func}{c:Code}{args:List Value}{w:World}{R:Ending->World->Prop}(hf:P.funcs[f]?=some fn)(hb:fn.body=some c)(hn:fn.ntmps=n)(ha:Nat.ble args.length n=true)
  (h:∀ a,St n w (ZfL 0 args) [] a w->c.wp P (bodyPostM Fence.wide 0 P fn R) a w):Calls P f args.toArray w R:=by
 refine(callsIn_wide (n:=0)).1 (callsIn_of_wp_marks hf hb trivial ?_)
 refine(wpIn_wide (n:=0)).2 (h _ ?_)
 have ha':args.length<=n:=Nat.le_of_ble_eq_true ha
 refine⟨⟨rfl,by simp;omega,fun t v hv=>?_⟩,Bel.refl _ _,Zay.nil _ _⟩
 have:=(Zde args 0 t v hv).2
 simp only[Nat.sub_zero]at this
 have hlt:t<args.length:=(List.getElem?_eq_some_iff.1 this).1
 rw[Array.getElem?_append_left (by simpa using hlt)]
 simpa using this
theorem Zaj.sub {f:FuncId}{args:List Value}{O':List It}{R R':Value->List It->Prop}(h:Zaj P f args wr O R)(hO:SubO O O')(hR:∀ v O,R v O->R' v O):Zaj P f args wr O' R' :=
 fun w hB hH=>(h w hB (hH.sub hO)).mono fun _ _ ⟨v,O1,h1,h2,h3,h4⟩=>⟨v,O1,h1,h2,h3,hR v O1 h4⟩
theorem WI.at {c:Code}{a:Act}{w:World}(h:WI F D P n wr c Q fr O)(hs:St n wr fr O a w):c.wpIn F 0 P (ZwB D n wr Q) (actD D a) w:=h a w hs
theorem Zqw {id:Nat}{c:Code}(h:WI F D P n wr c (Zak id Q) fr O):WI F D P n wr (.block id c) Q fr O:=by
 intro a w hs
 refine wpIn_block (wpIn_mono (h a w hs) ?_)
 rintro e a' w' ⟨hd,fr',O',hs',hq⟩
 cases e with
 | exit k =>
  simp only[Exit.inBlock,Zak]at hq ⊢
  split
  ·rename_i hk;rw[if_pos hk]at hq;exact⟨hd,fr',O',hs',hq⟩
  ·rename_i hk;rw[if_neg hk]at hq;exact⟨hd,fr',O',hs',hq⟩
 | _=>exact⟨hd,fr',O',hs',hq⟩
end
def kArr (p:Nat->Nat):List Value:=(List.range 256).map fun i => .int .u8 (p i)
theorem Zdv (p:Nat->Nat):(kArr p).length=256:=by simp[kArr]
theorem ZwI {p:Nat->Nat}{j:Nat}(hj:j<256):(kArr p)[j]?=some (.int .u8 (p j)):=by simp[kArr,hj]
theorem ZwH (p:Nat->Nat)(j v:Nat):(kArr p).set j (.int .u8 v)=kArr fun i=>if i=j then v else p i:=by
 apply List.ext_getElem
 ·simp[kArr]
 ·intro i h1 h2
  simp only[kArr,List.getElem_set,List.getElem_map,List.getElem_range]
  by_cases h:j=i
  ·subst h;simp
  ·have:i≠j:=fun e=>h e.symm
   simp[h,this]
theorem ZdT {p q:Nat->Nat}(h:∀ i,i<256->p i=q i):kArr p=kArr q:=by
 unfold kArr
 apply List.map_congr_left
 intro i hi
 rw[h i (List.mem_range.1 hi)]
theorem Zp8 (p:Nat->Nat):(kArr p).all Value.oneCell'=true:=by simp[kArr,Value.oneCell']
attribute [irreducible] kArr
theorem Ztx:∀ (vs:List Value) (pre cs:List Value),cs.length=vs.length->lay (pre++cs) pre.length vs=pre++vs
 | [],pre,cs,h=>by
  have:cs=[]:=List.eq_nil_of_length_eq_zero h
  rw[this];rfl
 | v::r,pre,[],h=>by simp at h
 | v::r,pre,c::cs,h=>by
  rw[lay,List.set_append_right _ _ (Nat.le_refl _),Nat.sub_self,List.set_cons_zero]
  have:=Ztx r (pre++[v]) cs (by simpa using h)
  rw[List.append_assoc,List.length_append]at this
  simpa using this
section
variable {P:Program}{n:Nat}{wr:World}{fr:Fr}{O:List It}{ty:TypeId}{pos:String}{af:Array Edge}
theorem Zr6 {t sz b:Nat}{x:Operand}{cs:List Value}{bt:TypeId}{R:List It}[Ty P t sz true](hx:ev fr x=some (.pointer (some ⟨b,0,none⟩)))(hp:Pick (.blk b cs bt) O R)(hl:cs.length=sz):Pu P n wr fr O (.load t x) ty (.agg cs.toArray) :=
 Zjw hx hp (by simp[List.take_of_length_le (Nat.le_of_eq hl)]) hl
theorem Zhs {t:TypeId}{x z:Operand}{s:ByteArray}{k':IntKind}{j:Int}[hS:StringT P t](hx:ev fr x=some (.string s))(hz:ev fr z=some (.int k' j))(h1:0<=j)(h2:j<=s.size) :
  Pu P n wr fr O (.slice t x none (some z) none) ty (.string (s.extract 0 j.toNat)):=fun a w hs _ _ _ _=>by
 have h:(Instr.slice t (.string s) none (some (.int k' j)) none).run P w = .ok (.string (s.extract 0 j.toNat)) w:=by
  have hj:0<=j/\j<=(s.size:Int):=⟨by omega,h2⟩
  simp[Instr.slice,Instr.sliceBounds,Instr.sliceBound,asIntOf,run_underlying hS.h,hj]
 simp[execOp,hs.sim.ev hx,hs.sim.ev hz,Instr.sliceAt,run_underlying hS.h,h]
theorem ZkN {t:TypeId}{x y:Operand}{s:ByteArray}{k:IntKind}{i:Int}[hS:StringT P t](hx:ev fr x=some (.string s))(hy:ev fr y=some (.int k i))(h0:0<=i)(h1:i<=s.size) :
  Pu P n wr fr O (.slice t x (some y) none none) ty (.string (s.extract i.toNat s.size)):=fun a w hs _ _ _ _=>by
 have h:(Instr.slice t (.string s) (some (.int k i)) none none).run P w = .ok (.string (s.extract i.toNat s.size)) w:=by
  have hi:0<=i/\i<=(s.size:Int):=⟨h0,h1⟩
  simp[Instr.slice,Instr.sliceBounds,Instr.sliceBound,asIntOf,run_underlying hS.h,hi]
 simp[execOp,hs.sim.ev hx,hs.sim.ev hy,Instr.sliceAt,run_underlying hS.h,h]
theorem ZcH {t:TypeId}{x ix:Operand}{s:ByteArray}{kk:IntKind}{i:Int}{c:UInt8}[hS:StringT P t](hx:ev fr x=some (.string s))(hi:ev fr ix=some (.int kk i))(h0:0<=i)(h1:i<s.size)(hc:s.data.toList.getD i.toNat 0=c):Pu P n wr fr O (.index t x ix) ty (.int .u8 c.toNat):=by
 subst hc
 exact ZnC hx hi h0 h1
theorem Zhp {t b j v:Nat}{bt:TypeId}{x y:Operand}{p:Nat->Nat}{O':List It}{dst:Option Tmp}{g:Option (Nat × Bool)}{Kp:Value->List It->Prop}[Ty P t 1 false](hx:ev fr x=some (.pointer (some ((⟨b,0,none⟩:Addr).add (j*1)))))(hy:ev fr y=some (.int .u8 v))
  (hu:Upd O (.blk b (kArr p) bt) (.blk b (kArr fun i=>if i=j then v else p i) bt) O') (hj:j<256) (k:Kp undef O'):Stp P n wr fr O ⟨dst,.store t x y,ty,pos,af,g⟩ Kp:=by
 rw[Zcd,Nat.zero_add,Nat.mul_one]at hx
 exact Zhq (sz:=1) (v := .int .u8 v) (vs:=[.int .u8 v]) (j:=j) hx hy hu rfl rfl rfl (by rw[Nat.ble_eq,Zdv];omega) (ZwH p j v) k
theorem ZhN {t b sz:Nat}{bt:TypeId}{x y:Operand}{cs vs:List Value}{O':List It}{dst:Option Tmp}{g:Option (Nat × Bool)}{Kp:Value->List It->Prop}[Ty P t sz true](hx:ev fr x=some (.pointer (some ⟨b,0,none⟩)))(hy:ev fr y=some (.agg vs.toArray))
  (hu:Upd O (.blk b cs bt) (.blk b vs bt) O') (hl:vs.length=sz) (hc:cs.length=sz) (h1:vs.all Value.oneCell'=true) (k:Kp undef O'):Stp P n wr fr O ⟨dst,.store t x y,ty,pos,af,g⟩ Kp :=
 Zhq (v := .agg vs.toArray) (vs:=vs) hx hy hu rfl hl h1 (by rw[Nat.ble_eq];omega) (Ztx vs [] cs (by omega)) k
end
theorem Zay.cells {base b:Nat}{cs:List Value}{t:TypeId}{O R:List It}{w:World}(h:Zay base O w)(hp:Pick (.blk b cs t) O R):Zal w ⟨b,0,none⟩ cs:=fun j v hj=>by
 rw[Zcd,ZcU (h.sat _ (hp.perm.mem_iff.2 List.mem_cons_self)),Nat.zero_add,hj]
theorem ZvZ:∀ a∈[0,1,2,4,8,16],∀ s:Fin 256,IntKind.u8.wrap ((BitVec.ofInt IntKind.u8.bits ((a:Nat):Int) &&& BitVec.ofInt IntKind.u8.bits ((s.val:Nat):Int)).toNat:Nat)=((a &&& s.val:Nat):Int):=by decide +kernel
theorem Zuk (c:Nat):Zds c∈[0,1,2,4,8,16]:=by
 unfold Zds
 repeat' split
 all_goals decide
end Go.Wk
namespace Go.Proofs.YtdlmhmmhdbbliaaGreatDoor
open Go Go.RowKit Go.Wk
attribute [local irreducible] W RL Does Zau Zak retQ Calls Pu Stp RD Qy Ay Zaj
instance zeroKinds:ZeroT Tryz.prog 283 (kArr fun _=>0):=⟨by kernel_rfl⟩
def k1 (k i:Nat):Nat:=if (65<=i/\i<65+k)\/(97<=i/\i<97+k) then 1 else 0
def k2 (k i:Nat):Nat:=if 48<=i/\i<48+k then 2 else k1 26 i
theorem ZjA {G:Prop}(h:G:=by(apply ZaT;rfl;rfl;omega;omega)):G:=h
theorem Zoj (w:World):Does Tryz.prog 194 [] w (fun v O=>v = .agg (kArr Zds).toArray/\O=[]):=by
 refine Zaa Tryz.func194 rfl rfl rfl rfl ?_
 repeat (first|(refine js ?_;(refine bx ?_;intro bk))|refine ZhQ ?_)
 rename_i b0
 have e0:kArr (k1 0)=kArr fun _=>0:=ZdT fun i _=>if_neg (by omega)
 rw[<- e0]
 refine Zbx (fun fr' O'=>Go.Wk.Sub [(0,.pointer (some ⟨b0,0,none⟩)),(1,.pointer (some ⟨bk,0,none⟩))] fr'/\SubO [.blk bk (kArr (k1 26)) 283,.blk b0 (kArr (k1 0)) 283] O') ?_ ?_
 ·apply W_block
  refine Zao [(0,.pointer (some ⟨b0,0,none⟩)),(1,.pointer (some ⟨bk,0,none⟩))] [.blk b0 (kArr (k1 0)) 283] (fun k:Nat=>[(4,.int .i64 k)]) (fun k=>[.blk bk (kArr (k1 k)) 283]) (fun k=>k<=26) (fun k=>26 - k) 0 SFA SOA (Nat.zero_le _) ?_
  intro k hk
  repeat (first|(apply RL_pu;rfl;exact ZjA)|(refine js ?_;(refine bx ?_;intro bk))|refine walk1 ?_)
  refine Zaf rfl (fun h=>?_) (fun h=>?_)
  ·have h1:=of_decide_eq_true h
   repeat (first|(apply RL_pu;rfl;exact ZjA)|(refine js ?_;(first|(apply Zhp;rfl;rfl;(focus repeat' constructor);omega)|(refine bx ?_;intro bk)))|refine walk1 ?_)
   rw[ZdT (p:=fun i=>if i=(97+(k:Int)).toNat then 1 else if i=(65+(k:Int)).toNat then 1 else k1 k i) (q:=k1 (k+1)) (fun i hi=>by
    unfold k1
    repeat' split
    all_goals omega)]
   exact⟨k+1,OA,OA,SFA,SOA⟩
  ·have h1:=of_decide_eq_false h
   obtain rfl:k=26:=by omega
   repeat (first|(refine js ?_;(refine bx ?_;intro bk))|refine walk ?_)
   exact⟨rfl,SFA,SOA⟩
 rintro fr' O' ⟨hf,hO⟩
 apply thenQ_n
 refine Zb0 hf hO ?_
 clear hf hO fr' O'
 rw[show kArr (k1 26)=kArr (k2 0) from ZdT fun i _=>(if_neg (by omega)).symm]
 repeat (first|(refine js ?_;(refine bx ?_;intro bk))|refine ZhQ ?_)
 refine Zbx (fun fr' O'=>Go.Wk.Sub [(0,.pointer (some ⟨b0,0,none⟩)),(1,.pointer (some ⟨bk,0,none⟩))] fr'/\SubO [.blk bk (kArr (k2 10)) 283,.blk b0 (kArr (k1 0)) 283] O') ?_ ?_
 ·apply W_block
  refine Zao [(0,.pointer (some ⟨b0,0,none⟩)),(1,.pointer (some ⟨bk,0,none⟩))] [.blk b0 (kArr (k1 0)) 283] (fun k:Nat=>[(14,.int .i64 k)]) (fun k=>[.blk bk (kArr (k2 k)) 283]) (fun k=>k<=10) (fun k=>10 - k) 0 SFA SOA (Nat.zero_le _) ?_
  intro k hk
  repeat (first|(apply RL_pu;rfl;exact ZjA)|(refine js ?_;(refine bx ?_;intro bk))|refine walk1 ?_)
  refine Zaf rfl (fun h=>?_) (fun h=>?_)
  ·have h1:=of_decide_eq_true h
   repeat (first|(apply RL_pu;rfl;exact ZjA)|(refine js ?_;(first|(apply Zhp;rfl;rfl;(focus repeat' constructor);omega)|(refine bx ?_;intro bk)))|refine walk1 ?_)
   rw[ZdT (p:=fun i=>if i=(48+(k:Int)).toNat then 2 else k2 k i) (q:=k2 (k+1)) (fun i hi=>by
    unfold k2
    repeat' split
    all_goals omega)]
   exact⟨k+1,OA,OA,SFA,SOA⟩
  ·have h1:=of_decide_eq_false h
   obtain rfl:k=10:=by omega
   repeat (first|(refine js ?_;(refine bx ?_;intro bk))|refine walk ?_)
   exact⟨rfl,SFA,SOA⟩
 rintro fr' O' ⟨hf,hO⟩
 apply thenQ_n
 refine Zb0 hf hO ?_
 clear hf hO fr' O'
 repeat (first|(apply RL_pu;rfl;(first|exact ZjA|(apply Zr6;rfl;(focus repeat' constructor);exact Zdv _)))|(refine js ?_;(first|(apply Zhp;rfl;rfl;(focus repeat' constructor);omega)|(apply ZhN;rfl;rfl;(focus repeat' constructor);exact Zdv _;exact Zdv _;exact Zp8 _)|(refine bx ?_;intro bk)))|refine walk1 ?_)
 refine ret_1 _ [] (.cellB rfl (by repeat' constructor) (List.take_of_length_le (Nat.le_of_eq (Zdv _))) (Zdv _)) .nil ⟨?_,rfl⟩
 rw[ZdT (q:=Zds) (fun i hi=>by
    unfold Zds k2 k1
    repeat' split
    all_goals omega)]
theorem ZkX {G G':Prop}(k:G')(h:Hold G'->G:=by intro k9;(first|refine walk ?_|(refine jn ?_;(try intro F);(apply Zae;exact PuA);refine fin ?_));exact k9.out):G:=h ⟨k⟩
theorem Zvq {G:Prop}(h:G:=by(apply Pu_loadO1;rfl;first|exact h1 0 _ rfl|exact h2 0 _ rfl|exact h4 0 _ rfl)):G:=h
theorem Zpl {G:Prop}(h:G:=by(first|(apply ZcH (c:=c);rfl;rfl;omega;omega;exact hcd)|(apply ZaT;rfl;rfl;omega;omega)|(apply Pu_loadO1';rfl;exact h3;exact hcell)|(apply Pu_loadO1;rfl;exact h4 0 _ rfl)|(apply Zz0;rfl;rfl))):G:=h
theorem ZzR {G:Prop}(h:G:=by first|(apply Qy_y;rfl;exact Zpl)|exact QyA):G:=h
theorem Zwu (s:ByteArray)(a b m b1 b2 b3 b4:Nat)(hs:(s.size:Int)<=9223372036854775807)(hm:m<256)(w:World)(h1:Zal w ⟨b1,0,none⟩ [.int .i64 a])(h2:Zal w ⟨b2,0,none⟩ [.int .i64 b])(h3:Zal w ⟨b3,0,none⟩ (kArr Zds))(h4:Zal w ⟨b4,0,none⟩ [.int .u8 m]) :
  Does Tryz.prog 195 [.string s,.pointer (some ⟨b1,0,none⟩),.pointer (some ⟨b2,0,none⟩),.pointer (some ⟨b3,0,none⟩),.pointer (some ⟨b4,0,none⟩)] w (fun v O=>v = .bool (Zdd a b m s.data.toList)/\O=[]):=by
 have hlen:s.data.toList.length=s.size:=rfl
 have hg:∀ j,s.data.toList.getD j 0=(s.data.toList[j]?).getD 0:=fun j=>by rw[List.getD_eq_getElem?_getD]
 refine Zaa Tryz.func195 rfl rfl rfl rfl ?_
 rw[Zdd,hlen]
 obtain⟨l,hl⟩:∃ l,l=s.data.toList:=⟨_,rfl⟩
 rw[<- hl]at hlen hg ⊢
 repeat' (first|(apply RL_pu;rfl;exact Zvq)|(apply RD_Q;rfl;rfl;decide +kernel;rfl;rfl;exact QyName2)|refine walk1 ?_|(refine RD_Lw ?_;intro F;(apply Zae;first|exact Zvq|exact PuA);refine⟨_,EndsA,QFName2,?_⟩)|refine und ?_|(refine Zat rfl rfl rfl (fun hc=>?_) (fun hc=>?_))|(refine Zas rfl rfl rfl (fun hc=>?_) (fun hc=>?_))|(refine Zaf rfl (fun hc=>?_) (fun hc=>?_)))
 ·have h:=of_decide_eq_true hc
  exact ret_1 _ [] (.tmp rfl) .nil ⟨by rw[decide_eq_false (show ¬ a<=s.size by omega)];rfl,rfl⟩
 ·have h:=of_decide_eq_true hc
  exact ret_1 _ [] (.tmp rfl) .nil ⟨by rw[decide_eq_false (show ¬ s.size<=b by omega),Bool.and_false];rfl,rfl⟩
 rename_i hca
 have ha:=of_decide_eq_false hca
 have hb:=of_decide_eq_false hc
 rw[decide_eq_true (show a<=s.size by omega),decide_eq_true (show s.size<=b by omega),Bool.true_and,Bool.true_and]
 refine Zao [(0,.string s),(3,.pointer (some ⟨b3,0,none⟩)),(4,.pointer (some ⟨b4,0,none⟩)),(19,.int .i64 s.size)] [] (fun k:Nat=>[(20,.int .i64 k)]) (fun _=>[]) (fun k=>k<=s.size/\ZcK m (l.take k)=true) (fun k=>s.size - k) 0 SFA .nil ⟨Nat.zero_le _,rfl⟩ ?_
 rintro k ⟨hk,hok⟩
 repeat refine ZkX ?_
 refine Zaf rfl (fun h=>?_) (fun h=>?_)
 ·have hlt:=of_decide_eq_true h
  have hlt':k<l.length:=by omega
  have hd:l.getD k 0=l[k]:=by rw[hg,List.getElem?_eq_getElem hlt'];rfl
  have hc8:=UInt8.toNat_lt (l.getD k 0)
  have hcell:=ZwI (p:=Zds) hc8
  have hw:=ZvZ (Zds (l.getD k 0).toNat) (Zuk _) ⟨m,hm⟩
  have hst:ZcK m (l.take (k+1))=(ZcK m (l.take k)&&!decide (Zds (l.getD k 0).toNat &&& m=0)):=by
   rw[ZcK,List.take_succ_eq_append_getElem hlt',List.all_append,hd]
   simp[ZcK]
  have hall:ZcK m l=(ZcK m (l.take (k+1))&&ZcK m (l.drop (k+1))):=by
   rw[ZcK,ZcK,ZcK,<- List.all_append,List.take_append_drop]
  rw[hok,Bool.true_and]at hst
  obtain⟨c,hcd⟩:∃ c,s.data.toList.getD k 0=c:=⟨_,rfl⟩
  rw[hl,hcd]at hc8 hcell hw
  rw[hl]at hst
  rw[hcd,<- hl]at hst
  rw[<- Nat.mul_one c.toNat]at hcell
  rw[show Zds (c.toNat*1)=Zds c.toNat by rw[Nat.mul_one]]at hcell
  simp only at hw
  repeat (first|(apply RL_pu;rfl;exact Zpl)|(apply RD_Q;rfl;rfl;decide +kernel;rfl;rfl;exact ZzR)|refine walk1 ?_|(refine jn ?_;(try intro F);(apply Zae;first|exact Zpl|exact PuA);first|refine⟨_,EndsA,QFName3,?_⟩|refine fin ?_))
  rw[hw]
  refine Zaf rfl (fun hz=>?_) (fun hz=>?_)
  ·have h0:=of_decide_eq_true hz
   have h0':Zds c.toNat &&& m=0:=by omega
   rw[hall,hst,decide_eq_true h0']
   repeat refine ZkX ?_
   exact rtA
  ·have h0:=of_decide_eq_false hz
   have h0':¬ Zds c.toNat &&& m=0:=by omega
   rw[decide_eq_false h0']at hst
   repeat refine ZkX ?_
   exact⟨k+1,OA,⟨OA,hst⟩,SFA,.nil⟩
 ·have h1:=of_decide_eq_false h
  obtain rfl:k=s.size:=by omega
  rw[<- hlen,List.take_length]at hok
  repeat refine ZkX ?_
  exact ret_1 _ [] (.tmp rfl) .nil ⟨by rw[hok],rfl⟩
def ofV (b1 b2 b3 b4:Nat):Value := .func (.func 195) #[] #[.pointer (some ⟨b1,0,none⟩),.pointer (some ⟨b2,0,none⟩),.pointer (some ⟨b3,0,none⟩),.pointer (some ⟨b4,0,none⟩)]
def ofO (a b m b1 b2 b3 b4:Nat):List It:=[.blk b1 [.int .i64 a] 3,.blk b2 [.int .i64 b] 3,.blk b3 (kArr Zds) 283,.blk b4 [.int .u8 m] 5]
theorem Zgk (a b m:Nat)(w:World):Does Tryz.prog 156 [.int .i64 a,.int .i64 b,.int .u8 m] w (fun v O=>∃ b1 b2 b3 b4,v=ofV b1 b2 b3 b4/\O=ofO a b m b1 b2 b3 b4):=by
 refine Zaa Tryz.func156 rfl rfl rfl rfl ?_
 repeat (first|(refine js ?_;(first|(refine Zac (fun w' _=>Zoj w') ?_)|(apply ZhN;rfl;rfl;(focus repeat' constructor);exact Zdv _;exact Zdv _;exact Zp8 _)|(refine bx ?_;intro bk)))|refine walk ?_)
 exact ret_1 _ _ (.tmp rfl) SOA ⟨_,_,_,_,rfl,rfl⟩
theorem Zk5 {base:Nat}{s:ByteArray}{a b m b1 b2 b3 b4:Nat}{O:List It}{w:World}(hs:(s.size:Int)<=9223372036854775807)(hm:m<256)(hH:Zay base O w)(hO:SubO (ofO a b m b1 b2 b3 b4) O) :
  Does Tryz.prog 195 ([]++[.string s]++[.pointer (some ⟨b1,0,none⟩),.pointer (some ⟨b2,0,none⟩),.pointer (some ⟨b3,0,none⟩),.pointer (some ⟨b4,0,none⟩)]) w (fun v O=>v = .bool (Zdd a b m s.data.toList)/\O=[]):=by
 have h:=hH.sub hO
 unfold ofO at h
 exact Zwu s a b m b1 b2 b3 b4 hs hm w (h.cells (by repeat' constructor)) (h.cells (by repeat' constructor)) (h.cells (by repeat' constructor)) (h.cells (by repeat' constructor))
theorem Zov (s:ByteArray)(hs:(s.size:Int)<=9223372036854775807)(w:World):Does Tryz.prog 315 [.string s] w (fun v O=>v = .bool (ZiE s)/\O=[]):=by
 refine Zaa Tryz.func315 rfl rfl rfl rfl ?_
 repeat (first|(refine js ?_;(first|(apply Zag (h:=fun w' _ _=>Zgk 1 4 1 w');rfl;rintro v O' ⟨b1,b2,b3,b4,rfl,rfl⟩)|(apply Zar (f:=195) (us:=[]) (vs:=[.string s]) (cs:=[.pointer (some ⟨b1,0,none⟩),.pointer (some ⟨b2,0,none⟩),.pointer (some ⟨b3,0,none⟩),.pointer (some ⟨b4,0,none⟩)]) (h:=fun w' _ hH=>Zk5 (a:=1) (b:=4) (m:=1) hs (by decide) hH (by exact .refl _));rfl;rfl;rintro v O' ⟨rfl,rfl⟩)))|refine walk ?_)
 exact rtA
theorem ZgJ (s:ByteArray)(hs:(s.size:Int)<=9223372036854775807)(w:World):Does Tryz.prog 105 [.string s] w (fun v O=>v = .bool (Zr0 s)/\O=[]):=by
 refine Zaa Tryz.func105 rfl rfl rfl rfl ?_
 repeat (first|(refine js ?_;(first|(apply Zag (h:=fun w' _ _=>Zgk 3 6 1 w');rfl;rintro v O' ⟨b1,b2,b3,b4,rfl,rfl⟩)|(apply Zar (f:=195) (us:=[]) (vs:=[.string s]) (cs:=[.pointer (some ⟨b1,0,none⟩),.pointer (some ⟨b2,0,none⟩),.pointer (some ⟨b3,0,none⟩),.pointer (some ⟨b4,0,none⟩)]) (h:=fun w' _ hH=>Zk5 (a:=3) (b:=6) (m:=1) hs (by decide) hH (by exact .refl _));rfl;rfl;rintro v O' ⟨rfl,rfl⟩)))|refine walk ?_)
 exact rtA
end Go.Proofs.YtdlmhmmhdbbliaaGreatDoor
