/- Parts of the proof. -/
import Derived.RangeFuncIn
import Derived.RangeFuncLeaves
import Derived.RangeFuncRecord
import Derived.RangeFuncSeq
import Derived.TacticsIn
import Derived.ControlIn
import Derived.RangeFuncCalls
import Derived.Test.YtpipekfmecikmaaGreatDoorA09
import Derived.Maps.RangeRun
import Derived.ChangeMaps4
set_option maxHeartbeats 0
set_option linter.all false
namespace Go.Wk
open Go Go.RowKit
def WF (F:Fence):Prop:=F=Fence.wide\/∃ l,F=Fence.wide.inRound l
theorem WF.fn {F:Fence}(h:WF F)(f:FuncId):F.fn f:=by rcases h with rfl|⟨l,rfl⟩ <;> trivial
theorem WF.depth {F:Fence}(h:WF F):F.depth=none:=by rcases h with rfl|⟨l,rfl⟩ <;> rfl
theorem WF.calls {F:Fence}(h:WF F){n:Nat}{P:Program}{f:FuncId}{args:Array Value}{w:World}{R:Ending->World->Prop}(a:Calls P f args w R):CallsIn F n P f args w R:=by
 rcases h with rfl|⟨l,rfl⟩
 ·exact callsIn_wide.2 a
 ·exact CallsIn.inRound l (callsIn_wide.2 a)
def calm:Result Next->Prop
 | .ok (.value _) _=>True
 | .ok .skip _=>True
 | .ok (.enter _ _) _=>True
 | .halt _ _=>True
 | _=>False
theorem Zsl {F:Fence}(d:WF F){n:Nat}{P:Program}{o:Oper}{a a2:Act}{w:World}{K K2:Act->World->Prop}{Q Q2:Exit->Act->World->Prop}(b:a2.eval=a.eval)(l:∀ c,o.op ≠ .defer c)(k:calm ((execOp a.eval o).run P w))(h:o.wp P a w K Q)(i:∀ e a w,¬ Q e a w)
  (g:∀ v w',K (a.put o.dst v) w'->K2 (a2.put o.dst v) w'):o.wpIn F n P a2 w K2 Q2:=by
 refine⟨fun f _=>d.fn f,?_⟩
 rw[Oper.semAt_eq _ _ _ l,b]
 unfold Oper.wp at h
 generalize (execOp a.eval o).run P w=r at *
 cases r with
 | ok nx w' =>
  cases nx with
  | value v=>exact g _ _ h
  | skip=>exact g _ _ h
  | enter f args =>
   rw[Oper.upon_enter]at h
   rw[Oper.uponIn_enter]
   refine⟨fun j=>(by rw[d.depth]at j;cases j),(d.calls h).mono ?_⟩
   intro e m b
   cases e with
   | returned v=>exact g _ _ b
   | panicked c=>exact(i _ _ _ b).elim
   | outgrown=>exact b.elim fun a h=>h.elim fun w h=>(i _ _ _ h).elim
  | _=>exact k.elim
 | halt x w' =>
  cases x with
  | panic v=>exact(i _ _ _ h).elim
  | _=>exact h.elim
section
variable {F:Fence}{P:Program}{n:Nat}{wr:World}{ops:Array Oper}{rest:List Oper}{K:Fr->List It->Prop}{fr:Fr}{O:List It}{ty:TypeId}{pos:String}{af:Array Edge}{D:List Deferred}
def actD (D:List Deferred)(a:Act):Act:={ a with defers:=D }
def ZDV (D:List Deferred)(n:Nat)(wr:World)(K:Fr->List It->Prop):Exit->Act->World->Prop:=fun e a w=>e = .normal/\a.defers=D/\∃ fr O,St n wr fr O (actD [] a) w/\K fr O
def RLI (F:Fence)(D:List Deferred)(P:Program)(n:Nat)(wr:World)(ops:Array Oper)(l:List Oper)(K:Fr->List It->Prop)(fr:Fr)(O:List It):Prop :=
 ∀ a w,St n wr fr O a w->wpListIn F 0 P ops (ZDV D n wr K) l (actD D a) w
theorem Zed {a:Act}{fr:Fr}{w:World}(h:St n wr fr O a w):actD [] (actD D a)=a:=by
 have:=h.sim.defers
 cases a
 simp only at this
 subst this
 rfl
theorem Zcu (a:Act)(d:Option Tmp)(v:Value):(actD D a).put d v=actD D (a.put d v):=by cases d <;> rfl
theorem Zbk (h:K fr O):RLI F D P n wr ops [] K fr O:=fun a w b=>⟨rfl,rfl,fr,O,by rw[Zed b];exact b,h⟩
theorem ZcN (l:WF F){d:Nat}{j:Op}{v:Value}(o:Nat.ble (d+1) n=true)(g:∀ c,j ≠ .defer c)(h:Pu P n wr fr O j ty v)(k:RLI F D P n wr ops rest K ((d,v)::fr) O) :
  RLI F D P n wr ops (⟨some d,j,ty,pos,af,none⟩::rest) K fr O:=by
 intro a w f
 have b:=h a w f (some d) pos af none
 refine wpListIn_plain rfl fun K' m=>Zsl (a:=a) (K:=fun x w=>x=a.put (some d) v/\St n wr ((d,v)::fr) O x w) (Q:=fun _ _ _=>False) l rfl g (by rw[b];trivial) ?_ (fun _ _ _ h=>h) ?_
 ·unfold Oper.wp
  rw[b,Oper.upon_value]
  exact⟨rfl,f.sim.put o v,f.old,f.own⟩
 ·rintro u w' ⟨e,i⟩
  rw[Zcu]
  exact m _ _ (k _ _ (e▸i))
theorem Zcg (m:WF F){b:Option Tmp}{j:Op}(q:∀ d,b=some d->Nat.ble (d+1) n=true)(l:∀ c,j ≠ .defer c)(p:∀ a w,St n wr fr O a w->calm ((execOp a.eval ⟨b,j,ty,pos,af,none⟩).run P w))
  (h:Stp P n wr fr O ⟨b,j,ty,pos,af,none⟩ fun v O'=>RLI F D P n wr ops rest K (updF fr b v) O'):RLI F D P n wr ops (⟨b,j,ty,pos,af,none⟩::rest) K fr O:=by
 intro a w i
 refine wpListIn_plain rfl fun K' o=>Zsl (a:=a) (K:=fun x w=>∃ v O',x=a.put b v/\Bel wr.heap.size wr w/\Zaz wr.heap.size O' w/\RLI F D P n wr ops rest K (updF fr b v) O') (Q:=fun _ _ _=>False) m rfl l (p a w i) ?_ (fun _ _ _ h=>h) ?_
 ·exact h a w i _ _ fun v O' w' f g k=>⟨v,O',rfl,f,g,k⟩
 ·rintro u w' ⟨v,O',e,f,g,k⟩
  rw[Zcu]
  refine o _ _ (k _ _ ?_)
  show St n wr _ O' (a.put b u) w'
  rw[e]
  cases b with
  | none=>exact⟨i.sim,f,g⟩
  | some d=>exact⟨i.sim.put (q d rfl) v,f,g⟩
theorem Zuk {b:Option Tmp}{g:Option (Nat × Bool)}{f:FuncId}{xs:List Operand}{c:Array TypeId}[Body P f](a:Act)(w:World):calm ((execOp a.eval ⟨b,.call ⟨.value (.func f),xs.toArray,c⟩,ty,pos,af,g⟩).run P w):=by
 simp[execOp,resolve,Act.eval,Deferred.ofValue,invoke,ZbI,calm]
theorem Zfh {b:Option Tmp}{g:Option (Nat × Bool)}{f:FuncId}{c:Operand}{xs:List Operand}{h:Array TypeId}{us cs:List Value}[Body P f]{a:Act}{w:World}(e:St n wr fr O a w)(d:ev fr c=some (.func (.func f) us.toArray cs.toArray)) :
  calm ((execOp a.eval ⟨b,.call ⟨.value c,xs.toArray,h⟩,ty,pos,af,g⟩).run P w):=by
 simp[execOp,resolve,e.sim.ev d,Deferred.ofValue,invoke,ZbI,calm]
theorem ZdS {b:Option Tmp}{g:Option (Nat × Bool)}{t:TypeId}{x y:Operand}(a:Act)(w:World):calm ((execOp a.eval ⟨b,.store t x y,ty,pos,af,g⟩).run P w):=by
 simp only[execOp,Sem.run_bind]
 generalize (Instr.storeAt t (a.eval x) (a.eval y)).run P w=r
 cases r <;> simp[calm,Result.andThen]
theorem ZlE {dst:Option Tmp}{f:Op}{j:Nat}{b:Bool}{e:Oper}{d:Nat}(i:ops[j]?=some e)(h:e.dst=some d)(g:look fr d=some (.bool b))
  (k:RLI F D P n wr ops (⟨dst,f,ty,pos,af,none⟩::rest) K fr O):RLI F D P n wr ops (⟨dst,f,ty,pos,af,some (j,b)⟩::rest) K fr O:=by
 intro a w c
 have:=k a w c
 have l:yielded ops (actD D a).tmps j=some b:=by
  show yielded ops a.tmps j=some b
  simp[yielded,i,h,c.sim.at_ d _ g]
 simp only[wpListIn,Region.wanted,l,if_true,beq_self_eq_true]at this ⊢
 exact this
theorem ZnC (o:WF F){c:Nat}{m:Op}{j:Nat}{b e:Bool}{l:Oper}{d:Nat}(r:ops[j]?=some l)(q:l.dst=some d)(p:look fr d=some (.bool e))(i:e = !b)(h:Nat.ble (c+1) n=true)
  (k:RLI F D P n wr ops rest K ((c,undef)::fr) O):RLI F D P n wr ops (⟨some c,m,ty,pos,af,some (j,b)⟩::rest) K fr O:=by
 intro a w g
 have:=k (a.put (some c) undef) w ⟨g.sim.put h undef,g.old,g.own⟩
 have t:yielded ops (actD D a).tmps j=some e:=by
  show yielded ops a.tmps j=some e
  simp[yielded,r,q,g.sim.at_ d _ p]
 have s:Region.wanted (⟨some c,m,ty,pos,af,some (j,b)⟩:Oper) (yielded ops (actD D a).tmps)=false:=by
  subst i
  simp[Region.wanted,t]
 simp only[wpListIn,s]
 exact⟨fun f _=>o.fn f,by rw[Zcu];exact this⟩
def Ztx (D:List Deferred)(n:Nat)(wr:World)(Q:Exit->Fr->List It->Prop):Exit->Act->World->Prop:=fun e a w=>a.defers=D/\∃ fr O,St n wr fr O (actD [] a) w/\Q e fr O
def WI (F:Fence)(D:List Deferred)(P:Program)(n:Nat)(wr:World)(c:Code)(Q:Exit->Fr->List It->Prop)(fr:Fr)(O:List It):Prop :=
 ∀ a w,St n wr fr O a w->c.wpIn F 0 P (Ztx D n wr Q) (actD D a) w
theorem ZdU {a:Act}(h:a.defers=D):actD D (actD [] a)=a:=by cases a;simp only at h;subst h;rfl
variable {Q:Exit->Fr->List It->Prop}
theorem ZbN {x y:Code}(h:WI F D P n wr x (Zaq (WI F D P n wr y Q) Q) fr O):WI F D P n wr (.seq x y) Q fr O:=by
 intro a w f
 refine wpIn_seq (wpIn_mono (h a w f) ?_)
 rintro e g w' ⟨c,fr',O',b,d⟩
 cases e with
 | normal =>
  have:=d _ w' b
  rw[ZdU c]at this
  exact this
 | _=>exact⟨c,fr',O',b,d⟩
theorem Zef (h:Q .normal fr O):WI F D P n wr .skip Q fr O:=fun a _ b=>wpIn_skip ⟨rfl,fr,O,by rw[Zed b];exact b,h⟩
theorem Zhw (h:Q .ret fr O):WI F D P n wr .ret Q fr O:=fun a _ b=>wpIn_ret ⟨rfl,fr,O,by rw[Zed b];exact b,h⟩
theorem Zby {c:Operand}{x y:Code}{b:Bool}(e:ev fr c=some (.bool b))(i:b=true->WI F D P n wr x Q fr O)(g:b=false->WI F D P n wr y Q fr O):WI F D P n wr (.cond c x y) Q fr O:=by
 intro a w d
 have f:(actD D a).eval c = .bool b:=d.sim.ev e
 exact wpIn_cond_split f (fun h=>i h a w d) (fun h=>g h a w d)
theorem ZbR {g:Nat}{l:List Oper}(h:RLI F D P n wr l.toArray l (Q .normal) fr O):WI F D P n wr (.region g l.toArray false) Q fr O:=by
 intro a w f
 refine wpIn_mono (wpIn_region_lit (h a w f)) ?_
 rintro e i w' ⟨rfl,c,fr',O',b,d⟩
 exact⟨c,fr',O',b,d⟩
def Za4 (l:Nat)(r:Loop):It := .fact (fun k=>k=l) (fun w=>w.heap[l]?=some (.loop r))
def Zb0 (b:Nat):It := .fact (fun k=>k=b) (fun w=>w.heap[b]?=some (.deferred (some [])))
theorem Za4.at {l:Nat}{r:Loop}{w:World}(h:(Za4 l r).sat w):w.heap[l]?=some (.loop r):=Zbj h
theorem Zb0.at {b:Nat}{w:World}(h:(Zb0 b).sat w):w.heap[b]?=some (.deferred (some [])):=Zbj h
theorem Zd2 (w:World)(l:Nat)(o:Obj):(w.putObj l o).heap.size=w.heap.size:=by simp[World.putObj]
theorem Zc0 {a:Act}{w:World}{l:Nat}{r r':Loop}{O':List It}(b:St n wr fr O a w)(e:Upd O (Za4 l r) (Za4 l r') O'):St n wr fr O' a (w.putObj l (.loop r')):=by
 have d:=b.own.inb _ e.mem l rfl
 refine⟨b.sim,b.old.trans ⟨⟨rfl,rfl,rfl,by rw[Zd2];exact Nat.le_refl _,fun i c=>World.putObj_heap_other (by omega)⟩⟩,b.own.upd e b.old.size (by rw[Zd2];exact Nat.le_refl _) (fun i _ c=>World.putObj_heap_other c) ?_ (fun i c => .inl c)⟩
 intro w' f
 rw[f l rfl]
 exact World.putObj_heap_same d.2
def ZxN (l:Nat)(r:Loop)(R:Bool->List It->Prop):Exit->Fr->List It->Prop
 | .normal=>fun _ O=>∃ O',Upd O (Za4 l { r with state := .busy }) (Za4 l { r with state := .ready,pending:=none }) O'/\R true O'
 | .ret=>fun _ O=>∃ O',Upd O (Za4 l { r with state := .busy }) (Za4 l { r with state := .done,pending:=some .ret }) O'/\R false O'
 | _=>fun _ _=>False
def Zee (P:Program)(l:Nat)(v:Value)(wr:World)(O:List It)(R:Bool->List It->Prop):Prop :=
 ∀ w,Bel wr.heap.size wr w->Zaz wr.heap.size O w->YieldAt Fence.wide 0 P l #[v] w fun e w'=>∃ b O',e = .returned (.bool b)/\Bel wr.heap.size wr w'/\Zaz wr.heap.size O' w'/\R b O'
theorem Zhb {l p:Nat}{r:Loop}{v:Value}{a0:Act}{O1:List It}{R:Bool->List It->Prop}(B:r.params = #[p])(M:r.state = .ready)(N:r.tmps=a0.tmps)(f:Sim n fr a0)(o:Nat.ble (p+1) n=true)
  (u:Upd O (Za4 l r) (Za4 l { r with state := .busy }) O1) {D:Nat} {y:List Oper} (i:r.assign = .region D y.toArray false)
  (I:RLI (Fence.wide.inRound l) [] P n wr y.toArray y (fun fr' O'=>O'=O/\WI (Fence.wide.inRound l) [] P n wr r.body (ZxN l r R) fr' O1) ((p,v)::fr) O):Zee P l v wr O R:=by
 intro w G A
 have L:=Za4.at (A.sat _ u.mem)
 have C:=run_yield (P:=P) (args := #[v]) L (by rw[B];rfl)
 rw[B,N]at C
 refine⟨r.fn,_,r.assign,r.body,C,roundIn_of_wpIn trivial ?_⟩
 have s:St n wr ((p,v)::fr) O { tmps:=a0.tmps.setIfInBounds p v,defers:=[] } w:=by
  have:=f.put o v
  refine⟨?_,G,A⟩
  have e:({ tmps:=a0.tmps.setIfInBounds p v,defers:=[] }:Act)=a0.put (some p) v:=by
   have:=f.defers
   simp[Act.put,this]
  rw[e]
  exact this
 rw[i,show Array.foldl (fun tmps (x:Tmp × Value)=>match x with|(t,a)=>tmps.setIfInBounds t a) a0.tmps (#[p].zip #[v])=a0.tmps.setIfInBounds p v by simp]
 refine wpIn_mono (wpIn_region_lit (I _ w s)) ?_
 rintro e Q w' ⟨rfl,J,fr',O',j,rfl,H⟩
 have m:=Za4.at (j.own.sat _ u.mem)
 refine⟨_,run_beginRound m M,?_⟩
 have q:=Zc0 j u
 have z:=H _ _ q
 rw[ZdU J]at z
 refine wpIn_mono z ?_
 rintro E a2 S ⟨K,F,O2,d,h⟩
 cases E with
 | normal =>
  obtain⟨O3,c,k⟩:=h
  have g:=Za4.at (d.own.sat _ c.mem)
  have b:=Zc0 d c
  exact⟨_,_,run_endRound none g,true,O3,rfl,b.old,b.own,k⟩
 | ret =>
  obtain⟨O3,c,k⟩:=h
  have g:=Za4.at (d.own.sat _ c.mem)
  have b:=Zc0 d c
  exact⟨_,_,run_endRound (some .ret) g,false,O3,rfl,b.old,b.own,k⟩
 | exit D=>exact h.elim
 | goto t=>exact h.elim
 | panic ch=>exact h.elim
 | outgrown=>exact h.elim
theorem ZuK {d l:Nat}{j y:Operand}{o:Array TypeId}{v:Value}{R:Bool->List It->Prop}(x:Nat.ble (d+1) n=true)(z:ev fr j=some (.func (.yield l) #[] #[]))(B:ev fr y=some v)(h:Zee P l v wr O R)
  (k:∀ b O',R b O'->RLI Fence.wide [] P n wr ops rest K ((d,.bool b)::fr) O'):RLI Fence.wide [] P n wr ops (⟨some d,.call ⟨.value j,#[y],o⟩,ty,pos,af,none⟩::rest) K fr O:=by
 intro a w g
 refine wpListIn_plain rfl fun K' s=>⟨fun f _=>trivial,?_⟩
 obtain⟨fn,tmps,assign,body,C,t⟩:=h w g.old g.own
 have e:actD [] a=a:=by
  have:=g.sim.defers
  cases a;simp only at this;subst this;rfl
 rw[e]
 have i:(Oper.semAt Fence.wide.round a.eval ⟨some d,.call ⟨.value j,#[y],o⟩,ty,pos,af,none⟩).run P w = .ok (.round l fn tmps assign body) w:=by
  rw[Oper.semAt_eq _ _ _ (by intro c u;cases u)]
  simp[execOp,resolve,g.sim.ev z,g.sim.ev B,Deferred.ofValue,invoke,C]
 rw[i,Oper.uponIn_round]
 refine⟨fun A=>(by cases A),t.mono ?_⟩
 rintro m w' ⟨b,O',rfl,p,q,r⟩
 have:=k b O' r (a.put (some d) (.bool b)) w' ⟨g.sim.put x _,p,q⟩
 refine s _ _ ?_
 have m:actD [] (a.put (some d) (.bool b))=a.put (some d) (.bool b):=by rw[<- Zcu,e]
 rw[m]at this
 exact this
theorem ZuF {j:Nat}{l:List Oper}(h:RLI Fence.wide [] P n wr l.toArray l (Q .normal) fr O):W P n wr (.region j l.toArray false) Q fr O:=by
 intro a w g
 have e:actD [] a=a:=by
  have:=g.sim.defers
  cases a;simp only at this;subst this;rfl
 have d:=h a w g
 rw[e]at d
 refine wpIn_wide.1 (wpIn_mono (wpIn_region_lit d) ?_)
 rintro e b w' ⟨rfl,f,fr',O',c,i⟩
 refine⟨fr',O',?_,i⟩
 rw[show b=actD [] b from(by cases b;simp only at f;subst f;rfl)]
 exact c
theorem SubO.trans {A B C:List It}(h:SubO A B)(k:SubO B C):SubO A C:=by
 obtain⟨R1,a⟩:=h.perm
 obtain⟨R2,b⟩:=k.perm
 exact SubO.ofPerm (R:=R1++R2) (b.trans (by rw[<- List.append_assoc];exact a.append_right R2))
theorem ZBG {R:Value->List It->Prop}(O':List It)(a:SubO O' O)(b:R (.tuple #[]) O'):retQ P wr [] R .ret fr O:=⟨[],O',rfl,a,b⟩
theorem Zgx {C d f j l:Nat}{x y g:Operand}{a:Op}{i e:TypeId}{q r:String}{o p:Array Edge}{s:Array TypeId}{u v:Value}{R:Bool->List It->Prop}(D:Nat.ble (d+1) n=true)(E:Nat.ble (f+1) n=true)(F:Nat.ble (j+1) n=true)(m:∀ c,a ≠ .defer c)
  (A:ev fr x=some u) (t:Pu P n wr ((d,u)::fr) O a e v) (z:ev ((f,v)::(d,u)::fr) g=some (.func (.yield l) #[] #[])) (B:ev ((f,v)::(d,u)::fr) y=some v) (w:Zee P l v wr O R)
  (k:∀ b O',R b O'->RLI Fence.wide [] P n wr (⟨some d,.move x,i,q,o,none⟩::⟨some f,a,e,r,p,none⟩::⟨some j,.call ⟨.value g,#[y],s⟩,ty,pos,af,none⟩::rest).toArray rest (Q .normal) ((j,.bool b)::(f,v)::(d,u)::fr) O') :
  W P n wr (.region C (⟨some d,.move x,i,q,o,none⟩::⟨some f,a,e,r,p,none⟩::⟨some j,.call ⟨.value g,#[y],s⟩,ty,pos,af,none⟩::rest).toArray false) Q fr O :=
 ZuF (ZcN (.inl rfl) D (by intro c h;cases h) (Pu_move A) (ZcN (.inl rfl) E m t (ZuK F z B w k)))
theorem St.allocFact {a:Act}{w:World}(c:St n wr fr O a w)(o:Obj):St n wr fr (.fact (fun k=>k=w.heap.size) (fun w'=>w'.heap[w.heap.size]?=some o)::O) a (w.alloc o):=by
 have e:Bel w.heap.size w (w.alloc o):=(Bel.refl _ _).alloc (Nat.le_refl _) _
 refine⟨c.sim,c.old.trans (e.mono c.old.size),c.own.grow (O':=[_]) e c.old.size ⟨fun i d=>?_,fun i d b f=>?_,List.pairwise_singleton _ _⟩⟩
 ·rw[List.mem_singleton.1 d]
  intro w' g
  rw[g _ rfl]
  exact World.alloc_heap_new w o
 ·rw[List.mem_singleton.1 d]at f
  obtain rfl:b=w.heap.size:=f
  exact⟨Nat.le_refl _,by simp⟩
def ZeK (D:Nat):List Deferred:=[{ target := .collected D,args := #[] }]
def Zf1 (fn:FuncId)(tm:Array Value)(p:Tmp)(assign body:Code)(D:Nat):Loop:={ state := .ready,pending:=none,fn:=fn,tmps:=tm,params := #[p],assign:=assign,body:=body,defers:=D }
theorem ZkV {gf:FuncId}[Body P gf]{lb:List Value}{g:Operand}{p:Tmp}{assign body:Code}{Q2:Exit->Act->World->Prop}{a:Act}{w:World}(K:Option Code->List It->Prop)(m:St n wr fr O a w)(C:ev fr g=some (.func (.func gf) #[] lb.toArray))
  (r:∀ fn l D,Zaj P gf (.func (.yield l) #[] #[]::lb) wr (Za4 l (Zf1 fn a.tmps p assign body D)::Zb0 D::O) fun _ O'=>∃ b O2 o,SubO (Za4 l { Zf1 fn a.tmps p assign body D with state:=o,pending:=b }::Zb0 D::O2) O'/\o ≠ .busy/\K b O2)
  (F:∀ b O2 D w',K b O2->St n wr fr (Zb0 D::O2) a w'->match b with|none=>Q2 .normal (actD (ZeK D) a) w'|some c=>c.wp P Q2 (actD (ZeK D) a) w'):(Code.rangeFunc g #[p] assign body).wp P Q2 a w:=by
 refine(wpIn_wide (n:=0)).1 (wpIn_rangeFunc fun fn _=>?_)
 have y:=m.allocFact (.deferred (some []))
 have t:=y.allocFact (.loop (Zf1 fn a.tmps p assign body w.heap.size))
 rw[World.size_alloc]at t
 have f:St n wr fr (Za4 (w.heap.size+1) (Zf1 fn a.tmps p assign body w.heap.size)::Zb0 w.heap.size::O) a ((w.alloc (.deferred (some []))).alloc (.loop (Zf1 fn a.tmps p assign body w.heap.size))):=t
 have h:=run_enterLoop_outer (P:=P) (w:=w) fn a.tmps #[p] assign body
 generalize hW1:(w.alloc (.deferred (some []))).alloc (.loop (Zf1 fn a.tmps p assign body w.heap.size))=W1 at f
 rw[show(w.alloc (.deferred (some []))).alloc (.loop { state := .ready,pending:=none,fn:=fn,tmps:=a.tmps,params := #[p],assign:=assign,body:=body,defers:=w.heap.size })=W1 from hW1]at h
 refine⟨w.heap.size+1,ZeK w.heap.size,W1,{ target := .fn (.func gf) lb.toArray,args := #[.func (.yield (w.heap.size+1)) #[] #[]] },W1,gf,#[.func (.yield (w.heap.size+1)) #[] #[]]++lb.toArray,W1,h,?_,fun _ _=>trivial,?_,fun E=>(by cases E),?_⟩
 ·have q:a.eval (.const (.func (.yield (w.heap.size+1)) #[] #[])) = .func (.yield (w.heap.size+1)) #[] #[]:=rfl
  simp[resolve,m.sim.ev C,q,Deferred.ofValue]
 ·simp[invoke,ZbI]
 ·refine callsIn_wide.2 ?_
  have u:=r fn (w.heap.size+1) w.heap.size _ f.old f.own
  rw[show(Value.func (.yield (w.heap.size+1)) #[] #[]::lb).toArray = #[.func (.yield (w.heap.size+1)) #[] #[]]++lb.toArray by simp]at u
  refine u.mono ?_
  rintro e H ⟨v,O',rfl,z,A,b,O2,o,k,s,B⟩
  have j:St n wr fr (Za4 (w.heap.size+1) { Zf1 fn a.tmps p assign body w.heap.size with state:=o,pending:=b }::Zb0 w.heap.size::O2) a H:=⟨m.sim,z,A.sub k⟩
  have G:=Za4.at (j.own.sat _ List.mem_cons_self)
  have d:=Zc0 (r':={ Zf1 fn a.tmps p assign body w.heap.size with state := .exhausted,pending:=b }) j .here
  have i:=F b O2 w.heap.size _ B ⟨d.sim,d.old,d.own.tail⟩
  refine⟨b,_,run_endLoop G s,?_⟩
  have x:({ a with defers:=ZeK w.heap.size++a.defers }:Act)=actD (ZeK w.heap.size) a:=by
   have:=m.sim.defers
   simp[actD,this]
  rw[x]
  cases b with
  | none=>exact i
  | some c=>exact wpIn_wide.2 i
theorem ZkF {f:FuncId}{fn:Func}{c:Code}{args:List Value}{w:World}{R:Ending->World->Prop}(i:P.funcs[f]?=some fn)(g:fn.body=some c)(k:fn.ntmps=n)(d:Nat.ble args.length n=true)
  (h:∀ a,St n w (Ze1 0 args) [] a w->c.wp P (bodyPostM Fence.wide 0 P fn R) a w):Calls P f args.toArray w R:=by
 refine(callsIn_wide (n:=0)).1 (callsIn_of_wp_marks i g trivial ?_)
 refine(wpIn_wide (n:=0)).2 (h _ ?_)
 have e:args.length<=n:=Nat.le_of_ble_eq_true d
 refine⟨⟨rfl,by simp;omega,fun t v j=>?_⟩,Bel.refl _ _,Zaz.nil _ _⟩
 have:=(Zc7 args 0 t v j).2
 simp only[Nat.sub_zero]at this
 have b:t<args.length:=(List.getElem?_eq_some_iff.1 this).1
 rw[Array.getElem?_append_left (by simpa using b)]
 simpa using this
theorem Zaj.sub {f:FuncId}{args:List Value}{O':List It}{R R':Value->List It->Prop}(h:Zaj P f args wr O R)(i:SubO O O')(j:∀ v O,R v O->R' v O):Zaj P f args wr O' R' :=
 fun w e g=>(h w e (g.sub i)).mono fun _ _ ⟨v,O1,a,b,c,d⟩=>⟨v,O1,a,b,c,j v O1 d⟩
theorem WI.at {c:Code}{a:Act}{w:World}(h:WI F D P n wr c Q fr O)(b:St n wr fr O a w):c.wpIn F 0 P (Ztx D n wr Q) (actD D a) w:=h a w b
theorem ZlB {i:Nat}{c:Code}(h:WI F D P n wr c (Zai i Q) fr O):WI F D P n wr (.block i c) Q fr O:=by
 intro a w j
 refine wpIn_block (wpIn_mono (h a w j) ?_)
 rintro e l w' ⟨f,fr',O',b,d⟩
 cases e with
 | exit k =>
  simp only[Exit.inBlock,Zai]at d ⊢
  split
  ·rename_i g;rw[if_pos g]at d;exact⟨f,fr',O',b,d⟩
  ·rename_i g;rw[if_neg g]at d;exact⟨f,fr',O',b,d⟩
 | _=>exact⟨f,fr',O',b,d⟩
end
open Go Go.RowKit Go.ChangeMaps
end Go.Wk
namespace Go.Proofs.YtpipekfmecikmaaGreatDoor
open Go Go.RowKit Go.Wk Tryz
attribute [local irreducible] W RL Does Zaq Zai retQ Calls Pu Stp RD Qy Ay Zaj
theorem ZiC (x:ByteArray)(z:DZone):∀ (l:List DZone) (k:Nat),ZaK x (l++[z]) k=(ZaK x l k).or (if z.name=x then some (k+l.length) else none)
 | [],k=>by simp[ZaK]
 | y::l,k=>by
  simp only[List.cons_append,ZaK,ZiC x z l]
  split
  ·rfl
  ·rw[List.length_cons,show k+1+l.length=k+(l.length+1) by omega]
theorem ZiD (x:ByteArray)(z:DLink):∀ (l:List DLink) (k:Nat),ZaO x (l++[z]) k=(ZaO x l k).or (if z.name=x then some (k+l.length) else none)
 | [],k=>by simp[ZaO]
 | y::l,k=>by
  simp only[List.cons_append,ZaO,ZiD x z l]
  split
  ·rfl
  ·rw[List.length_cons,show k+1+l.length=k+(l.length+1) by omega]
theorem Zm1 (x:ByteArray):∀ (l:List DZone) (k i:Nat),ZaK x l k=some i->k<=i/\i<k+l.length
 | [],_,_,h=>by cases h
 | z::l,k,i,h=>by
  simp only[ZaK]at h
  split at h
  ·simp only[Option.some.injEq]at h;subst h;simp
  ·have:=Zm1 x l (k+1) i h;simp only[List.length_cons];omega
theorem ZiF (x:ByteArray):∀ (l:List DLink) (k i:Nat),ZaO x l k=some i->k<=i/\i<k+l.length
 | [],_,_,h=>by cases h
 | z::l,k,i,h=>by
  simp only[ZaO]at h
  split at h
  ·simp only[Option.some.injEq]at h;subst h;simp
  ·have:=ZiF x l (k+1) i h;simp only[List.length_cons];omega
theorem Zj5 {z:DZone}:∀ {l:List DZone} (k:Nat),z∈l->∃ j,ZaK z.name l k=some j
 | y::l,k,h=>by
  simp only[ZaK]
  split
  ·exact⟨_,rfl⟩
  ·rename_i a
   rcases List.mem_cons.1 h with rfl|h
   ·exact absurd rfl a
   ·exact Zj5 (k+1) h
theorem Zj6 {z:DLink}:∀ {l:List DLink} (k:Nat),z∈l->∃ j,ZaO z.name l k=some j
 | y::l,k,h=>by
  simp only[ZaO]
  split
  ·exact⟨_,rfl⟩
  ·rename_i a
   rcases List.mem_cons.1 h with rfl|h
   ·exact absurd rfl a
   ·exact Zj6 (k+1) h
def IxM (m:List (ByteArray × Value))(f:ByteArray->Option Nat):Prop:=∀ x,mget m x=(f x).map fun i:Nat=>Value.int .i64 (i:Int)
theorem IxM.some {m:List (ByteArray × Value)}{f:ByteArray->Option Nat}(h:IxM m f){x:ByteArray}{i:Nat}(a:f x=some i):(mget m x).getD (.int .i64 0) = .int .i64 i/\(mget m x).isSome=true:=by
 rw[h x,a];exact⟨rfl,rfl⟩
theorem IxM.none {m:List (ByteArray × Value)}{f:ByteArray->Option Nat}(h:IxM m f){x:ByteArray}(a:f x=none):(mget m x).getD (.int .i64 0) = .int .i64 0/\(mget m x).isSome=false:=by
 rw[h x,a];exact⟨rfl,rfl⟩
theorem IxM.set {m:List (ByteArray × Value)}{f a:ByteArray->Option Nat}(h:IxM m f){k:ByteArray}{i:Nat}(b:∀ x,a x=if x=k then Option.some i else f x):IxM (mset m k (.int .i64 i)) a:=fun x=>by
 rw[ZeH,b x]
 split
 ·rfl
 ·exact h x
def ZDO (f:ByteArray->Option Nat)(N:Nat)(v:Value)(O:List It):Prop:=∃ b m,v = .map (some b)/\O=[.mp b m]/\IxM m f/\Nd m/\m.length<=N
structure LG where
 k:Nat
 mp:List (ByteArray × Value)
theorem ZqY {G:Prop}(h:G:=by(first|exact PuI|(apply Zb5;rfl;rfl;(focus repeat' constructor);exact hv0;exact hc0))):G:=h
theorem Zio (Ar Az Al As:Option Addr)(u s t cs:Nat)(a:DSource)(w:World)(A:Zam w Ar Az Al As u s t cs a)(D:a.zones.length<=1000000) :
  Does prog 162 [srcV Ar Az Al As u s t cs a] w (ZDO (fun x=>ZaK x a.zones 0) a.zones.length):=by
 refine Zaa func162 rfl rfl rfl rfl ?_
 repeat (first|(refine js ?_;(first|(apply Zhy;rfl;intro c)|(refine bx ?_;intro c)))|refine walk ?_)
 refine Zah [(3,.map (some c)),(13,.slice Az a.zones.length s),(14,.int .i64 a.zones.length)] [] (fun g:LG=>[(15,.int .i64 g.k)]) (fun g=>[.mp c g.mp]) (fun g=>g.k<=a.zones.length/\IxM g.mp (fun x=>ZaK x (a.zones.take g.k) 0)/\Nd g.mp/\g.mp.length<=g.k) (fun g=>a.zones.length - g.k) ⟨0,[]⟩ SFA SOA ⟨Nat.zero_le _,fun x=>rfl,List.nodup_nil,Nat.le_refl _⟩ ?_
 obtain⟨r,f⟩:∃ r,c=r:=⟨_,rfl⟩
 rw[f]
 clear f c
 rintro⟨k,mp⟩ ⟨hk,hm,hd,hl⟩
 dsimp only at hk hm hd hl ⊢
 repeat (refine walk ?_)
 refine Zaf rfl (fun m=>?_) (fun m=>?_)
 ·simp only[decide_eq_true_eq,Int.ofNat_lt]at m
  obtain⟨hna,y,⟨Ae,C,_,rfl⟩,hca⟩:=A.z k _ (List.getElem?_eq_getElem m)
  have B:=List.take_append_getElem m
  have q:(a.zones.take k).length=k:=by rw[List.length_take];omega
  generalize a.zones[k]=z at *
  have d:=fun x=>ZiC x z (a.zones.take k) 0
  rw[B,q]at d
  cases hf:ZaK z.name (a.zones.take k) 0 with
  | none =>
   obtain⟨hv0,hc0⟩:=hm.none hf
   repeat (first|(apply RL_pu;rfl;exact ZqY)|(refine js ?_;(refine bx ?_;intro c))|refine walk1 ?_)
   refine⟨⟨k+1,mset mp z.name (.int .i64 k)⟩,OA,⟨OA,hm.set (k:=z.name) (i:=k) (fun x=>?_),hd.set _ _,?_⟩,SFA,SOA⟩
   ·dsimp only
    rw[d x]
    by_cases e:x=z.name
    ·subst e;simp[hf]
    ·rw[if_neg e,if_neg (fun h=>e h.symm),Option.or_none]
   ·have:=Zk2 z.name (.int .i64 (k:Int)) mp
    dsimp only
    omega
  | some j =>
   obtain⟨hv0,hc0⟩:=hm.some hf
   repeat (first|(apply RL_pu;rfl;exact ZqY)|(refine js ?_;(refine bx ?_;intro c))|refine walk1 ?_)
   refine⟨⟨k+1,mp⟩,OA,⟨OA,fun x=>?_,hd,OA⟩,SFA,SOA⟩
   dsimp only
   rw[hm x,d x]
   dsimp only
   by_cases e:z.name=x
   ·subst e;rw[hf];rfl
   ·rw[if_neg e,Option.or_none]
 ·simp only[decide_eq_false_iff_not,Int.ofNat_lt]at m
  rw[List.take_of_length_le (by omega)]at hm
  repeat (refine walk ?_)
  exact ret_1 _ [.mp r mp] (.tmp rfl) SOA ⟨r,mp,rfl,rfl,hm,hd,by omega⟩
theorem Zge (Ar Az Al As:Option Addr)(t u s cs:Nat)(a:DSource)(w:World)(y:Zam w Ar Az Al As t u s cs a)(B:a.links.length<=1000000) :
  Does prog 163 [srcV Ar Az Al As t u s cs a] w (ZDO (fun x=>ZaO x a.links 0) a.links.length):=by
 refine Zaa func163 rfl rfl rfl rfl ?_
 repeat (first|(refine js ?_;(first|(apply Zhy;rfl;intro c)|(refine bx ?_;intro c)))|refine walk ?_)
 refine Zah [(3,.map (some c)),(13,.slice Al a.links.length s),(14,.int .i64 a.links.length)] [] (fun g:LG=>[(15,.int .i64 g.k)]) (fun g=>[.mp c g.mp]) (fun g=>g.k<=a.links.length/\IxM g.mp (fun x=>ZaO x (a.links.take g.k) 0)/\Nd g.mp/\g.mp.length<=g.k) (fun g=>a.links.length - g.k) ⟨0,[]⟩ SFA SOA ⟨Nat.zero_le _,fun x=>rfl,List.nodup_nil,Nat.le_refl _⟩ ?_
 obtain⟨r,f⟩:∃ r,c=r:=⟨_,rfl⟩
 rw[f]
 clear f c
 rintro⟨k,mp⟩ ⟨hk,hm,hd,hl⟩
 dsimp only at hk hm hd hl ⊢
 repeat (refine walk ?_)
 refine Zaf rfl (fun m=>?_) (fun m=>?_)
 ·simp only[decide_eq_true_eq,Int.ofNat_lt]at m
  obtain⟨hna,hca⟩:=y.l.rd k _ (List.getElem?_eq_getElem m)
  have A:=List.take_append_getElem m
  have q:(a.links.take k).length=k:=by rw[List.length_take];omega
  generalize a.links[k]=z at *
  have d:=fun x=>ZiD x z (a.links.take k) 0
  rw[A,q]at d
  cases hf:ZaO z.name (a.links.take k) 0 with
  | none =>
   obtain⟨hv0,hc0⟩:=hm.none hf
   repeat (first|(apply RL_pu;rfl;exact ZqY)|(refine js ?_;(refine bx ?_;intro c))|refine walk1 ?_)
   refine⟨⟨k+1,mset mp z.name (.int .i64 k)⟩,OA,⟨OA,hm.set (k:=z.name) (i:=k) (fun x=>?_),hd.set _ _,?_⟩,SFA,SOA⟩
   ·dsimp only
    rw[d x]
    by_cases e:x=z.name
    ·subst e;simp[hf]
    ·rw[if_neg e,if_neg (fun h=>e h.symm),Option.or_none]
   ·have:=Zk2 z.name (.int .i64 (k:Int)) mp
    dsimp only
    omega
  | some j =>
   obtain⟨hv0,hc0⟩:=hm.some hf
   repeat (first|(apply RL_pu;rfl;exact ZqY)|(refine js ?_;(refine bx ?_;intro c))|refine walk1 ?_)
   refine⟨⟨k+1,mp⟩,OA,⟨OA,fun x=>?_,hd,OA⟩,SFA,SOA⟩
   dsimp only
   rw[hm x,d x]
   dsimp only
   by_cases e:z.name=x
   ·subst e;rw[hf];rfl
   ·rw[if_neg e,Option.or_none]
 ·simp only[decide_eq_false_iff_not,Int.ofNat_lt]at m
  rw[List.take_of_length_le (by omega)]at hm
  repeat (refine walk ?_)
  exact ret_1 _ [.mp r mp] (.tmp rfl) SOA ⟨r,mp,rfl,rfl,hm,hd,by omega⟩
theorem Zw7:ZtL prog 267:=fun args w=>by
 rw[run_callFunc_extern func267 (by kernel_rfl) (by kernel_rfl) (by kernel_rfl) (e:=Extern.MapsClone.clone) (by kernel_rfl)]
theorem Zox (b:Nat)(m:List (ByteArray × Value))(w:World)(h:MpAt w b m) :
  Does prog 218 [.map (some b)] w (fun v O=>∃ a,v = .map (some a)/\O=[.mp a m]):=by
 refine Zaa func218 rfl rfl rfl rfl ?_
 repeat (first|(apply RL_pu;rfl;(first|(apply Zpo;rfl)|(apply Zpn;rfl)|(apply ZnM;rfl)))|(refine js ?_;(apply ZlC;exact Zw7;rfl;(intro w' c _;exact h.up c (Nat.le_refl _));intro d))|refine walk1 ?_)
 exact ret_1 _ _ (.tmp rfl) (.refl _) ⟨_,rfl,rfl⟩
structure FG where
 seen:List ByteArray
 x:ByteArray
 mp:List (ByteArray × Value)
 f:Nat
theorem Zim (x y:ByteArray)(l:List ByteArray):memB x (y::l)=(decide (y=x)||memB x l):=rfl
theorem ZzZ {G:Prop}(h:G:=by(apply Zfx;rfl;rfl;exact h1;exact hv0;exact hc0)):G:=h
theorem ZvN {G:Prop}(h:G:=by(first|exact ZzZ|(apply Zfx;rfl;rfl;exact h2;exact hv1;exact hc1)|(apply Zb5;rfl;rfl;(focus repeat' constructor);exact hv2;exact hc2))):G:=h
theorem Zix (Ar Az Al As:Option Addr)(B C A cs:Nat)(a:DSource)(z t:Nat)(mk m:List (ByteArray × Value))(c:ByteArray)(w:World)(I:Zam w Ar Az Al As B C A cs a)(h1:MpAt w z mk)(h2:MpAt w t m)
  (E:IxM mk fun x=>ZaK x a.zones 0) (u:IxM m fun x=>ZaO x a.links 0) (J:Nd m) (F:m.length<=a.links.length) :
  Does prog 161 [srcV Ar Az Al As B C A cs a,.map (some z),.map (some t),.string c] w (fun v O=>v = .tuple #[.int .i64 (ZaI a (a.links.length+1) [] c).1,.int .i64 (ZaI a (a.links.length+1) [] c).2]/\O=[]):=by
 obtain⟨q,j⟩:∃ q,ZaI a (a.links.length+1) [] c=q:=⟨_,rfl⟩
 rw[j]
 refine Zaa func161 rfl rfl rfl rfl ?_
 repeat (first|(refine js ?_;(first|(apply Zad (h:=fun w' L _=>Zox t m w' (h2.up L (Nat.le_refl _)));rfl;rintro v O' ⟨D,rfl,rfl⟩)|(refine bx ?_;intro r)))|refine walk ?_)
 refine Zah [(1,.map (some z)),(2,.map (some t)),(4,.pointer (some ⟨r,0,none⟩)),(10,.map (some D))] [.blk r [.slice Ar a.rules.length B,.slice Az a.zones.length C,.slice Al a.links.length A,.slice As a.shifts.length cs] 27] (fun g:FG=>[(3,.string g.x)]) (fun g=>[.mp D g.mp])
  (fun g=>Nd g.mp/\(∀ x,mget g.mp x=if memB x g.seen then none else mget m x)/\ZaI a g.f g.seen g.x=q/\g.mp.length<g.f) (fun g=>g.mp.length) ⟨[],c,m,a.links.length+1⟩ SFA SOA ⟨J,fun x=>rfl,j,by dsimp only;omega⟩ ?_
 rintro⟨seen,x,mp,f⟩ ⟨hd2,hm,hi,hf⟩
 dsimp only at hd2 hm hi hf ⊢
 obtain⟨f,rfl⟩:∃ H,f=H+1:=⟨f - 1,by omega⟩
 rw[ZaI]at hi
 cases hz:ZaK x a.zones 0 with
 | some i =>
  rw[hz]at hi
  obtain⟨hv0,hc0⟩:=E.some hz
  repeat (first|(apply RL_pu;rfl;exact ZzZ)|(refine js ?_;(refine bx ?_;intro r))|refine walk1 ?_)
  exact ret_2 _ _ [] (.tmp rfl) (.tmp rfl) .nil ⟨by rw[<- hi] <;> rfl,rfl⟩
 | none =>
  rw[hz]at hi
  obtain⟨hv0,hc0⟩:=E.none hz
  cases hy:ZaO x a.links 0 with
  | none =>
   rw[hy]at hi
   obtain⟨hv1,hc1⟩:=u.none hy
   have d:mget mp x=none:=by
    rw[hm x,u x]
    dsimp only
    rw[hy]
    split <;> rfl
   have hv2:(mget mp x).getD (.int .i64 0) = .int .i64 0:=by rw[d];rfl
   have hc2:(mget mp x).isSome=false:=by rw[d];rfl
   repeat (first|(apply RL_pu;rfl;exact ZvN)|(refine js ?_;(refine bx ?_;intro r))|refine walk1 ?_)
   exact ret_2 _ _ [] (.tmp rfl) (.tmp rfl) .nil ⟨by rw[<- hi] <;> rfl,rfl⟩
  | some i =>
   rw[hy]at hi
   dsimp only at hi
   obtain⟨hv1,hc1⟩:=u.some hy
   cases hs:memB x seen with
   | true =>
    rw[hs,if_pos rfl]at hi
    have d:mget mp x=none:=by rw[hm x,hs];rfl
    have hv2:(mget mp x).getD (.int .i64 0) = .int .i64 0:=by rw[d];rfl
    have hc2:(mget mp x).isSome=false:=by rw[d];rfl
    repeat (first|(apply RL_pu;rfl;exact ZvN)|(refine js ?_;(refine bx ?_;intro r))|refine walk1 ?_)
    exact ret_2 _ _ [] (.tmp rfl) (.tmp rfl) .nil ⟨by rw[<- hi] <;> rfl,rfl⟩
   | false =>
    rw[hs,if_neg (by decide)]at hi
    have d:mget mp x=some (.int .i64 i):=by rw[hm x,hs,u x];dsimp only;rw[hy];rfl
    have hv2:(mget mp x).getD (.int .i64 0) = .int .i64 i:=by rw[d];rfl
    have hc2:(mget mp x).isSome=true:=by rw[d];rfl
    have K:=Zp6 x hc2
    have s:i<a.links.length:=by have:=ZiF x a.links 0 i hy;omega
    obtain⟨hna,hca⟩:=I.l.rd i _ (List.getElem?_eq_getElem s)
    rw[List.getElem?_eq_getElem s]at hi
    generalize a.links[i]=lk at *
    simp only[Option.map_some,Option.getD_some]at hi
    repeat (first|(apply RL_pu;rfl;(first|exact ZvN|exact PuI))|(refine js ?_;((apply Zsb;rfl;rfl;(focus repeat' constructor))))|refine walk1 ?_)
    refine⟨⟨x::seen,lk.target,mdel mp x,f⟩,OA,⟨hd2.del _,fun y=>?_,hi,OA⟩,SFA,SOA⟩
    dsimp only
    rw[ZmC x y hd2,hm y,Zim]
    by_cases e:x=y
    ·subst e;simp
    ·rw[if_neg (fun h=>e h.symm),show decide (x=y)=false from dF_ e,Bool.false_or]
end Go.Proofs.YtpipekfmecikmaaGreatDoor
namespace Go.Wk
open Go Go.RowKit
def cutI (l:List UInt8):Option Nat:=l.findIdx? (·==47)
theorem ZiV:∀ (l a:List UInt8),Zer l a=match cutI l with|none=>[a++l]|some i=>(a++l.take i)::Zer (l.drop (i+1)) []
 | [],a=>by simp[Zer,cutI]
 | c::l,a=>by
  rw[Zer]
  by_cases h:c=47
  ·subst h
   simp[cutI,List.findIdx?_cons]
  ·rw[if_neg h,ZiV l]
   have b:(c==47)=false:=by simpa using h
   simp only[cutI,List.findIdx?_cons,b]
   cases h2:l.findIdx? (·==47) with
   | none=>simp
   | some i=>simp
theorem ZAL {l:List UInt8}{i:Nat}(h:cutI l=some i):i<l.length:=(List.findIdx?_eq_some_iff_findIdx_eq.1 h).1
theorem Zm5 (s:ByteArray):firstIdx s 47=match cutI s.data.toList with|none => -1|some i=>(i:Int):=by
 unfold firstIdx cutI
 have b:s.size=s.data.toList.length:=rfl
 have key:∀ (l:List UInt8) (f:Nat->UInt8),(∀ i,i<l.length->f i=l.getD i 0)->(List.range l.length).find? (fun i=>f i==47)=l.findIdx? (·==47):=by
  intro l
  induction l with
  | nil=>intro f _;rfl
  | cons c l ih =>
   intro f d
   rw[List.length_cons,List.range_succ_eq_map,List.find?_cons,List.findIdx?_cons]
   have e:f 0=c:=by rw[d 0 (by simp)];rfl
   rw[e]
   cases hc:c==47 with
   | true=>rfl
   | false =>
    rw[List.find?_map]
    have:=ih (fun i=>f (i+1)) (fun i a=>by rw[d (i+1) (by simp;omega)];rfl)
    simp only[Function.comp_def]at this ⊢
    rw[show(fun x:Nat=>f (Nat.succ x)==47)=fun i=>f (i+1)==47 from rfl,this]
    cases l.findIdx? (·==47) <;> rfl
 have g:=key s.data.toList (fun i=>s[i]!) (fun i a=>by
  have:i<s.size:=a
  rw[List.getD_eq_getElem?_getD,List.getElem?_eq_getElem a]
  simp[getElem!_def,this]
  rfl)
 rw[b]
 rw[g]
 cases s.data.toList.findIdx? (·==47) <;> rfl
end Go.Wk
namespace Go.Proofs.YtpipekfmecikmaaGreatDoor
open Go Go.RowKit Go.Wk Tryz
attribute [local irreducible] W RL Does Zaq Zai retQ Calls Pu Stp RD Qy Ay Zaj
theorem ZAz (args:Array Value)(w:World):(callFunc 318 args).run prog w=((Extern.BytealgIndexByte.indexByte args).run prog w).andThen fun v w' => .ok (.value v) w':=by
 rw[run_callFunc_extern func318 (by kernel_rfl) (by kernel_rfl) (by kernel_rfl) (e:=Extern.BytealgIndexByte.indexByte) (by kernel_rfl)]
section
variable {n:Nat}{wr:World}{fr:Fr}{O:List It}{ty:TypeId}{pos:String}{af:Array Edge}{dst:Option Tmp}{g:Option (Nat × Bool)}{Kp:Value->List It->Prop}
theorem ZA8 {x y:Operand}{l:Array TypeId}{s:ByteArray}{c:Int}(i:ev fr x=some (.string s))(j:ev fr y=some (.int .u8 c))(k:Kp (.int .i64 (firstIdx s c.toNat.toUInt8)) O) :
  Stp prog n wr fr O ⟨dst,.call ⟨.value (.func 318),#[x,y],l⟩,ty,pos,af,g⟩ Kp :=
 ZbZ fun a w b=>by
  refine⟨_,w,O,?_,b.old,b.own,k⟩
  have e:=b.sim.ev i
  have f:=b.sim.ev j
  have h:a.eval (.func 318) = .func (.func 318) #[] #[]:=rfl
  have d:=ZAz #[.string s,.int .u8 c] w
  rw[run_indexByte_string,Result.andThen_ok]at d
  simp[execOp,resolve,h,Deferred.ofValue,invoke,d,e,f]
end
theorem ZwU (s:ByteArray)(c:Int)(w:World):Does prog 295 [.string s,.int .u8 c] w (fun v O=>v = .int .i64 (firstIdx s c.toNat.toUInt8)/\O=[]):=by
 refine Zaa func295 rfl rfl rfl rfl ?_
 repeat (first|(refine js ?_;(apply ZA8;rfl;rfl))|refine walk ?_)
 exact rtA
theorem Zm4 (s:ByteArray)(c:UInt8)(h:(⟨#[c]⟩:ByteArray)=s):firstIdx s c=0:=by
 subst h
 have a:(⟨#[c]⟩:ByteArray).size=1:=rfl
 unfold firstIdx
 rw[a]
 have:(⟨#[c]⟩:ByteArray)[0]! = c:=rfl
 simp[List.range_succ,this]
theorem Zvc {G:Prop}(h:G:=by(apply Zci;rfl;rfl;exact hb)):G:=h
theorem ZwV (s:ByteArray)(c:UInt8)(w:World):Does prog 285 [.string s,.string ⟨#[c]⟩] w (fun v O=>v = .int .i64 (firstIdx s c)/\O=[]):=by
 have f:((c.toNat:Int)).toNat.toUInt8=c:=by simp
 have d:=fun w'=>ZwU s (c.toNat:Int) w'
 rw[f]at d
 have b:(0:Int)<((⟨#[c]⟩:ByteArray).size:Int):=show(0:Int)<1 by decide
 by_cases a:(⟨#[c]⟩:ByteArray)=s
 ·have hb:decide ((⟨#[c]⟩:ByteArray)=s)=true:=dT_ a
  have e:=Zm4 s c a
  refine Zaa func285 rfl rfl rfl rfl ?_
  repeat (first|(apply RL_pu;rfl;exact Zvc)|refine walk1 ?_)
  exact ret_1 _ [] (.tmp rfl) .nil ⟨by rw[e],rfl⟩
 ·have hb:decide ((⟨#[c]⟩:ByteArray)=s)=false:=dF_ a
  refine Zaa func285 rfl rfl rfl rfl ?_
  repeat (first|(apply RL_pu;rfl;(first|exact Zvc|(apply ZnJ;rfl;rfl;decide;exact b)))|(refine js ?_;(refine Zab (fun w' _=>d w') ?_))|refine walk1 ?_)
  exact rtA
theorem ZoH (s:ByteArray)(c:UInt8)(w:World):Does prog 315 [.string s,.string ⟨#[c]⟩] w (fun v O=>v = .int .i64 (firstIdx s c)/\O=[]):=by
 have a:=fun w'=>ZwV s c w'
 refine Zaa func315 rfl rfl rfl rfl ?_
 repeat (first|(refine js ?_;(refine Zab (fun w' _=>a w') ?_))|refine walk ?_)
 exact rtA
def itO (b1 b2 b3:Nat)(s p:ByteArray):List It:=[.blk b1 [.string s] 9,.blk b2 [.string p] 9,.blk b3 [.int .i64 0] 3]
def itV (b1 b2 b3:Nat):Value := .func (.func 313) #[] #[.pointer (some ⟨b2,0,none⟩),.pointer (some ⟨b1,0,none⟩),.pointer (some ⟨b3,0,none⟩)]
theorem ZkP (s p:ByteArray)(w:World):Does prog 291 [.string s,.string p,.int .i64 0] w (fun v O=>∃ c d e,v=itV c d e/\O=itO c d e s p):=by
 refine Zaa func291 rfl rfl rfl rfl ?_
 apply W_seq
 apply W_region
 apply RL_st;rfl;(apply Stp_boxNf;rfl;(focus repeat (first|exact Nf.nil|apply Nf.cons));intro c)
 apply RL_st;rfl;(apply Stp_boxNf;rfl;(focus repeat (first|exact Nf.nil|apply Nf.cons));intro d)
 apply RL_st;rfl;(apply Stp_boxNf;rfl;(focus repeat (first|exact Nf.nil|apply Nf.cons));intro e)
 repeat (refine walk ?_)
 exact ret_1 _ (itO c d e s p) (.tmp rfl) SOA ⟨c,d,e,rfl,rfl⟩
theorem ZlD (s p:ByteArray)(w:World):Does prog 275 [.string s,.string p] w (fun v O=>∃ c d e,v=itV c d e/\O=itO c d e s p):=by
 have f:=fun w'=>ZkP s p w'
 refine Zaa func275 rfl rfl rfl rfl ?_
 repeat (first|(refine js ?_;(apply Zad (h:=fun w' _ _=>f w');rfl;rintro v O' ⟨c,d,e,rfl,rfl⟩))|refine walk ?_)
 exact ret_1 _ (itO c d e s p) (.tmp rfl) SOA ⟨c,d,e,rfl,rfl⟩
