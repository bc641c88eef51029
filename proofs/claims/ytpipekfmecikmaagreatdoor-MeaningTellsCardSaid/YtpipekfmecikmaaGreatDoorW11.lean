/- Parts of the proof. -/
import Derived.Test.YtpipekfmecikmaaGreatDoorW10
import Derived.RangeFuncIn
import Derived.RangeFuncLeaves
import Derived.RangeFuncRecord
import Derived.RangeFuncSeq
import Derived.TacticsIn
import Derived.ControlIn
import Derived.RangeFuncCalls
import Derived.Maps.RangeRun
import Derived.ChangeMaps4
import Derived.Test.YtpipekfmecikmaaGreatDoorW07
import Derived.Test.YtpipekfmecikmaaGreatDoorW08
set_option maxHeartbeats 4000000
set_option linter.unusedVariables false
set_option linter.unusedSimpArgs false
namespace Go.Proofs.YtpipekfmecikmaaGreatDoor
open Go Go.RowKit Go.Wk
attribute [local irreducible] W RL Does Zat Zaj retQ Calls Pu Stp RD Qy Ay Zak
theorem ZgX {l:List DRule}{e:Zac}{r:DRule}(h:l[e.rule.toNat]?=some r):ruE l e=r:=by
 unfold ruE
 rw[List.getD_eq_getElem?_getD,h];rfl
def stV (x:Int × ByteArray):Value := .agg #[.int .i64 x.1,.string x.2]
theorem Zu2 {G:Prop}(h:G:=by(first|exact PuI|(apply Pu_loadO1;rfl;first|exact hca 9 _ rfl|exact hca 10 _ rfl))):G:=h
theorem ZxQ {G:Prop}(h:G:=by first|(apply Qy_y;rfl;exact Zu2)|exact QyA):G:=h
theorem ZBG {G:Prop}(h:G:=by repeat (first|exact QF.nil|(apply QF.mk;rfl;rfl;decide +kernel;exact ZxQ))):G:=h
theorem ZcE (A:Option Addr)(c:Nat)(l:List DRule)(e:Zac)(w:World)(a:RdSl w A c DRule.enc 11 l)(g:0<=e.rule/\e.rule<l.length) :
  Does Tryz.prog 225 [.slice A l.length c,.agg e.enc.toArray] w (fun v O=>v=stV (behS l e)/\O=[]):=by
 obtain⟨r,d⟩:∃ r,l[e.rule.toNat]?=some r:=⟨_,List.getElem?_eq_getElem (by omega)⟩
 have j:=a.le
 have b:=a.cap
 simp only[maxLen]at b
 unfold behS
 rw[ZgX d]
 obtain⟨hna,hca⟩:=a.rd _ _ d
 obtain⟨y,q,n⟩:=e
 dsimp only at g d hca
 show Does _ _ [_,.agg #[.int .i64 y,.int .i64 q,.int .i64 n]] w _
 refine Zaa Tryz.func225 rfl rfl rfl rfl ?_
 repeat (first|(apply RL_pu;rfl;exact Zu2)|(apply RD_Q;rfl;rfl;decide +kernel;rfl;rfl;exact ZxQ)|refine walk1 ?_|(refine jn ?_;(try intro F);(first|(refine bx ?_;intro f)|(refine stA ?_)|(apply Zad;first|exact Zu2|exact PuA));first|refine⟨_,EndsA,ZBG,?_⟩|refine fin ?_)|(apply RD_W;rfl;intro f))
 exact ret_1 _ [] (.cellB rfl (by repeat' constructor) rfl rfl) .nil ⟨rfl,rfl⟩
theorem Zo2 (A:Option Addr)(c:Nat)(l:List DRule)(w:World)(f:RdSl w A c DRule.enc 11 l):Does Tryz.prog 222 [.slice A l.length c] w (fun v O=>v = .int .i64 (max (Zag l) (-10800))/\O=[]):=by
 have s:=f.le
 have i:=f.cap
 unfold maxLen at i
 generalize hres:Zag l=res
 unfold Zag at hres
 have q:(if res < -10800 then -10800 else res)=max res (-10800):=by split <;> omega
 refine Zaa Tryz.func222 rfl rfl rfl rfl ?_
 repeat (first|(refine js ?_;(refine bx ?_;intro e))|refine walk ?_)
 refine Zai [(6,_),(7,_)] [] (fun g:Nat × Int=>[(3,.int .i64 g.2),(8,.int .i64 g.1)]) (fun _=>[]) (fun g=>g.1<=l.length/\(l.drop g.1).foldl (fun m r=>min m r.save) g.2=res) (fun g=>l.length - g.1) (0,0) SFA SOA ⟨Nat.zero_le _,hres⟩ ?_
 rintro⟨k,m⟩ ⟨hk,hi⟩
 dsimp only at hk hi ⊢
 repeat (first|(refine js ?_;(refine bx ?_;intro e))|refine walk ?_)
 refine Zaf rfl (fun h=>?_) (fun h=>?_)
 ·have d:k<l.length:=by simpa using h
  obtain⟨hna,hca⟩:=f.rd k _ (List.getElem?_eq_getElem d)
  rw[Zah d]at hi
  generalize l[k]=r at *
  obtain⟨z,fr,to,y,⟨u,x,dd⟩,⟨cs,t⟩,sv,le⟩:=r
  simp only[DRule.enc,List.foldl_cons]at hca hi
  repeat (first|(apply RL_pu;rfl;(first|exact PuI|(apply ZgO;rfl;rfl)))|(refine js ?_;(refine bx ?_;intro e))|refine walk1 ?_)
  rw[show(if sv<m then sv else m)=min m sv by split <;> omega]
  exact⟨(k+1,min m sv),OA,⟨OA,hi⟩,SFA,.nil⟩
 ·have j:k=l.length:=by
   have:=of_decide_eq_false h
   omega
  subst j
  rw[List.drop_length]at hi
  obtain rfl:m=res:=hi
  repeat (first|(apply RL_pu;rfl;(apply Zds;rfl;rfl;exact q))|(refine js ?_;(refine bx ?_;intro e))|refine walk1 ?_)
  exact rtA
theorem ZyJ {G:Prop}(h:G:=by(first|(apply Zaw;rfl;rfl;exact b1)|(apply Zay;rfl;rfl;exact b2))):G:=h
theorem Zwf (a b:Int)(c : -4000000000000000000<=a/\a<=4000000000000000000)(d : -4000000000000000000<=b/\b<=4000000000000000000)(w:World):Does Tryz.prog 166 [.int .i64 a,.int .i64 b] w (fun v O=>v = .tuple #[.int .i64 (a - b),.bool true]/\O=[]):=by
 refine Zaa Tryz.func166 rfl rfl rfl rfl ?_
 by_cases h:0<b
 ·have b1:decide (a - b<a)=true:=decide_eq_true (by omega)
  have b2:decide (0<b)=true:=decide_eq_true h
  repeat (first|refine und ?_|(apply RL_pu;rfl;exact ZyJ)|refine walk1 ?_)
  exact rtB
 ·have b1:decide (a - b<a)=false:=decide_eq_false (by omega)
  have b2:decide (0<b)=false:=decide_eq_false h
  repeat (first|refine und ?_|(apply RL_pu;rfl;exact ZyJ)|refine walk1 ?_)
  exact rtB
theorem ZeV (Z:It)(x t:Int)(c d:Nat)(wr:World)(hx : -2000000000000000000<=x/\x<=2000000000000000000)(f : -2000000000000000000<=t/\t<=2000000000000000000) :
  Zak Tryz.prog 221 [.int .i64 x,.pointer (some ⟨c,0,none⟩),.pointer (some ⟨d,0,none⟩)] wr [Z,.blk c [.int .i64 t] 2,.blk d [.bool true] 4] (fun v O'=>v = .tuple #[]/\O'=[Z,.blk c [.int .i64 (t - x)] 2,.blk d [.bool true] 4]):=by
 have e:=fun w'=>Zwf t x (by omega) (by omega) w'
 refine Zbz Tryz.func221 rfl rfl rfl rfl ?_
 repeat (first|(refine js ?_;(refine Zab (fun w' _=>e w') ?_))|refine walk ?_)
 exact ZzH [Z,.blk c [.int .i64 (t - x)] 2,.blk d [.bool true] 4] SOA ⟨rfl,rfl⟩
end Go.Proofs.YtpipekfmecikmaaGreatDoor
namespace Go.Wk
open Go Go.RowKit
def WF (F:Fence):Prop:=F=Fence.wide\/∃ l,F=Fence.wide.inRound l
theorem WF.fn {F:Fence}(h:WF F)(f:FuncId):F.fn f:=by rcases h with rfl|⟨l,rfl⟩ <;> trivial
theorem WF.depth {F:Fence}(h:WF F):F.depth=none:=by rcases h with rfl|⟨l,rfl⟩ <;> rfl
theorem WF.calls {F:Fence}(h:WF F){n:Nat}{P:Program}{f:FuncId}{args:Array Value}{w:World}{R:Ending->World->Prop}(a:Calls P f args w R):CallsIn F n P f args w R:=by
 rcases h with rfl|⟨l,rfl⟩
 ·exact callsIn_wide.2 a
 ·exact CallsIn.inRound l (callsIn_wide.2 a)
def calm:Result Next->Prop
 | .ok (.value _) _=>True
 | .ok .skip _=>True
 | .ok (.enter _ _) _=>True
 | .halt _ _=>True
 | _=>False
theorem Zsv {F:Fence}(d:WF F){n:Nat}{P:Program}{o:Oper}{a a2:Act}{w:World}{K K2:Act->World->Prop}{Q Q2:Exit->Act->World->Prop}(b:a2.eval=a.eval)(l:∀ c,o.op ≠ .defer c)(k:calm ((execOp a.eval o).run P w))(h:o.wp P a w K Q)(i:∀ e a w,¬ Q e a w)
  (g:∀ v w',K (a.put o.dst v) w'->K2 (a2.put o.dst v) w'):o.wpIn F n P a2 w K2 Q2:=by
 refine⟨fun f _=>d.fn f,?_⟩
 rw[Oper.semAt_eq _ _ _ l,b]
 unfold Oper.wp at h
 generalize (execOp a.eval o).run P w=r at *
 cases r with
 | ok nx w' =>
  cases nx with
  | value v=>exact g _ _ h
  | skip=>exact g _ _ h
  | enter f args =>
   rw[Oper.upon_enter]at h
   rw[Oper.uponIn_enter]
   refine⟨fun j=>(by rw[d.depth]at j;cases j),(d.calls h).mono ?_⟩
   intro e m b
   cases e with
   | returned v=>exact g _ _ b
   | panicked c=>exact(i _ _ _ b).elim
   | outgrown=>exact b.elim fun a h=>h.elim fun w h=>(i _ _ _ h).elim
  | _=>exact k.elim
 | halt x w' =>
  cases x with
  | panic v=>exact(i _ _ _ h).elim
  | _=>exact h.elim
section
variable {F:Fence}{P:Program}{n:Nat}{wr:World}{ops:Array Oper}{rest:List Oper}{K:Fr->List It->Prop}{fr:Fr}{O:List It}{ty:TypeId}{pos:String}{af:Array Edge}{D:List Deferred}
def actD (D:List Deferred)(a:Act):Act:={ a with defers:=D }
def ZCd (D:List Deferred)(n:Nat)(wr:World)(K:Fr->List It->Prop):Exit->Act->World->Prop:=fun e a w=>e = .normal/\a.defers=D/\∃ fr O,St n wr fr O (actD [] a) w/\K fr O
def RLI (F:Fence)(D:List Deferred)(P:Program)(n:Nat)(wr:World)(ops:Array Oper)(l:List Oper)(K:Fr->List It->Prop)(fr:Fr)(O:List It):Prop :=
 ∀ a w,St n wr fr O a w->wpListIn F 0 P ops (ZCd D n wr K) l (actD D a) w
theorem Zf4 {a:Act}{fr:Fr}{w:World}(h:St n wr fr O a w):actD [] (actD D a)=a:=by
 have:=h.sim.defers
 cases a
 simp only at this
 subst this
 rfl
theorem ZeZ (a:Act)(d:Option Tmp)(v:Value):(actD D a).put d v=actD D (a.put d v):=by cases d <;> rfl
theorem Zbq (h:K fr O):RLI F D P n wr ops [] K fr O:=fun a w b=>⟨rfl,rfl,fr,O,by rw[Zf4 b];exact b,h⟩
theorem Zdb (l:WF F){d:Nat}{j:Op}{v:Value}(o:Nat.ble (d+1) n=true)(g:∀ c,j ≠ .defer c)(h:Pu P n wr fr O j ty v)(k:RLI F D P n wr ops rest K ((d,v)::fr) O) :
  RLI F D P n wr ops (⟨some d,j,ty,pos,af,none⟩::rest) K fr O:=by
 intro a w f
 have b:=h a w f (some d) pos af none
 refine wpListIn_plain rfl fun K' m=>Zsv (a:=a) (K:=fun x w=>x=a.put (some d) v/\St n wr ((d,v)::fr) O x w) (Q:=fun _ _ _=>False) l rfl g (by rw[b];trivial) ?_ (fun _ _ _ h=>h) ?_
 ·unfold Oper.wp
  rw[b,Oper.upon_value]
  exact⟨rfl,f.sim.put o v,f.old,f.own⟩
 ·rintro u w' ⟨e,i⟩
  rw[ZeZ]
  exact m _ _ (k _ _ (e▸i))
theorem Zb7 (m:WF F){b:Option Tmp}{j:Op}(q:∀ d,b=some d->Nat.ble (d+1) n=true)(l:∀ c,j ≠ .defer c)(p:∀ a w,St n wr fr O a w->calm ((execOp a.eval ⟨b,j,ty,pos,af,none⟩).run P w))
  (h:Stp P n wr fr O ⟨b,j,ty,pos,af,none⟩ fun v O'=>RLI F D P n wr ops rest K (updF fr b v) O'):RLI F D P n wr ops (⟨b,j,ty,pos,af,none⟩::rest) K fr O:=by
 intro a w i
 refine wpListIn_plain rfl fun K' o=>Zsv (a:=a) (K:=fun x w=>∃ v O',x=a.put b v/\Bel wr.heap.size wr w/\Zaz wr.heap.size O' w/\RLI F D P n wr ops rest K (updF fr b v) O') (Q:=fun _ _ _=>False) m rfl l (p a w i) ?_ (fun _ _ _ h=>h) ?_
 ·exact h a w i _ _ fun v O' w' f g k=>⟨v,O',rfl,f,g,k⟩
 ·rintro u w' ⟨v,O',e,f,g,k⟩
  rw[ZeZ]
  refine o _ _ (k _ _ ?_)
  show St n wr _ O' (a.put b u) w'
  rw[e]
  cases b with
  | none=>exact⟨i.sim,f,g⟩
  | some d=>exact⟨i.sim.put (q d rfl) v,f,g⟩
theorem ZeW {b:Option Tmp}{g:Option (Nat × Bool)}{f:FuncId}{c:Operand}{xs:List Operand}{h:Array TypeId}{us cs:List Value}[Body P f]{a:Act}{w:World}(e:St n wr fr O a w)(d:ev fr c=some (.func (.func f) us.toArray cs.toArray)) :
  calm ((execOp a.eval ⟨b,.call ⟨.value c,xs.toArray,h⟩,ty,pos,af,g⟩).run P w):=by
 simp[execOp,resolve,e.sim.ev d,Deferred.ofValue,invoke,ZbR,calm]
theorem ZdE {b:Option Tmp}{g:Option (Nat × Bool)}{t:TypeId}{x y:Operand}(a:Act)(w:World):calm ((execOp a.eval ⟨b,.store t x y,ty,pos,af,g⟩).run P w):=by
 simp only[execOp,Sem.run_bind]
 generalize (Instr.storeAt t (a.eval x) (a.eval y)).run P w=r
 cases r <;> simp[calm,Result.andThen]
theorem Zje {dst:Option Tmp}{f:Op}{j:Nat}{b:Bool}{e:Oper}{d:Nat}(i:ops[j]?=some e)(h:e.dst=some d)(g:look fr d=some (.bool b))
  (k:RLI F D P n wr ops (⟨dst,f,ty,pos,af,none⟩::rest) K fr O):RLI F D P n wr ops (⟨dst,f,ty,pos,af,some (j,b)⟩::rest) K fr O:=by
 intro a w c
 have:=k a w c
 have l:yielded ops (actD D a).tmps j=some b:=by
  show yielded ops a.tmps j=some b
  simp[yielded,i,h,c.sim.at_ d _ g]
 simp only[wpListIn,Region.wanted,l,if_true,beq_self_eq_true]at this ⊢
 exact this
theorem Zno (o:WF F){c:Nat}{m:Op}{j:Nat}{b e:Bool}{l:Oper}{d:Nat}(r:ops[j]?=some l)(q:l.dst=some d)(p:look fr d=some (.bool e))(i:e = !b)(h:Nat.ble (c+1) n=true)
  (k:RLI F D P n wr ops rest K ((c,undef)::fr) O):RLI F D P n wr ops (⟨some c,m,ty,pos,af,some (j,b)⟩::rest) K fr O:=by
 intro a w g
 have:=k (a.put (some c) undef) w ⟨g.sim.put h undef,g.old,g.own⟩
 have t:yielded ops (actD D a).tmps j=some e:=by
  show yielded ops a.tmps j=some e
  simp[yielded,r,q,g.sim.at_ d _ p]
 have s:Region.wanted (⟨some c,m,ty,pos,af,some (j,b)⟩:Oper) (yielded ops (actD D a).tmps)=false:=by
  subst i
  simp[Region.wanted,t]
 simp only[wpListIn,s]
 exact⟨fun f _=>o.fn f,by rw[ZeZ];exact this⟩
def ZwF (D:List Deferred)(n:Nat)(wr:World)(Q:Exit->Fr->List It->Prop):Exit->Act->World->Prop:=fun e a w=>a.defers=D/\∃ fr O,St n wr fr O (actD [] a) w/\Q e fr O
def WI (F:Fence)(D:List Deferred)(P:Program)(n:Nat)(wr:World)(c:Code)(Q:Exit->Fr->List It->Prop)(fr:Fr)(O:List It):Prop :=
 ∀ a w,St n wr fr O a w->c.wpIn F 0 P (ZwF D n wr Q) (actD D a) w
theorem ZeG {a:Act}(h:a.defers=D):actD D (actD [] a)=a:=by cases a;simp only at h;subst h;rfl
variable {Q:Exit->Fr->List It->Prop}
theorem Zf7 {x y:Code}(h:WI F D P n wr x (Zat (WI F D P n wr y Q) Q) fr O):WI F D P n wr (.seq x y) Q fr O:=by
 intro a w f
 refine wpIn_seq (wpIn_mono (h a w f) ?_)
 rintro e g w' ⟨c,fr',O',b,d⟩
 cases e with
 | normal =>
  have:=d _ w' b
  rw[ZeG c]at this
  exact this
 | _=>exact⟨c,fr',O',b,d⟩
theorem Zjc (h:Q .normal fr O):WI F D P n wr .skip Q fr O:=fun a _ b=>wpIn_skip ⟨rfl,fr,O,by rw[Zf4 b];exact b,h⟩
theorem Zjd (h:Q .ret fr O):WI F D P n wr .ret Q fr O:=fun a _ b=>wpIn_ret ⟨rfl,fr,O,by rw[Zf4 b];exact b,h⟩
theorem Zcg {c:Operand}{x y:Code}{b:Bool}(e:ev fr c=some (.bool b))(i:b=true->WI F D P n wr x Q fr O)(g:b=false->WI F D P n wr y Q fr O):WI F D P n wr (.cond c x y) Q fr O:=by
 intro a w d
 have f:(actD D a).eval c = .bool b:=d.sim.ev e
 exact wpIn_cond_split f (fun h=>i h a w d) (fun h=>g h a w d)
theorem ZbI {g:Nat}{l:List Oper}(h:RLI F D P n wr l.toArray l (Q .normal) fr O):WI F D P n wr (.region g l.toArray false) Q fr O:=by
 intro a w f
 refine wpIn_mono (wpIn_region_lit (h a w f)) ?_
 rintro e i w' ⟨rfl,c,fr',O',b,d⟩
 exact⟨c,fr',O',b,d⟩
def Za7 (l:Nat)(r:Loop):It := .fact (fun k=>k=l) (fun w=>w.heap[l]?=some (.loop r))
def ZcY (b:Nat):It := .fact (fun k=>k=b) (fun w=>w.heap[b]?=some (.deferred (some [])))
theorem Za7.at {l:Nat}{r:Loop}{w:World}(h:(Za7 l r).sat w):w.heap[l]?=some (.loop r):=ZbN h
theorem ZcY.at {b:Nat}{w:World}(h:(ZcY b).sat w):w.heap[b]?=some (.deferred (some [])):=ZbN h
theorem ZdP (w:World)(l:Nat)(o:Obj):(w.putObj l o).heap.size=w.heap.size:=by simp[World.putObj]
theorem ZcL {a:Act}{w:World}{l:Nat}{r r':Loop}{O':List It}(b:St n wr fr O a w)(e:Upd O (Za7 l r) (Za7 l r') O'):St n wr fr O' a (w.putObj l (.loop r')):=by
 have d:=b.own.inb _ e.mem l rfl
 refine⟨b.sim,b.old.trans ⟨⟨rfl,rfl,rfl,by rw[ZdP];exact Nat.le_refl _,fun i c=>World.putObj_heap_other (by omega)⟩⟩,b.own.upd e b.old.size (by rw[ZdP];exact Nat.le_refl _) (fun i _ c=>World.putObj_heap_other c) ?_ (fun i c => .inl c)⟩
 intro w' f
 rw[f l rfl]
 exact World.putObj_heap_same d.2
def Zxt (l:Nat)(r:Loop)(R:Bool->List It->Prop):Exit->Fr->List It->Prop
 | .normal=>fun _ O=>∃ O',Upd O (Za7 l { r with state := .busy }) (Za7 l { r with state := .ready,pending:=none }) O'/\R true O'
 | .ret=>fun _ O=>∃ O',Upd O (Za7 l { r with state := .busy }) (Za7 l { r with state := .done,pending:=some .ret }) O'/\R false O'
 | _=>fun _ _=>False
def Ze0 (P:Program)(l:Nat)(v:Value)(wr:World)(O:List It)(R:Bool->List It->Prop):Prop :=
 ∀ w,Bel wr.heap.size wr w->Zaz wr.heap.size O w->YieldAt Fence.wide 0 P l #[v] w fun e w'=>∃ b O',e = .returned (.bool b)/\Bel wr.heap.size wr w'/\Zaz wr.heap.size O' w'/\R b O'
theorem ZlL {l p:Nat}{r:Loop}{v:Value}{a0:Act}{O1:List It}{R:Bool->List It->Prop}(B:r.params = #[p])(M:r.state = .ready)(N:r.tmps=a0.tmps)(f:Sim n fr a0)(o:Nat.ble (p+1) n=true)
  (u:Upd O (Za7 l r) (Za7 l { r with state := .busy }) O1) {D:Nat} {y:List Oper} (i:r.assign = .region D y.toArray false)
  (I:RLI (Fence.wide.inRound l) [] P n wr y.toArray y (fun fr' O'=>O'=O/\WI (Fence.wide.inRound l) [] P n wr r.body (Zxt l r R) fr' O1) ((p,v)::fr) O):Ze0 P l v wr O R:=by
 intro w G A
 have L:=Za7.at (A.sat _ u.mem)
 have C:=run_yield (P:=P) (args := #[v]) L (by rw[B];rfl)
 rw[B,N]at C
 refine⟨r.fn,_,r.assign,r.body,C,roundIn_of_wpIn trivial ?_⟩
 have s:St n wr ((p,v)::fr) O { tmps:=a0.tmps.setIfInBounds p v,defers:=[] } w:=by
  have:=f.put o v
  refine⟨?_,G,A⟩
  have e:({ tmps:=a0.tmps.setIfInBounds p v,defers:=[] }:Act)=a0.put (some p) v:=by
   have:=f.defers
   simp[Act.put,this]
  rw[e]
  exact this
 rw[i,show Array.foldl (fun tmps (x:Tmp × Value)=>match x with|(t,a)=>tmps.setIfInBounds t a) a0.tmps (#[p].zip #[v])=a0.tmps.setIfInBounds p v by simp]
 refine wpIn_mono (wpIn_region_lit (I _ w s)) ?_
 rintro e Q w' ⟨rfl,J,fr',O',j,rfl,H⟩
 have m:=Za7.at (j.own.sat _ u.mem)
 refine⟨_,run_beginRound m M,?_⟩
 have q:=ZcL j u
 have z:=H _ _ q
 rw[ZeG J]at z
 refine wpIn_mono z ?_
 rintro E a2 S ⟨K,F,O2,d,h⟩
 cases E with
 | normal =>
  obtain⟨O3,c,k⟩:=h
  have g:=Za7.at (d.own.sat _ c.mem)
  have b:=ZcL d c
  exact⟨_,_,run_endRound none g,true,O3,rfl,b.old,b.own,k⟩
 | ret =>
  obtain⟨O3,c,k⟩:=h
  have g:=Za7.at (d.own.sat _ c.mem)
  have b:=ZcL d c
  exact⟨_,_,run_endRound (some .ret) g,false,O3,rfl,b.old,b.own,k⟩
 | exit D=>exact h.elim
 | goto t=>exact h.elim
 | panic ch=>exact h.elim
 | outgrown=>exact h.elim
theorem Zuy {d l:Nat}{j y:Operand}{o:Array TypeId}{v:Value}{R:Bool->List It->Prop}(x:Nat.ble (d+1) n=true)(z:ev fr j=some (.func (.yield l) #[] #[]))(B:ev fr y=some v)(h:Ze0 P l v wr O R)
  (k:∀ b O',R b O'->RLI Fence.wide [] P n wr ops rest K ((d,.bool b)::fr) O'):RLI Fence.wide [] P n wr ops (⟨some d,.call ⟨.value j,#[y],o⟩,ty,pos,af,none⟩::rest) K fr O:=by
 intro a w g
 refine wpListIn_plain rfl fun K' s=>⟨fun f _=>trivial,?_⟩
 obtain⟨fn,tmps,assign,body,C,t⟩:=h w g.old g.own
 have e:actD [] a=a:=by
  have:=g.sim.defers
  cases a;simp only at this;subst this;rfl
 rw[e]
 have i:(Oper.semAt Fence.wide.round a.eval ⟨some d,.call ⟨.value j,#[y],o⟩,ty,pos,af,none⟩).run P w = .ok (.round l fn tmps assign body) w:=by
  rw[Oper.semAt_eq _ _ _ (by intro c u;cases u)]
  simp[execOp,resolve,g.sim.ev z,g.sim.ev B,Deferred.ofValue,invoke,C]
 rw[i,Oper.uponIn_round]
 refine⟨fun A=>(by cases A),t.mono ?_⟩
 rintro m w' ⟨b,O',rfl,p,q,r⟩
 have:=k b O' r (a.put (some d) (.bool b)) w' ⟨g.sim.put x _,p,q⟩
 refine s _ _ ?_
 have m:actD [] (a.put (some d) (.bool b))=a.put (some d) (.bool b):=by rw[<- ZeZ,e]
 rw[m]at this
 exact this
theorem Zut {j:Nat}{l:List Oper}(h:RLI Fence.wide [] P n wr l.toArray l (Q .normal) fr O):W P n wr (.region j l.toArray false) Q fr O:=by
 intro a w g
 have e:actD [] a=a:=by
  have:=g.sim.defers
  cases a;simp only at this;subst this;rfl
 have d:=h a w g
 rw[e]at d
 refine wpIn_wide.1 (wpIn_mono (wpIn_region_lit d) ?_)
 rintro e b w' ⟨rfl,f,fr',O',c,i⟩
 refine⟨fr',O',?_,i⟩
 rw[show b=actD [] b from(by cases b;simp only at f;subst f;rfl)]
 exact c
theorem SubO.trans {A B C:List It}(h:SubO A B)(k:SubO B C):SubO A C:=by
 obtain⟨R1,a⟩:=h.perm
 obtain⟨R2,b⟩:=k.perm
 exact SubO.ofPerm (R:=R1++R2) (b.trans (by rw[<- List.append_assoc];exact a.append_right R2))
theorem ZAR {R:Value->List It->Prop}(O':List It)(a:SubO O' O)(b:R (.tuple #[]) O'):retQ P wr [] R .ret fr O:=⟨[],O',rfl,a,b⟩
theorem Zjb {C d f j l:Nat}{x y g:Operand}{a:Op}{i e:TypeId}{q r:String}{o p:Array Edge}{s:Array TypeId}{u v:Value}{R:Bool->List It->Prop}(D:Nat.ble (d+1) n=true)(E:Nat.ble (f+1) n=true)(F:Nat.ble (j+1) n=true)(m:∀ c,a ≠ .defer c)
  (A:ev fr x=some u) (t:Pu P n wr ((d,u)::fr) O a e v) (z:ev ((f,v)::(d,u)::fr) g=some (.func (.yield l) #[] #[])) (B:ev ((f,v)::(d,u)::fr) y=some v) (w:Ze0 P l v wr O R)
  (k:∀ b O',R b O'->RLI Fence.wide [] P n wr (⟨some d,.move x,i,q,o,none⟩::⟨some f,a,e,r,p,none⟩::⟨some j,.call ⟨.value g,#[y],s⟩,ty,pos,af,none⟩::rest).toArray rest (Q .normal) ((j,.bool b)::(f,v)::(d,u)::fr) O') :
  W P n wr (.region C (⟨some d,.move x,i,q,o,none⟩::⟨some f,a,e,r,p,none⟩::⟨some j,.call ⟨.value g,#[y],s⟩,ty,pos,af,none⟩::rest).toArray false) Q fr O :=
 Zut (Zdb (.inl rfl) D (by intro c h;cases h) (Pu_move A) (Zdb (.inl rfl) E m t (Zuy F z B w k)))
theorem St.allocFact {a:Act}{w:World}(c:St n wr fr O a w)(o:Obj):St n wr fr (.fact (fun k=>k=w.heap.size) (fun w'=>w'.heap[w.heap.size]?=some o)::O) a (w.alloc o):=by
 have e:Bel w.heap.size w (w.alloc o):=(Bel.refl _ _).alloc (Nat.le_refl _) _
 refine⟨c.sim,c.old.trans (e.mono c.old.size),c.own.grow (O':=[_]) e c.old.size ⟨fun i d=>?_,fun i d b f=>?_,List.pairwise_singleton _ _⟩⟩
 ·rw[List.mem_singleton.1 d]
  intro w' g
  rw[g _ rfl]
  exact World.alloc_heap_new w o
 ·rw[List.mem_singleton.1 d]at f
  obtain rfl:b=w.heap.size:=f
  exact⟨Nat.le_refl _,by simp⟩
def Zgu (D:Nat):List Deferred:=[{ target := .collected D,args := #[] }]
def Zhm (fn:FuncId)(tm:Array Value)(p:Tmp)(assign body:Code)(D:Nat):Loop:={ state := .ready,pending:=none,fn:=fn,tmps:=tm,params := #[p],assign:=assign,body:=body,defers:=D }
theorem ZpU {gf:FuncId}[Body P gf]{lb:List Value}{g:Operand}{p:Tmp}{assign body:Code}{Q2:Exit->Act->World->Prop}{a:Act}{w:World}(K:Option Code->List It->Prop)(m:St n wr fr O a w)(C:ev fr g=some (.func (.func gf) #[] lb.toArray))
  (r:∀ fn l D,Zak P gf (.func (.yield l) #[] #[]::lb) wr (Za7 l (Zhm fn a.tmps p assign body D)::ZcY D::O) fun _ O'=>∃ b O2 o,SubO (Za7 l { Zhm fn a.tmps p assign body D with state:=o,pending:=b }::ZcY D::O2) O'/\o ≠ .busy/\K b O2)
  (F:∀ b O2 D w',K b O2->St n wr fr (ZcY D::O2) a w'->match b with|none=>Q2 .normal (actD (Zgu D) a) w'|some c=>c.wp P Q2 (actD (Zgu D) a) w'):(Code.rangeFunc g #[p] assign body).wp P Q2 a w:=by
 refine(wpIn_wide (n:=0)).1 (wpIn_rangeFunc fun fn _=>?_)
 have y:=m.allocFact (.deferred (some []))
 have t:=y.allocFact (.loop (Zhm fn a.tmps p assign body w.heap.size))
 rw[World.size_alloc]at t
 have f:St n wr fr (Za7 (w.heap.size+1) (Zhm fn a.tmps p assign body w.heap.size)::ZcY w.heap.size::O) a ((w.alloc (.deferred (some []))).alloc (.loop (Zhm fn a.tmps p assign body w.heap.size))):=t
 have h:=run_enterLoop_outer (P:=P) (w:=w) fn a.tmps #[p] assign body
 generalize hW1:(w.alloc (.deferred (some []))).alloc (.loop (Zhm fn a.tmps p assign body w.heap.size))=W1 at f
 rw[show(w.alloc (.deferred (some []))).alloc (.loop { state := .ready,pending:=none,fn:=fn,tmps:=a.tmps,params := #[p],assign:=assign,body:=body,defers:=w.heap.size })=W1 from hW1]at h
 refine⟨w.heap.size+1,Zgu w.heap.size,W1,{ target := .fn (.func gf) lb.toArray,args := #[.func (.yield (w.heap.size+1)) #[] #[]] },W1,gf,#[.func (.yield (w.heap.size+1)) #[] #[]]++lb.toArray,W1,h,?_,fun _ _=>trivial,?_,fun E=>(by cases E),?_⟩
 ·have q:a.eval (.const (.func (.yield (w.heap.size+1)) #[] #[])) = .func (.yield (w.heap.size+1)) #[] #[]:=rfl
  simp[resolve,m.sim.ev C,q,Deferred.ofValue]
 ·simp[invoke,ZbR]
 ·refine callsIn_wide.2 ?_
  have u:=r fn (w.heap.size+1) w.heap.size _ f.old f.own
  rw[show(Value.func (.yield (w.heap.size+1)) #[] #[]::lb).toArray = #[.func (.yield (w.heap.size+1)) #[] #[]]++lb.toArray by simp]at u
  refine u.mono ?_
  rintro e H ⟨v,O',rfl,z,A,b,O2,o,k,s,B⟩
  have j:St n wr fr (Za7 (w.heap.size+1) { Zhm fn a.tmps p assign body w.heap.size with state:=o,pending:=b }::ZcY w.heap.size::O2) a H:=⟨m.sim,z,A.sub k⟩
  have G:=Za7.at (j.own.sat _ List.mem_cons_self)
  have d:=ZcL (r':={ Zhm fn a.tmps p assign body w.heap.size with state := .exhausted,pending:=b }) j .here
  have i:=F b O2 w.heap.size _ B ⟨d.sim,d.old,d.own.tail⟩
  refine⟨b,_,run_endLoop G s,?_⟩
  have x:({ a with defers:=Zgu w.heap.size++a.defers }:Act)=actD (Zgu w.heap.size) a:=by
   have:=m.sim.defers
   simp[actD,this]
  rw[x]
  cases b with
  | none=>exact i
  | some c=>exact wpIn_wide.2 i
theorem Zso {f:FuncId}{fn:Func}{c:Code}{args:List Value}{w:World}{R:Ending->World->Prop}(i:P.funcs[f]?=some fn)(g:fn.body=some c)(k:fn.ntmps=n)(d:Nat.ble args.length n=true)
  (h:∀ a,St n w (Zfg 0 args) [] a w->c.wp P (bodyPostM Fence.wide 0 P fn R) a w):Calls P f args.toArray w R:=by
 refine(callsIn_wide (n:=0)).1 (callsIn_of_wp_marks i g trivial ?_)
 refine(wpIn_wide (n:=0)).2 (h _ ?_)
 have e:args.length<=n:=Nat.le_of_ble_eq_true d
 refine⟨⟨rfl,by simp;omega,fun t v j=>?_⟩,Bel.refl _ _,Zaz.nil _ _⟩
 have:=(ZcR args 0 t v j).2
 simp only[Nat.sub_zero]at this
 have b:t<args.length:=(List.getElem?_eq_some_iff.1 this).1
 rw[Array.getElem?_append_left (by simpa using b)]
 simpa using this
theorem Zak.sub {f:FuncId}{args:List Value}{O':List It}{R R':Value->List It->Prop}(h:Zak P f args wr O R)(i:SubO O O')(j:∀ v O,R v O->R' v O):Zak P f args wr O' R' :=
 fun w e g=>(h w e (g.sub i)).mono fun _ _ ⟨v,O1,a,b,c,d⟩=>⟨v,O1,a,b,c,j v O1 d⟩
theorem WI.at {c:Code}{a:Act}{w:World}(h:WI F D P n wr c Q fr O)(b:St n wr fr O a w):c.wpIn F 0 P (ZwF D n wr Q) (actD D a) w:=h a w b
theorem Zqr {i:Nat}{c:Code}(h:WI F D P n wr c (Zaj i Q) fr O):WI F D P n wr (.block i c) Q fr O:=by
 intro a w j
 refine wpIn_block (wpIn_mono (h a w j) ?_)
 rintro e l w' ⟨f,fr',O',b,d⟩
 cases e with
 | exit k =>
  simp only[Exit.inBlock,Zaj]at d ⊢
  split
  ·rename_i g;rw[if_pos g]at d;exact⟨f,fr',O',b,d⟩
  ·rename_i g;rw[if_neg g]at d;exact⟨f,fr',O',b,d⟩
 | _=>exact⟨f,fr',O',b,d⟩
end
open Go Go.RowKit Go.ChangeMaps
def Rng (b r:Nat)(m left:List (ByteArray × Value))(cur:Option (ByteArray × Value))(w:World):Prop :=
 ∃ (es:Array MapEntry) (clock since:Nat) (seen:Array Nat) (c0:Nat),w.heap[b]?=some (.map es clock)/\Zcr m es/\stOk es clock/\(∀ x∈es.toList,x.born<since)/\since<=c0/\since<=clock/\w.heap[r]?=some (.mapIter (some b) since seen c0)/\Zcr left (leftOf es seen) /\
  ∀ kv,cur=some kv->∃ e∈es.toList,∃ s0:Array Nat,seen=s0.push e.born/\c0=clock/\e.key = .string kv.1/\e.val=kv.2
theorem Rng.congr {b r:Nat}{m left:List (ByteArray × Value)}{d:Option (ByteArray × Value)}{w w':World}(h:Rng b r m left d w)(o:w'.heap[b]?=w.heap[b]?)(p:w'.heap[r]?=w.heap[r]?):Rng b r m left d w':=by
 obtain⟨n,a,c,e,l,g,a2,a3,a4,a5,f,i,j,k⟩:=h
 exact⟨n,a,c,e,l,o.trans g,a2,a3,a4,a5,f,p.trans i,j,k⟩
section
variable {P:Program}{n:Nat}{wr:World}{fr:Fr}{O:List It}{ty:TypeId}{pos:String}{af:Array Edge}{dst:Option Tmp}{g:Option (Nat × Bool)}{Kp:Value->List It->Prop}
end
end Go.Wk
namespace Go.Proofs.YtpipekfmecikmaaGreatDoor
open Go Go.RowKit Go.Wk
attribute [local irreducible] W RL Does Zat Zaj retQ Calls Pu Stp RD Qy Ay Zak
theorem Zix (x:ByteArray)(z:DZone):∀ (l:List DZone) (k:Nat),ZaK x (l++[z]) k=(ZaK x l k).or (if z.name=x then some (k+l.length) else none)
 | [],k=>by simp[ZaK]
 | y::l,k=>by
  simp only[List.cons_append,ZaK,Zix x z l]
  split
  ·rfl
  ·rw[List.length_cons,show k+1+l.length=k+(l.length+1) by omega]
theorem Ziy (x:ByteArray)(z:DLink):∀ (l:List DLink) (k:Nat),ZaN x (l++[z]) k=(ZaN x l k).or (if z.name=x then some (k+l.length) else none)
 | [],k=>by simp[ZaN]
 | y::l,k=>by
  simp only[List.cons_append,ZaN,Ziy x z l]
  split
  ·rfl
  ·rw[List.length_cons,show k+1+l.length=k+(l.length+1) by omega]
theorem ZmO (x:ByteArray):∀ (l:List DZone) (k i:Nat),ZaK x l k=some i->k<=i/\i<k+l.length
 | [],_,_,h=>by cases h
 | z::l,k,i,h=>by
  simp only[ZaK]at h
  split at h
  ·simp only[Option.some.injEq]at h;subst h;simp
  ·have:=ZmO x l (k+1) i h;simp only[List.length_cons];omega
theorem ZiA (x:ByteArray):∀ (l:List DLink) (k i:Nat),ZaN x l k=some i->k<=i/\i<k+l.length
 | [],_,_,h=>by cases h
 | z::l,k,i,h=>by
  simp only[ZaN]at h
  split at h
  ·simp only[Option.some.injEq]at h;subst h;simp
  ·have:=ZiA x l (k+1) i h;simp only[List.length_cons];omega
theorem Zj5 {z:DZone}:∀ {l:List DZone} (k:Nat),z∈l->∃ j,ZaK z.name l k=some j
 | y::l,k,h=>by
  simp only[ZaK]
  split
  ·exact⟨_,rfl⟩
  ·rename_i a
   rcases List.mem_cons.1 h with rfl|h
   ·exact absurd rfl a
   ·exact Zj5 (k+1) h
theorem Zj6 {z:DLink}:∀ {l:List DLink} (k:Nat),z∈l->∃ j,ZaN z.name l k=some j
 | y::l,k,h=>by
  simp only[ZaN]
  split
  ·exact⟨_,rfl⟩
  ·rename_i a
   rcases List.mem_cons.1 h with rfl|h
   ·exact absurd rfl a
   ·exact Zj6 (k+1) h
def IxM (m:List (ByteArray × Value))(f:ByteArray->Option Nat):Prop:=∀ x,mget m x=(f x).map fun i:Nat=>Value.int .i64 (i:Int)
theorem IxM.some {m:List (ByteArray × Value)}{f:ByteArray->Option Nat}(h:IxM m f){x:ByteArray}{i:Nat}(a:f x=some i):(mget m x).getD (.int .i64 0) = .int .i64 i/\(mget m x).isSome=true:=by
 rw[h x,a];exact⟨rfl,rfl⟩
theorem IxM.none {m:List (ByteArray × Value)}{f:ByteArray->Option Nat}(h:IxM m f){x:ByteArray}(a:f x=none):(mget m x).getD (.int .i64 0) = .int .i64 0/\(mget m x).isSome=false:=by
 rw[h x,a];exact⟨rfl,rfl⟩
theorem IxM.set {m:List (ByteArray × Value)}{f a:ByteArray->Option Nat}(h:IxM m f){k:ByteArray}{i:Nat}(b:∀ x,a x=if x=k then Option.some i else f x):IxM (mset m k (.int .i64 i)) a:=fun x=>by
 rw[Zeo,b x]
 split
 ·rfl
 ·exact h x
def ZB9 (f:ByteArray->Option Nat)(N:Nat)(v:Value)(O:List It):Prop:=∃ b m,v = .map (some b)/\O=[.mp b m]/\IxM m f/\Nd m/\m.length<=N
structure LG where
 k:Nat
 mp:List (ByteArray × Value)
theorem Zq0 {G:Prop}(h:G:=by(first|exact PuI|(apply ZbU;rfl;rfl;(focus repeat' constructor);exact hv0;exact hc0))):G:=h
theorem Zig (Ar Az Al As:Option Addr)(u s t cs:Nat)(a:DSource)(w:World)(A:Zal w Ar Az Al As u s t cs a)(D:a.zones.length<=1000000) :
  Does Tryz.prog 162 [srcV Ar Az Al As u s t cs a] w (ZB9 (fun x=>ZaK x a.zones 0) a.zones.length):=by
 refine Zaa Tryz.func162 rfl rfl rfl rfl ?_
 repeat (first|(refine js ?_;(first|(apply Zhe;rfl;intro c)|(refine bx ?_;intro c)))|refine walk ?_)
 refine Zai [(3,.map (some c)),(13,.slice Az a.zones.length s),(14,.int .i64 a.zones.length)] [] (fun g:LG=>[(15,.int .i64 g.k)]) (fun g=>[.mp c g.mp]) (fun g=>g.k<=a.zones.length/\IxM g.mp (fun x=>ZaK x (a.zones.take g.k) 0)/\Nd g.mp/\g.mp.length<=g.k) (fun g=>a.zones.length - g.k) ⟨0,[]⟩ SFA SOA ⟨Nat.zero_le _,fun x=>rfl,List.nodup_nil,Nat.le_refl _⟩ ?_
 obtain⟨r,f⟩:∃ r,c=r:=⟨_,rfl⟩
 rw[f]
 clear f c
 rintro⟨k,mp⟩ ⟨hk,hm,hd,hl⟩
 dsimp only at hk hm hd hl ⊢
 repeat (first|(refine js ?_;(refine bx ?_;intro c))|refine walk ?_)
 refine Zaf rfl (fun m=>?_) (fun m=>?_)
 ·simp only[decide_eq_true_eq,Int.ofNat_lt]at m
  obtain⟨hna,y,⟨Ae,C,_,rfl⟩,hca⟩:=A.z k _ (List.getElem?_eq_getElem m)
  have B:=List.take_append_getElem m
  have q:(a.zones.take k).length=k:=by rw[List.length_take];omega
  generalize a.zones[k]=z at *
  have d:=fun x=>Zix x z (a.zones.take k) 0
  rw[B,q]at d
  cases hf:ZaK z.name (a.zones.take k) 0 with
  | none =>
   obtain⟨hv0,hc0⟩:=hm.none hf
   repeat (first|(apply RL_pu;rfl;exact Zq0)|(refine js ?_;(refine bx ?_;intro c))|refine walk1 ?_)
   refine⟨⟨k+1,mset mp z.name (.int .i64 k)⟩,OA,⟨OA,hm.set (k:=z.name) (i:=k) (fun x=>?_),hd.set _ _,?_⟩,SFA,SOA⟩
   ·dsimp only
    rw[d x]
    by_cases e:x=z.name
    ·subst e;simp[hf]
    ·rw[if_neg e,if_neg (fun h=>e h.symm),Option.or_none]
   ·have:=ZkY z.name (.int .i64 (k:Int)) mp
    dsimp only
    omega
  | some j =>
   obtain⟨hv0,hc0⟩:=hm.some hf
   repeat (first|(apply RL_pu;rfl;exact Zq0)|(refine js ?_;(refine bx ?_;intro c))|refine walk1 ?_)
   refine⟨⟨k+1,mp⟩,OA,⟨OA,fun x=>?_,hd,OA⟩,SFA,SOA⟩
   dsimp only
   rw[hm x,d x]
   dsimp only
   by_cases e:z.name=x
   ·subst e;rw[hf];rfl
   ·rw[if_neg e,Option.or_none]
 ·simp only[decide_eq_false_iff_not,Int.ofNat_lt]at m
  rw[List.take_of_length_le (by omega)]at hm
  repeat (first|(refine js ?_;(refine bx ?_;intro c))|refine walk ?_)
  exact ret_1 _ [.mp r mp] (.tmp rfl) SOA ⟨r,mp,rfl,rfl,hm,hd,by omega⟩
theorem ZfN (Ar Az Al As:Option Addr)(t u s cs:Nat)(a:DSource)(w:World)(y:Zal w Ar Az Al As t u s cs a)(B:a.links.length<=1000000) :
  Does Tryz.prog 163 [srcV Ar Az Al As t u s cs a] w (ZB9 (fun x=>ZaN x a.links 0) a.links.length):=by
 refine Zaa Tryz.func163 rfl rfl rfl rfl ?_
 repeat (first|(refine js ?_;(first|(apply Zhe;rfl;intro c)|(refine bx ?_;intro c)))|refine walk ?_)
 refine Zai [(3,.map (some c)),(13,.slice Al a.links.length s),(14,.int .i64 a.links.length)] [] (fun g:LG=>[(15,.int .i64 g.k)]) (fun g=>[.mp c g.mp]) (fun g=>g.k<=a.links.length/\IxM g.mp (fun x=>ZaN x (a.links.take g.k) 0)/\Nd g.mp/\g.mp.length<=g.k) (fun g=>a.links.length - g.k) ⟨0,[]⟩ SFA SOA ⟨Nat.zero_le _,fun x=>rfl,List.nodup_nil,Nat.le_refl _⟩ ?_
 obtain⟨r,f⟩:∃ r,c=r:=⟨_,rfl⟩
 rw[f]
 clear f c
 rintro⟨k,mp⟩ ⟨hk,hm,hd,hl⟩
 dsimp only at hk hm hd hl ⊢
 repeat (first|(refine js ?_;(refine bx ?_;intro c))|refine walk ?_)
 refine Zaf rfl (fun m=>?_) (fun m=>?_)
 ·simp only[decide_eq_true_eq,Int.ofNat_lt]at m
  obtain⟨hna,hca⟩:=y.l.rd k _ (List.getElem?_eq_getElem m)
  have A:=List.take_append_getElem m
  have q:(a.links.take k).length=k:=by rw[List.length_take];omega
  generalize a.links[k]=z at *
  have d:=fun x=>Ziy x z (a.links.take k) 0
  rw[A,q]at d
  cases hf:ZaN z.name (a.links.take k) 0 with
  | none =>
   obtain⟨hv0,hc0⟩:=hm.none hf
   repeat (first|(apply RL_pu;rfl;exact Zq0)|(refine js ?_;(refine bx ?_;intro c))|refine walk1 ?_)
   refine⟨⟨k+1,mset mp z.name (.int .i64 k)⟩,OA,⟨OA,hm.set (k:=z.name) (i:=k) (fun x=>?_),hd.set _ _,?_⟩,SFA,SOA⟩
   ·dsimp only
    rw[d x]
    by_cases e:x=z.name
    ·subst e;simp[hf]
    ·rw[if_neg e,if_neg (fun h=>e h.symm),Option.or_none]
   ·have:=ZkY z.name (.int .i64 (k:Int)) mp
    dsimp only
    omega
  | some j =>
   obtain⟨hv0,hc0⟩:=hm.some hf
   repeat (first|(apply RL_pu;rfl;exact Zq0)|(refine js ?_;(refine bx ?_;intro c))|refine walk1 ?_)
   refine⟨⟨k+1,mp⟩,OA,⟨OA,fun x=>?_,hd,OA⟩,SFA,SOA⟩
   dsimp only
   rw[hm x,d x]
   dsimp only
   by_cases e:z.name=x
   ·subst e;rw[hf];rfl
   ·rw[if_neg e,Option.or_none]
 ·simp only[decide_eq_false_iff_not,Int.ofNat_lt]at m
  rw[List.take_of_length_le (by omega)]at hm
  repeat (first|(refine js ?_;(refine bx ?_;intro c))|refine walk ?_)
  exact ret_1 _ [.mp r mp] (.tmp rfl) SOA ⟨r,mp,rfl,rfl,hm,hd,by omega⟩
theorem Zw1:ZtG Tryz.prog 267:=fun args w=>by
 rw[run_callFunc_extern Tryz.func267 (by kernel_rfl) (by kernel_rfl) (by kernel_rfl) (e:=Extern.MapsClone.clone) (by kernel_rfl)]
theorem Zoy (b:Nat)(m:List (ByteArray × Value))(w:World)(h:MpAt w b m) :
  Does Tryz.prog 218 [.map (some b)] w (fun v O=>∃ a,v = .map (some a)/\O=[.mp a m]):=by
 refine Zaa Tryz.func218 rfl rfl rfl rfl ?_
 repeat (first|(apply RL_pu;rfl;(first|(apply Zpj;rfl)|(apply Zpi;rfl)|(apply Znw;rfl)))|(refine js ?_;(apply Zlt;exact Zw1;rfl;(intro w' c _;exact h.up c (Nat.le_refl _));intro d))|refine walk1 ?_)
 exact ret_1 _ _ (.tmp rfl) (.refl _) ⟨_,rfl,rfl⟩
structure FG where
 seen:List ByteArray
 x:ByteArray
 mp:List (ByteArray × Value)
 f:Nat
theorem Zie (x y:ByteArray)(l:List ByteArray):memB x (y::l)=(decide (y=x)||memB x l):=rfl
theorem Zzr {G:Prop}(h:G:=by(apply Zfj;rfl;rfl;exact h1;exact hv0;exact hc0)):G:=h
theorem ZvJ {G:Prop}(h:G:=by(first|exact Zzr|(apply Zfj;rfl;rfl;exact h2;exact hv1;exact hc1)|(apply ZbU;rfl;rfl;(focus repeat' constructor);exact hv2;exact hc2))):G:=h
theorem Zis (Ar Az Al As:Option Addr)(B C A cs:Nat)(a:DSource)(z t:Nat)(mk m:List (ByteArray × Value))(c:ByteArray)(w:World)(I:Zal w Ar Az Al As B C A cs a)(h1:MpAt w z mk)(h2:MpAt w t m)
  (E:IxM mk fun x=>ZaK x a.zones 0) (u:IxM m fun x=>ZaN x a.links 0) (J:Nd m) (F:m.length<=a.links.length) :
  Does Tryz.prog 161 [srcV Ar Az Al As B C A cs a,.map (some z),.map (some t),.string c] w (fun v O=>v = .tuple #[.int .i64 (ZaJ a (a.links.length+1) [] c).1,.int .i64 (ZaJ a (a.links.length+1) [] c).2]/\O=[]):=by
 obtain⟨q,j⟩:∃ q,ZaJ a (a.links.length+1) [] c=q:=⟨_,rfl⟩
 rw[j]
 refine Zaa Tryz.func161 rfl rfl rfl rfl ?_
 repeat (first|(refine js ?_;(first|(apply Zae (h:=fun w' L _=>Zoy t m w' (h2.up L (Nat.le_refl _)));rfl;rintro v O' ⟨D,rfl,rfl⟩)|(refine bx ?_;intro r)))|refine walk ?_)
 refine Zai [(1,.map (some z)),(2,.map (some t)),(4,.pointer (some ⟨r,0,none⟩)),(10,.map (some D))] [.blk r [.slice Ar a.rules.length B,.slice Az a.zones.length C,.slice Al a.links.length A,.slice As a.shifts.length cs] 27] (fun g:FG=>[(3,.string g.x)]) (fun g=>[.mp D g.mp])
  (fun g=>Nd g.mp/\(∀ x,mget g.mp x=if memB x g.seen then none else mget m x)/\ZaJ a g.f g.seen g.x=q/\g.mp.length<g.f) (fun g=>g.mp.length) ⟨[],c,m,a.links.length+1⟩ SFA SOA ⟨J,fun x=>rfl,j,by dsimp only;omega⟩ ?_
 rintro⟨seen,x,mp,f⟩ ⟨hd2,hm,hi,hf⟩
 dsimp only at hd2 hm hi hf ⊢
 obtain⟨f,rfl⟩:∃ H,f=H+1:=⟨f - 1,by omega⟩
 rw[ZaJ]at hi
 cases hz:ZaK x a.zones 0 with
 | some i =>
  rw[hz]at hi
  obtain⟨hv0,hc0⟩:=E.some hz
  repeat (first|(apply RL_pu;rfl;exact Zzr)|(refine js ?_;(refine bx ?_;intro r))|refine walk1 ?_)
  exact ret_2 _ _ [] (.tmp rfl) (.tmp rfl) .nil ⟨by rw[<- hi] <;> rfl,rfl⟩
 | none =>
  rw[hz]at hi
  obtain⟨hv0,hc0⟩:=E.none hz
  cases hy:ZaN x a.links 0 with
  | none =>
   rw[hy]at hi
   obtain⟨hv1,hc1⟩:=u.none hy
   have d:mget mp x=none:=by
    rw[hm x,u x]
    dsimp only
    rw[hy]
    split <;> rfl
   have hv2:(mget mp x).getD (.int .i64 0) = .int .i64 0:=by rw[d];rfl
   have hc2:(mget mp x).isSome=false:=by rw[d];rfl
   repeat (first|(apply RL_pu;rfl;exact ZvJ)|(refine js ?_;(refine bx ?_;intro r))|refine walk1 ?_)
   exact ret_2 _ _ [] (.tmp rfl) (.tmp rfl) .nil ⟨by rw[<- hi] <;> rfl,rfl⟩
  | some i =>
   rw[hy]at hi
   dsimp only at hi
   obtain⟨hv1,hc1⟩:=u.some hy
   cases hs:memB x seen with
   | true =>
    rw[hs,if_pos rfl]at hi
    have d:mget mp x=none:=by rw[hm x,hs];rfl
    have hv2:(mget mp x).getD (.int .i64 0) = .int .i64 0:=by rw[d];rfl
    have hc2:(mget mp x).isSome=false:=by rw[d];rfl
    repeat (first|(apply RL_pu;rfl;exact ZvJ)|(refine js ?_;(refine bx ?_;intro r))|refine walk1 ?_)
    exact ret_2 _ _ [] (.tmp rfl) (.tmp rfl) .nil ⟨by rw[<- hi] <;> rfl,rfl⟩
   | false =>
    rw[hs,if_neg (by decide)]at hi
    have d:mget mp x=some (.int .i64 i):=by rw[hm x,hs,u x];dsimp only;rw[hy];rfl
    have hv2:(mget mp x).getD (.int .i64 0) = .int .i64 i:=by rw[d];rfl
    have hc2:(mget mp x).isSome=true:=by rw[d];rfl
    have K:=Zp2 x hc2
    have s:i<a.links.length:=by have:=ZiA x a.links 0 i hy;omega
    obtain⟨hna,hca⟩:=I.l.rd i _ (List.getElem?_eq_getElem s)
    rw[List.getElem?_eq_getElem s]at hi
    generalize a.links[i]=lk at *
    simp only[Option.map_some,Option.getD_some]at hi
    repeat (first|(apply RL_pu;rfl;(first|exact ZvJ|exact PuI))|(refine js ?_;(first|(apply Zsk;rfl;rfl;(focus repeat' constructor))|(refine bx ?_;intro r)))|refine walk1 ?_)
    refine⟨⟨x::seen,lk.target,mdel mp x,f⟩,OA,⟨hd2.del _,fun y=>?_,hi,OA⟩,SFA,SOA⟩
    dsimp only
    rw[Zms x y hd2,hm y,Zie]
    by_cases e:x=y
    ·subst e;simp
    ·rw[if_neg (fun h=>e h.symm),show decide (x=y)=false from decide_eq_false e,Bool.false_or]
end Go.Proofs.YtpipekfmecikmaaGreatDoor
namespace Go.Wk
open Go Go.RowKit
def cutI (l:List UInt8):Option Nat:=l.findIdx? (·==47)
theorem ZiW:∀ (l a:List UInt8),Zd9 l a=match cutI l with|none=>[a++l]|some i=>(a++l.take i)::Zd9 (l.drop (i+1)) []
 | [],a=>by simp[Zd9,cutI]
 | c::l,a=>by
  rw[Zd9]
  by_cases h:c=47
  ·subst h
   simp[cutI,List.findIdx?_cons]
  ·rw[if_neg h,ZiW l]
   have b:(c==47)=false:=by simpa using h
   simp only[cutI,List.findIdx?_cons,b]
   cases h2:l.findIdx? (·==47) with
   | none=>simp
   | some i=>simp
theorem ZAa {l:List UInt8}{i:Nat}(h:cutI l=some i):i<l.length:=(List.findIdx?_eq_some_iff_findIdx_eq.1 h).1
theorem ZmS (s:ByteArray):firstIdx s 47=match cutI s.data.toList with|none => -1|some i=>(i:Int):=by
 unfold firstIdx cutI
 have b:s.size=s.data.toList.length:=rfl
 have key:∀ (l:List UInt8) (f:Nat->UInt8),(∀ i,i<l.length->f i=l.getD i 0)->(List.range l.length).find? (fun i=>f i==47)=l.findIdx? (·==47):=by
  intro l
  induction l with
  | nil=>intro f _;rfl
  | cons c l ih =>
   intro f d
   rw[List.length_cons,List.range_succ_eq_map,List.find?_cons,List.findIdx?_cons]
   have e:f 0=c:=by rw[d 0 (by simp)];rfl
   rw[e]
   cases hc:c==47 with
   | true=>rfl
   | false =>
    rw[List.find?_map]
    have:=ih (fun i=>f (i+1)) (fun i a=>by rw[d (i+1) (by simp;omega)];rfl)
    simp only[Function.comp_def]at this ⊢
    rw[show(fun x:Nat=>f (Nat.succ x)==47)=fun i=>f (i+1)==47 from rfl,this]
    cases l.findIdx? (·==47) <;> rfl
 have g:=key s.data.toList (fun i=>s[i]!) (fun i a=>by
  have:i<s.size:=a
  rw[List.getD_eq_getElem?_getD,List.getElem?_eq_getElem a]
  simp[getElem!_def,this]
  rfl)
 rw[b]
 rw[g]
 cases s.data.toList.findIdx? (·==47) <;> rfl
end Go.Wk
namespace Go.Proofs.YtpipekfmecikmaaGreatDoor
open Go Go.RowKit Go.Wk
attribute [local irreducible] W RL Does Zat Zaj retQ Calls Pu Stp RD Qy Ay Zak
theorem Zz0 (args:Array Value)(w:World):(callFunc 318 args).run Tryz.prog w=((Extern.BytealgIndexByte.indexByte args).run Tryz.prog w).andThen fun v w' => .ok (.value v) w':=by
 rw[run_callFunc_extern Tryz.func318 (by kernel_rfl) (by kernel_rfl) (by kernel_rfl) (e:=Extern.BytealgIndexByte.indexByte) (by kernel_rfl)]
section
variable {n:Nat}{wr:World}{fr:Fr}{O:List It}{ty:TypeId}{pos:String}{af:Array Edge}{dst:Option Tmp}{g:Option (Nat × Bool)}{Kp:Value->List It->Prop}
theorem ZAv {x y:Operand}{l:Array TypeId}{s:ByteArray}{c:Int}(i:ev fr x=some (.string s))(j:ev fr y=some (.int .u8 c))(k:Kp (.int .i64 (firstIdx s c.toNat.toUInt8)) O) :
  Stp Tryz.prog n wr fr O ⟨dst,.call ⟨.value (.func 318),#[x,y],l⟩,ty,pos,af,g⟩ Kp :=
 ZbQ fun a w b=>by
  refine⟨_,w,O,?_,b.old,b.own,k⟩
  have e:=b.sim.ev i
  have f:=b.sim.ev j
  have h:a.eval (.func 318) = .func (.func 318) #[] #[]:=rfl
  have d:=Zz0 #[.string s,.int .u8 c] w
  rw[run_indexByte_string,Result.andThen_ok]at d
  simp[execOp,resolve,h,Deferred.ofValue,invoke,d,e,f]
end
theorem ZwN (s:ByteArray)(c:Int)(w:World):Does Tryz.prog 295 [.string s,.int .u8 c] w (fun v O=>v = .int .i64 (firstIdx s c.toNat.toUInt8)/\O=[]):=by
 refine Zaa Tryz.func295 rfl rfl rfl rfl ?_
 repeat (first|(refine js ?_;(apply ZAv;rfl;rfl))|refine walk ?_)
 exact rtA
theorem ZmR (s:ByteArray)(c:UInt8)(h:(⟨#[c]⟩:ByteArray)=s):firstIdx s c=0:=by
 subst h
 have a:(⟨#[c]⟩:ByteArray).size=1:=rfl
 unfold firstIdx
 rw[a]
 have:(⟨#[c]⟩:ByteArray)[0]! = c:=rfl
 simp[List.range_succ,this]
theorem Zu0 {G:Prop}(h:G:=by(apply Zca;rfl;rfl;exact hb)):G:=h
theorem ZwO (s:ByteArray)(c:UInt8)(w:World):Does Tryz.prog 285 [.string s,.string ⟨#[c]⟩] w (fun v O=>v = .int .i64 (firstIdx s c)/\O=[]):=by
 have f:((c.toNat:Int)).toNat.toUInt8=c:=by simp
 have d:=fun w'=>ZwN s (c.toNat:Int) w'
 rw[f]at d
 have b:(0:Int)<((⟨#[c]⟩:ByteArray).size:Int):=show(0:Int)<1 by decide
 by_cases a:(⟨#[c]⟩:ByteArray)=s
 ·have hb:decide ((⟨#[c]⟩:ByteArray)=s)=true:=decide_eq_true a
  have e:=ZmR s c a
  refine Zaa Tryz.func285 rfl rfl rfl rfl ?_
  repeat (first|(apply RL_pu;rfl;exact Zu0)|refine walk1 ?_)
  exact ret_1 _ [] (.tmp rfl) .nil ⟨by rw[e],rfl⟩
 ·have hb:decide ((⟨#[c]⟩:ByteArray)=s)=false:=decide_eq_false a
  refine Zaa Tryz.func285 rfl rfl rfl rfl ?_
  repeat (first|(apply RL_pu;rfl;(first|exact Zu0|(apply Znt;rfl;rfl;decide;exact b)))|(refine js ?_;(refine Zab (fun w' _=>d w') ?_))|refine walk1 ?_)
  exact rtA
theorem ZoG (s:ByteArray)(c:UInt8)(w:World):Does Tryz.prog 315 [.string s,.string ⟨#[c]⟩] w (fun v O=>v = .int .i64 (firstIdx s c)/\O=[]):=by
 have a:=fun w'=>ZwO s c w'
 refine Zaa Tryz.func315 rfl rfl rfl rfl ?_
 repeat (first|(refine js ?_;(refine Zab (fun w' _=>a w') ?_))|refine walk ?_)
 exact rtA
def itO (b1 b2 b3:Nat)(s p:ByteArray):List It:=[.blk b1 [.string s] 9,.blk b2 [.string p] 9,.blk b3 [.int .i64 0] 3]
def itV (b1 b2 b3:Nat):Value := .func (.func 313) #[] #[.pointer (some ⟨b2,0,none⟩),.pointer (some ⟨b1,0,none⟩),.pointer (some ⟨b3,0,none⟩)]
theorem ZkL (s p:ByteArray)(w:World):Does Tryz.prog 291 [.string s,.string p,.int .i64 0] w (fun v O=>∃ c d e,v=itV c d e/\O=itO c d e s p):=by
 refine Zaa Tryz.func291 rfl rfl rfl rfl ?_
 apply W_seq
 apply W_region
 apply RL_st;rfl;(apply Stp_boxNf;rfl;(focus repeat (first|exact Nf.nil|apply Nf.cons));intro c)
 apply RL_st;rfl;(apply Stp_boxNf;rfl;(focus repeat (first|exact Nf.nil|apply Nf.cons));intro d)
 apply RL_st;rfl;(apply Stp_boxNf;rfl;(focus repeat (first|exact Nf.nil|apply Nf.cons));intro e)
 repeat (first|(refine js ?_;(refine bx ?_;intro f))|refine walk ?_)
 exact ret_1 _ (itO c d e s p) (.tmp rfl) SOA ⟨c,d,e,rfl,rfl⟩
theorem Zlu (s p:ByteArray)(w:World):Does Tryz.prog 275 [.string s,.string p] w (fun v O=>∃ c d e,v=itV c d e/\O=itO c d e s p):=by
 have f:=fun w'=>ZkL s p w'
 refine Zaa Tryz.func275 rfl rfl rfl rfl ?_
 repeat (first|(refine js ?_;(apply Zae (h:=fun w' _ _=>f w');rfl;rintro v O' ⟨c,d,e,rfl,rfl⟩))|refine walk ?_)
 exact ret_1 _ (itO c d e s p) (.tmp rfl) SOA ⟨c,d,e,rfl,rfl⟩
end Go.Proofs.YtpipekfmecikmaaGreatDoor
