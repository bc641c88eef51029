/- Parts of the proof. -/
import Derived.OrdersIn
import Derived.Test.YtbjomhdhkpgbaaaGreatDoorV14
import Derived.Test.YtbjomhdhkpgbaaaGreatDoorV15
set_option maxHeartbeats 4000000
set_option linter.unusedVariables false
set_option linter.unusedSimpArgs false
namespace Go.Wk
open Go Go.RowKit
def Zla:Op->Bool
 | .move _ | .assign _ | .pick .. | .alloc _ | .box .. | .build .. | .load .. | .store .. | .binOp .. | .unOp .. | .convert .. | .fieldAddr .. | .field .. | .indexAddr .. | .index .. => true
 | _=>false
theorem ZzF {P:Program}(s:Sem Value)(w:World):calm ((do pure (.value (<- s)):Sem Next).run P w):=by
 simp only[Sem.run_bind]
 generalize s.run P w=r
 cases r <;> simp[calm,Result.andThen]
theorem ZzG {P:Program}(s:Sem Unit)(w:World):calm ((do s;pure .skip:Sem Next).run P w):=by
 simp only[Sem.run_bind]
 generalize s.run P w=r
 cases r <;> simp[calm,Result.andThen]
theorem Zc9 {P:Program}{ρ:Operand->Value}{o:Oper}(h:Zla o.op=true)(w:World):calm ((execOp ρ o).run P w):=by
 obtain⟨dst,op,ty,pos,af,g⟩:=o
 cases op <;> first|(cases h;done)|exact ZzF _ w|exact ZzG _ w|skip
 case move x=>simp[execOp,calm]
 case assign x=>simp[execOp,calm]
 case pick c a b =>
  simp only[execOp,Sem.run_bind]
  generalize (asBool _).run P w=r
  cases r <;> simp[calm,Result.andThen]
theorem Zod {o:Oper}(h:Zla o.op=true):∀ c,o.op ≠ .defer c:=by
 intro c hc
 rw[hc]at h
 cases h
theorem Zlt {F:Fence}(hF:WF F){n:Nat}{P:Program}{o:Oper}{a a2:Act}{w:World}{K K2:Act->World->Prop}{Q Q2:Exit->Act->World->Prop}(he:a2.eval=a.eval)(hd:∀ c,o.op ≠ .defer c)(hc:calm ((execOp a.eval o).run P w))(h:o.wp P a w K Q)(hQ:∀ e a w,Q e a w->e = .normal)
  (hK:∀ v w',K (a.put o.dst v) w'->K2 (a2.put o.dst v) w'):o.wpIn F n P a2 w K2 Q2:=by
 refine⟨fun f _=>hF.fn f,?_⟩
 rw[Oper.semAt_eq _ _ _ hd,he]
 unfold Oper.wp at h
 generalize (execOp a.eval o).run P w=r at *
 cases r with
 | ok nx w' =>
  cases nx with
  | value v=>exact hK _ _ h
  | skip=>exact hK _ _ h
  | enter f args =>
   rw[Oper.upon_enter]at h
   rw[Oper.uponIn_enter]
   refine⟨fun hh=>(by rw[hF.depth]at hh;cases hh),(hF.calls h).mono ?_⟩
   intro e w'' he
   cases e with
   | returned v=>exact hK _ _ he
   | panicked c=>cases hQ _ _ _ he
   | outgrown=>exact he.elim fun a h=>h.elim fun w h=>(by cases hQ _ _ _ h)
  | _=>exact hc.elim
 | halt x w' =>
  cases x with
  | panic v=>cases hQ _ _ _ h
  | _=>exact h.elim
section
variable {F:Fence}{P:Program}{n:Nat}{wr:World}{ops:Array Oper}{K:Fr->List It->Prop}{fr:Fr}{O:List It}{D:List Deferred}
theorem ZyX (hF:WF F)(hc:∀ o∈ops.toList,Zla o.op=true){Q Q2:Exit->Act->World->Prop}(hQ:∀ e a w,Q e a w->e = .normal)(hK:∀ a w,Q .normal a w->Q2 .normal (actD D a) w) :
  ∀ (m:Nat) (listed:Array Bool) (a:Act) (w:World),wpAny P .any ops Q m listed a w->wpAnyIn F 0 P .any ops Q2 m listed (actD D a) w:=by
 intro m
 induction m with
 | zero=>intro listed a w h;exact⟨h.1,hK _ _ h.2⟩
 | succ m ih =>
  intro listed a w h
  refine⟨fun hr=>hK _ _ (h.1 hr),fun i hi=>?_⟩
  have h1:=h.2 i hi
  unfold wpOp at h1
  unfold wpOpIn
  cases ho:ops[i]? with
  | none=>rw[ho]at h1;exact ih _ _ _ h1
  | some o =>
   rw[ho]at h1
   have hco:Zla o.op=true:=hc o (by
    rw[Array.mem_toList_iff]
    exact Array.mem_of_getElem? ho)
   dsimp only at h1 ⊢
   rw[show(actD D a).tmps=a.tmps from rfl]
   by_cases hw:Region.wanted o (yielded ops a.tmps)=true
   ·rw[if_pos hw]at h1 ⊢
    rcases h1 with h1|⟨_,h1⟩
    ·exact Zlt (a:=a) hF rfl (Zod hco) (Zc9 hco w) h1 hQ fun v w' hk=>by
      rw[ZcS]
      exact ih _ _ _ hk
    ·obtain⟨_,_,h2⟩:=h1
     cases hQ _ _ _ h2
   ·rw[if_neg hw]at h1 ⊢
    refine⟨fun f _=>hF.fn f,?_⟩
    rw[ZcS]
    exact ih _ _ _ h1
theorem Zoh {l:List Oper}(hac:acyc l.toArray=true)(h:RD P n wr l.toArray (enum 0 l) [] [] K fr O){a:Act}{w:World}(hs:St n wr fr O a w) :
  wpAny P .any l.toArray (Zkl n wr [] K) l.toArray.size (Array.replicate l.toArray.size false) a { w with drawn:=w.drawn+1 }:=by
 have h1:=h ⟨by simp[ZeE,List.nodup_range'],by simp,trivial,trivial,fun p hp=>by simpa using(Zg0 l 0 p hp).2⟩ l.length [] [] [] [] a { w with drawn:=w.drawn+1 } (List.Sublist.refl _) (by simp)
  (by have h:=hs.drawn (m:=w.drawn+1) (Nat.le_succ _);rw[show O++(ZeR []++[])=O from by simp[ZeR]];exact h) (by simp[Zl2]) (fun k o hk hn=>absurd (by
   have hlt:k<l.length:=by have:=(Array.getElem?_eq_some_iff.1 hk).1;simpa using this
   have:k∈(enum 0 l).map (·.1):=by rw[ZeE];simp;exact hlt
   obtain⟨p,hp,rfl⟩:=List.mem_map.1 this
   exact .inl ⟨p,hp,rfl⟩) hn)
 refine Zkx hac _ _ _ _ _ (by simp) ?_ (by simpa using h1)
 intro j
 unfold Tof
 constructor
 ·rintro(⟨p,hp,rfl⟩|⟨_,hh,_⟩|⟨_,hh,_⟩)
  ·have:=(List.getElem?_eq_some_iff.1 (Zg0 l 0 p hp).2).1
   have h2:p.1<l.length:=by omega
   simp[Array.getD_eq_getD_getElem?,h2]
  ·cases hh
  ·cases hh
 ·intro hj
  have hlt:j<l.length:=by
   rcases Nat.lt_or_ge j l.length with h0|h0
   ·exact h0
   ·rw[Array.getD_eq_getD_getElem?,Array.getElem?_eq_none (by simpa using h0)]at hj
    simp at hj
  have:j∈(enum 0 l).map (·.1):=by rw[ZeE];simp;exact hlt
  obtain⟨p,hp,rfl⟩:=List.mem_map.1 this
  exact .inl ⟨p,hp,rfl⟩
theorem Zwo {Q:Exit->Fr->List It->Prop}{id:Nat}{l:List Oper}(hF:WF F)(hm:P.follows .mixedOrders=true)(hac:acyc l.toArray=true)(hc:l.all (fun o=>Zla o.op)=true)(h:RD P n wr l.toArray (enum 0 l) [] [] (Q .normal) fr O):WI F D P n wr (.region id l.toArray true) Q fr O:=by
 intro a w hs
 have h1:=Zoh hac h hs
 refine wpIn_region_any hm (ZyX hF (fun o ho=>List.all_eq_true.1 hc o (by simpa using ho)) (fun e a w he=>he.1) ?_ _ _ _ _ h1)
 rintro a' w' ⟨_,fr',O',hs',hq⟩
 refine⟨rfl,fr',O',?_,hq⟩
 have hs2:St n wr fr' O' a' w':=by simpa using hs'
 rw[ZdS hs2]
 exact hs2
theorem Zls {l p:Nat}{r:Loop}{v:Value}{a0:Act}{R:Bool->List It->Prop}(hp:r.params = #[p])(hr:r.state = .ready)(ht:r.tmps=a0.tmps)(hsim:Sim n fr a0)(hpn:Nat.ble (p+1) n=true)
  (hmem:Za1 l r∈O) {id:Nat} {la:List Oper} (hass:r.assign = .region id la.toArray false)
  (hb:RLI (Fence.wide.inRound l) [] P n wr la.toArray la (fun fr' O'=>∃ O1,Upd O' (Za1 l r) (Za1 l { r with state := .busy }) O1/\WI (Fence.wide.inRound l) [] P n wr r.body (Zzq l r R) fr' O1) ((p,v)::fr) O):Zcd P l v wr O R:=by
 intro w hB hH
 have hl:=Za1.at (hH.sat _ hmem)
 have hy:=run_yield (P:=P) (args := #[v]) hl (by rw[hp];rfl)
 rw[hp,ht]at hy
 refine⟨r.fn,_,r.assign,r.body,hy,roundIn_of_wpIn trivial ?_⟩
 have hst:St n wr ((p,v)::fr) O { tmps:=a0.tmps.setIfInBounds p v,defers:=[] } w:=by
  have:=hsim.put hpn v
  refine⟨?_,hB,hH⟩
  have e:({ tmps:=a0.tmps.setIfInBounds p v,defers:=[] }:Act)=a0.put (some p) v:=by
   have:=hsim.defers
   simp[Act.put,this]
  rw[e]
  exact this
 rw[hass,show Array.foldl (fun tmps (x:Tmp × Value)=>match x with|(t,a)=>tmps.setIfInBounds t a) a0.tmps (#[p].zip #[v])=a0.tmps.setIfInBounds p v by simp]
 refine wpIn_mono (wpIn_region_lit (hb _ w hst)) ?_
 rintro e a' w' ⟨rfl,hd,fr',O',hs',O1,hu,hW⟩
 have hl':=Za1.at (hs'.own.sat _ hu.mem)
 refine⟨_,run_beginRound hl' hr,?_⟩
 have hs2:=Zdr hs' hu
 have h3:=hW _ _ hs2
 rw[Zc3 hd]at h3
 refine wpIn_mono h3 ?_
 rintro e2 a2 w2 ⟨hd2,fr2,O2,hs3,hq⟩
 cases e2 with
 | normal =>
  obtain⟨O3,hu3,hR⟩:=hq
  have hl3:=Za1.at (hs3.own.sat _ hu3.mem)
  have hs4:=Zdr hs3 hu3
  exact⟨_,_,run_endRound none hl3,true,O3,rfl,hs4.old,hs4.own,hR⟩
 | ret =>
  obtain⟨O3,hu3,hR⟩:=hq
  have hl3:=Za1.at (hs3.own.sat _ hu3.mem)
  have hs4:=Zdr hs3 hu3
  exact⟨_,_,run_endRound (some .ret) hl3,false,O3,rfl,hs4.old,hs4.own,hR⟩
 | exit id=>exact hq.elim
 | goto t=>exact hq.elim
 | panic ch=>exact hq.elim
 | outgrown=>exact hq.elim
theorem Zj3 {Q:Exit->Fr->List It->Prop}{id:Nat}(h:Q (.exit id) fr O):WI F D P n wr (.exit id) Q fr O:=fun a _ hs=>wpIn_exit ⟨rfl,fr,O,by rw[ZdS hs];exact hs,h⟩
end
def Zzi (P:Program)(o:Oper):Prop:=(∀ c,o.op ≠ .defer c)/\∀ (a:Act) (w:World),calm ((execOp a.eval o).run P w)
def Zp4:Op->Bool
 | .extract .. | .lookup .. | .mapUpdate .. | .insert .. | .buildSlice .. | .makeMap .. | .nilCheck .. => true
 | o=>Zla o
theorem ZBk {P:Program}{ρ:Operand->Value}{dst:Option Tmp}{x:Operand}{ty:TypeId}{pos:String}{af:Array Edge}{g:Option (Nat × Bool)}(w:World):calm ((execOp ρ ⟨dst,.nilCheck x,ty,pos,af,g⟩).run P w):=by
 simp only[execOp]
 split
 ·simp[calm,runtimePanic]
 ·simp[calm,runtimePanic]
 ·simp[calm,runtimePanic]
 ·split
  ·simp[calm,runtimePanic]
  ·simp only[Sem.run_bind]
   generalize Sem.run P _ w=r
   cases r with
   | ok b w' =>
    simp only[Result.andThen_ok]
    generalize Sem.run P _ w'=r2
    cases r2 with
    | ok b2 w2 =>
     simp only[Result.andThen_ok]
     split <;> simp[calm,unsupported,Result.andThen]
    | _=>simp[calm,Result.andThen]
   | _=>simp[calm,Result.andThen]
  ·simp[calm]
 ·simp[calm]
theorem ZyV {P:Program}{ρ:Operand->Value}{o:Oper}(h:Zp4 o.op=true)(w:World):calm ((execOp ρ o).run P w):=by
 obtain⟨dst,op,ty,pos,af,g⟩:=o
 cases op <;> first|(cases h;done)|exact ZBk w|exact ZzF _ w|exact ZzG _ w|(refine Zc9 ?_ w;exact h)
theorem Zme {o:Oper}(h:Zp4 o.op=true):∀ c,o.op ≠ .defer c:=by
 intro c hc
 rw[hc]at h
 cases h
inductive Calms (P:Program):List Oper->Prop
 | nil:Calms P []
 | plain {o:Oper} {l:List Oper}:Zp4 o.op=true->Calms P l->Calms P (o::l)
 | call {dst:Option Tmp} {f:FuncId} {xs:List Operand} {ts:Array TypeId} {ty:TypeId} {pos:String} {af:Array Edge} {g:Option (Nat × Bool)} {l:List Oper} [Body P f]:Calms P l->Calms P (⟨dst,.call ⟨.value (.func f),xs.toArray,ts⟩,ty,pos,af,g⟩::l)
 | append {dst:Option Tmp} {x y:Operand} {ts:Array TypeId} {ty:TypeId} {pos:String} {af:Array Edge} {g:Option (Nat × Bool)} {l:List Oper}:Calms P l->Calms P (⟨dst,.call ⟨.builtin .append,#[x,y],ts⟩,ty,pos,af,g⟩::l)
 | len {dst:Option Tmp} {x:Operand} {ts:Array TypeId} {ty:TypeId} {pos:String} {af:Array Edge} {g:Option (Nat × Bool)} {l:List Oper}:Calms P l->Calms P (⟨dst,.call ⟨.builtin .len,#[x],ts⟩,ty,pos,af,g⟩::l)
theorem ZyW {P:Program}{dst:Option Tmp}{x:Operand}{ts:Array TypeId}{ty:TypeId}{pos:String}{af:Array Edge}{g:Option (Nat × Bool)}(a:Act)(w:World):calm ((execOp a.eval ⟨dst,.call ⟨.builtin .len,#[x],ts⟩,ty,pos,af,g⟩).run P w):=by
 simp only[execOp,resolve,invoke,builtin,Sem.run_bind,Sem.run_pure,Result.andThen_ok]
 generalize Sem.run P _ w=r
 cases r <;> simp[calm,Result.andThen]
theorem Calms.all {P:Program}{l:List Oper}(h:Calms P l):∀ o∈l,Zzi P o:=by
 induction h with
 | nil=>intro o ho;cases ho
 | plain h1 _ ih =>
  intro o ho
  rcases List.mem_cons.1 ho with rfl|ho
  ·exact⟨Zme h1,fun a w=>ZyV h1 w⟩
  ·exact ih o ho
 | call _ ih =>
  intro o ho
  rcases List.mem_cons.1 ho with rfl|ho
  ·exact⟨fun c hc=>(by cases hc),fun a w=>Zv1 a w⟩
  ·exact ih o ho
 | append _ ih =>
  intro o ho
  rcases List.mem_cons.1 ho with rfl|ho
  ·exact⟨fun c hc=>(by cases hc),fun a w=>ZjU a w⟩
  ·exact ih o ho
 | len _ ih =>
  intro o ho
  rcases List.mem_cons.1 ho with rfl|ho
  ·exact⟨fun c hc=>(by cases hc),fun a w=>ZyW a w⟩
  ·exact ih o ho
section
variable {F:Fence}{P:Program}{n:Nat}{wr:World}{ops:Array Oper}{K:Fr->List It->Prop}{fr:Fr}{O:List It}{D:List Deferred}
theorem ZnB (hF:WF F){Q Q2:Exit->Act->World->Prop}(hQ:∀ e a w,Q e a w->e = .normal)(hK:∀ a w,Q .normal a w->Q2 .normal (actD D a) w) :
  ∀ (l:List Oper),(∀ o∈l,Zzi P o)->∀ (a:Act) (w:World),wpList P ops Q l a w->wpListIn F 0 P ops Q2 l (actD D a) w
 | [],_,a,w,h=>hK _ _ h
 | o::l,hc,a,w,h=>by
  have hco:=hc o List.mem_cons_self
  have ih:=ZnB hF hQ hK l fun o ho=>hc o (List.mem_cons_of_mem _ ho)
  unfold wpList at h
  unfold wpListIn
  rw[show(actD D a).tmps=a.tmps from rfl]
  by_cases hw:Region.wanted o (yielded ops a.tmps)=true
  ·rw[if_pos hw]at h ⊢
   rcases h with h|⟨_,h⟩
   ·exact Zlt (a:=a) hF rfl hco.1 (hco.2 a w) h hQ fun v w' hk=>by
     rw[ZcS]
     exact ih _ _ hk
   ·obtain⟨_,_,h2⟩:=h
    cases hQ _ _ _ h2
  ·rw[if_neg hw]at h ⊢
   refine⟨fun f _=>hF.fn f,?_⟩
   rw[ZcS]
   exact ih _ _ h
theorem Zbf {Q:Exit->Fr->List It->Prop}{id:Nat}{l:List Oper}(hF:WF F)(hc:Calms P l)(h:RL P n wr l.toArray l (Q .normal) fr O):WI F D P n wr (.region id l.toArray false) Q fr O:=by
 intro a w hs
 refine wpIn_region_lit (ZnB (D:=D) hF (fun e a w he=>he.1) ?_ l hc.all a w (h a w hs))
 rintro a' w' ⟨_,fr',O',hs',hq⟩
 refine⟨rfl,fr',O',?_,hq⟩
 rw[ZdS hs']
 exact hs'
theorem Zwd (hF:WF F)(hc:∀ o∈ops.toList,Zzi P o){Q Q2:Exit->Act->World->Prop}(hQ:∀ e a w,Q e a w->e = .normal)(hK:∀ a w,Q .normal a w->Q2 .normal (actD D a) w) :
  ∀ (m:Nat) (listed:Array Bool) (a:Act) (w:World),wpAny P .any ops Q m listed a w->wpAnyIn F 0 P .any ops Q2 m listed (actD D a) w:=by
 intro m
 induction m with
 | zero=>intro listed a w h;exact⟨h.1,hK _ _ h.2⟩
 | succ m ih =>
  intro listed a w h
  refine⟨fun hr=>hK _ _ (h.1 hr),fun i hi=>?_⟩
  have h1:=h.2 i hi
  unfold wpOp at h1
  unfold wpOpIn
  cases ho:ops[i]? with
  | none=>rw[ho]at h1;exact ih _ _ _ h1
  | some o =>
   rw[ho]at h1
   have hco:Zzi P o:=hc o (by
    rw[Array.mem_toList_iff]
    exact Array.mem_of_getElem? ho)
   dsimp only at h1 ⊢
   rw[show(actD D a).tmps=a.tmps from rfl]
   by_cases hw:Region.wanted o (yielded ops a.tmps)=true
   ·rw[if_pos hw]at h1 ⊢
    rcases h1 with h1|⟨_,h1⟩
    ·exact Zlt (a:=a) hF rfl hco.1 (hco.2 a w) h1 hQ fun v w' hk=>by
      rw[ZcS]
      exact ih _ _ _ hk
    ·obtain⟨_,_,h2⟩:=h1
     cases hQ _ _ _ h2
   ·rw[if_neg hw]at h1 ⊢
    refine⟨fun f _=>hF.fn f,?_⟩
    rw[ZcS]
    exact ih _ _ _ h1
theorem Zy4 {Q:Exit->Fr->List It->Prop}{id:Nat}{l:List Oper}(hF:WF F)(hm:P.follows .mixedOrders=true)(hac:acyc l.toArray=true)(hc:Calms P l)(h:RD P n wr l.toArray (enum 0 l) [] [] (Q .normal) fr O):WI F D P n wr (.region id l.toArray true) Q fr O:=by
 intro a w hs
 have h1:=Zoh hac h hs
 refine wpIn_region_any hm (Zwd hF (fun o ho=>hc.all o (by simpa using ho)) (fun e a w he=>he.1) ?_ _ _ _ _ h1)
 rintro a' w' ⟨_,fr',O',hs',hq⟩
 refine⟨rfl,fr',O',?_,hq⟩
 have hs2:St n wr fr' O' a' w':=by simpa using hs'
 rw[ZdS hs2]
 exact hs2
end
theorem ResV.cell1 {P:Program}{wr:World}{fr:Fr}{O R:List It}{a t b sz:Nat}{v:Value}{cs:List Value}{bt:TypeId}[Ty P t sz false](ha:look fr a=some (.pointer (some ⟨b,0,none⟩)))(hp:Pick (.blk b (v::cs) bt) O R) :
  ResV P wr fr O (.cell a t) v :=
 ⟨_,ha,fun w _ hO=>Zdt (by rw[ZcQ (hO.sat _ (hp.perm.mem_iff.2 List.mem_cons_self))];rfl)⟩
section
variable {P:Program}{n:Nat}{wr:World}{fr:Fr}{O:List It}{QQ:Exit->Act->World->Prop}
def Pre (P:Program)(n:Nat)(wr:World)(c:Code)(QQ:Exit->Act->World->Prop)(fr:Fr)(O:List It):Prop:=∀ a w,St n wr fr O a w->c.wp P QQ a w
def ZB5 (K:Fr->List It->Prop):Exit->Fr->List It->Prop
 | .normal=>K
 | _=>fun _ _=>False
theorem Zo1 {K:Fr->List It->Prop}(h:K fr O):ZB5 K .normal fr O:=h
theorem ZqK {x y:Code}(h:W P n wr x (ZB5 (Pre P n wr y QQ)) fr O):Pre P n wr (.seq x y) QQ fr O:=by
 intro a w hs
 refine wp_seq (wp_mono (h a w hs) ?_)
 rintro e a' w' ⟨fr',O',hs',hq⟩
 cases e with
 | normal=>exact hq _ _ hs'
 | _=>exact hq.elim
theorem Zzg {f:FuncId}{fn:Func}{c:Code}{args:List Value}{R:Ending->World->Prop}(n:Nat)(hf:P.funcs[f]?=some fn)(hb:fn.body=some c)(hn:fn.ntmps=n)(ha:Nat.ble args.length n=true)
  (h:Pre P n wr c (bodyPostM Fence.wide 0 P fn R) (ZeW 0 args) []):Calls P f args.toArray wr R:=Zlr hf hb hn ha fun a hs=>h a wr hs
theorem ZBU {c:Code}{fr':Fr}{O':List It}(hf:Sub fr' fr)(hO:SubO O' O)(h:Pre P n wr c QQ fr' O'):Pre P n wr c QQ fr O:=fun a w hs=>h a w (hs.sub hf hO)
theorem Pre.at {c:Code}{a:Act}{w:World}(h:Pre P n wr c QQ fr O)(hs:St n wr fr O a w):c.wp P QQ a w:=h a w hs
end
end Go.Wk
set_option maxHeartbeats 8000000
set_option maxRecDepth 20000
namespace Go.Wk
open Go Go.RowKit
theorem Zcd.perm {P:Program}{l:Nat}{v:Value}{wr:World}{O O':List It}{R:Bool->List It->Prop}(h:Zcd P l v wr O R)(hp:O.Perm O'):Zcd P l v wr O' R:=fun w hB hH=>h w hB (hH.perm hp.symm)
end Go.Wk
namespace Go.Proofs.YtbjomhdhkpgbaaaGreatDoor
open Go Go.RowKit Go.Wk
attribute [local irreducible] W RL Does Zar Zal retQ Calls Pu Stp RD Qy Ay Zak RLI WI Pre
def turZ (f:DEra->DEra)(q:ZE):ZE:=⟨Za4 f q.z,q.A,q.c⟩
def parZ (f:DEra->DEra)(k:Nat)(q:ZE):ZE:=⟨⟨q.z.name,(q.z.eras.take k).map f++q.z.eras.drop k⟩,q.A,q.c⟩
def parL (f:DEra->DEra)(k:Nat):List ZE->List ZE
 | []=>[]
 | q::l=>parZ f k q::l
def turR (f:DEra->DEra)(i k:Nat)(Zs:List ZE):List ZE:=(Zs.take i).map (turZ f)++parL f k (Zs.drop i)
theorem ZCh (f:DEra->DEra)(q:ZE):parZ f 0 q=q:=by
 unfold parZ
 rw[List.take_zero,List.drop_zero,List.map_nil,List.nil_append]
theorem Zx7 (f:DEra->DEra)(q:ZE):parZ f q.z.eras.length q=turZ f q:=by
 unfold parZ turZ Za4
 rw[List.take_length,List.drop_length,List.append_nil]
theorem ZuJ (f:DEra->DEra)(l:List ZE):parL f 0 l=l:=by
 cases l with
 | nil=>rfl
 | cons q l=>rw[parL,ZCh]
theorem ZB2 (f:DEra->DEra)(Zs:List ZE):turR f 0 0 Zs=Zs:=by
 unfold turR
 rw[List.take_zero,List.drop_zero,ZuJ]
 rfl
theorem ZxJ (f:DEra->DEra)(Zs:List ZE):turR f Zs.length 0 Zs=Zs.map (turZ f):=by
 unfold turR
 rw[List.take_length,List.drop_length,ZuJ,List.append_nil]
theorem getElem?_drop {α:Type}{l:List α}{i:Nat}{q:α}(h:l[i]?=some q):l.drop i=q::l.drop (i+1):=by
 obtain⟨h1,rfl⟩:=List.getElem?_eq_some_iff.1 h
 exact Zao h1
theorem Zt1 (f:DEra->DEra){i:Nat}(k:Nat){Zs:List ZE}{q:ZE}(h:Zs[i]?=some q):turR f i k Zs=(Zs.take i).map (turZ f)++parZ f k q::Zs.drop (i+1):=by
 unfold turR
 rw[getElem?_drop h,parL]
theorem Zt0 (f:DEra->DEra){i:Nat}{Zs:List ZE}{q:ZE}(h:Zs[i]?=some q):turR f i q.z.eras.length Zs=turR f (i+1) 0 Zs:=by
 rw[Zt1 f _ h,Zx7]
 unfold turR
 obtain⟨h1,rfl⟩:=List.getElem?_eq_some_iff.1 h
 rw[ZuJ,<- List.take_append_getElem h1,List.map_append,List.append_assoc]
 rfl
theorem ZAC (f:DEra->DEra)(Zs:List ZE):(Zs.map (turZ f)).flatMap ZE.enc=Zs.flatMap ZE.enc:=by
 rw[List.flatMap_map]
 congr 1
 funext q
 unfold turZ Za4 ZE.enc
 simp
theorem ZDa (f:DEra->DEra)(Zs:List ZE):(Zs.map (turZ f)).map ZE.z=(Zs.map ZE.z).map (Za4 f):=by
 rw[List.map_map,List.map_map]
 rfl
theorem ZxI {f:DEra->DEra}{Zs:List ZE}{i:Nat}(k:Nat){q:ZE}(h:Zs[i]?=some q):(ZaG (parZ f k q)::(((Zs.take i).map (turZ f)).map ZaG++(Zs.drop (i+1)).map ZaG)).Perm ((turR f i k Zs).map ZaG):=by
 rw[Zt1 f k h,List.map_append,List.map_cons]
 exact List.perm_middle.symm
theorem ZvM (Ar Az Al As:Option Addr)(cr cz cl cs:Nat)(a:Zac)(w:World):Does Tryz.prog 226 [srcV Ar Az Al As cr cz cl cs a] w (fun v O=>∃ b,v = .func (.func 266) #[] #[.pointer (some ⟨b,0,none⟩)]/\O=[.blk b (srcC Ar Az Al As cr cz cl cs a) 32]):=by
 unfold srcV srcC
 refine Zaa Tryz.func226 rfl rfl rfl rfl ?_
 repeat (first|(refine js ?_;(refine bx ?_;intro bk))|refine walk ?_)
 exact ret_1 _ [.blk bk [.slice Ar a.rules.length cr,.slice Az a.zones.length cz,.slice Al a.links.length cl,.slice As a.shifts.length cs] 32] (.tmp rfl) SOA ⟨bk,rfl,rfl⟩
def tuR (a:Zac)(wr:World):Ending->World->Prop:=fun e w'=>∃ v O,e = .returned v/\Bel wr.heap.size wr w'/\Zau wr.heap.size O w'/\Zd4 a v O
theorem ZxK (a:Zac)(wr:World){ac:Act}{w':World}{D b4:Nat}{vs:List Value}{R O:List It}(hs:St 34 wr [(4,.pointer (some ⟨b4,0,none⟩))] (ZbC D :: .blk b4 vs 32::O) ac w')(hv:vs.length=4)(hO:SubO R O)(hR:Zd4 a (.agg vs.toArray) R) :
  bodyPostM Fence.wide 0 Tryz.prog Tryz.f186 (tuR a wr) .ret (actD (ZdX D) ac) w':=by
 have hK:=ZbC.at (hs.own.sat _ List.mem_cons_self)
 have hs2:=Zil hs
 refine⟨by simp,.inl ⟨_,_,rfl,run_takeDeferred hK,?_⟩⟩
 refine⟨.agg vs.toArray,?_,_,R,rfl,hs2.old,hs2.own.sub (.drop hO),hR⟩
 have hres:Tryz.f186.results=[ResultVar.cell 4 32].toArray:=rfl
 show(results Tryz.f186 ac.tmps).run Tryz.prog _=_
 unfold results
 rw[hres,List.mapM_toArray]
 simp only[Sem.run_bind,Sem.run_map]
 rw[ZbT (P:=Tryz.prog) hs2 _ (fun _=>rfl) (fun _ _=>rfl) [ResultVar.cell 4 32] [.agg vs.toArray] ⟨_,[],rfl,.cellB rfl (by repeat' constructor) (List.take_of_length_le (by omega)) hv,rfl⟩]
 simp only[Result.andThen_ok,Sem.run_pure]
 rfl
theorem ZAM {α:Type}{l:List α}{k:Nat}{x:α}(h:l[k]?=some x):l.set k x=l:=by
 obtain⟨h1,rfl⟩:=List.getElem?_eq_some_iff.1 h
 exact List.set_getElem_self h1
theorem ZwS {G:Prop}(h:G:=by(first|(apply Zek;rfl;(focus repeat' constructor);first|exact hg1|exact hg3|exact hg4)|(apply ZaA;rfl;rfl;exact e1)|(apply Zhg;rfl;rfl;exact e2))):G:=h
theorem ZCO {G:Prop}(h:G:=by first|(apply Qy_y;rfl;exact ZwS)|exact QyA):G:=h
theorem ZtM {G G':Prop}(k:G')(h:Hold G'->G:=by intro k9;(first|refine und ?_|(apply RL_pu;rfl;exact ZwS)|(apply RD_Q;rfl;rfl;decide +kernel;rfl;rfl;exact ZCO)|refine walk1 ?_|(refine jn ?_;(try intro F);(first|(refine stA ?_)|(apply Zag;first|exact ZwS|exact PuA));first|refine⟨_,EndsA,QFTuB0,?_⟩|refine fin ?_));exact k9.out):G:=h ⟨k⟩
theorem ZAb {G:Prop}(h:G:=by(apply Zek;rfl;(focus repeat' constructor);first|exact hg1|exact hg3|exact hg4)):G:=h
theorem Zxy (Ar Az Al As:Option Addr)(cr cz cl cs:Nat)(a:Zac)(set:ByteArray)(w:World)(hL:LibW w)(hA:Zan w Ar Az Al As cr cz cl cs a)(hn:Fits a)(hf:∀ z∈a.zones,∀ e∈z.eras,e.format.size<=1000) :
  Does Tryz.prog 186 [srcV Ar Az Al As cr cz cl cs a,.string set] w (Zd4 (erasS (Zce set) a)):=by
 unfold Does
 refine Zzg 34 Tryz.func186 rfl rfl rfl ?_
 -- Zaa Tryz.func186
 unfold srcV
 apply ZqK
 repeat (first|refine walk ?_|(refine jn ?_;(try intro F);(first|(refine bx ?_;intro bk)|(refine stA ?_)|(apply Zag;exact PuA));refine fin ?_)|(apply RD_W;rfl;intro bk))
 apply Zo1
 rename_i b2 b3
 generalize bk=b4
 apply ZqK
 repeat (first|refine walk ?_|(refine jg ?_;(try intro F);(first|(apply Zad (h:=fun w' hw _=>Ztg Ar Az Al As cr cz cl cs a w' (hA.up hw) hn);rfl;rintro v O' ⟨Ar2,cr2,Az2,cz2,Al2,cl2,As2,cs2,Zs,rfl,hZs,rfl⟩)|(refine bx ?_;intro bk)|(refine stA ?_));refine fin ?_)|(refine jn ?_;(try intro F);(first|(refine bx ?_;intro bk)|(refine stA ?_)|(apply Zag;exact PuA));refine fin ?_)|(apply RD_W;rfl;intro bk))
 apply Zo1
 generalize bk=b5
 refine ZBU (fr':=[(3,.pointer (some ⟨b3,0,none⟩)),(4,.pointer (some ⟨b4,0,none⟩)),(5,.pointer (some ⟨b5,0,none⟩))]) SFA (O' := .blk b5 (srcC Ar2 Az2 Al2 As2 cr2 cz2 cl2 cs2 a) 32::rowR Ar2 cr2 a.rules::rowZ Az2 cz2 Zs::rowL Al2 cl2 a.links::rowS As2 cs2 a.shifts :: .blk b4 [.slice none 0 0,.slice none 0 0,.slice none 0 0,.slice none 0 0] 32 :: .blk b3 [.string set] 9::Zs.map ZaG) (SubO.ofPerm (R:=[_]) (((((((List.perm_append_comm (l₁:=Zs.map ZaG)).trans (((List.perm_append_comm (l₁:=[_]) (l₂:=Zs.map ZaG)).cons _).cons _)).cons _).cons _).cons _).cons _).cons _)) ?_
 unfold Pre
 intro a9 w9 hs9
 refine wp_seq ?_
 refine ZdW (fun fr' O'=>∃ bS,Sub [(3,.pointer (some ⟨b3,0,none⟩)),(4,.pointer (some ⟨b4,0,none⟩)),(5,.pointer (some ⟨b5,0,none⟩)),(10,.func (.func 266) #[] #[.pointer (some ⟨bS,0,none⟩)])] fr'/\SubO (.blk bS (srcC Ar2 Az2 Al2 As2 cr2 cz2 cl2 cs2 a) 32 :: .blk b3 [.string set] 9 :: .blk b4 [.slice none 0 0,.slice none 0 0,.slice none 0 0,.slice none 0 0] 32 :: .blk b5 (srcC Ar2 Az2 Al2 As2 cr2 cz2 cl2 cs2 a) 32::rowR Ar2 cr2 a.rules::rowZ Az2 cz2 Zs::rowL Al2 cl2 a.links::rowS As2 cs2 a.shifts::Zs.map ZaG) O') ?_ ?_ a9 w9 hs9
 ·repeat (first|refine walk ?_|(refine jg ?_;(try intro F);(first|(apply Zad (h:=fun w' _ _=>ZvM Ar2 Az2 Al2 As2 cr2 cz2 cl2 cs2 a w');rfl;rintro v O' ⟨bS,rfl,rfl⟩)|(refine bx ?_;intro bk)|(refine stA ?_));refine fin ?_)|(refine jn ?_;(try intro F);(first|(refine bx ?_;intro bk)|(refine stA ?_)|(apply Zag;exact PuA));refine fin ?_)|(apply RD_W;rfl;intro bk))
  exact⟨rfl,bS,SFA,STA⟩
 rintro a0 w0 fr9 O9 hs0 ⟨bS,hf9,hO9⟩
 have hs1:=hs0.sub hf9 hO9
 refine wp_block ?_
 clear hs0 hs9 hf9 hO9
 have hzl:Zs.length<=1000000:=by
  have:=hn.z
  rw[<- hZs,List.length_map]at this
  exact this
 have hsrc:srcC Ar2 Az2 Al2 As2 cr2 cz2 cl2 cs2 a=[.slice Ar2 a.rules.length cr2,.slice Az2 Zs.length cz2,.slice Al2 a.links.length cl2,.slice As2 a.shifts.length cs2]:=by unfold srcC;rw[<- hZs,List.length_map]
 have hzm:∀ q∈Zs,q.z∈a.zones:=fun q hq=>by rw[<- hZs];exact List.mem_map_of_mem hq
 have hAn:∀ q∈Zs,0<q.z.eras.length->q.A≠none:=fun q hq hl=>Zca (hs1.own.sat (ZaG q) (List.mem_cons_of_mem _ (List.mem_cons_of_mem _ (List.mem_cons_of_mem _ (List.mem_cons_of_mem _ (List.mem_cons_of_mem _ (List.mem_cons_of_mem _ (List.mem_cons_of_mem _ (List.mem_cons_of_mem _ (List.mem_map_of_mem hq)))))))))) hl
 refine Zim (gf:=266) (lb:=[.pointer (some ⟨bS,0,none⟩)]) (fun jump O2=>jump=none/\SubO (.blk b4 [.slice none 0 0,.slice none 0 0,.slice none 0 0,.slice none 0 0] 32 :: .blk b5 (srcC Ar2 Az2 Al2 As2 cr2 cz2 cl2 cs2 a) 32::rowR Ar2 cr2 a.rules::rowZ Az2 cz2 Zs::rowL Al2 cl2 a.links::rowS As2 cs2 a.shifts::(turR (Zce set) Zs.length 0 Zs).map ZaG) O2) hs1 rfl ?_ ?_
 ·intro fn L D
  generalize hr0:ZfW fn a0.tmps 11 _ _ D=r0
  have hit:=ZpS L bS Ar2 Az2 Al2 As2 a.rules.length cr2 cz2 a.links.length cl2 a.shifts.length cs2 Zs (fun g:List ZE=>Za1 L r0::ZbC D :: .blk b3 [.string set] 9 :: .blk b4 [.slice none 0 0,.slice none 0 0,.slice none 0 0,.slice none 0 0] 32 :: .blk b5 (srcC Ar2 Az2 Al2 As2 cr2 cz2 cl2 cs2 a) 32::rowR Ar2 cr2 a.rules::rowL Al2 cl2 a.links::rowS As2 cs2 a.shifts::g.map ZaG) (fun i k g=>g=turR (Zce set) i k Zs) w Zs hzl (fun q hq=>hn.e _ (hzm q hq)) hAn (ZB2 _ _).symm ?_ ?_
  ·refine hit.sub ?_ fun v O' ⟨_,g,h1,h2⟩=>?_
   ·rw[<- hr0]
    rw[<- hsrc]
    exact STA
   ·subst h1
    exact⟨none,_,.ready,SubO.trans (by rw[<- hr0];exact STA) h2,by decide,rfl,.refl _⟩
  ·rintro i k q g X Y V hq hk rfl
   obtain⟨T,hT⟩:∃ T,((Zs.take i).map (turZ (Zce set))).map ZaG++(Zs.drop (i+1)).map ZaG=T:=⟨_,rfl⟩
   have hp:∀ k,(ZaG (parZ (Zce set) k q)::T).Perm ((turR (Zce set) i k Zs).map ZaG):=fun k=>hT▸ZxI k hq
   refine Zcd.perm (O:=X::Y::V::Za1 L r0::ZbC D :: .blk b3 [.string set] 9 :: .blk b4 [.slice none 0 0,.slice none 0 0,.slice none 0 0,.slice none 0 0] 32 :: .blk b5 (srcC Ar2 Az2 Al2 As2 cr2 cz2 cl2 cs2 a) 32::rowR Ar2 cr2 a.rules::rowL Al2 cl2 a.links::rowS As2 cs2 a.shifts::ZaG (parZ (Zce set) k q)::T) ?_ ((hp k).append_left [_,_,_,_,_,_,_,_,_,_,_])
   have hkm:=List.mem_of_getElem? hq
   have hfm:=fun e he=>hf q.z (hzm q hkm) e he
   have hql:=hn.e _ (hzm q hkm)
   obtain⟨⟨qn,qe⟩,qA,qc⟩:=q
   dsimp only at hk hfm hql ⊢
   have hek:=List.getElem?_eq_getElem hk
   have hem:=List.getElem_mem hk
   generalize qe[k]=e at hek hem
   have hef:=hfm e hem
   obtain⟨es,hes⟩:∃ es,(qe.take k).map (Zce set)++qe.drop k=es:=⟨_,rfl⟩
   have hel:es.length=qe.length:=by rw[<- hes,List.length_append,List.length_map,List.length_take,List.length_drop];omega
   have hge:es[k]?=some e:=by
    rw[<- hes,List.getElem?_append_right (by rw[List.length_map,List.length_take];omega),List.length_map,List.length_take,List.getElem?_drop,show k+(k - min k qe.length)=k by omega,hek]
   have hsE:(qe.take (k+1)).map (Zce set)++qe.drop (k+1)=es.set k (Zce set e):=by
    obtain⟨hk',rfl⟩:=List.getElem?_eq_some_iff.1 hek
    rw[<- hes,<- List.take_append_getElem hk,List.map_append,List.set_append_right _ _ (by rw[List.length_map,List.length_take];omega),List.length_map,List.length_take,show k - min k qe.length=0 by omega,Zao hk,List.set_cons_zero,List.append_assoc]
    rfl
   have hp1:=hp (k+1)
   have hrow1:ZaG (parZ (Zce set) (k+1) ⟨⟨qn,qe⟩,qA,qc⟩) = .row (.slice qA es.length qc) 54 13 es.length ((es.set k (Zce set e)).flatMap DEra.enc):=by
    unfold ZaG parZ
    dsimp only
    rw[hsE,List.length_set]
   have hrow0:ZaG (parZ (Zce set) k ⟨⟨qn,qe⟩,qA,qc⟩) = .row (.slice qA es.length qc) 54 13 es.length (es.flatMap DEra.enc):=by
    unfold ZaG parZ
    dsimp only
    rw[hes]
   rw[hrow0]
   rw[hrow1]at hp1
   clear hrow0 hrow1 hp hfm hes
   have hx1:∀ (j:Nat) (v:Value),(DEra.enc e)[j]?=some v->(es.flatMap DEra.enc)[(k:Int).toNat*13+j]?=some v:=fun j v hj=>by
    have:=ZaK DEra.len _ k e j v hge hj
    simpa using this
   obtain⟨off,kd,sv,st,fm,⟨is,yr,mo,⟨dk,dw,dd⟩,⟨cs',cb⟩⟩⟩:=e
   have hg1:=hx1 1 _ rfl
   have hg3:=hx1 3 _ rfl
   have hg4:=hx1 4 _ rfl
   clear hx1
   dsimp only at hef hg1 hg3 hg4
   have hmm:=(ZaJ DEra.len es)
   have hkl:k<es.length:=by rw[hel];exact hk
   refine Ze3 (r:=r0) (p:=11) (fr:=[(3,.pointer (some ⟨b3,0,none⟩)),(4,.pointer (some ⟨b4,0,none⟩)),(5,.pointer (some ⟨b5,0,none⟩))]) (a0:=a0) (O1:=X::Y::V::Za1 L { r0 with state := .busy }::ZbC D :: .blk b3 [.string set] 9 :: .blk b4 [.slice none 0 0,.slice none 0 0,.slice none 0 0,.slice none 0 0] 32 :: .blk b5 (srcC Ar2 Az2 Al2 As2 cr2 cz2 cl2 cs2 a) 32::rowR Ar2 cr2 a.rules::rowL Al2 cl2 a.links::rowS As2 cs2 a.shifts :: .row (.slice qA es.length qc) 54 13 es.length (es.flatMap DEra.enc)::T) (by rw[<- hr0];rfl) (by rw[<- hr0];rfl) (by rw[<- hr0];rfl) (hs1.sim.sub SFA) rfl (by repeat' constructor) (by rw[<- hr0];rfl) ?_
   apply Za9 (Or.inr ⟨_,rfl⟩);rfl;(intro c h;cases h);(apply Pu_assign;rfl)
   refine Za0 ⟨rfl,?_⟩
   have hbody:∀ Q fr O,(∀ b:Code,b=r0.body->WI (Fence.wide.inRound L) [] Tryz.prog 34 w b Q fr O)->WI (Fence.wide.inRound L) [] Tryz.prog 34 w r0.body Q fr O:=fun Q fr O h=>h _ rfl
   refine hbody _ _ _ fun bd hb=>?_
   rw[<- hr0]at hb
   dsimp only[ZfW]at hb
   subst hb
   refine Zdk (ZbP (Zy4 (Or.inr ⟨_,rfl⟩) rfl (by decide +kernel) (by repeat (first|exact .nil|(refine .plain rfl ?_)|apply Calms.call|apply Calms.append|apply Calms.len)) ?_))
   by_cases hi:Zfp set ⟨off,kd,sv,st,fm,⟨is,yr,mo,⟨dk,dw,dd⟩,⟨cs',cb⟩⟩⟩
   ·have hE:Zce set ⟨off,kd,sv,st,fm,⟨is,yr,mo,⟨dk,dw,dd⟩,⟨cs',cb⟩⟩⟩=⟨off,kd,sv,st,Zcm fm,⟨is,yr,mo,⟨dk,dw,dd⟩,⟨cs',cb⟩⟩⟩:=if_pos hi
    rw[hE]at hp1
    obtain⟨hk2,hs2⟩:=hi
    dsimp only at hk2 hs2
    have e1:decide (kd=2)=true:=decide_eq_true hk2
    have e2:decide (st=set)=true:=decide_eq_true hs2
    have hlay:lay (es.flatMap DEra.enc) ((k:Int).toNat*13+4) [.string (Zcm fm)]=(es.set k ⟨off,kd,sv,st,Zcm fm,⟨is,yr,mo,⟨dk,dw,dd⟩,⟨cs',cb⟩⟩⟩).flatMap DEra.enc:=by
     have:=Zeg DEra.len 4 [.string (Zcm fm)] (by decide:4+1<=13) ⟨off,kd,sv,st,fm,⟨is,yr,mo,⟨dk,dw,dd⟩,⟨cs',cb⟩⟩⟩ ⟨off,kd,sv,st,Zcm fm,⟨is,yr,mo,⟨dk,dw,dd⟩,⟨cs',cb⟩⟩⟩ rfl es k hge
     rw[show(k:Int).toNat*13+4=k*13+4 by simp,this]
    repeat (first|refine ZtM ?_|(refine jn ?_;(try intro F);(refine bx ?_;intro bk);first|refine⟨_,EndsA,QFTuB0,?_⟩|refine fin ?_)|(apply RD_W;rfl;intro bk))
    refine ZbW rfl (fun _=>?_) (fun h=>(by cases h))
    refine Zbf (Or.inr ⟨_,rfl⟩) (by repeat (first|exact .nil|(refine .plain rfl ?_)|apply Calms.call|apply Calms.append|apply Calms.len)) ?_
    have hfx:=fun w' (hw:Bel w.heap.size w w')=>ZmT fm w' (hL.up hw) hef
    repeat (first|(apply RL_pu;rfl;exact ZAb)|(refine js ?_;(first|(refine Zae hfx ?_)|(apply ZcI (vs:=[.string (Zcm fm)]);rfl;rfl;(focus repeat' constructor);rfl;rfl;rfl;(rw[hmm];omega);decide;exact hlay)|(refine bx ?_;intro bk)))|(apply RD_Q;rfl;rfl;decide +kernel;rfl;rfl;exact QyTuB1)|refine walk1 ?_|(refine Zdc ?_;intro F;(refine Zae hfx ?_);refine⟨_,EndsA,SubO.right _ _,?_⟩)|(refine RD_Lw ?_;intro F;(first|(refine Zae hfx ?_)|(apply ZcI (vs:=[.string (Zcm fm)]);rfl;rfl;(focus repeat' constructor);rfl;rfl;rfl;(rw[hmm];omega);decide;exact hlay)|(refine bx ?_;intro bk)|(refine stA ?_)|(apply Zag;first|exact ZAb|exact PuA));refine⟨_,EndsA,QFTuB1,?_⟩)|(apply RD_W;rfl;intro bk))
    refine⟨_,(by repeat' constructor),rfl,_,rfl,?_⟩
    refine SubO.permT (l:=[X,Y,V,Za1 L r0,ZbC D,_,_,_,_,_,_]) ?_ hp1
    rw[<- hr0]
    exact STA
   ·have hE:Zce set ⟨off,kd,sv,st,fm,⟨is,yr,mo,⟨dk,dw,dd⟩,⟨cs',cb⟩⟩⟩=⟨off,kd,sv,st,fm,⟨is,yr,mo,⟨dk,dw,dd⟩,⟨cs',cb⟩⟩⟩:=if_neg hi
    rw[hE,ZAM hge]at hp1
    unfold Zfp at hi
    dsimp only at hi
    by_cases hk2:kd=2
    ·have e1:decide (kd=2)=true:=decide_eq_true hk2
     have e2:decide (st=set)=false:=decide_eq_false (fun h=>hi ⟨hk2,h⟩)
     repeat (first|refine ZtM ?_|(refine jn ?_;(try intro F);(refine bx ?_;intro bk);first|refine⟨_,EndsA,QFTuB0,?_⟩|refine fin ?_)|(apply RD_W;rfl;intro bk))
     refine ZbW rfl (fun h=>(by cases h)) (fun _=>?_)
     refine Zfw ?_
     refine blockQ_n ?_
     refine⟨_,(by repeat' constructor),rfl,_,rfl,?_⟩
     refine SubO.permT (l:=[X,Y,V,Za1 L r0,ZbC D,_,_,_,_,_,_]) ?_ hp1
     rw[<- hr0]
     exact STA
    ·have e1:decide (kd=2)=false:=decide_eq_false hk2
     repeat (first|refine ZtM ?_|(refine jn ?_;(try intro F);(refine bx ?_;intro bk);first|refine⟨_,EndsA,QFTuB0,?_⟩|refine fin ?_)|(apply RD_W;rfl;intro bk))
     refine ZbW rfl (fun h=>(by cases h)) (fun _=>?_)
     refine Zfw ?_
     refine blockQ_n ?_
     refine⟨_,(by repeat' constructor),rfl,_,rfl,?_⟩
     refine SubO.permT (l:=[X,Y,V,Za1 L r0,ZbC D,_,_,_,_,_,_]) ?_ hp1
     rw[<- hr0]
     exact STA
  ·rintro i q g hq rfl
   exact Zt0 (Zce set) hq
 ·rintro jump O2 D w4 ⟨rfl,hsub⟩ hs4
  rw[ZxJ]at hsub
  have hs5:St 34 w [(4,.pointer (some ⟨b4,0,none⟩)),(5,.pointer (some ⟨b5,0,none⟩))] (ZbC D :: .blk b4 [.slice none 0 0,.slice none 0 0,.slice none 0 0,.slice none 0 0] 32 :: .blk b5 (srcC Ar2 Az2 Al2 As2 cr2 cz2 cl2 cs2 a) 32::rowR Ar2 cr2 a.rules::rowZ Az2 cz2 Zs::rowL Al2 cl2 a.links::rowS As2 cs2 a.shifts::(Zs.map (turZ (Zce set))).map ZaG) a0 w4:=hs4.sub SFA (.cons .here hsub)
  show(Code.seq _ _).wp _ _ _ _
  have key:∀ c' Q' Q3,WI Fence.wide (ZdX D) Tryz.prog 34 w c' Q' [(4,.pointer (some ⟨b4,0,none⟩)),(5,.pointer (some ⟨b5,0,none⟩))] (ZbC D :: .blk b4 [.slice none 0 0,.slice none 0 0,.slice none 0 0,.slice none 0 0] 32 :: .blk b5 (srcC Ar2 Az2 Al2 As2 cr2 cz2 cl2 cs2 a) 32::rowR Ar2 cr2 a.rules::rowZ Az2 cz2 Zs::rowL Al2 cl2 a.links::rowS As2 cs2 a.shifts::(Zs.map (turZ (Zce set))).map ZaG)->(∀ e a' w',ZpD (ZdX D) 34 w Q' e a' w'->Q3 e a' w')->c'.wp Tryz.prog Q3 (actD (ZdX D) a0) w4:=fun c' Q' Q3 h hq=>(wpIn_wide (n:=0)).1 (wpIn_mono (h.at hs5) hq)
  refine key _ (fun e fr O=>e = .ret/\Sub [(4,.pointer (some ⟨b4,0,none⟩))] fr/\SubO (ZbC D :: .blk b4 (srcC Ar2 Az2 Al2 As2 cr2 cz2 cl2 cs2 a) 32::rowR Ar2 cr2 a.rules::rowZ Az2 cz2 Zs::rowL Al2 cl2 a.links::rowS As2 cs2 a.shifts::(Zs.map (turZ (Zce set))).map ZaG) O) _ (ZbP (Zbf (.inl rfl) (by repeat (first|exact .nil|(refine .plain rfl ?_)|apply Calms.call|apply Calms.append|apply Calms.len)) ?_)) ?_
  ·unfold srcC
   repeat (first|refine walk ?_|(refine jn ?_;(try intro F);(first|(refine bx ?_;intro bk)|(refine stA ?_)|(apply Zag;exact PuA));refine fin ?_)|(apply RD_W;rfl;intro bk))
   try apply thenQ_n
   refine Zgd ?_
   exact⟨rfl,SFA,STA⟩
  ·rintro e a' w' ⟨hd,fr',O',hs',rfl,hf,hO⟩
   have h:=ZxK (erasS (Zce set) a) w (hs'.sub hf hO) rfl (.refl _) ⟨Ar2,cr2,Az2,cz2,Al2,cl2,As2,cs2,Zs.map (turZ (Zce set)),by unfold srcC srcV erasS;rw[List.length_map],by rw[ZDa,hZs];rfl,by unfold rowZ;rw[ZAC,List.length_map];rfl⟩
   rw[Zc3 hd]at h
   exact h
end Go.Proofs.YtbjomhdhkpgbaaaGreatDoor
set_option maxHeartbeats 8000000
namespace Go.Proofs.YtbjomhdhkpgbaaaGreatDoor
open Go Go.RowKit Go.Wk
attribute [local irreducible] W RL Does Zar Zal retQ Calls Pu Stp RD Qy Ay Zak
def fmE (g:DEra->ByteArray)(e:DEra):DEra:={ e with format:=g e }
def EaR (s:Zac)(v:Value)(O:List It):Prop:=∃ u,v = .tuple #[u,.int .i64 0]/\Zd4 s u O
structure EoG where
 k:Nat
 Az:Option Addr
 cz:Nat
 m:Nat
 xs:List Value
 Zr:List ZE
theorem ZAm {G:Prop}(h:G:=by(first|(apply ZaB;rfl;rfl;omega;omega;(intro w' _ hO;exact Zca (hO.of (A := .row (.slice A2 es.length c2) _ _ _ _) (by repeat' constructor)) (by omega)))|(apply ZbZ (vs:=[.int .i64 off,.int .i64 kd,.int .i64 sv,.string st,.string fm,.bool is,.int .i64 yr,.int .i64 mo,.int .i64 dk,.int .i64 dw,.int .i64 dd,.int .i64 cs',.int .i64 cb]);rfl;(focus repeat' constructor);exact hget;rfl)|(apply ZaH;rfl;rfl;exact e0))):G:=h
theorem Zn0 (Ar Az Al As:Option Addr)(cr cz cl cs:Nat)(a:Zac)(f:FuncId)[Body Tryz.prog f](us vs:List Value)(g:DEra->ByteArray)(w:World)(hA:Zan w Ar Az Al As cr cz cl cs a)(hn:Fits a)
  (hf:∀ z∈a.zones,∀ e∈z.eras,∀ w',Bel w.heap.size w w'->Does Tryz.prog f (us++[.agg (DEra.enc e).toArray]++vs) w' (fun v O=>v = .tuple #[.string (g e),.int .i64 0]/\O=[])) :
  Does Tryz.prog 187 [srcV Ar Az Al As cr cz cl cs a,.func (.func f) us.toArray vs.toArray] w (EaR (erasS (fmE g) a)):=by
 obtain⟨hnr,hnz,hnl,hns,hne⟩:=hn
 have e0:(!decide ((0:Int)=0))=false:=rfl
 refine Zaa Tryz.func187 rfl rfl rfl rfl ?_
 refine Zdj 46 2 ?_
 unfold srcV
 repeat (first|refine walk ?_|(refine jg ?_;(try intro F);(first|(apply Zad (h:=fun w' hw _=>ZcF Ar cr a.rules w' (hA.r.up hw) hnr);rfl;rintro v O' ⟨A3,c3,rfl,rfl⟩)|(apply Zad (h:=fun w' hw _=>ZeI Al cl a.links w' (hA.l.up hw) hnl);rfl;rintro v O' ⟨A4,c4,rfl,rfl⟩)|(apply Zad (h:=fun w' hw _=>ZcE As cs a.shifts w' (hA.s.up hw) hns);rfl;rintro v O' ⟨A5,c5,rfl,rfl⟩)|(refine bx ?_;intro bk)|(refine stA ?_));refine fin ?_)|(refine jn ?_;(try intro F);(first|(refine bx ?_;intro bk)|(refine stA ?_)|(apply Zag;exact PuA));refine fin ?_)|(apply RD_W;rfl;intro bk))
 generalize bk=b6
 refine Zha (fun g:EoG=>[(25,.int .i64 g.k),(1,_),(2,_),(4,_),(6,_),(23,_),(24,_)]) (fun g => .row (.slice g.Az g.m g.cz) 46 2 g.m g.xs :: .blk b6 [.slice A3 a.rules.length c3,.slice g.Az g.m g.cz,.slice A4 a.links.length c4,.slice A5 a.shifts.length c5] 32::rowS A5 c5 a.shifts::rowL A4 c4 a.links::rowR A3 c3 a.rules :: .blk _ _ _ :: .blk _ _ _::g.Zr.map ZaG)
  (fun h=>h.k<=a.zones.length/\h.m=h.Zr.length/\h.xs=h.Zr.reverse.flatMap ZE.enc/\h.Zr.reverse.map ZE.z=(a.zones.take h.k).map (Za4 (fmE g)))
  (fun h=>a.zones.length - h.k) ⟨0,none,0,0,[],[]⟩ ⟨rfl,rfl,rfl,rfl,rfl,rfl,rfl,trivial⟩ STA ⟨by simp,rfl,rfl,by simp⟩ ?_
 rintro⟨k,Az',cz',m,xs,Zr⟩ ⟨hk,hm,hx,hz⟩
 dsimp only at hk hm hx hz ⊢
 generalize hT:Zr.map ZaG=T
 repeat (first|refine walk ?_|(refine jn ?_;(try intro F);(first|(refine bx ?_;intro bk)|(refine stA ?_)|(apply Zag;exact PuA));refine fin ?_)|(apply RD_W;rfl;intro bk))
 refine Zah rfl (fun hc=>?_) (fun hc=>?_)
 ·simp only[decide_eq_true_eq,Int.ofNat_lt]at hc
  obtain⟨hna,cs1,⟨Ae,ce,hE,rfl⟩,hca⟩:=hA.z k _ (List.getElem?_eq_getElem hc)
  have ht:=List.take_append_getElem hc
  have hl:=hne _ (List.getElem_mem hc)
  have hfz:=hf _ (List.getElem_mem hc)
  have hzl:Zr.length=k:=by rw[<- List.length_reverse,<- List.length_map (f:=ZE.z),hz,List.length_map,List.length_take];omega
  generalize a.zones[k]=z at *
  obtain⟨nm,es⟩:=z
  dsimp only at hE hl hfz hca
  repeat (first|(apply RL_pu;rfl;exact PuI)|(apply RD_Q;rfl;rfl;decide +kernel;rfl;rfl;exact QyI)|refine walk1 ?_|(refine jg ?_;(try intro F);(first|(apply Zad (h:=fun w' hw _=>ZcG Ae ce es w' (hE.up hw) hl);rfl;rintro v O' ⟨A2,c2,rfl,rfl⟩)|(refine bx ?_;intro bk)|(refine stA ?_));first|refine⟨_,EndsA,QFI,?_⟩|refine fin ?_)|(refine jn ?_;(try intro F);(first|(refine bx ?_;intro bk)|(refine stA ?_)|(apply Zag;first|exact PuI|exact PuA));first|refine⟨_,EndsA,QFI,?_⟩|refine fin ?_)|(apply RD_W;rfl;intro bk))
  generalize bk=b8
  refine Zha (fun h:ChG DEra=>[(36,.int .i64 h.k),(1,_),(2,_),(4,_),(6,_),(23,_),(24,_),(25,_),(8,_),(34,_),(35,_)]) (fun h => .row (.slice A2 es.length c2) 54 13 es.length (h.m.flatMap DEra.enc) :: .blk b8 [.string nm,.slice A2 es.length c2] 46 :: .row (.slice Az' m cz') 46 2 m xs :: .blk b6 [.slice A3 a.rules.length c3,.slice Az' m cz',.slice A4 a.links.length c4,.slice A5 a.shifts.length c5] 32::rowS A5 c5 a.shifts::rowL A4 c4 a.links::rowR A3 c3 a.rules :: .blk _ _ _ :: .blk _ _ _::T)
   (fun h=>ChI es (fmE g) h.k h.m) (fun h=>es.length - h.k) ⟨0,es⟩ SFA STA (ChI.zero es (fmE g)) ?_
  rintro⟨j,me⟩ hI
  dsimp only at hI ⊢
  obtain⟨i1,i2,i3,i4⟩:=id hI
  repeat (first|refine walk ?_|(refine jn ?_;(try intro F);(first|(refine bx ?_;intro bk)|(refine stA ?_)|(apply Zag;exact PuA));refine fin ?_)|(apply RD_W;rfl;intro bk))
  refine Zah rfl (fun hd=>?_) (fun hd=>?_)
  ·have hjl:j<es.length:=by
    have:=of_decide_eq_true hd
    omega
   obtain⟨x,hxj⟩:∃ x,es[j]?=some x:=⟨_,List.getElem?_eq_getElem hjl⟩
   have hmj:me[j]?=some x:=(i4 j (Nat.le_refl _)).trans hxj
   have hfx:=fun w' hw=>hfz x (List.mem_of_getElem? hxj) w' hw
   have hst:=hI.step hxj
   have hget:∀ (i:Nat) (v:Value),(DEra.enc x)[i]?=some v->(me.flatMap DEra.enc)[(j:Int).toNat*13+i]?=some v:=fun i v hi=>by
    have:=ZaK DEra.len me j x i v hmj hi
    simpa using this
   have hml:(me.flatMap DEra.enc).length=es.length*13:=by rw[ZaJ DEra.len,i2]
   have hlay:lay (me.flatMap DEra.enc) ((j:Int).toNat*13+4) [.string (g x)]=(me.set j (fmE g x)).flatMap DEra.enc:=by
    have:=Zeg DEra.len 4 [.string (g x)] (by decide:4+1<=13) x (fmE g x) rfl me j hmj
    rw[show(j:Int).toNat*13+4=j*13+4 by simp,this]
   generalize fmE g x=x' at *
   generalize g x=y at *
   obtain⟨off,kd,sv,st,fm,⟨is,yr,mo,⟨dk,dw,dd⟩,⟨cs',cb⟩⟩⟩:=x
   repeat (first|(apply RL_pu;rfl;exact ZAm)|(refine js ?_;(first|(refine Zeh (fun w' hw _=>hfx w' hw) ?_)|(apply ZcI (vs:=[.string y]);rfl;rfl;(focus repeat' constructor);rfl;rfl;rfl;(rw[hml];omega);decide;exact hlay)|(refine bx ?_;intro bk)))|(apply RD_Q;rfl;rfl;decide +kernel;rfl;rfl;exact QyExB0)|refine walk1 ?_|(refine Zdc ?_;intro F;(refine Zeh (fun w' hw _=>hfx w' hw) ?_);refine⟨_,EndsA,SubO.right _ _,?_⟩)|(refine RD_Lw ?_;intro F;(first|(refine Zeh (fun w' hw _=>hfx w' hw) ?_)|(apply ZcI (vs:=[.string y]);rfl;rfl;(focus repeat' constructor);rfl;rfl;rfl;(rw[hml];omega);decide;exact hlay)|(refine bx ?_;intro bk)|(refine stA ?_)|(apply Zag;first|exact ZAm|exact PuA));refine⟨_,EndsA,QFExB0,?_⟩)|(apply RD_W;rfl;intro bk))
   exact⟨⟨j+1,me.set j x'⟩,by dsimp only;omega,hst,SFA,STA⟩
  ·obtain rfl:j=es.length:=by
    have:=of_decide_eq_false hd
    omega
   obtain rfl:=hI.done
   repeat (first|refine walk ?_|(refine jn ?_;(try intro F);(first|(apply Zay;rfl;rfl;(intro A' c';(focus repeat' constructor));(intro w' _ hO;exact Zbv (hO.of (by repeat' constructor)));rfl;rfl;(simp only[maxLen];omega);omega;intro A' c' hc1 hc2 hc3)|(refine bx ?_;intro bk)|(refine stA ?_)|(apply Zag;exact PuA));refine fin ?_)|(apply RD_W;rfl;intro bk))
   subst hT
   have hel:(es.map (fmE g)).length=es.length:=List.length_map ..
   refine⟨⟨k+1,A',c',m+1,xs++ZE.enc ⟨⟨nm,es.map (fmE g)⟩,A2,c2⟩,⟨⟨nm,es.map (fmE g)⟩,A2,c2⟩::Zr⟩,OA,⟨OA,by simp[hm],by simp[hx],by rw[List.reverse_cons,List.map_append,hz,<- ht,List.map_append];rfl⟩,SFA,?_⟩
   have her:ZaG ⟨⟨nm,es.map (fmE g)⟩,A2,c2⟩ = .row (.slice A2 es.length c2) 54 13 es.length ((es.map (fmE g)).flatMap DEra.enc):=by
    unfold ZaG
    dsimp only
    rw[hel]
   dsimp only[ZE.enc]
   rw[List.map_cons,her,hel]
   exact STA
 simp only[decide_eq_false_iff_not,Int.ofNat_lt]at hc
 rw[List.take_of_length_le (by omega)]at hz
 subst hT
 refine ZrU _ (SubO.permT (l:=[_,_,_,_,_,_,_]) (.refl _) ((List.reverse_perm Zr).symm.map ZaG)) ?_
 rw[<- List.length_reverse]at hm
 generalize Zr.reverse=Zs at *
 repeat (first|refine walk ?_|(refine jn ?_;(try intro F);(first|(refine bx ?_;intro bk)|(refine stA ?_)|(apply Zag;exact PuA));refine fin ?_)|(apply RD_W;rfl;intro bk))
 subst hm hx
 have hl:Zs.length=a.zones.length:=by rw[<- List.length_map (f:=ZE.z),hz,List.length_map]
 exact ret_2 _ _ (rowR A3 c3 a.rules::rowZ Az' cz' Zs::rowL A4 c4 a.links::rowS A5 c5 a.shifts::Zs.map ZaG) (.cellB rfl (by repeat' constructor) rfl rfl) (.tmp rfl) STA ⟨_,rfl,A3,c3,Az',cz',A4,c4,A5,c5,Zs,by unfold srcV erasS;rw[List.length_map,<- hl];rfl,hz,rfl⟩
def EaF (s:Zac)(v:Value)(O:List It):Prop:=∃ u,v = .tuple #[u,.int .i64 0]/\Zhk s u O
theorem ZzC {s:Zac}{v:Value}{O:List It}(h:EaR s v O):∃ O',EaF s v O'/\∀ base w',Zau base O w'->Zau base O' w':=by
 obtain⟨u,rfl,h⟩:=h
 obtain⟨O',h1,h2⟩:=ZcX h
 exact⟨O',⟨u,rfl,h1⟩,h2⟩
theorem ZvC:(fmE fun e=>(Zct e).format)=Zct:=by
 funext e
 unfold fmE Zct
 dsimp only
 split <;> rfl
theorem ZBb (rs:List Zab):(fmE fun e=>(expE rs e).format)=expE rs:=by
 funext e
 unfold fmE expE
 dsimp only
 split <;> rfl
theorem ZmE (Ar Az Al As:Option Addr)(cr cz cl cs:Nat)(a:Zac)(w:World)(hL:LibW w)(hA:Zan w Ar Az Al As cr cz cl cs a)(hn:Fits a)(hm:srcM a=true)(hc:∀ z∈a.zones,∀ e∈z.eras,conE a.rules e=true) :
  Does Tryz.prog 146 [srcV Ar Az Al As cr cz cl cs a] w (EaF (erasS Zct a)):=by
 have hcz:∀ (b:Nat) (w':World),Bel w.heap.size w w'->Zam w' ⟨b,0,none⟩ (srcC Ar Az Al As cr cz cl cs a)->Does Tryz.prog 187 [srcV Ar Az Al As cr cz cl cs a,.func (.func 188) #[] #[.pointer (some ⟨b,0,none⟩)]] w' (EaF (erasS Zct a)):=fun b w' hw hb=>by
  have h:=Zn0 Ar Az Al As cr cz cl cs a 188 [] [.pointer (some ⟨b,0,none⟩)] (fun e=>(Zct e).format) w' (hA.up hw) hn fun z hz e he w2 h2=>ZpY Ar Az Al As cr cz cl cs a b e w2 ((hL.up hw).up h2) ((hA.up hw).up h2) hn.r hm (ZlC hm hz he) (hc z hz e he) (hb.up h2 (Nat.le_refl _))
  rw[ZvC]at h
  exact h.monoO fun _ _ h=>ZzC h
 unfold srcV srcC at *
 refine Zaa Tryz.func146 rfl rfl rfl rfl ?_
 repeat (first|(refine js ?_;(first|(apply Zad (h:=fun w' hw hO=>hcz _ w' hw (hO.cells (by repeat' constructor)));rfl;rintro v O' ⟨u,rfl,A3,c3,A2,c2,A4,c4,A5,c5,Zs,S,rfl,hZs,rfl⟩)|(refine bx ?_;intro bk)))|refine walk ?_)
 exact ret_2 _ _ [rowR A3 c3 (erasS Zct a).rules,rowZ A2 c2 Zs,rowL A4 c4 (erasS Zct a).links,rowS A5 c5 (erasS Zct a).shifts,.fact S (ZaN Zs)] (.cellB rfl (by repeat' constructor) rfl rfl) (.tmp rfl) SOA ⟨_,rfl,A3,c3,A2,c2,A4,c4,A5,c5,Zs,S,rfl,hZs,rfl⟩
theorem ZqL (Ar Az Al As:Option Addr)(cr cz cl cs:Nat)(a:Zac)(w:World)(hA:Zan w Ar Az Al As cr cz cl cs a)(hn:Fits a)(hm:srcM a=true)(hc:∀ z∈a.zones,∀ e∈z.eras,expZ a.rules e=true) :
  Does Tryz.prog 147 [srcV Ar Az Al As cr cz cl cs a] w (EaF (erasS (expE a.rules) a)):=by
 have hcz:∀ (b:Nat) (w':World),Bel w.heap.size w w'->Zam w' ⟨b,0,none⟩ (srcC Ar Az Al As cr cz cl cs a)->Does Tryz.prog 187 [srcV Ar Az Al As cr cz cl cs a,.func (.func 190) #[] #[.pointer (some ⟨b,0,none⟩)]] w' (EaF (erasS (expE a.rules) a)):=fun b w' hw hb=>by
  have h:=Zn0 Ar Az Al As cr cz cl cs a 190 [] [.pointer (some ⟨b,0,none⟩)] (fun e=>(expE a.rules e).format) w' (hA.up hw) hn fun z hz e he w2 h2=>ZvJ Ar Az Al As cr cz cl cs a b e w2 ((hA.up hw).up h2) hn.r hm (ZlC hm hz he) (hc z hz e he) (hb.up h2 (Nat.le_refl _))
  rw[ZBb]at h
  exact h.monoO fun _ _ h=>ZzC h
 unfold srcV srcC at *
 refine Zaa Tryz.func147 rfl rfl rfl rfl ?_
 repeat (first|(refine js ?_;(first|(apply Zad (h:=fun w' hw hO=>hcz _ w' hw (hO.cells (by repeat' constructor)));rfl;rintro v O' ⟨u,rfl,A3,c3,A2,c2,A4,c4,A5,c5,Zs,S,rfl,hZs,rfl⟩)|(refine bx ?_;intro bk)))|refine walk ?_)
 exact ret_2 _ _ [rowR A3 c3 (erasS (expE a.rules) a).rules,rowZ A2 c2 Zs,rowL A4 c4 (erasS (expE a.rules) a).links,rowS A5 c5 (erasS (expE a.rules) a).shifts,.fact S (ZaN Zs)] (.cellB rfl (by repeat' constructor) rfl rfl) (.tmp rfl) SOA ⟨_,rfl,A3,c3,A2,c2,A4,c4,A5,c5,Zs,S,rfl,hZs,rfl⟩
end Go.Proofs.YtbjomhdhkpgbaaaGreatDoor
