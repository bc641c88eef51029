/- Parts of the proof. -/
import Derived.Test.YtpipekfmecikmaaGreatDoorA37
set_option maxHeartbeats 0
set_option linter.all false
namespace Go.Proofs.YtpipekfmecikmaaGreatDoor
open Go Go.RowKit Go.Wk
section
variable {a:DSource}(hac:accD a=none)(hm:MnOk a){z:DZone}(hz:z∈a.zones)
include hac hm hz
theorem Zsa {t:Int}(p : -37000000000000000<=t)(q:t<=37000000000000000):∃ r x,Zey a.rules z.eras=some r/\r[Zb9 a.rules z.eras t]?=some x/\x.start<=t/\t<x.fin/\ZhA a.rules z.eras t=x.fin/\z.eras[Zb9 a.rules z.eras t]?=some (eAt a.rules z.eras t)/\Zei a.rules z.eras (Zb9 a.rules z.eras t) (eAt a.rules z.eras t):=by
 obtain⟨r,b⟩:=hm.sp z hz
 obtain⟨x,f,a2,a3,a4,a5,g⟩:=ZfD b (hm.ne z hz) (t:=t) (by omega) (by omega)
 obtain⟨e,c,j⟩:=Ziv (d:=dE0) f
 have i:=Zjc hac hz c
 have m:eAt a.rules z.eras t=e:=j
 rw[m]
 refine⟨r,x,b,a2,a5,g,?_,c,i⟩
 unfold ZhA
 rw[b]
 dsimp only
 rw[a3]
theorem ZA3 {t s:Int}(e : -37000000000000000<=t)(f:t<=s)(b:s<ZhA a.rules z.eras t)(g:s<=37000000000000000):Zb9 a.rules z.eras s=Zb9 a.rules z.eras t/\eAt a.rules z.eras s=eAt a.rules z.eras t:=by
 obtain⟨r,x,d,a2,a3,a4,a5,_⟩:=Zsa hac hm hz (t:=t) e (by omega)
 rw[a5]at b
 have c:=ZrR d a2 (t:=s) (by omega) b
 exact⟨c,by unfold eAt;rw[c]⟩
theorem Zx6 {t:Int}(c : -37000000000000000<=t)(d:t<=37000000000000000):∃ o,evtD (ruEr a.rules (eAt a.rules z.eras t)) (eAt a.rules z.eras t).off t=some o/\(((eAt a.rules z.eras t).kind=2/\FstI (ofB a.rules (eAt a.rules z.eras t).set) (eAt a.rules z.eras t).off t o)\/((eAt a.rules z.eras t).kind≠2/\o=none)):=by
 obtain⟨r,x,g,a2,a3,a4,a5,h,a9⟩:=Zsa hac hm hz (t:=t) c d
 by_cases b:(eAt a.rules z.eras t).kind=2
 ·obtain⟨o,e,f⟩:=(a9.set b).evt a9.off c d
  exact⟨o,by unfold ruEr;rw[if_pos b];exact e,.inl ⟨b,f⟩⟩
 ·exact⟨none,by unfold ruEr;rw[if_neg b];exact Zt1 _ _ _ _,.inr ⟨b,rfl⟩⟩
theorem ZCg {t u:Int}(d : -37000000000000000<=t)(e:t<=37000000000000000)(c:nxD a.rules z.eras t=some u) :
  t<u/\u<=ZhA a.rules z.eras t/\(u=ZhA a.rules z.eras t\/((eAt a.rules z.eras t).kind=2/\∃ f,EvOf (ofB a.rules (eAt a.rules z.eras t).set) f/\Zcc (ofB a.rules (eAt a.rules z.eras t).set) f (eAt a.rules z.eras t).off=u)):=by
 obtain⟨r,x,h,a2,a3,a4,a5,i,a9⟩:=Zsa hac hm hz (t:=t) d e
 obtain⟨o,g,b⟩:=Zx6 hac hm hz d e
 unfold nxD Zc1 at c
 rw[g,Option.getD_some]at c
 obtain⟨m1,m2⟩:=ZAv (ZhA a.rules z.eras t) o
 split at c
 ·cases c
 cases c
 rcases Ztp (ZhA a.rules z.eras t) o with hh|hh
 ·exact⟨by omega,m1,.inl hh⟩
 ·rcases b with⟨hk,b⟩|⟨_,b⟩
  ·rw[hh]at b
   exact⟨b.1,m1,.inr ⟨hk,b.2.1⟩⟩
  ·rw[b]at hh
   cases hh
theorem Zpd {h:Int}(v:h<=36100000000000000):∀ (k:Nat) (t:Int) (d:Zak) (m:Nat),-37000000000000000<=t->t<=36100000000000000->(m=0->Zz8 a.rules z.eras t)->max (h - t) 0 / 129600+3*((z.eras.length:Int) - (Zb9 a.rules z.eras t:Int))+m<k->∃ c,chG a.rules z.eras h k t d=some c
 | 0,t,d,m,h0,h3,hmm,hk=>by
  obtain⟨_,x,_,_,_,_,_,j,_⟩:=Zsa hac hm hz (t:=t) (by omega) (by omega)
  have:=(List.getElem?_eq_some_iff.1 j).1
  omega
 | k+1,t,d,m,h0,h3,hmm,hk=>by
  obtain⟨r,x,o,a2,a3,a4,a5,j,a9⟩:=Zsa hac hm hz (t:=t) (by omega) (by omega)
  have L:=(List.getElem?_eq_some_iff.1 j).1
  rw[chG]
  cases hn:nxD a.rules z.eras t with
  | none=>exact⟨_,rfl⟩
  | some u =>
   dsimp only
   by_cases w:h<u
   ·exact⟨_,by rw[if_pos w]⟩
   rw[if_neg w]
   obtain⟨M,N,i⟩:=ZCg hac hm hz (t:=t) (by omega) (by omega) hn
   have key:∀ b,∃ c,chG a.rules z.eras h k u b=some c:=fun b=>by
    by_cases E:u=ZhA a.rules z.eras t
    ·clear i
     refine Zpd v k u b 1 (by omega) (by omega) (fun e=>by cases e) ?_
     have G:Zb9 a.rules z.eras t<=Zb9 a.rules z.eras u/\Zb9 a.rules z.eras u<z.eras.length:=ZrS o (hm.ne z hz) (by omega) (by omega) (by omega)
     have H:Zb9 a.rules z.eras u≠Zb9 a.rules z.eras t:=fun e=>by
      obtain⟨r',y,p,q,I,J,K,_⟩:=Zsa hac hm hz (t:=u) (by omega) (by omega)
      rw[o]at p
      cases p
      rw[e,a2]at q
      cases q
      omega
     omega
    ·obtain⟨B,C⟩:=ZA3 hac hm hz (t:=t) (s:=u) (by omega) (by omega) (by omega) (by omega)
     rcases i with i|⟨n5,f,n6,n7⟩
     ·exact absurd i E
     refine Zpd v k u b 0 (by omega) (by omega) (fun _=>by unfold Zz8;rw[C];exact⟨n5,f,n6,n7⟩) ?_
     rw[B]
     by_cases n:m=0
     ·obtain⟨_,g,g1,g2⟩:=hmm n
      have l:=a9.set n5
      have O:=l.inst_near a9.off f
      have P:=l.inst_near a9.off g
      have F:=l.uniq n6 g1 (fun e=>by rw[e]at n7;omega)
      omega
     ·omega
   by_cases A:Zbw a.rules z.eras u=d
   ·rw[if_pos A]
    exact key _
   ·rw[if_neg A]
    obtain⟨c,D⟩:=key (Zbw a.rules z.eras u)
    exact⟨_,by rw[D];rfl⟩
theorem ZCh {x y:Int}(h : -36100000000000000<=x)(d:x<=36100000000000000)(e:y<=36100000000000000)(i:y - x<=946708560)(j:z.eras.length<=5):∃ b ty,allD a.rules z.eras x y=some (b,ty):=by
 obtain⟨c,f⟩:=Zpd hac hm hz e 50001 x (Zbw a.rules z.eras x) 1 (by omega) d (fun g=>by cases g) (by omega)
 unfold allD
 rw[Zly,f]
 exact⟨_,_,rfl⟩
end
end Go.Proofs.YtpipekfmecikmaaGreatDoor
namespace Go.Wk
open Go Go.RowKit
theorem Zvb {P:Program}{n:Nat}{wr:World}{fr:Fr}{O:List It}{ty t t':TypeId}{α:Type}[DecidableEq α]{enc:α->List Value}{x y:Operand}{i j:α}{b:Bool}[hE:EqE P t α enc](a:ev fr x=some (.agg (enc i).toArray))(c:ev fr y=some (.agg (enc j).toArray))(h:decide (i=j)=b) :
  Pu P n wr fr O (.binOp .eql t x y t') ty (.bool b):=h▸Pu_eqlE a c
end Go.Wk
namespace Go.Proofs.YtpipekfmecikmaaGreatDoor
open Go Go.RowKit Go.Wk
end Go.Proofs.YtpipekfmecikmaaGreatDoor
namespace Go.Wk
open Go Go.RowKit
def ZxC (P:Program)(o:Oper):Prop:=(∀ c,o.op ≠ .defer c)/\∀ (a:Act) (w:World),calm ((execOp a.eval o).run P w)
def ZoZ:Op->Bool
 | .extract .. | .lookup .. | .mapUpdate .. | .insert .. | .buildSlice .. | .makeMap .. | .nilCheck .. => true
 | o=>Zkp o
theorem ZAR {P:Program}{ρ:Operand->Value}{a:Option Tmp}{x:Operand}{ty:TypeId}{pos:String}{af:Array Edge}{g:Option (Nat × Bool)}(w:World):calm ((execOp ρ ⟨a,.nilCheck x,ty,pos,af,g⟩).run P w):=by
 simp only[execOp]
 split
 ·simp[calm,runtimePanic]
 ·simp[calm,runtimePanic]
 ·simp[calm,runtimePanic]
 ·split
  ·simp[calm,runtimePanic]
  ·simp only[Sem.run_bind]
   generalize Sem.run P _ w=r
   cases r with
   | ok b w' =>
    simp only[Result.andThen_ok]
    generalize Sem.run P _ w'=r2
    cases r2 with
    | ok b2 w2 =>
     simp only[Result.andThen_ok]
     split <;> simp[calm,unsupported,Result.andThen]
    | _=>simp[calm,Result.andThen]
   | _=>simp[calm,Result.andThen]
  ·simp[calm]
 ·simp[calm]
theorem Zw9 {P:Program}{ρ:Operand->Value}{o:Oper}(h:ZoZ o.op=true)(w:World):calm ((execOp ρ o).run P w):=by
 obtain⟨a,op,ty,pos,af,g⟩:=o
 cases op <;> first|(cases h;done)|exact ZAR w|exact Zx3 _ w|exact Zx4 _ w|(refine ZcF ?_ w;exact h)
theorem Zlv {o:Oper}(h:ZoZ o.op=true):∀ c,o.op ≠ .defer c:=by
 intro c a
 rw[a]at h
 cases h
inductive Calms (P:Program):List Oper->Prop
 | nil:Calms P []
 | plain {o:Oper} {l:List Oper}:ZoZ o.op=true->Calms P l->Calms P (o::l)
 | call {dst:Option Tmp} {f:FuncId} {xs:List Operand} {ts:Array TypeId} {ty:TypeId} {pos:String} {af:Array Edge} {g:Option (Nat × Bool)} {l:List Oper} [Body P f]:Calms P l->Calms P (⟨dst,.call ⟨.value (.func f),xs.toArray,ts⟩,ty,pos,af,g⟩::l)
 | append {dst:Option Tmp} {x y:Operand} {ts:Array TypeId} {ty:TypeId} {pos:String} {af:Array Edge} {g:Option (Nat × Bool)} {l:List Oper}:Calms P l->Calms P (⟨dst,.call ⟨.builtin .append,#[x,y],ts⟩,ty,pos,af,g⟩::l)
 | len {dst:Option Tmp} {x:Operand} {ts:Array TypeId} {ty:TypeId} {pos:String} {af:Array Edge} {g:Option (Nat × Bool)} {l:List Oper}:Calms P l->Calms P (⟨dst,.call ⟨.builtin .len,#[x],ts⟩,ty,pos,af,g⟩::l)
theorem Zxa {P:Program}{b:Option Tmp}{x:Operand}{c:Array TypeId}{ty:TypeId}{pos:String}{af:Array Edge}{g:Option (Nat × Bool)}(a:Act)(w:World):calm ((execOp a.eval ⟨b,.call ⟨.builtin .len,#[x],c⟩,ty,pos,af,g⟩).run P w):=by
 simp only[execOp,resolve,invoke,builtin,Sem.run_bind,Sem.run_pure,Result.andThen_ok]
 generalize Sem.run P _ w=r
 cases r <;> simp[calm,Result.andThen]
theorem Calms.all {P:Program}{l:List Oper}(h:Calms P l):∀ o∈l,ZxC P o:=by
 induction h with
 | nil=>intro o b;cases b
 | plain h1 _ ih =>
  intro o b
  rcases List.mem_cons.1 b with rfl|b
  ·exact⟨Zlv h1,fun a w=>Zw9 h1 w⟩
  ·exact ih o b
 | call _ ih =>
  intro o b
  rcases List.mem_cons.1 b with rfl|b
  ·exact⟨fun c d=>(by cases d),fun a w=>Zuk a w⟩
  ·exact ih o b
 | append _ ih =>
  intro o b
  rcases List.mem_cons.1 b with rfl|b
  ·exact⟨fun c d=>(by cases d),fun a w=>ZoY a w⟩
  ·exact ih o b
 | len _ ih =>
  intro o b
  rcases List.mem_cons.1 b with rfl|b
  ·exact⟨fun c d=>(by cases d),fun a w=>Zxa a w⟩
  ·exact ih o b
section
variable {F:Fence}{P:Program}{n:Nat}{wr:World}{ops:Array Oper}{K:Fr->List It->Prop}{fr:Fr}{O:List It}{D:List Deferred}
theorem ZmM (c:WF F){Q Q2:Exit->Act->World->Prop}(d:∀ e a w,Q e a w->e = .normal)(g:∀ a w,Q .normal a w->Q2 .normal (actD D a) w) :
  ∀ (l:List Oper),(∀ o∈l,ZxC P o)->∀ (a:Act) (w:World),wpList P ops Q l a w->wpListIn F 0 P ops Q2 l (actD D a) w
 | [],_,a,w,h=>g _ _ h
 | o::l,hc,a,w,h=>by
  have b:=hc o List.mem_cons_self
  have j:=ZmM c d g l fun o n=>hc o (List.mem_cons_of_mem _ n)
  unfold wpList at h
  unfold wpListIn
  rw[show(actD D a).tmps=a.tmps from rfl]
  by_cases i:Region.wanted o (yielded ops a.tmps)=true
  ·rw[if_pos i]at h ⊢
   rcases h with h|⟨_,h⟩
   ·exact ZkJ (a:=a) c rfl b.1 (b.2 a w) h d fun v w' m=>by
     rw[Zcu]
     exact j _ _ m
   ·obtain⟨_,_,k⟩:=h
    cases d _ _ _ k
  ·rw[if_neg i]at h ⊢
   refine⟨fun f _=>c.fn f,?_⟩
   rw[Zcu]
   exact j _ _ h
theorem ZbL {Q:Exit->Fr->List It->Prop}{j:Nat}{l:List Oper}(c:WF F)(d:Calms P l)(h:RL P n wr l.toArray l (Q .normal) fr O):WI F D P n wr (.region j l.toArray false) Q fr O:=by
 intro a w i
 refine wpIn_region_lit (ZmM (D:=D) c (fun e a w f=>f.1) ?_ l d.all a w (h a w i))
 rintro k w' ⟨_,fr',O',b,g⟩
 refine⟨rfl,fr',O',?_,g⟩
 rw[Zed b]
 exact b
theorem Zuu (g:WF F)(p:∀ o∈ops.toList,ZxC P o){Q Q2:Exit->Act->World->Prop}(k:∀ e a w,Q e a w->e = .normal)(j:∀ a w,Q .normal a w->Q2 .normal (actD D a) w) :
  ∀ (m:Nat) (b:Array Bool) (a:Act) (w:World),wpAny P .any ops Q m b a w->wpAnyIn F 0 P .any ops Q2 m b (actD D a) w:=by
 intro m
 induction m with
 | zero=>intro b a w h;exact⟨h.1,j _ _ h.2⟩
 | succ m ih =>
  intro b a w h
  refine⟨fun s=>j _ _ (h.1 s),fun i q=>?_⟩
  have c:=h.2 i q
  unfold wpOp at c
  unfold wpOpIn
  cases ho:ops[i]? with
  | none=>rw[ho]at c;exact ih _ _ _ c
  | some o =>
   rw[ho]at c
   have d:ZxC P o:=p o (by
    rw[Array.mem_toList_iff]
    exact Array.mem_of_getElem? ho)
   dsimp only at c ⊢
   rw[show(actD D a).tmps=a.tmps from rfl]
   by_cases l:Region.wanted o (yielded ops a.tmps)=true
   ·rw[if_pos l]at c ⊢
    rcases c with c|⟨_,c⟩
    ·exact ZkJ (a:=a) g rfl d.1 (d.2 a w) c k fun v w' r=>by
      rw[Zcu]
      exact ih _ _ _ r
    ·obtain⟨_,_,n⟩:=c
     cases k _ _ _ n
   ·rw[if_neg l]at c ⊢
    refine⟨fun f _=>g.fn f,?_⟩
    rw[Zcu]
    exact ih _ _ _ c
theorem ZlA {Q:Exit->Fr->List It->Prop}{s:Nat}{l:List Oper}(i:WF F)(m:P.follows .mixedOrders=true)(c:acyc l.toArray=true)(j:Calms P l)(h:RD P n wr l.toArray (enum 0 l) [] [] (Q .normal) fr O):WI F D P n wr (.region s l.toArray true) Q fr O:=by
 intro a w r
 have g:=Znx c h r
 refine wpIn_region_any m (Zuu i (fun o p=>j.all o (by simpa using p)) (fun e a w k=>k.1) ?_ _ _ _ _ g)
 rintro f w' ⟨_,fr',O',d,q⟩
 refine⟨rfl,fr',O',?_,q⟩
 have b:St n wr fr' O' f w':=by simpa using d
 rw[Zed b]
 exact b
end
theorem ResV.cell1 {P:Program}{wr:World}{fr:Fr}{O R:List It}{a t b sz:Nat}{v:Value}{cs:List Value}{c:TypeId}[Ty P t sz false](e:look fr a=some (.pointer (some ⟨b,0,none⟩)))(f:Pick (.blk b (v::cs) c) O R) :
  ResV P wr fr O (.cell a t) v :=
 ⟨_,e,fun w _ d=>Zc3 (by rw[ZcR (d.sat _ (f.perm.mem_iff.2 List.mem_cons_self))];rfl)⟩
section
variable {P:Program}{n:Nat}{wr:World}{fr:Fr}{O:List It}{QQ:Exit->Act->World->Prop}
def Pre (P:Program)(n:Nat)(wr:World)(c:Code)(QQ:Exit->Act->World->Prop)(fr:Fr)(O:List It):Prop:=∀ a w,St n wr fr O a w->c.wp P QQ a w
def Zq7 (K:Fr->List It->Prop):Exit->Fr->List It->Prop
 | .normal=>K
 | _=>fun _ _=>False
theorem Zcm {K:Fr->List It->Prop}(h:K fr O):Zq7 K .normal fr O:=h
theorem Ze4 {x y:Code}(h:W P n wr x (Zq7 (Pre P n wr y QQ)) fr O):Pre P n wr (.seq x y) QQ fr O:=by
 intro a w d
 refine wp_seq (wp_mono (h a w d) ?_)
 rintro e f w' ⟨fr',O',b,c⟩
 cases e with
 | normal=>exact c _ _ b
 | _=>exact c.elim
theorem ZxA {x y:Code}(K:Fr->List It->Prop)(h:W P n wr x (Zq7 K) fr O)(d:∀ fr' O',K fr' O'->Pre P n wr y QQ fr' O'):Pre P n wr (.seq x y) QQ fr O:=by
 intro a w f
 refine wp_seq (wp_mono (h a w f) ?_)
 rintro e g w' ⟨fr',O',b,c⟩
 cases e with
 | normal=>exact d _ _ c _ _ b
 | _=>exact c.elim
theorem ZxB {f:FuncId}{fn:Func}{c:Code}{args:List Value}{R:Ending->World->Prop}(n:Nat)(e:P.funcs[f]?=some fn)(d:fn.body=some c)(g:fn.ntmps=n)(b:Nat.ble args.length n=true)
  (h:Pre P n wr c (bodyPostM Fence.wide 0 P fn R) (Ze1 0 args) []):Calls P f args.toArray wr R:=ZkF e d g b fun a i=>h a wr i
theorem Zwc {c:Code}{b m:Nat}{cs:List Value}{t:TypeId}{O':List It}(d:Nat)(i:Upd O (.blk b cs t) (.row (.slice (some ⟨b,0,none⟩) m m) t d m cs) O')(f:cs.length=m*d)(g:m<=maxLen)(h:Pre P n wr c QQ fr O'):Pre P n wr c QQ fr O :=
 fun a w e=>h a w ⟨e.sim,e.old,e.own.toRow d f g i⟩
theorem ZBw {c:Code}(e:TypeId)(b:Nat)(h:Pre P n wr c QQ fr (.row (.slice none 0 0) e b 0 []::O)):Pre P n wr c QQ fr O :=
 fun a w d=>h a w ⟨d.sim,d.old,d.own.rowNil e b⟩
theorem Zsg {c:Code}(O1 R:List It)(p:World->Prop)(e:SubO (O1++R) O)(d:∀ w',(∀ i∈O1,i.sat w')->p w')(h:Pre P n wr c QQ fr (.fact (foot O1) p::R)):Pre P n wr c QQ fr O :=
 fun a w b=>h a w ⟨b.sim,b.old,(b.own.sub e).fact d⟩
theorem ZBv {c:Code}{fr':Fr}{O':List It}(d:Sub fr' fr)(b:SubO O' O)(h:Pre P n wr c QQ fr' O'):Pre P n wr c QQ fr O:=fun a w e=>h a w (e.sub d b)
end
theorem ZuG {F:Fence}{D:List Deferred}{P:Program}{n:Nat}{wr:World}{fr:Fr}{O:List It}{Q:Exit->Fr->List It->Prop}{x y:Code}(K:Fr->List It->Prop)(h:WI F D P n wr x (Zq7 K) fr O)(f:∀ fr' O',K fr' O'->WI F D P n wr y Q fr' O'):WI F D P n wr (.seq x y) Q fr O:=by
 refine ZbN fun a w g=>wpIn_mono (h a w g) ?_
 rintro e i w' ⟨d,fr',O',b,c⟩
 cases e with
 | normal=>exact⟨d,fr',O',b,thenQ_n (f _ _ c)⟩
 | _=>exact c.elim
theorem ZCk {F:Fence}{D:List Deferred}{P:Program}{n:Nat}{wr:World}{fr fr':Fr}{O O':List It}{Q:Exit->Fr->List It->Prop}{c:Code}(d:Sub fr' fr)(b:SubO O' O)(h:WI F D P n wr c Q fr' O'):WI F D P n wr c Q fr O:=fun a w e=>h a w (e.sub d b)
end Go.Wk
set_option maxHeartbeats 0
namespace Go.Proofs.YtpipekfmecikmaaGreatDoor
open Go Go.RowKit Go.Wk Tryz
attribute [local irreducible] W RL Does Zaq Zai retQ Calls Pu Stp RD Qy Ay Zaj RLI WI
def ZBD (p:PaL)(l:List DEra)(r:List ZaE)(a b:Int)(v:Value)(O:List It):Prop:=∃ b3 b4 b5,v = .func (.func 112) #[] #[.pointer (some ⟨b3,0,none⟩),.pointer (some ⟨b4,0,none⟩),.pointer (some ⟨b5,0,none⟩)] /\
 O=[.blk b3 (p.cells l r) 118,.blk b4 [.int .i64 a] 2,.blk b5 [.int .i64 b] 2]
theorem Zl0 (p:PaL)(l:List DEra)(r:List ZaE)(a b:Int)(w:World):Does prog 69 [.agg (p.cells l r).toArray,.int .i64 a,.int .i64 b] w (ZBD p l r a b):=by
 refine Zaa func69 rfl rfl rfl rfl ?_
 simp only[PaL.cells]
 repeat (first|(refine js ?_;(refine bx ?_;intro e))|refine walk ?_)
 rename_i c d
 exact ret_1 _ [.blk c (p.cells l r) 118,.blk d [.int .i64 a] 2,.blk e [.int .i64 b] 2] (.tmp rfl) SOA ⟨c,d,e,rfl,rfl⟩
def NxAt (rs:List DRule)(E:List DEra)(r:List ZaE)(t:Int):Prop:=∃ (k:Nat) (x:ZaE) (e:DEra) (o:Option Int),Zdh r t=(x,true)/\x.era=(k:Nat)/\E[k]?=some e/\RsSm (ruEr rs e)/\(-1000000000<=e.off/\e.off<=1000000000)/\(-1000000000000000000<=t/\t<=1000000000000000000)/\evtD (ruEr rs e) e.off t=some o/\nxD rs E t=Zc1 x.fin o/\∀ u,nxD rs E t=some u->t<u
theorem Zmz (p:PaL)(rs:List DRule)(E:List DEra)(r:List ZaE)(t:Int)(w:World)(l:Glob w)(m:ZnQ w p rs E r)(h:NxAt rs E r t) :
  Does prog 64 [.agg (p.cells E r).toArray,.int .i64 t] w (fun v O=>v=optV (nxD rs E t)/\O=[]):=by
 obtain⟨k,x,e,o,a,b,c,d,f,g,i,j,_⟩:=h
 rw[j]
 exact Zij p rs E r t k x e o w l m a b c d f g i
def PaF (p:PaL)(rs:List DRule)(E:List DEra)(r:List ZaE)(w:World):Prop:=RdSl w p.As p.cs ZaE.enc 3 r/\RdLL w p.Ar p.cr DRule.enc 11 (E.map (ruEr rs))
structure SpG (σ:Type) where
 t:Int
 s:σ
theorem Zy0 {G:Prop}(h:G:=by(apply Zbl;rfl;rfl;exact d1)):G:=h
theorem Zn3 {σ:Type}(L d e f:Nat)(p:PaL)(rs:List DRule)(E:List DEra)(r:List ZaE)(a b:Int)(S:Nat->Prop)(OC:σ->List It)(G:Int->Prop)(Inv:Int->σ->Prop)(wr:World)(Q:σ)(W:Inv a Q)(T:Glob wr)(Y:RdSl wr p.Ae p.ce DEra.enc 13 E)
  (y:G a) (D:∀ t u,G t->nxD rs E t=some u->u<=b->G u) (F:∀ t,G t->NxAt rs E r t)
  (Z:∀ (t u:Int) (s:σ),G t->G u->nxD rs E t=some u->t<u->u<=b->Inv t s->Zee prog L (.int .i64 u) wr (.blk d (p.cells E r) 118 :: .blk e [.int .i64 a] 2 :: .blk f [.int .i64 b] 2 :: .fact S (PaF p rs E r)::OC s) fun R O'=>R=true/\∃ i,Inv u i/\SubO (.blk d (p.cells E r) 118 :: .blk e [.int .i64 a] 2 :: .blk f [.int .i64 b] 2 :: .fact S (PaF p rs E r)::OC i) O') :
  Zaj prog 112 [.func (.yield L) #[] #[],.pointer (some ⟨d,0,none⟩),.pointer (some ⟨e,0,none⟩),.pointer (some ⟨f,0,none⟩)] wr (.blk d (p.cells E r) 118 :: .blk e [.int .i64 a] 2 :: .blk f [.int .i64 b] 2 :: .fact S (PaF p rs E r)::OC Q)
   (fun v O'=>v = .tuple #[]/\∃ t i,G t/\Inv t i/\(∀ u,nxD rs E t=some u->b<u)/\SubO (.blk d (p.cells E r) 118 :: .blk e [.int .i64 a] 2 :: .blk f [.int .i64 b] 2 :: .fact S (PaF p rs E r)::OC i) O'):=by
 have z:∀ w',Bel wr.heap.size wr w'->PaF p rs E r w'->ZnQ w' p rs E r:=fun w' w U=>⟨Y.up w,U.1,U.2⟩
 refine ZbA func112 rfl rfl rfl rfl ?_
 simp only[PaL.cells]at *
 have m:=F a y
 obtain⟨o,B⟩:∃ o,nxD rs E a=o:=⟨_,rfl⟩
 repeat (first|(refine js ?_;(apply Zad (h:=fun w' w H=>Zmz p rs E r _ w' (T.up w) (z w' w (Zbj (H.of (A := .fact S (PaF p rs E r)) cS_))) m);rfl;(rw[show optV (nxD rs E _)=optV o from congrArg optV B];rintro v O' ⟨rfl,rfl⟩)))|refine walk ?_)
 subst B
 refine Zah [(0,.func (.yield L) #[] #[]),(1,.pointer (some ⟨d,0,none⟩)),(2,.pointer (some ⟨e,0,none⟩)),(3,.pointer (some ⟨f,0,none⟩))] [] (fun g:SpG σ=>[(5,.int .i64 ((nxD rs E g.t).getD 0)),(6,.bool (nxD rs E g.t).isSome)])
  (fun g => .blk d [.slice p.Ae E.length p.ce,.slice p.As r.length p.cs,.slice p.Ar E.length p.cr] 118 :: .blk e [.int .i64 a] 2 :: .blk f [.int .i64 b] 2 :: .fact S (PaF p rs E r)::OC g.s) (fun g=>G g.t/\Inv g.t g.s) (fun g=>(b - g.t).toNat) ⟨a,Q⟩ SFA ?_ ⟨y,W⟩ ?_
 ·rw[List.append_nil];exact .refl _
 rintro⟨t,s⟩ ⟨ht,hi⟩
 dsimp only at ht hi ⊢
 rw[List.append_nil]
 have M:=F t ht
 obtain⟨q,x⟩:∃ q,nxD rs E t=q:=⟨_,rfl⟩
 have K:∀ u,q=some u->t<u:=fun u C=>by
  obtain⟨_,_,_,_,_,_,_,_,_,_,_,_,X⟩:=M
  exact X u (x.trans C)
 rw[x]
 rcases q with _|u
 ·dsimp only[Option.getD,Option.isSome]
  repeat (refine walk ?_)
  exact ZsT _ (.refl _) ⟨rfl,t,s,ht,hi,fun u C=>(by rw[x]at C;cases C),.refl _⟩
 ·have N:=K u rfl
  dsimp only[Option.getD,Option.isSome]
  rcases Int.lt_or_le b u with hbu|hbu
  ·have d1:decide (u<=b)=false:=dF_ (by omega)
   repeat (first|(apply RL_pu;rfl;exact Zy0)|refine walk1 ?_)
   exact ZsT _ (.refl _) ⟨rfl,t,s,ht,hi,fun v V=>(by rw[x]at V;cases V;exact hbu),.refl _⟩
  ·have d1:decide (u<=b)=true:=dT_ hbu
   have j:=D t u ht x hbu
   have m:=F u j
   obtain⟨o,B⟩:∃ o,nxD rs E u=o:=⟨_,rfl⟩
   have hy:=Z t u s ht j x N hbu hi
   repeat (first|(apply Zgx;rfl;rfl;rfl;(intro c h;cases h);rfl;(apply Pu_move;rfl);rfl;rfl;exact hy;rintro R O' ⟨rfl,i,J,I⟩)|(apply RL_pu;rfl;exact Zy0)|refine walk1 ?_)
   apply ZcN (.inl rfl);rfl;(intro c h;cases h);(apply Pu_not;rfl)
   refine Zbk ?_
   apply thenQ_n
   refine Zaf rfl (fun h=>(by cases h)) (fun h=>?_)
   refine ZcG (fr':=[(0,.func (.yield L) #[] #[]),(1,.pointer (some ⟨d,0,none⟩)),(2,.pointer (some ⟨e,0,none⟩)),(3,.pointer (some ⟨f,0,none⟩)),(5,.int .i64 u)]) (O' := .blk d [.slice p.Ae E.length p.ce,.slice p.As r.length p.cs,.slice p.Ar E.length p.cr] 118 :: .blk e [.int .i64 a] 2 :: .blk f [.int .i64 b] 2 :: .fact S (PaF p rs E r)::OC i) SFA I ?_
   repeat (first|(refine js ?_;(apply Zad (h:=fun w' w H=>Zmz p rs E r _ w' (T.up w) (z w' w (Zbj (H.of (A := .fact S (PaF p rs E r)) cS_))) m);rfl;(rw[show optV (nxD rs E _)=optV o from congrArg optV B];rintro v O' ⟨rfl,rfl⟩)))|refine walk ?_)
   subst B
   exact⟨⟨u,i⟩,by dsimp only;omega,⟨j,J⟩,SFA,by rw[List.append_nil];exact .refl _⟩
end Go.Proofs.YtpipekfmecikmaaGreatDoor
namespace Go.Wk
open Go Go.RowKit
section
variable {κ:Type}[DecidableEq κ]{kv:κ->Value}
variable {P:Program}{n:Nat}{wr:World}{fr:Fr}{O:List It}{ty:TypeId}{pos:String}{af:Array Edge}{dst:Option Tmp}{g:Option (Nat × Bool)}{Kp:Value->List It->Prop}
theorem Zob {t kt et b:Nat}{l:List (κ × Int)}{w:World}[hM:MapT P t kt et][hK:KeyT P kt κ kv][ZeroV P et (.int .i64 0)](h:(cmIt kv b l).sat w)(k:κ):(Instr.lookup t (.map (some b)) (kv k) true).run P w = .ok (.tuple #[.int .i64 (cget k l),.bool (decide (k∈l.map (·.1)))]) w:=by
 have d:=cmIt.heap h
 have j:=run_underlying (w:=w) (MapT.parts hM.h)
 have f:=hK.ask k l w
 have m:=ZeA (P:=P) (t:=et) (v := .int .i64 0) (w:=w)
 have g:=fun b=>hK.chk b k w
 obtain⟨c,e⟩:∃ c:Array MapEntry,c=(cent kv 0 l).toArray:=⟨_,rfl⟩
 rw[<- e]at d
 have i:c.toList=cent kv 0 l:=by rw[e]
 simp only[Instr.lookup,Sem.run_bind,j,Result.andThen_ok,Zbf (P:=P) d,Sem.run_pure,g,i,f]
 rw[Zgq]
 by_cases a:k∈l.map (·.1)
 ·rw[if_pos a,dT_ a]
  simp
 ·rw[if_neg a,Zdr k l a,dF_ a]
  simp[m]
theorem Zsf {t kt et b:Nat}{x e:Operand}{l:List (κ × Int)}{k:κ}{v:Int}{c:Bool}{R:List It}[hM:MapT P t kt et][hK:KeyT P kt κ kv][ZeroV P et (.int .i64 0)](j:ev fr x=some (.map (some b)))(g:ev fr e=some (kv k))(h:Pick (cmIt kv b l) O R)(i:cget k l=v)(f:decide (k∈l.map (·.1))=c) :
  Pu P n wr fr O (.lookup t x e true) ty (.tuple [.int .i64 v,.bool c].toArray):=fun a w d _ _ _ _=>by
 have:=Zob (P:=P) (t:=t) (kt:=kt) (et:=et) (d.own.sat _ (h.perm.mem_iff.2 List.mem_cons_self)) k
 simp only[execOp,d.sim.ev j,d.sim.ev g,Sem.run_bind,this,Result.andThen_ok,Sem.run_pure,i,f]
theorem ZpV {t kt et b:Nat}{l:List (κ × Int)}{w:World}[hM:MapT P t kt et][hK:KeyT P kt κ kv](h:(cmIt kv b l).sat w)(k:κ)(v:Int)(g:k ∉ l.map (·.1)):(Instr.mapUpdate t (.map (some b)) (kv k) (.int .i64 v)).run P w =
  .ok () { w with heap:=w.heap.setIfInBounds b (.map (cent kv 0 (l++[(k,v)])).toArray (l++[(k,v)]).length) }:=by
 have c:=cmIt.heap h
 have m:=run_underlying (w:=w) (MapT.parts hM.h)
 have e:=hK.ask k l w
 have f:=fun b=>hK.chk b k w
 obtain⟨a,d⟩:∃ a:Array MapEntry,a=(cent kv 0 l).toArray:=⟨_,rfl⟩
 rw[<- d]at c
 have i:a.toList=cent kv 0 l:=by rw[d]
 simp only[Instr.mapUpdate,Sem.run_bind,m,Result.andThen_ok,Zbf (P:=P) c,Sem.run_pure,f,i,e]
 rw[Zgq,if_neg g]
 have j:(a.push { key:=kv k,val := .int .i64 v,born:=l.length })=(cent kv 0 (l++[(k,v)])).toArray:=by
  rw[d,Zlt,Nat.zero_add]
  simp[cent]
 rw[<- j]
 simp[setObj,Sem.run,c]
theorem Zxn {t kt et b:Nat}{x f y:Operand}{l h:List (κ × Int)}{k:κ}{v:Int}{O':List It}[hM:MapT P t kt et][hK:KeyT P kt κ kv](o:ev fr x=some (.map (some b)))(i:ev fr f=some (kv k))(p:ev fr y=some (.int .i64 v))(j:k ∉ l.map (·.1))(m:l++[(k,v)]=h)(e:Upd O (cmIt kv b l) (cmIt kv b h) O')
  (q:Kp undef O'):Stp P n wr fr O ⟨dst,.mapUpdate t x f y,ty,pos,af,g⟩ Kp :=
 Zfj fun a w c=>by
  subst m
  have d:=setC c e
  refine⟨_,O',?_,d.1,d.2,q⟩
  have:=ZpV (P:=P) (t:=t) (kt:=kt) (et:=et) (c.own.sat _ e.mem) k v j
  simp only[execOp,c.sim.ev o,c.sim.ev i,c.sim.ev p,Sem.run_bind,this,Result.andThen_ok,Sem.run_pure]
theorem Zje {t kt et b:Nat}{x f y:Operand}{l h:List (κ × Int)}{k:κ}{v:Int}{O':List It}[hM:MapT P t kt et][hK:KeyT P kt κ kv](o:ev fr x=some (.map (some b)))(i:ev fr f=some (kv k))(p:ev fr y=some (.int .i64 v))(j:k ∉ l.map (·.1))(m:l++[(k,v)]=h)(e:Upd O (cmIt kv b l) (cmIt kv b h) O')
  (q:Kp undef O'):Stp P n wr fr O ⟨dst,.insert t x f y,ty,pos,af,g⟩ Kp :=
 Zfj fun a w c=>by
  subst m
  have d:=setC c e
  refine⟨_,O',?_,d.1,d.2,q⟩
  have:=ZpV (P:=P) (t:=t) (kt:=kt) (et:=et) (c.own.sat _ e.mem) k v j
  simp only[execOp,c.sim.ev o,c.sim.ev i,c.sim.ev p,Sem.run_bind,this,Result.andThen_ok,Sem.run_pure]
end
end Go.Wk
namespace Go.Proofs.YtpipekfmecikmaaGreatDoor
open Go Go.RowKit Go.Wk Tryz
instance:EqE prog 42 Zak Zak.enc where
 h r s w:=by
  unfold Zak.enc
  simp[go_sem,Ze5]
  rcases r with⟨_,_,_⟩
  rcases s with⟨_,_,_⟩
  simp only[Zmx,Result.ok.injEq,and_true]
  rw[Bool.eq_iff_iff]
  simp[and_assoc]
 g:=by kernel_rfl
attribute [local irreducible] W RL Does Zaq Zai retQ Calls Pu Stp RD Qy Ay Zaj RLI WI
def lkV (x:Zak):Value := .agg x.enc.toArray
theorem ZmL (k:Zak)(w:World):∀ (l:List (Zak × Int)) (i j:Nat),(Instr.findAsking 42 (lkV k) (cent lkV j l) i).run prog w = .ok (Zjp k l i) w
 | [],_,_=>rfl
 | x::l,i,j=>by
  have h:=EqE.h (P:=prog) (t:=42) (enc:=Zak.enc) k x.1 w
  rw[cent,Instr.findAsking,Zjp]
  simp only[lkV,Op.equal,Op.maxDepth]at h ⊢
  simp only[Sem.run_bind,h,Result.andThen_ok]
  by_cases a:k=x.1
  ·rw[dT_ a,if_pos a];rfl
  ·rw[dF_ a,if_neg a]
   have b:=ZmL k w l (i+1) (j+1)
   simp only[lkV]at b
   simpa using b
theorem Ztw (b:Bool)(k:Zak)(d:Nat)(w:World):(Instr.checkKey b (d+1+1) 42 (.agg k.enc.toArray)).run prog w = .ok () w:=by
 simp[Instr.checkKey,go_sem,Zak.enc]
instance:KeyT prog 42 Zak lkV where
 ask k l w:=by
  cases l with
  | nil=>simp[Instr.findKey,go_sem,cent,Instr.findNow,Zjp]
  | cons x l =>
   have h:=ZmL k w (x::l) 0 0
   simp only[cent]at h ⊢
   simp[Instr.findKey,go_sem,Instr.findNow,Instr.sameNow,lkV]
   exact h
 chk b k w:=Ztw b k 9998 w
 stay k w:=by simp[Instr.keyThatStays,Instr.sameBits,lkV,Zak.enc,Zgs]
def ZbP (x:Int × Nat):List Value:=[.int .i64 x.1,.int .i64 x.2]
def tyGo:List Zak->Nat->List (Zak × Int)
 | [],_=>[]
 | x::l,i=>(x,(i:Int))::tyGo l (i+1)
def tyM (ty:List Zak):List (Zak × Int):=tyGo ty 0
theorem ZhS:∀ (l:List Zak) (i:Nat),(tyGo l i).map (·.1)=l
 | [],_=>rfl
 | x::l,i=>by rw[tyGo,List.map_cons,ZhS l (i+1)]
theorem ZpP:∀ (l m:List Zak) (i:Nat),tyGo (l++m) i=tyGo l i++tyGo m (i+l.length)
 | [],_,_=>rfl
 | x::l,m,i=>by rw[List.cons_append,tyGo,tyGo,ZpP l m (i+1),List.cons_append,List.length_cons,show i+1+l.length=i+(l.length+1) by omega]
theorem ZpO (x:Zak):∀ (l:List Zak) (i:Nat),cget x (tyGo l i)=match ixL x l i with|some j=>(j:Int)|none=>0
 | [],_=>rfl
 | y::l,i=>by
  rw[tyGo,cget,ixL]
  by_cases h:y=x
  ·rw[if_pos h,if_pos h.symm]
  ·rw[if_neg h,if_neg (fun a=>h a.symm),ZpO x l (i+1)]
theorem ZtK {x:Zak}:∀ (l:List Zak) (i:Nat),(ixL x l i).isSome=decide (x∈l)
 | [],_=>rfl
 | y::l,i=>by
  rw[ixL]
  by_cases h:y=x
  ·rw[if_pos h,h];simp
  ·rw[if_neg h,ZtK l (i+1)]
   have:x≠y:=fun a=>h a.symm
   simp[this]
theorem ZBB (x:Zak)(ty:List Zak):decide (x∈(tyM ty).map (·.1))=(ixL x ty 0).isSome:=by rw[tyM,ZhS,ZtK]
theorem ZAd (x:Zak)(ty:List Zak):tyM ty++[(x,(ty.length:Int))]=tyM (ty++[x]):=by rw[tyM,tyM,ZpP,Nat.zero_add];rfl
theorem ZAc {x:Zak}{ty:List Zak}(h:ixL x ty 0=none):x ∉ (tyM ty).map (·.1):=by rw[tyM,ZhS];exact Zla ty 0 h
def LcAt (rs:List DRule)(E:List DEra)(r:List ZaE)(t:Int):Prop:=∃ (k:Nat) (x:ZaE) (e:DEra),Zdh r t=(x,true)/\x.era=(k:Nat)/\E[k]?=some e/\LcOk rs e/\(-1000000000000000000<=t/\t<=1000000000000000000) /\
 (-1000000000<=(ZaU rs e t).1/\(ZaU rs e t).1<=1000000000)/\(ZaU rs e t).2.size<=1000000000/\abE e (ZaU rs e t)=0/\Zbw rs E t=ZeM e (ZaU rs e t)
theorem Zos (p:PaL)(rs:List DRule)(E:List DEra)(r:List ZaE)(t:Int)(w:World)(n:LibW w)(m:Glob w)(o:ZnQ w p rs E r)(h:LcAt rs E r t) :
  Does prog 68 [.agg (p.cells E r).toArray,.int .i64 t] w (fun v O=>v = .tuple #[.agg (Zbw rs E t).enc.toArray,.int .i64 0]/\O=[]):=by
 obtain⟨k,x,e,a,b,c,d,f,g,i,j,l⟩:=h
 rw[l]
 exact ZkZ p rs E r t k x e w n m o a b c d f g i j
def alN (e:Int)(v:Value)(O:List It):Prop:=v = .tuple #[.slice none 0 0,.slice none 0 0,.int .i64 e]/\O=[]
theorem Zux (Ar Az Al As:Option Addr)(f g e cs:Nat)(s:DSource)(c:ByteArray)(a b:Int)(w:World)(d:(tOk a&&tOk b)=false) :
  Does prog 27 [srcV Ar Az Al As f g e cs s,.string c,.int .i64 a,.int .i64 b] w (alN 3):=by
 refine Zaa func27 rfl rfl rfl rfl ?_
 repeat (first|refine walk ?_|(refine jg ?_;(try intro F);(first|(refine Zab (fun w' _=>Za5 a w') ?_)|(refine bx ?_;intro j));refine fin ?_))
 cases ha:tOk a with
 | false =>
  repeat (refine walk ?_)
  exact Zcj _ _ _ [] (.cell1 rfl cS_) (.cell1 rfl cS_) (.cell1 rfl cS_) .nil ⟨rfl,rfl⟩
 | true =>
  rw[ha,Bool.true_and]at d
  repeat (first|refine walk ?_|(refine jg ?_;(try intro F);((refine Zab (fun w' _=>Za5 b w') ?_));refine fin ?_))
  rw[d]
  repeat (refine walk ?_)
  exact Zcj _ _ _ [] (.cell1 rfl cS_) (.cell1 rfl cS_) (.cell1 rfl cS_) .nil ⟨rfl,rfl⟩
theorem ZCX {G:Prop}(h:G:=by(apply Zal;rfl;rfl;exact e3)):G:=h
theorem Zxg (Ar Az Al As:Option Addr)(f g d cs:Nat)(s:DSource)(c:ByteArray)(a b:Int)(w:World)(h:Zdc w Ar Az Al As f g d cs s)(r:s.zones.length+s.links.length<=1000000)(t:tOk a=true)(m:tOk b=true)(p:(ZbV s c).2≠0) :
  Does prog 27 [srcV Ar Az Al As f g d cs s,.string c,.int .i64 a,.int .i64 b] w (alN (ZbV s c).2):=by
 have j:=fun w' (u:Bel w.heap.size w w')=>Zj8 Ar Az Al As f g d cs s c w' (h.up u) r p
 have e3:(!decide ((ZbV s c).2=0))=true:=by rw[dF_ p];rfl
 generalize (ZbV s c).2=e at *
 refine Zaa func27 rfl rfl rfl rfl ?_
 repeat (first|refine walk ?_|(refine jg ?_;(try intro F);(first|(refine Zab (fun w' _=>Za5 a w') ?_)|(refine bx ?_;intro q));refine fin ?_))
 rw[t]
 repeat (first|refine walk ?_|(refine jg ?_;(try intro F);((refine Zab (fun w' _=>Za5 b w') ?_));refine fin ?_))
 rw[m]
 repeat (first|(apply RL_pu;rfl;exact ZCX)|refine walk1 ?_|(refine jg ?_;(try intro F);(first|(refine Zab j ?_)|(refine bx ?_;intro q));first|refine⟨_,EndsA,QFWaF0,?_⟩|refine fin ?_))
 exact Zcj _ _ _ [] (.cell1 rfl cS_) (.cell1 rfl cS_) (.cell1 rfl cS_) .nil ⟨rfl,rfl⟩
end Go.Proofs.YtpipekfmecikmaaGreatDoor
namespace Go.Wk
open Go Go.RowKit
section
variable {P:Program}{n:Nat}{wr:World}{ops:Array Oper}{todo todo':List (Nat × Oper)}{V:List Qp}{Al:List Ap}{K:Fr->List It->Prop}{fr:Fr}{O:List It}
theorem ZoA {i:Nat}{o:Oper}{V':List Qp}(B:todo.Perm ((i,o)::todo'))(S:ZgO o.op=true)(hg:∀ a,Sim n fr a->Region.wanted o (yielded ops a.tmps)=true)(c:ZiR o.dst n Al=true)(I:V'.Sublist V)(J:∀ X:List Qp,X.Sublist V->(∀ x∈X,gone ops i x=false)->X.Sublist V')
  (G:∀ F,Stp P n wr fr (O++F) o fun v O'=>∃ O'',Ends O' F O''/\QF P n wr ops (updF fr o.dst v) O'' V'/\AF P n wr ops (updF fr o.dst v) Al/\RD P n wr ops todo' V' Al K (updF fr o.dst v) O'')
  (A:Rg P n wr ops todo V Al fr O) (m:Nat) (F:List It) (X:List Qp) (Y:List (Ap × Nat)) (N:List Ap) (a:Act) (w:World) (U:X.Sublist V) (T:Al.Perm (Y.map (·.1)++N)) (l:St n wr (ZaQ Y++fr) (O++(ZcI Y++F)) (putX a X) w) (hm:todo.length+X.length+N.length<=m+1) (L:Zfy ops (Tof todo X N)) (R:∃ o,ops[i]?=some o/\∀ e∈o.after,Region.binds .any e=true->¬ Tof todo X N e.on) :
  wpOp P ops (ZfI n wr F K) i (AnyT P ops (ZfI n wr F K) m (fun j=>Tof todo X N j/\j≠i)) a w:=by
 have Q:(i,o)∈todo:=B.mem_iff.2 List.mem_cons_self
 have z:=A.ok _ Q
 simp only at z
 have ag:∀ p∈ZaQ Y,look fr p.1=none:=fun p B=>by
  obtain⟨y,f,rfl⟩:=List.mem_map.1 B
  obtain⟨_,_,_,_,_,_,h,_⟩:=A.af.mem y.1 (T.mem_iff.2 (List.mem_append_left _ (List.mem_map.2 ⟨y,f,rfl⟩)))
  exact h
 have t:∀ y∈X,y.d ∉ o.looksAt ops:=fun y f=>by
  obtain⟨oy,_,_,W,_⟩:=A.qf.mem y (U.subset f)
  exact ZfL W z (Zbv R (.inr (.inl ⟨y,f,rfl⟩)))
 have D:∀ y∈X,i≠y.i:=fun y f=>(List.nodup_append.1 A.idx).2.2 _ (List.mem_map.2 ⟨_,Q,rfl⟩) _ (List.mem_append_left _ (List.mem_map.2 ⟨y,U.subset f,rfl⟩))
 have ad:∀ y∈X,o.dst≠some y.d:=fun y f=>by
  obtain⟨oy,_,_,W,_⟩:=A.qf.mem y (U.subset f)
  exact Zj3 W z (D y f) (Zbv R (.inr (.inl ⟨y,f,rfl⟩)))
 have ac:X.Sublist V':=J X U fun y f=>by
  have H:Tof todo X N y.i := .inr (.inl ⟨y,f,rfl⟩)
  have h1:=Zbv R H
  have h2:Zh8 ops y.i i=false:=by
   cases hh:Zh8 ops y.i i with
   | false=>rfl
   | true=>exact absurd ⟨H,fun e=>D y f e.symm⟩ (Zh7 (L.step R) hh fun h=>h.2 rfl)
  rw[gone,h1,h2]
  rfl
 have C:Sim n fr (putX a X):=l.sim.lsub (Zc8 ag fun _ _ h=>h)
 have M:=ZeV (ops:=ops) (ZdK S) X a t
 have r:=hg _ C
 rw[M.2]at r
 have g:=(B.map (·.1)).append_right (V.map (·.i)++Al.map (·.i)) |>.nodup_iff.1 A.idx
 rw[List.map_cons,List.cons_append,List.nodup_cons]at g
 have hT:(fun j=>Tof todo X N j/\j≠i)=Tof todo' X N:=by
  funext j
  apply propext
  constructor
  ·rintro⟨⟨q,s,rfl⟩|h|h,hne⟩
   ·rcases List.mem_cons.1 (B.mem_iff.1 s) with rfl|s
    ·exact absurd rfl hne
    ·exact .inl ⟨q,s,rfl⟩
   ·exact .inr (.inl h)
   ·exact .inr (.inr h)
  ·rintro(⟨q,s,rfl⟩|⟨x,hx,rfl⟩|⟨k,hk,rfl⟩)
   ·exact⟨.inl ⟨q,B.mem_iff.2 (List.mem_cons_of_mem _ s),rfl⟩,fun e=>g.1 (List.mem_append_left _ (List.mem_map.2 ⟨q,s,e⟩))⟩
   ·exact⟨.inr (.inl ⟨x,hx,rfl⟩),fun e=>D x hx e.symm⟩
   ·have ae:k∈Al:=T.mem_iff.2 (List.mem_append_right _ hk)
    exact⟨.inr (.inr ⟨k,hk,rfl⟩),fun e=>g.1 (List.mem_append_right _ (List.mem_append_right _ (List.mem_map.2 ⟨k,ae,e⟩)))⟩
 unfold Go.wpOp
 simp only[z,r,if_true]
 refine .inl ?_
 rw[hT]
 have E:∀ d,o.dst=some d->d<(putX a X).tmps.size:=fun d hd=>by
  rw[hd]at c
  simp only[ZiR,Bool.and_eq_true]at c
  rw[l.sim.size]
  exact Nat.le_of_ble_eq_true c.1
 refine ZhL (Kn:=fun b w'=>(∃ v,b=(putX a X).put o.dst v)/\∀ v,b=(putX a X).put o.dst v->AnyT P ops (ZfI n wr F K) m (Tof todo' X N) (a.put o.dst v) w') M.1 (fun v w' h=>h.2 v rfl) ?_ ?_
 ·rintro d w' ⟨⟨v,h⟩,_⟩
  have:=congrArg (fun x:Act=>x.defers.length) h
  simp[ZjN]at this
 ·refine G (ZcI Y++F) _ w ⟨C,l.old,l.own⟩ _ _ ?_
  rintro v O' w' hB hH ⟨O'',hE,aa,Z,ab⟩
  refine⟨⟨v,rfl⟩,fun u hu=>?_⟩
  rw[<- Zs8 E hu a]
  rw[hE.eq]at hH
  refine ab ⟨?_,?_,aa,Z,fun q s=>A.ok q (B.mem_iff.2 (List.mem_cons_of_mem _ s))⟩ m F X Y N _ w' ac T ⟨?_,hB,hH⟩ ?_ (hT▸L.step R)
  ·refine g.2.sublist ?_
   exact(List.Sublist.refl _).append ((I.map _).append (List.Sublist.refl _))
  ·exact A.dst.sublist ((I.map _).append (List.Sublist.refl _))
  ·rw[Zf7 X a _ _ ad]
   cases hd:o.dst with
   | none=>exact l.sim
   | some d =>
    rw[hd]at c
    simp only[ZiR,Bool.and_eq_true,List.all_eq_true,Bool.not_eq_true']at c
    refine(l.sim.put c.1 v).lsub (Zd4 fun q s=>?_)
    obtain⟨y,f,rfl⟩:=List.mem_map.1 s
    exact Nat.ne_of_beq_eq_false (c.2 y.1 (T.mem_iff.2 (List.mem_append_left _ (List.mem_map.2 ⟨y,f,rfl⟩))))
  ·have:=B.length_eq
   simp only[List.length_cons]at this
   omega
theorem Zlz {o:Oper}(a:alOk n fr o.dst Al=true):ZiR o.dst n Al=true:=by
 unfold alOk at a
 cases hd:o.dst with
 | none=>rfl
 | some d =>
  rw[hd]at a
  simp only[Bool.and_eq_true]at a
  simp only[ZiR,Bool.and_eq_true]
  exact a.1
theorem Zpb {o:Oper}{v:Value}(a:alOk n fr o.dst Al=true)(b:AF P n wr ops fr Al):AF P n wr ops (updF fr o.dst v) Al:=by
 cases hd:o.dst with
 | none=>exact b
 | some d =>
  unfold alOk at a
  rw[hd]at a
  simp only[Bool.and_eq_true,Bool.or_eq_true,List.all_eq_true,Bool.not_eq_true']at a
  rcases a.2 with he|hl
  ·have:Al=[]:=by simpa using he
   subst this
   exact trivial
  ·have c:look fr d=none:=by simpa using hl
   refine AF.mono (LSub.cons c) (fun k e=>?_) b
   obtain⟨_,_,_,_,_,_,h,_⟩:=b.mem k e
   show look ((d,v)::fr) k.d=none
   rw[ZfK (Nat.ne_of_beq_eq_false (a.1.2 k e))]
   exact h
def okT (ops:Array Oper)(fr:Fr)(todo:List (Nat × Oper))(i1 i2:Nat)(o1 o2:Oper)(ks:List Nat):Bool:=(todo.all fun p=>Nat.beq p.1 i1||(Nat.beq p.1 i2||((todo.any fun q=>Zbm ops q.1 p.1)||ks.any fun k=>Zbm ops k p.1)))&&(ZgO o1.op&&(ZgO o2.op&&((match gst ops fr o1.guard with|some b=>b|none=>false)&&(match gst ops fr o2.guard with|some b=>b|none=>false))))
theorem ZoI {o:Oper}(h:(match gst ops fr o.guard with|some b=>b|none=>false)=true):gst ops fr o.guard=some true:=by
 split at h
 ·rename_i b a
  rw[a,h]
 ·cases h
theorem ZCn {J i2:Nat}{r z:Oper}{A f:List (Nat × Oper)}{V1 V2:List Qp}{ks:List (Ap × List Ap)}(kk:∀ x∈ks,∀ b,RD P n wr ops todo V x.2 K ((x.1.d,x.1.val b)::fr) (x.1.it b::O))
  (g:∀ F,Stp P n wr fr (O++F) r fun v O'=>∃ O'',Ends O' F O''/\QF P n wr ops (updF fr r.dst v) O'' V1/\RD P n wr ops A V1 Al K (updF fr r.dst v) O'')
  (k:∀ F,Stp P n wr fr (O++F) z fun v O'=>∃ O'',Ends O' F O''/\QF P n wr ops (updF fr z.dst v) O'' V2/\RD P n wr ops ((J,r)::f) V2 Al K (updF fr z.dst v) O'')
  (ab:Zif ops todo Al todo=some ((J,r),A)) (ac:Zif ops todo Al A=some ((i2,z),f)) (aa:Zll ops todo [] Al=ks) (G:okT ops fr todo J i2 r z (ks.map (·.1.i))=true) (l:alOk n fr r.dst Al=true) (o:alOk n fr z.dst Al=true) (C:Filt ops J V V1) (D:Filt ops i2 V V2) :
  RD P n wr ops todo V Al K fr O:=by
 have q1:=(ZdI ab).perm
 have q2:todo.Perm ((i2,z)::(J,r)::f):=q1.trans (((ZdI ac).perm.cons _).trans (List.Perm.swap _ _ _))
 simp only[okT,Bool.and_eq_true]at G
 obtain⟨h1,h2,h3,h4,h5⟩:=G
 have g1:=ZoI h4
 have g2:=ZoI h5
 refine Ze2 (fun h=>?_) ?_
 ·have:=q1.length_eq
  rw[h]at this
  simp at this
 intro B m F X Y N a w W U y hm s p H t
 have c:=List.all_eq_true.1 h1 p H
 simp only[Bool.or_eq_true]at c
 rcases c with c|c|c|c
 ·rw[Nat.eq_of_beq_eq_true c]at t ⊢
  exact ZoA q1 h2 (fun a u=>Zd6 g1 u) (Zlz l) C.le C.ge (fun F a w u Kn Q E=>g F a w u Kn Q fun v O' w' L M ⟨O'',R,S,T⟩=>E v O' w' L M ⟨O'',R,S,Zpb l B.af,T⟩) B m F X Y N a w W U y hm s t
 ·rw[Nat.eq_of_beq_eq_true c]at t ⊢
  exact ZoA q2 h3 (fun a u=>Zd6 g2 u) (Zlz o) D.le D.ge (fun F a w u Kn Q E=>k F a w u Kn Q fun v O' w' L M ⟨O'',R,S,T⟩=>E v O' w' L M ⟨O'',R,S,Zpb o B.af,T⟩) B m F X Y N a w W U y hm s t
 ·rw[List.any_eq_true]at c
  obtain⟨q,hq,hh⟩:=c
  rw[Zbv t (.inl ⟨q,hq,rfl⟩)]at hh
  cases hh
 ·rw[List.any_eq_true]at c
  obtain⟨j,hj,he⟩:=c
  obtain⟨x,hx,rfl⟩:=List.mem_map.1 hj
  have I:=hx
  rw[<- aa]at I
  have e:=ZgW Al [] x I
  have Z:x.1 ∉ N:=fun E=>by
   rw[Zbv t (.inr (.inr ⟨x.1,E,rfl⟩))]at he
   cases he
  exact Zi8 (kk x hx) (B.perm e) m F X Y N a w W (e.symm.trans U) y hm s p H t Z
theorem ZD8 {i1 i2:Nat}{o1 o2:Oper}{td1 rest:List (Nat × Oper)}{V1 V2:List Qp}
  (a:∀ F,Stp P n wr fr (O++F) o1 fun v O'=>∃ O'',Ends O' F O''/\QF P n wr ops (updF fr o1.dst v) O'' V1/\RD P n wr ops td1 V1 Al K (updF fr o1.dst v) O'')
  (b:∀ F,Stp P n wr fr (O++F) o2 fun v O'=>∃ O'',Ends O' F O''/\QF P n wr ops (updF fr o2.dst v) O'' V2/\RD P n wr ops ((i1,o1)::rest) V2 Al K (updF fr o2.dst v) O'')
  (hp1:Zif ops todo Al todo=some ((i1,o1),td1):=by rfl) (hp2:Zif ops todo Al td1=some ((i2,o2),rest):=by rfl) (hks:Zll ops todo [] Al=[]:=by rfl) (hok:okT ops fr todo i1 i2 o1 o2 []=true:=by rfl) (hal1:alOk n fr o1.dst Al=true:=by rfl) (hal2:alOk n fr o2.dst Al=true:=by rfl)
  (hV1:Filt ops i1 V V1:=by repeat (first|exact Go.Wk.Filt.nil|(apply Go.Wk.Filt.drop;rfl)|(apply Go.Wk.Filt.dropT;rfl)|(apply Go.Wk.Filt.keep;rfl))) (hV2:Filt ops i2 V V2:=by repeat (first|exact Go.Wk.Filt.nil|(apply Go.Wk.Filt.drop;rfl)|(apply Go.Wk.Filt.dropT;rfl)|(apply Go.Wk.Filt.keep;rfl))) :
  RD P n wr ops todo V Al K fr O:=ZCn (fun _ c=>by cases c) a b hp1 hp2 hks hok hal1 hal2 hV1 hV2
def ZBy (P:Program)(n:Nat)(wr:World)(ops:Array Oper)(todo:List (Nat × Oper))(V:List Qp)(Al:List Ap)(K:Fr->List It->Prop)(N:List Ap)(p:Nat × Oper)(fr:Fr)(O:List It):Prop:=Rg P n wr ops todo V Al fr O->(∀ (m:Nat) (F:List It) (X:List Qp) (Y:List (Ap × Nat)) (a:Act) (w:World),X.Sublist V->Al.Perm (Y.map (·.1)++N)->St n wr (ZaQ Y++fr) (O++(ZcI Y++F)) (putX a X) w->todo.length+X.length+N.length<=m+1->Zfy ops (Tof todo X N)->(∃ o,ops[p.1]?=some o/\∀ e∈o.after,Region.binds .any e=true->¬ Tof todo X N e.on)->wpOp P ops (ZfI n wr F K) p.1 (AnyT P ops (ZfI n wr F K) m (fun j=>Tof todo X N j/\j≠p.1)) a w)
theorem ZAM {N:List Ap}{p:Nat × Oper}(i:p∈todo)(h:RD P n wr ops todo V Al K fr O):ZBy P n wr ops todo V Al K N p fr O:=fun e m F X Y a w f d c g b j=>(h e (m+1) F X Y N a w f d c g b).2 p.1 (.inl ⟨p,i,rfl⟩) j
theorem Zlo {k:Ap}{N:List Ap}{p:Nat × Oper}(G:k ∉ N)(W:∀ b,ZBy P n wr ops todo V Al K N p ((k.d,k.val b)::fr) (k.it b::O)):ZBy P n wr ops todo V (k::Al) K N p fr O:=by
 intro r m F X Y a w R M q S E T
 have H:k∈Y.map (·.1):=by
  rcases List.mem_append.1 (M.mem_iff.1 List.mem_cons_self) with h|h
  ·exact h
  ·exact absurd h G
 obtain⟨⟨f,b⟩,A,rfl⟩:=List.mem_map.1 H
 obtain⟨Y1,Y2,rfl⟩:=List.append_of_mem A
 obtain⟨⟨o,h1,h2,h3,h4,h5,L,h7⟩,s⟩:=r.af
 have g:∀ x∈Al,x.d≠f.d:=fun x C e=>by
  have:=(List.nodup_append.1 r.dst).2.1
  rw[List.map_cons,List.nodup_cons]at this
  exact this.1 (List.mem_map.2 ⟨x,C,e⟩)
 have j:Al.Perm ((Y1++Y2).map (·.1)++N):=by
  have B:((Y1++(f,b)::Y2).map (·.1)++N).Perm (f::((Y1++Y2).map (·.1)++N)):=by
   simp only[List.map_append,List.map_cons,List.append_assoc,List.cons_append]
   exact List.perm_middle
  exact(List.perm_cons f).1 (M.trans B)
 refine W b ⟨?_,?_,r.qf.mono (LSub.cons L) (SubO.weak _ (SubO.refl _)),AF.mono (LSub.cons L) (fun x C=>?_) s,r.ok⟩ m F X (Y1++Y2) a w R j ⟨?_,q.old,?_⟩ S E T
 ·refine r.idx.sublist ?_
  simp only[List.map_cons]
  exact(List.Sublist.refl _).append ((List.Sublist.refl _).append (List.sublist_cons_self _ _))
 ·refine r.dst.sublist ?_
  simp only[List.map_cons]
  exact(List.Sublist.refl _).append (List.sublist_cons_self _ _)
 ·obtain⟨_,_,_,_,_,_,h,_⟩:=s.mem x C
  rw[ZfK (g x C)]
  exact h
 ·refine q.sim.lsub ?_
  have i:∀ p∈ZaQ Y1,p.1≠f.d:=fun p c e=>by
   obtain⟨y,A,rfl⟩:=List.mem_map.1 c
   have l:y.1∈Al:=j.mem_iff.2 (List.mem_append_left _ (List.mem_map.2 ⟨y,List.mem_append_left _ A,rfl⟩))
   exact g y.1 l e
  have u:∀ p∈ZaQ Y2,p.1≠f.d:=fun p c e=>by
   obtain⟨y,A,rfl⟩:=List.mem_map.1 c
   have l:y.1∈Al:=j.mem_iff.2 (List.mem_append_left _ (List.mem_map.2 ⟨y,List.mem_append_right _ A,rfl⟩))
   exact g y.1 l e
  intro t v Q
  have B:=Zd4 (v:=f.val b) (fr:=fr) (Z:=ZaQ (Y1++Y2)) (fun p c=>by
   rw[ZaQ,List.map_append]at c
   rcases List.mem_append.1 c with c|c
   ·exact i p c
   ·exact u p c) t v Q
  have I:ZaQ (Y1++(f,b)::Y2)++fr=ZaQ Y1++(f.d,f.val b)::(ZaQ Y2++fr):=by simp[ZaQ]
  have J:ZaQ (Y1++Y2)++fr=ZaQ Y1++(ZaQ Y2++fr):=by simp[ZaQ]
  rw[I]
  rw[J]at B
  clear I J Q
  revert B i
  generalize ZaQ Y1=Z
  intro D
  induction Z with
  | nil=>exact fun h=>h
  | cons z Z ih =>
   intro h
   have U:=D z List.mem_cons_self
   simp only[List.cons_append,look]at h ⊢
   cases hb1:Nat.beq f.d t with
   | true =>
    have e:=Nat.eq_of_beq_eq_true hb1
    subst e
    rw[hb1]at h
    have:Nat.beq z.1 f.d=false:=by
     cases hc:Nat.beq z.1 f.d with
     | false=>rfl
     | true=>exact absurd (Nat.eq_of_beq_eq_true hc) U
    rw[this]
    refine ih (fun p c=>D p (List.mem_cons_of_mem _ c)) ?_
    simp only[look,hb1]
    exact h
   | false =>
    rw[hb1]at h
    cases hb2:Nat.beq z.1 t with
    | true=>rw[hb2]at h;simpa using h
    | false =>
     rw[hb2]at h
     refine ih (fun p c=>D p (List.mem_cons_of_mem _ c)) ?_
     simp only[look,hb1]
     simpa using h
 ·refine q.own.perm ?_
  simp only[ZcI,List.map_append,List.map_cons,List.append_assoc,List.cons_append]
  have h:=List.perm_middle (a:=f.it b) (l₁:=O++List.map (fun y:Ap × Nat=>y.1.it y.2) Y1) (l₂:=List.map (fun y:Ap × Nat=>y.1.it y.2) Y2++F)
  simpa using h
def okA (ops:Array Oper)(fr:Fr)(todo todo':List (Nat × Oper))(o:Oper)(ks:List Nat):Bool:=(todo'.all fun p=>(todo.any fun q=>Zbm ops q.1 p.1)||ks.all fun k=>Zbm ops k p.1)&&(ZgO o.op&&(match gst ops fr o.guard with|some b=>b|none=>false))
theorem ZCq {i:Nat}{o:Oper}{todo':List (Nat × Oper)}{V':List Qp}{k k2 k3:Ap}{A0:List Ap}(W:∀ l r s,RD P n wr ops todo V A0 K ((k3.d,k3.val s)::(k2.d,k2.val r)::(k.d,k.val l)::fr) (k3.it s::k2.it r::k.it l::O))
  (c:∀ F,Stp P n wr fr (O++F) o fun v O'=>∃ O'',Ends O' F O''/\QF P n wr ops (updF fr o.dst v) O'' V'/\RD P n wr ops todo' V' (k::k2::k3::A0) K (updF fr o.dst v) O'')
  (hp:Zif ops todo (k::k2::k3::A0) todo=some ((i,o),todo'):=by rfl) (hV:Filt ops i V V':=by repeat (first|exact Go.Wk.Filt.nil|(apply Go.Wk.Filt.drop;rfl)|(apply Go.Wk.Filt.dropT;rfl)|(apply Go.Wk.Filt.keep;rfl))) (hok:okA ops fr todo todo' o [k.i,k2.i,k3.i]=true:=by rfl) (hal:alOk n fr o.dst (k::k2::k3::A0)=true:=by rfl):RD P n wr ops todo V (k::k2::k3::A0) K fr O:=by
 have z:=(ZdI hp).perm
 simp only[okA,Bool.and_eq_true]at hok
 obtain⟨J,L,M⟩:=hok
 have g1:=ZoI M
 refine Ze2 (fun h=>?_) ?_
 ·have:=z.length_eq
  rw[h]at this
  simp at this
 intro u m F X Y N a w B A j C f p g t
 rcases List.mem_cons.1 (z.mem_iff.1 g) with hpe|hin
 ·subst hpe
  exact ZoA z L (fun a y=>Zd6 g1 y) (Zlz hal) hV.le hV.ge (fun F a w y Kn Q S=>c F a w y Kn Q fun v O' w' D E ⟨O'',G,H,I⟩=>S v O' w' D E ⟨O'',G,H,Zpb hal u.af,I⟩) u m F X Y N a w B A j C f t
 ·have b:=List.all_eq_true.1 J p hin
  simp only[Bool.or_eq_true]at b
  rcases b with b|b
  ·rw[List.any_eq_true]at b
   obtain⟨q,T,b⟩:=b
   rw[Zbv t (.inl ⟨q,T,rfl⟩)]at b
   cases b
  ·have e:∀ x:Ap,x.i∈[k.i,k2.i,k3.i]->x ∉ N:=fun x U R=>by
    have:=List.all_eq_true.1 b _ U
    rw[Zbv t (.inr (.inr ⟨x,R,rfl⟩))]at this
    cases this
   exact Zlo (e k (by simp)) (fun l=>Zlo (e k2 (by simp)) fun r=>Zlo (e k3 (by simp)) fun s=>ZAM g (W l r s)) u m F X Y a w B A j C f t
