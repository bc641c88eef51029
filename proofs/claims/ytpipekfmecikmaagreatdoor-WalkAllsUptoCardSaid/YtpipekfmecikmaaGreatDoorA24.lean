/- Parts of the proof. -/
import Derived.Test.YtpipekfmecikmaaGreatDoorA23
set_option maxHeartbeats 0
set_option linter.all false
namespace Go.Proofs.YtpipekfmecikmaaGreatDoor
open Go Go.RowKit Go.Wk Tryz
def ZcB (e:Zac)(l:List Zac):Bool:=l.any fun x=>ltE x e&&decide (e.nominal - x.nominal<259200)
def ZmA (Y:Nat->List Zac)(N y:Nat)(e:Zac):Bool:=ZcB e (Y y)||(decide (0<y)&&ZcB e (Y (y - 1)))||(decide (y+1<N)&&ZcB e (Y (y+1)))
def befE (e:Zac):Option Zac->Bool
 | none=>true
 | some b=>ltE e b
def capI (p:Zac->Bool):List Zac->Option Zac->Option Zac
 | [],o=>o
 | e::l,o=>capI p l (if p e&&befE e o then some e else o)
def capJ (Y:Nat->List Zac)(N:Nat):Nat->Nat->Option Zac->Option Zac
 | 0,_,o=>o
 | k+1,y,o=>capJ Y N k (y+1) (capI (ZmA Y N y) (Y y) o)
def Zde (l:List DRule)(y:Nat):List Zac:=Zb6 (Zae l) (1850+y) l 0
def capD (l:List DRule):Option Zac:=capJ (Zde l) 701 701 0 none
def ZdV (P:Zac->Prop):Option Zac->Prop
 | none=>∀ e,¬ P e
 | some e=>P e/\∀ e',P e'->ltE e' e=false
theorem ZdV.uni {P:Zac->Prop}:∀ {o c:Option Zac},ZdV P o->ZdV P c->o=c
 | none,none,_,_=>rfl
 | none,some e,h,h'=>absurd h'.1 (h e)
 | some e,none,h,h'=>absurd h.1 (h' e)
 | some a,some b,h,h'=>by rw[totE a b (h'.2 a h.1) (h.2 b h'.1)]
theorem ZdV.iff {P Q:Zac->Prop}(b:∀ e,P e↔Q e):∀ {o:Option Zac},ZdV P o->ZdV Q o
 | none,h=>fun e c=>h e ((b e).2 c)
 | some a,h=>⟨(b a).1 h.1,fun e c=>h.2 e ((b e).2 c)⟩
theorem Ztu {a b:Zac}(h:ltE a b=true):ltE b a=false:=by
 cases h2:ltE b a
 ·rfl
 ·have:=swoE.trans a b a h h2
  rw[swoE.irrefl]at this
  cases this
theorem Zko (p:Zac->Bool):∀ (l:List Zac) (P:Zac->Prop) (o:Option Zac),ZdV P o->ZdV (fun e=>P e\/(e∈l/\p e=true)) (capI p l o)
 | [],P,o,h=>h.iff fun e=>by simp
 | x::l,P,o,h=>by
  rw[capI]
  have c:ZdV (fun e=>P e\/(e=x/\p x=true)) (if p x&&befE x o then some x else o):=by
   cases hp:p x
   ·exact h.iff fun e=>by simp
   ·rw[Bool.true_and]
    cases o with
    | none=>exact⟨.inr ⟨rfl,rfl⟩,fun e a=>by
      rcases a with a|⟨rfl,_⟩
      ·exact absurd a (h e)
      ·exact swoE.irrefl _⟩
    | some b =>
     show ZdV _ (if ltE x b=true then some x else some b)
     cases hl:ltE x b
     ·exact⟨.inl h.1,fun e a=>by
       rcases a with a|⟨rfl,_⟩
       ·exact h.2 e a
       ·exact hl⟩
     ·exact⟨.inr ⟨rfl,rfl⟩,fun e a=>by
       rcases a with a|⟨rfl,_⟩
       ·exact swoE.ntrans e b x (h.2 e a) (Ztu hl)
       ·exact swoE.irrefl _⟩
  refine(Zko p l _ _ c).iff fun e=>?_
  constructor
  ·rintro((h|⟨rfl,h⟩)|⟨h,h'⟩)
   ·exact .inl h
   ·exact .inr ⟨List.mem_cons_self,h⟩
   ·exact .inr ⟨List.mem_cons_of_mem _ h,h'⟩
  ·rintro(h|⟨h,h'⟩)
   ·exact .inl (.inl h)
   ·rcases List.mem_cons.1 h with rfl|h
    ·exact .inl (.inr ⟨rfl,h'⟩)
    ·exact .inr ⟨h,h'⟩
theorem Zkn (Y:Nat->List Zac)(N:Nat):∀ (k y:Nat) (P:Zac->Prop) (o:Option Zac),ZdV P o->ZdV (fun e=>P e\/∃ q,y<=q/\q<y+k/\e∈Y q/\ZmA Y N q e=true) (capJ Y N k y o)
 | 0,y,P,o,h=>h.iff fun e=>⟨.inl,fun h=>by
   rcases h with h|⟨q,h1,h2,_⟩
   ·exact h
   ·omega⟩
 | k+1,y,P,o,h=>by
  rw[capJ]
  refine(Zkn Y N k (y+1) _ _ (Zko (ZmA Y N y) (Y y) P o h)).iff fun e=>?_
  constructor
  ·rintro((h|⟨h1,h2⟩)|⟨q,h1,h2,h3⟩)
   ·exact .inl h
   ·exact .inr ⟨y,by omega,by omega,h1,h2⟩
   ·exact .inr ⟨q,by omega,by omega,h3⟩
  ·rintro(h|⟨q,h1,h2,h3⟩)
   ·exact .inl (.inl h)
   ·by_cases a:q=y
    ·subst a;exact .inl (.inr h3)
    ·exact .inr ⟨q,by omega,by omega,h3⟩
def ZpB (M:List Zac)(e:Zac):Prop:=∃ x∈M,ltE x e=true/\e.nominal - x.nominal<259200
theorem Zkk (e:Zac)(l:List Zac):ZcB e l=true↔ZpB l e:=by
 unfold ZcB ZpB
 simp only[List.any_eq_true,Bool.and_eq_true,decide_eq_true_eq]
theorem Zht:∀ (M:List Zac),ZpD M->M.Nodup->ZdV (fun e=>e∈M/\ZpB M e) (Ze0 M)
 | [],_,_=>fun e f=>by simp at f
 | [a],_,_=>fun e f=>by
  obtain⟨i,x,k,n,_⟩:=f
  rw[List.mem_singleton]at i k
  subst i k
  rw[swoE.irrefl]at n
  cases n
 | a::b::l,hd,hn=>by
  obtain⟨p,r⟩:=List.pairwise_cons.1 hd
  obtain⟨y,z⟩:=List.nodup_cons.1 hn
  obtain⟨v,_⟩:=List.pairwise_cons.1 r
  have m:=Zht (b::l) r z
  have q:∀ x∈b::l,ltE x a=true:=fun x g=>by
   cases h:ltE x a
   ·have:=totE a x (p x g) h
    subst this
    exact absurd g y
   ·rfl
  have d:∀ e∈b::l,ZpB (a::b::l) e↔ZpB (b::l) e:=fun e f=>by
   constructor
   ·rintro⟨x,g,i,k⟩
    rcases List.mem_cons.1 g with rfl|g
    ·rw[p e f]at i;cases i
    ·exact⟨x,g,i,k⟩
   ·rintro⟨x,g,i,k⟩
    exact⟨x,List.mem_cons_of_mem _ g,i,k⟩
  have s:ZpB (a::b::l) a↔a.nominal - b.nominal<259200:=by
   constructor
   ·rintro⟨x,g,i,k⟩
    rcases List.mem_cons.1 g with rfl|g
    ·rw[swoE.irrefl]at i;cases i
    ·have w:x.nominal<=b.nominal:=by
      rcases List.mem_cons.1 g with rfl|g
      ·exact Int.le_refl _
      ·have n:=v x g
       simp only[ltE,Zd3,decide_eq_false_iff_not]at n
       omega
     omega
   ·intro h
    exact⟨b,List.mem_cons_of_mem _ List.mem_cons_self,q b List.mem_cons_self,h⟩
  rw[Ze0]
  cases hc:Ze0 (b::l) with
  | none =>
   rw[hc]at m
   rw[Option.none_or]
   by_cases j:a.nominal - b.nominal<259200
   ·rw[if_pos j]
    refine⟨⟨List.mem_cons_self,s.2 j⟩,fun e f=>?_⟩
    rcases List.mem_cons.1 f.1 with rfl|h
    ·exact swoE.irrefl _
    ·exact absurd ⟨h,(d e h).1 f.2⟩ (m e)
   ·rw[if_neg j]
    intro e f
    rcases List.mem_cons.1 f.1 with rfl|h
    ·exact j (s.1 f.2)
    ·exact m e ⟨h,(d e h).1 f.2⟩
  | some c =>
   rw[hc]at m
   rw[Option.some_or]
   obtain⟨⟨o,t⟩,u⟩:=m
   refine⟨⟨List.mem_cons_of_mem _ o,(d c o).2 t⟩,fun e f=>?_⟩
   rcases List.mem_cons.1 f.1 with rfl|h
   ·exact p c o
   ·exact u e ⟨h,(d e h).1 f.2⟩
theorem ZeJ (L y:Int):∀ (l:List DRule) (i:Nat) (e:Zac),e∈Zb6 L y l i↔∃ (j:Nat) (r:DRule),l[j]?=some r/\onR L r ((i+j:Nat):Int) y=some e
 | [],i,e=>by simp[Zb6]
 | r::l,i,e=>by
  rw[Zb6,List.mem_append,ZeJ L y l (i+1) e,Option.mem_toList]
  constructor
  ·rintro(h|⟨j,r',h1,h2⟩)
   ·exact⟨0,r,rfl,h⟩
   ·exact⟨j+1,r',by simpa using h1,by rw[show i+(j+1)=i+1+j by omega];exact h2⟩
  ·rintro⟨j,r',h1,h2⟩
   cases j with
   | zero=>simp only[List.getElem?_cons_zero,Option.some.injEq]at h1;subst h1;exact .inl h2
   | succ j=>exact .inr ⟨j,r',by simpa using h1,by rw[show i+1+j=i+(j+1) by omega];exact h2⟩
theorem Zk3 (l:List DRule)(L f:Int):∀ (k:Nat) (e:Zac),e∈allC l L f k↔∃ q:Nat,q<k/\e∈Zb6 L (f+q) l 0
 | 0,e=>by simp[allC]
 | k+1,e=>by
  rw[allC,List.mem_append,Zk3 l L f k e]
  constructor
  ·rintro(⟨q,h1,h2⟩|h)
   ·exact⟨q,by omega,h2⟩
   ·exact⟨k,by omega,h⟩
  ·rintro⟨q,h1,h2⟩
   by_cases a:q=k
   ·subst a;exact .inr h2
   ·exact .inl ⟨q,by omega,h2⟩
theorem ZhK (L y:Int):∀ (l:List DRule) (i:Nat),(Zb6 L y l i).Nodup
 | [],_=>List.nodup_nil
 | r::l,i=>by
  rw[Zb6]
  refine List.nodup_append.2 ⟨?_,ZhK L y l (i+1),?_⟩
  ·cases onR L r i y <;> simp
  ·intro a e b f c
   subst c
   obtain⟨j,r',_,d⟩:=(ZeJ L y l (i+1) a).1 f
   have g:=(ZaT (Option.mem_toList.1 e)).2.1
   have h:=(ZaT d).2.1
   omega
theorem Zkt (l:List DRule)(L f:Int):∀ k,(allC l L f k).Nodup
 | 0=>List.nodup_nil
 | k+1=>by
  rw[allC]
  refine List.nodup_append.2 ⟨Zkt l L f k,ZhK _ _ _ _,?_⟩
  intro a h b i c
  subst c
  obtain⟨q,o,d⟩:=(Zk3 l L f k a).1 h
  obtain⟨j,r,_,e⟩:=(ZeJ _ _ _ _ _).1 d
  obtain⟨p,r',_,g⟩:=(ZeJ _ _ _ _ _).1 i
  have m:=(ZaT e).1
  have n:=(ZaT g).1
  omega
theorem ZAP (l:List DRule)(N:Nat):capJ (Zde l) N N 0 none=Ze0 (Zdb l (Zae l) 1850 N):=by
 have n:=ZcY l
 have k:=Zkn (Zde l) N N 0 (fun _=>False) none (fun e h=>h)
 have m:=Zht (Zdb l (Zae l) 1850 N) (Zec _ _ _ _) ((Zcr l (Zae l) 1850 N).nodup_iff.2 (Zkt l (Zae l) 1850 N))
 refine k.uni (m.iff fun e=>?_)
 have b:∀ x,x∈Zdb l (Zae l) 1850 N↔∃ q:Nat,q<N/\x∈Zde l q:=fun x=>by
  rw[(Zcr l (Zae l) 1850 N).mem_iff,Zk3]
  rfl
 have d:∀ (q:Nat) (x:Zac),x∈Zde l q->jan1 (1850+q)*86400 - 1700000<=x.nominal/\x.nominal<=jan1 (1850+q+1)*86400+1700000:=fun q x a=>by
  obtain⟨j,r,_,h⟩:=(ZeJ _ _ _ _ _).1 a
  exact Zf9 n h
 constructor
 ·rintro⟨h3,x,h4,h5,h6⟩
  obtain⟨q,g1,g2⟩:=(b e).1 h3
  obtain⟨p,g3,g4⟩:=(b x).1 h4
  refine .inr ⟨q,by omega,by omega,g2,?_⟩
  have u:=d q e g2
  have v:=d p x g4
  have t:x.nominal<=e.nominal:=by
   simp only[ltE,Zd3,decide_eq_true_eq]at h5
   omega
  have w:(1850+q:Int)<=1850+p+1:=Zcv (by omega)
  have y:(1850+p:Int)<=1850+q+1:=Zcv (by omega)
  have a:∀ M,x∈M->ZcB e M=true:=fun M o=>(Zkk e M).2 ⟨x,o,h5,h6⟩
  have c:p=q\/(0<q/\p=q - 1)\/(q+1<N/\p=q+1):=by omega
  unfold ZmA
  rcases c with rfl|⟨h7,rfl⟩|⟨h7,rfl⟩
  ·rw[a _ g4];rfl
  ·rw[a _ g4,dT_ h7];simp
  ·rw[a _ g4,dT_ h7];simp
 ·rintro(h|⟨q,_,g1,g2,g3⟩)
  ·exact h.elim
  refine⟨(b e).2 ⟨q,by omega,g2⟩,?_⟩
  have lift:∀ p,p<N->ZcB e (Zde l p)=true->ZpB (Zdb l (Zae l) 1850 N) e:=fun p c s=>by
   obtain⟨x,f,g,i⟩:=(Zkk e _).1 s
   exact⟨x,(b x).2 ⟨p,c,f⟩,g,i⟩
  unfold ZmA at g3
  simp only[Bool.or_eq_true,Bool.and_eq_true,decide_eq_true_eq]at g3
  rcases g3 with(g3|⟨g3,g4⟩)|⟨g3,g4⟩
  ·exact lift q (by omega) g3
  ·exact lift (q - 1) (by omega) g4
  ·exact lift (q+1) (by omega) g4
theorem ZAQ (l:List DRule):capD l=Zen l:=ZAP l 701
attribute [local irreducible] W RL Does Zaq Zai retQ Calls Pu Stp RD Qy Ay Zaj
theorem ZxS (e c a f d b:Int):ltE ⟨e,c,a⟩ ⟨f,d,b⟩=if a=b then (if c=d then decide (e<f) else decide (c<d)) else decide (a<b):=by
 have h:=Zd3 ⟨e,c,a⟩ ⟨f,d,b⟩
 dsimp only at h
 unfold ltE
 split
 ·split
  ·exact decide_eq_decide.2 (h.trans ⟨fun _=>by omega,fun _=>by omega⟩)
  ·exact decide_eq_decide.2 (h.trans ⟨fun _=>by omega,fun _=>by omega⟩)
 ·exact decide_eq_decide.2 (h.trans ⟨fun _=>by omega,fun _=>by omega⟩)
theorem Zzt {G:Prop}(h:G:=by(apply Zal;rfl;rfl;first|exact c1|exact c2)):G:=h
theorem Zmk (a b:Zac)(w:World):Does prog 249 [.agg a.enc.toArray,.agg b.enc.toArray] w (fun v O=>v = .bool (ltE a b)/\O=[]):=by
 obtain⟨m,g,e⟩:=a
 obtain⟨p,i,f⟩:=b
 rw[ZxS]
 simp only[Zac.enc]
 refine Zaa func249 rfl rfl rfl rfl ?_
 by_cases c:e=f
 ·have c1:(!decide (e=f))=false:=by rw[dT_ c];rfl
  rw[if_pos c]
  by_cases d:g=i
  ·have c2:(!decide (g=i))=false:=by rw[dT_ d];rfl
   rw[if_pos d]
   repeat (first|(apply RL_pu;rfl;exact Zzt)|(refine js ?_;(refine bx ?_;intro j))|refine walk1 ?_)
   exact rtA
  ·have c2:(!decide (g=i))=true:=by rw[dF_ d];rfl
   rw[if_neg d]
   repeat (first|(apply RL_pu;rfl;exact Zzt)|(refine js ?_;(refine bx ?_;intro j))|refine walk1 ?_)
   exact rtA
 ·have c1:(!decide (e=f))=true:=by rw[dF_ c];rfl
  rw[if_neg c]
  repeat (first|(apply RL_pu;rfl;(apply Zal;rfl;rfl;exact c1))|(refine js ?_;(refine bx ?_;intro j))|refine walk1 ?_)
  exact rtA
theorem Zzs {G:Prop}(h:G:=by(exact PuI)):G:=h
theorem ZCx {G:Prop}(h:G:=by first|(apply Qy_y;rfl;exact Zzs)|exact QyA):G:=h
theorem ZCF {G:Prop}(h:G:=by repeat (exact QF.nil)):G:=h
theorem ZDg {G:Prop}(h:G:=by(first|exact Zzs|(apply Zau;rfl;rfl;exact b1))):G:=h
theorem Zyl {G:Prop}(h:G:=by first|(apply Qy_y;rfl;exact ZDg)|exact QyA):G:=h
theorem ZyP {G:Prop}(h:G:=by repeat (exact QF.nil)):G:=h
set_option maxHeartbeats 0 in
theorem Zia (e:Zac)(A:Option Addr)(c:Nat)(l:List Zac)(w:World)(K:RdSl w A c Zac.enc 3 l)(N:l.length<=1000000000)(E:ZlO e)(L:∀ x∈l,ZlO x) :
  Does prog 248 [.agg e.enc.toArray,.slice A l.length c] w (fun v O=>v = .bool (ZcB e l)/\O=[]):=by
 have j:=fun(x:Zac) w'=>Zmk x e w'
 obtain⟨m,d⟩:∃ m,ZcB e l=m:=⟨_,rfl⟩
 rw[d]
 unfold ZcB at d
 unfold ZlO at E
 generalize hP:(fun x:Zac=>ltE x e&&decide (e.nominal - x.nominal<259200))=p at d
 have y:∀ x,p x=(ltE x e&&decide (e.nominal - x.nominal<259200)):=fun x=>by rw[<- hP]
 clear hP
 generalize hq:(fun x=>ltE x e)=q at *
 have s:∀ x,ltE x e=q x:=fun x=>by rw[<- hq]
 simp only[s]at j y
 clear hq s
 obtain⟨J,I,u⟩:=e
 simp only[Zac.enc]at j y E ⊢
 refine Zaa func248 rfl rfl rfl rfl ?_
 repeat (first|refine walk ?_|(refine jn ?_;(try intro F);((refine bx ?_;intro t));refine fin ?_))
 refine Zah [(1,.slice A l.length c),(2,.pointer (some ⟨t,0,none⟩))] [.blk t [.int .i64 J,.int .i64 I,.int .i64 u] 91] (fun k:Nat=>[(5,.int .i64 k)]) (fun _=>[]) (fun k=>k<=l.length/\(l.drop k).any p=m) (fun k=>l.length - k) 0 SFA SOA ⟨Nat.zero_le _,d⟩ ?_
 clear d
 rintro k ⟨M,f⟩
 repeat (first|refine walk ?_|(refine jn ?_;(try intro F);((refine bx ?_;intro t));refine fin ?_))
 refine Zaf rfl (fun r=>?_) (fun r=>?_)
 ·simp only[decide_eq_true_eq,Int.ofNat_lt]at r
  rw[Zag r,List.any_cons,y]at f
  have g:=j l[k]
  obtain⟨hna,hca⟩:=K.rd k _ (List.getElem?_eq_getElem r)
  have hx:=L l[k] (List.getElem_mem r)
  generalize q l[k]=qx at *
  generalize l[k]=x at *
  obtain⟨R,Q,z⟩:=x
  unfold ZlO at hx
  simp only[Zac.enc]at g hca hx f
  cases qx with
  | false =>
   rw[Bool.false_and,Bool.false_or]at f
   repeat (first|(apply RD_Q;rfl;rfl;decide +kernel;rfl;rfl;exact ZCx)|refine walk1 ?_|(refine jg ?_;(try intro F);((refine Zab (fun w' H=>g w') ?_));refine⟨_,EndsA,ZCF,?_⟩))
   exact⟨k+1,OA,⟨OA,f⟩,SFA,SOA⟩
  | true =>
   rw[Bool.true_and]at f
   by_cases D:u - z<259200
   ·have b1:decide (u - z<259200)=true:=dT_ D
    rw[b1,Bool.true_or]at f
    subst f
    repeat (first|(apply RD_Q;rfl;rfl;decide +kernel;rfl;rfl;exact Zyl)|refine walk1 ?_|(refine jg ?_;(try intro F);((refine Zab (fun w' H=>g w') ?_));refine⟨_,EndsA,ZyP,?_⟩))
    exact rtA
   ·have b1:decide (u - z<259200)=false:=dF_ D
    rw[b1,Bool.false_or]at f
    repeat (first|(apply RD_Q;rfl;rfl;decide +kernel;rfl;rfl;exact Zyl)|refine walk1 ?_|(refine jg ?_;(try intro F);((refine Zab (fun w' H=>g w') ?_));refine⟨_,EndsA,ZyP,?_⟩))
    exact⟨k+1,OA,⟨OA,f⟩,SFA,SOA⟩
 ·simp only[decide_eq_false_iff_not,Int.ofNat_lt]at r
  rw[List.drop_eq_nil_of_le (by omega),List.any_nil]at f
  subst f
  repeat (first|refine walk ?_|(refine jn ?_;(try intro F);((refine bx ?_;intro t));refine fin ?_))
  exact rtA
theorem Zzr {G:Prop}(h:G:=by(apply Zal;rfl;rfl;first|exact c1|exact c2)):G:=h
theorem ZjF (a b:Zac)(w:World):Does prog 90 [.agg a.enc.toArray,.agg b.enc.toArray] w (fun v O=>v = .bool (ltE a b)/\O=[]):=by
 obtain⟨m,g,e⟩:=a
 obtain⟨p,i,f⟩:=b
 rw[ZxS]
 simp only[Zac.enc]
 refine Zaa func90 rfl rfl rfl rfl ?_
 by_cases c:e=f
 ·have c1:(!decide (e=f))=false:=by rw[dT_ c];rfl
  rw[if_pos c]
  by_cases d:g=i
  ·have c2:(!decide (g=i))=false:=by rw[dT_ d];rfl
   rw[if_pos d]
   repeat (first|(apply RL_pu;rfl;exact Zzr)|(refine js ?_;(refine bx ?_;intro j))|refine walk1 ?_)
   exact rtA
  ·have c2:(!decide (g=i))=true:=by rw[dF_ d];rfl
   rw[if_neg d]
   repeat (first|(apply RL_pu;rfl;exact Zzr)|(refine js ?_;(refine bx ?_;intro j))|refine walk1 ?_)
   exact rtA
 ·have c1:(!decide (e=f))=true:=by rw[dF_ c];rfl
  rw[if_neg c]
  repeat (first|(apply RL_pu;rfl;(apply Zal;rfl;rfl;exact c1))|(refine js ?_;(refine bx ?_;intro j))|refine walk1 ?_)
  exact rtA
def ZAs (r:DRule)(y:Int)(up:Bool):Int × Int:=if up then ZcL r y else ZcK r y
theorem Zvp {G:Prop}(h:G:=by(first|(apply Zdz;rfl;rfl;first|exact m0|exact m2|exact m3)|(apply Zg7;rfl;rfl;first|exact m1|exact m4)|(apply Zal;rfl;rfl;exact b1))):G:=h
theorem ZjE (r:DRule)(y:Int)(up:Bool)(q:r.from_<=4611686018427387904)(t : -4611686018427387904<=r.to)(C : -2000000000<=y/\y<=2000000000)(w:World) :
  Does prog 87 [.agg r.enc.toArray,.int .i64 y,.bool up] w (fun v O=>v = .tuple #[.int .i64 (ZAs r y up).1,.int .i64 (ZAs r y up).2]/\O=[]):=by
 unfold ZAs ZcL ZcK lastY
 obtain⟨B,fr,to,A,⟨m,p,dd⟩,⟨cs,j⟩,sv,le⟩:=r
 dsimp only at q t ⊢
 show Does _ _ [.agg #[.string B,.int .i64 fr,.int .i64 to,.int .i64 A,.int .i64 m,.int .i64 p,.int .i64 dd,.int .i64 cs,.int .i64 j,.int .i64 sv,.string le],.int .i64 y,.bool up] w _
 obtain⟨b,d⟩:∃ b,max fr (-2000000000)=b:=⟨_,rfl⟩
 rw[d]
 have m0:(if fr < -2000000000 then -2000000000 else fr)=b:=by split <;> omega
 obtain⟨t0,a⟩:∃ t0,(if to=1048576 then 2000000000 else min to 2000000000)=t0:=⟨_,rfl⟩
 rw[a]
 have s : -2000000000<=b/\b<=4611686018427387904:=by omega
 have u : -4611686018427387904<=t0/\t0<=2000000000:=by rw[<- a];split <;> omega
 clear d
 obtain⟨x,f⟩:∃ x,min t0 (y+2)=x:=⟨_,rfl⟩
 obtain⟨z,g⟩:∃ z,max b (y - 2)=z:=⟨_,rfl⟩
 rw[f,g]
 have m2:(if b<y - 2 then y - 2 else b)=z:=by rw[<- g];split <;> omega
 have m3:(if b<x - 20 then x - 20 else b)=max b (x - 20):=by split <;> omega
 have m4:(if z+20<t0 then z+20 else t0)=min t0 (z+20):=by split <;> omega
 have i:(if y+2<t0 then y+2 else t0)=x:=by rw[<- f];split <;> omega
 refine Zaa func87 rfl rfl rfl rfl ?_
 by_cases c:to=1048576
 ·have b1:(!decide (to=1048576))=false:=by rw[dT_ c];rfl
  rw[if_pos c]at a
  subst a
  have m1:=i
  cases up with
  | true =>
   repeat (first|(apply RL_pu;rfl;exact Zvp)|(refine js ?_;(refine bx ?_;intro e))|refine walk1 ?_)
   exact rtB
  | false =>
   repeat (first|(apply RL_pu;rfl;exact Zvp)|(refine js ?_;(refine bx ?_;intro e))|refine walk1 ?_)
   exact rtB
 ·have b1:(!decide (to=1048576))=true:=by rw[dF_ c];rfl
  rw[if_neg c]at a
  have m1:(if 2000000000<to then 2000000000 else to)=t0:=by rw[<- a];split <;> omega
  clear a c
  cases up with
  | true =>
   repeat (first|(apply RL_pu;rfl;exact Zvp)|(refine js ?_;(refine bx ?_;intro e))|refine walk1 ?_)
   exact rtB
  | false =>
   repeat (first|(apply RL_pu;rfl;(first|(apply Zdz;rfl;rfl;first|exact m0|exact m3)|(apply Zg7;rfl;rfl;first|exact m1|exact i)|(apply Zal;rfl;rfl;exact b1)))|(refine js ?_;(refine bx ?_;intro e))|refine walk1 ?_)
   exact rtB
structure RnG where
 y:Int
 b:Option Zac
theorem ZqN {G:Prop}(h:G:=by(apply Zau;rfl;rfl;exact b1)):G:=h
set_option maxHeartbeats 0 in
theorem Zrp (A:Option Addr)(c:Nat)(l:List DRule)(n:Int)(w:World)(hA:RdSl w A c DRule.enc 11 l)(hn:l.length<=1000000)(hR:∀ r∈l,r.from_<=4611686018427387904/\-4611686018427387904<=r.to)(ht : -4611686018427387904<=n/\n<=4611686018427387904) :
  Does prog 46 [.slice A l.length c,.int .i64 n] w (fun v O=>v = .tuple #[evV (rbGo (Zae l) n (Zay n) l 0 none),.bool (rbGo (Zae l) n (Zay n) l 0 none).isSome]/\O=[]):=by
 have X:=Zet n
 have Z:=fun w'=>ZgL n ht w'
 have t:=fun(i:Nat) (y:Int) (r:DRule) (s:l[i]?=some r) w' (hw:Bel w.heap.size w w')=>Zf2 A c l i y r w' (hA.up hw) s
 generalize Zae l=L at *
 generalize Zay n=yr at *
 obtain⟨R,x⟩:∃ R,rbGo L n yr l 0 none=R:=⟨_,rfl⟩
 rw[x]
 refine Zaa func46 rfl rfl rfl rfl ?_
 repeat (first|refine walk ?_|(refine jn ?_;(try intro F);((refine bx ?_;intro j));refine fin ?_))
 generalize j=b6
 rename_i S
 refine Zah [(0,.slice A l.length c),(1,.int .i64 n),(4,.pointer (some ⟨S,0,none⟩)),(6,.pointer (some ⟨b6,0,none⟩))] [.blk S [.int .i64 0,.int .i64 0,.int .i64 0] 91]
  (fun g:BG=>[(8,.int .i64 g.k),(7,.bool g.b.isSome)]) (fun g=>[.blk b6 (evC g.b) 91]) (fun g=>g.k<=l.length/\rbGo L n yr (l.drop g.k) g.k g.b=R) (fun g=>l.length - g.k) ⟨0,none⟩ SFA SOA ⟨Nat.zero_le _,x⟩ ?_
 clear x
 rintro⟨k,b⟩ ⟨hk,s⟩
 dsimp only at hk s ⊢
 repeat (first|refine walk ?_|(refine jn ?_;(try intro F);((refine bx ?_;intro j));refine fin ?_))
 refine Zaf rfl (fun I=>?_) (fun I=>?_)
 ·simp only[decide_eq_true_eq,Int.ofNat_lt]at I
  have D:=List.getElem?_eq_getElem I
  rw[Zag I,rbGo]at s
  obtain⟨hna,hca⟩:=hA.rd k _ D
  have M:=hR _ (List.getElem_mem I)
  have J:=fun y=>t k y _ D
  generalize l[k]=r at *
  have E:=fun w'=>ZjE r yr false M.1 M.2 X w'
  have hnb : -2000000000<=(ZcK r yr).1/\(ZcK r yr).1<=4611686018427387904/\(ZcK r yr).2<=2000000002:=by
   unfold ZcK lastY
   dsimp only
   split <;> omega
  change ∀ w',Does _ _ _ w' (fun v O=>v = .tuple #[.int .i64 (ZcK r yr).1,.int .i64 (ZcK r yr).2]/\O=[]) at E
  generalize ZcK r yr=N at *
  obtain⟨Q,e⟩:=N
  dsimp only at s E hnb
  obtain⟨B1,u⟩:∃ B1,rbI L n r k Q (e+1 - Q).toNat b=B1:=⟨_,rfl⟩
  rw[u]at s
  clear D t hR
  have K:∀ y w',Bel w.heap.size w w'->Does prog 89 [.slice A l.length c,.int .i64 k,.int .i64 y] w' (fun v O=>v = .tuple #[evV (onR L r k y),.bool (onR L r k y).isSome]/\O=[]):=J
  clear J
  have W:∀ y m b,rbI L n r k y (m+1) b=rbI L n r k (y+1) m (upB n b (onR L r k y)):=fun y m b=>rfl
  generalize onR L r (k:Int)=on at *
  obtain⟨nm,fr,to,mo,⟨dk,dw,dd⟩,⟨cs,cb⟩,sv,le⟩:=r
  change Zat w _ [.string nm,.int .i64 fr,.int .i64 to,.int .i64 mo,.int .i64 dk,.int .i64 dw,.int .i64 dd,.int .i64 cs,.int .i64 cb,.int .i64 sv,.string le]at hca
  repeat (first|(apply RD_Q;rfl;rfl;decide +kernel;rfl;rfl;exact QyI)|refine walk1 ?_|(refine jg ?_;(try intro F);(first|(refine Zab (fun w' _=>Z w') ?_)|(refine Zab (fun w' _=>E w') ?_));first|refine⟨_,EndsA,QFI,?_⟩|refine fin ?_)|(refine jn ?_;(try intro F);(first|(refine bx ?_;intro j)|(apply Zan;exact PuA));refine⟨_,EndsA,QFI,?_⟩))
  refine Zah [(0,.slice A l.length c),(1,.int .i64 n),(4,.pointer (some ⟨S,0,none⟩)),(6,.pointer (some ⟨b6,0,none⟩)),(8,.int .i64 k),(10,.int .i64 e)] [.blk S [.int .i64 0,.int .i64 0,.int .i64 0] 91]
   (fun g:RnG=>[(11,.int .i64 g.y),(7,.bool g.b.isSome)]) (fun g=>[.blk b6 (evC g.b) 91]) (fun g=>Q<=g.y/\(g.y<=e+1\/g.y=Q)/\rbI L n _ k g.y (e+1 - g.y).toNat g.b=B1) (fun g=>(e+1 - g.y).toNat) ⟨Q,b⟩ SFA SOA ⟨Int.le_refl _,.inr rfl,u⟩ ?_
  clear u
  rintro⟨y,b⟩ ⟨hy0,hy1,d⟩
  dsimp only at hy0 hy1 d ⊢
  repeat (first|refine walk ?_|(refine jn ?_;(try intro F);((refine bx ?_;intro j));refine fin ?_))
  refine Zaf rfl (fun z=>?_) (fun z=>?_)
  ·have Y:=of_decide_eq_true z
   rw[show(e+1 - y).toNat=(e+1 - (y+1)).toNat+1 by omega,W]at d
   have H:=K y
   generalize on y=o at *
   have U:=fun p q w'=>ZjF p q w'
   rcases o with _|⟨xy,xr,xn⟩
   ·simp only[evV,Zac.enc,dEv0,Option.isSome]at H
    repeat (first|refine und ?_|refine walk ?_|(refine jg ?_;(try intro F);(first|(refine Zab H ?_)|(refine bx ?_;intro j));refine fin ?_))
    exact⟨⟨y+1,b⟩,OA,⟨by dsimp only;omega,.inl (by dsimp only;omega),d⟩,SFA,SOA⟩
   ·simp only[evV,Zac.enc,Option.isSome]at H
    by_cases T:xn<n
    ·have b1:decide (xn<n)=true:=dT_ T
     rw[ZxG T]at d
     rcases b with _|⟨by_,br,bn⟩
     ·replace d:rbI L n _ k (y+1) (e+1 - (y+1)).toNat (some ⟨xy,xr,xn⟩)=B1:=d
      simp only[evC,Zac.enc,dEv0,Option.isSome]
      repeat (first|refine und ?_|(apply RL_pu;rfl;exact ZqN)|refine walk1 ?_|(refine jg ?_;(try intro F);(first|(refine Zab H ?_)|(refine bx ?_;intro j));first|refine⟨_,EndsA,QFRhA4,?_⟩|refine fin ?_))
      exact⟨⟨y+1,some ⟨xy,xr,xn⟩⟩,OA,⟨by dsimp only;omega,.inl (by dsimp only;omega),d⟩,SFA,SOA⟩
     ·simp only[evC,Zac.enc,Option.isSome]
      have f:=fun w'=>U ⟨by_,br,bn⟩ ⟨xy,xr,xn⟩ w'
      cases hq:ltE ⟨by_,br,bn⟩ ⟨xy,xr,xn⟩ with
      | true =>
       rw[Zud hq]at d
       rw[hq]at f
       simp only[Zac.enc]at f
       repeat (first|(apply RL_pu;rfl;exact ZqN)|refine walk1 ?_|(refine jg ?_;(try intro F);(first|(refine Zab H ?_)|(refine Zab (fun w' _=>f w') ?_)|(refine bx ?_;intro j));first|refine⟨_,EndsA,QFRhA4,?_⟩|refine fin ?_))
       exact⟨⟨y+1,some ⟨xy,xr,xn⟩⟩,OA,⟨by dsimp only;omega,.inl (by dsimp only;omega),d⟩,SFA,SOA⟩
      | false =>
       rw[ZB2 hq]at d
       rw[hq]at f
       simp only[Zac.enc]at f
       repeat (first|(apply RL_pu;rfl;exact ZqN)|refine walk1 ?_|(refine jg ?_;(try intro F);(first|(refine Zab H ?_)|(refine Zab (fun w' _=>f w') ?_)|(refine bx ?_;intro j));first|refine⟨_,EndsA,QFRhA4,?_⟩|refine fin ?_))
       exact⟨⟨y+1,some ⟨by_,br,bn⟩⟩,OA,⟨by dsimp only;omega,.inl (by dsimp only;omega),d⟩,SFA,SOA⟩
    ·have b1:decide (xn<n)=false:=dF_ T
     rw[ZxH T]at d
     repeat (first|refine und ?_|(apply RL_pu;rfl;exact ZqN)|refine walk1 ?_|(refine jg ?_;(try intro F);(first|(refine Zab H ?_)|(refine bx ?_;intro j));first|refine⟨_,EndsA,QFRhA4,?_⟩|refine fin ?_))
     exact⟨⟨y+1,b⟩,OA,⟨by dsimp only;omega,.inl (by dsimp only;omega),d⟩,SFA,SOA⟩
  ·have Y:=of_decide_eq_false z
   rw[show(e+1 - y).toNat=0 by omega]at d
   obtain rfl:b=B1:=d
   repeat (first|refine walk ?_|(refine jn ?_;(try intro F);((refine bx ?_;intro j));refine fin ?_))
   exact⟨⟨k+1,b⟩,OA,⟨OA,s⟩,SFA,SOA⟩
 ·simp only[decide_eq_false_iff_not,Int.ofNat_lt]at I
  rw[List.drop_eq_nil_of_le (by omega),rbGo]at s
  subst s
  rcases b with _|⟨by_,br,bn⟩ <;> simp only[evV,evC,Zac.enc,dEv0,Option.isSome]
  ·repeat (first|refine walk ?_|(refine jn ?_;(try intro F);((refine bx ?_;intro j));refine fin ?_))
   exact rtC
  ·repeat (first|refine walk ?_|(refine jn ?_;(try intro F);((refine bx ?_;intro j));refine fin ?_))
   exact rtC
end Go.Proofs.YtpipekfmecikmaaGreatDoor
set_option maxHeartbeats 0
namespace Go.Proofs.YtpipekfmecikmaaGreatDoor
open Go Go.RowKit Go.Wk Tryz
attribute [local irreducible] W RL Does Zaq Zai retQ Calls Pu Stp RD Qy Ay Zaj RLI WI
theorem ZjY (Ar Az Al As:Option Addr)(e f d cs:Nat)(a:DSource)(b:ByteArray)(w:World)(m:Zam w Ar Az Al As e f d cs a)(z:a.zones.length+a.links.length<=1000000) :
  Does prog 105 [srcV Ar Az Al As e f d cs a,.string b] w (fun v O=>v = .tuple #[.int .i64 (ZaI a (a.links.length+1) [] b).1,.int .i64 (ZaI a (a.links.length+1) [] b).2]/\O=[]):=by
 obtain⟨j,c⟩:∃ j,ZaI a (a.links.length+1) [] b=j:=⟨_,rfl⟩
 rw[c]
 refine Zaa func105 rfl rfl rfl rfl ?_
 repeat (first|refine walk ?_|(refine jg ?_;(try intro F);(first|(apply Zad (h:=fun w' g _=>Zio Ar Az Al As e f d cs a w' (m.up g) (by omega));rfl;rintro v O' ⟨p,m1,rfl,rfl,u,y,D⟩)|(apply Zad (h:=fun w' g _=>Zge Ar Az Al As e f d cs a w' (m.up g) (by omega));rfl;rintro v O' ⟨q,m2,rfl,rfl,i2,t,x⟩)|(refine ZaH (fun w' g r=>Zix Ar Az Al As e f d cs a p q m1 m2 b w' (m.up g) (r.of (A := .mp p m1) cS_) (r.of (A := .mp q m2) cS_) u i2 t x) ?_)|(refine bx ?_;intro s));refine fin ?_)|(refine jn ?_;(try intro F);(first|(refine bx ?_;intro s)|(apply Zan;exact PuA));refine fin ?_))
 rw[c]
 exact rtB
end Go.Proofs.YtpipekfmecikmaaGreatDoor
namespace Go.Proofs.YtpipekfmecikmaaGreatDoor
open Go Go.RowKit Go.Wk
attribute [local irreducible] W RL Does Zaq Zai retQ Calls Pu Stp RD Qy Ay Zaj
def tOk (t:Int):Bool:=decide (-36028797018963968<=t)&&decide (t<=36028797018963968)
theorem ZdX {t:Int}:tOk t=true↔-36028797018963968<=t/\t<=36028797018963968:=by unfold tOk;simp
def ZbV (a:DSource)(name:ByteArray):Int × Int:=match accD a with
 | some (_,e)=>(0,e)
 | none=>(((ZaI a (a.links.length+1) [] name).1:Nat),(ZaI a (a.links.length+1) [] name).2)
structure MnOk (a:DSource):Prop where
 acc:accD a=none
 un:∀ z∈a.zones,∀ k e,z.eras[k]?=some e->k+1<z.eras.length->RsSm (ruEr a.rules e)/\UnOk e (ruEr a.rules e)
 ne:∀ z∈a.zones,z.eras≠[]
 sp:∀ z∈a.zones,∃ r,Zey a.rules z.eras=some r
 lc:∀ z∈a.zones,∀ e∈z.eras,LcOk a.rules e
 st:∀ z∈a.zones,∀ e∈z.eras,∀ t,(-1000000000<=(ZaU a.rules e t).1/\(ZaU a.rules e t).1<=1000000000)/\(ZaU a.rules e t).2.size<=1000000000/\abE e (ZaU a.rules e t)=0
end Go.Proofs.YtpipekfmecikmaaGreatDoor
namespace Go.Proofs.YtpipekfmecikmaaGreatDoor
open Go Go.RowKit Go.Wk
theorem Zkv {a:DSource}(h:accD a=none):Zdi a=none/\Zfm a=none/\Zdm a=none/\Zbe a.rules a.zones 0=none:=by
 unfold accD at h
 simp only[Option.or_eq_none_iff]at h
 exact⟨h.1,h.2.1,h.2.2.2.1,h.2.2.2.2⟩
theorem Zwo {a:DSource}(h:Zdi a=none):a.rules.length<=2000:=by
 unfold Zdi at h
 by_cases b:2000<a.rules.length
 ·rw[if_pos b]at h;cases h
 ·omega
theorem ZjA (rs:List DRule):∀ l:List ByteArray,ZcJ rs l=none->∀ x∈l,Zca rs x=none
 | [],_,_,h=>by cases h
 | y::l,h,x,hx=>by
  rw[ZcJ]at h
  cases hf:Zca rs y with
  | some z=>rw[hf]at h;cases h
  | none =>
   rw[hf]at h
   rcases List.mem_cons.1 hx with rfl|hx
   ·exact hf
   ·exact ZjA rs l h x hx
theorem Zn9 {rs:List DRule}{x:ByteArray}(h:Zca rs x=none):Zbb (ofB rs x):=by
 unfold Zca at h
 by_cases b:setB x=false
 ·rw[if_pos b]at h;cases h
 rw[if_neg b]at h
 by_cases a:(ZcE (ofB rs x)).2≠0
 ·rw[if_pos a]at h;cases h
 rw[if_neg a]at h
 cases h3:Zen (ofB rs x) with
 | some e=>rw[h3]at h;cases h
 | none=>exact Zbb.of (Decidable.not_not.1 a) h3
theorem ZA1 {a:DSource}(h:Zfm a=none){x:ByteArray}(f:ofB a.rules x≠[]):Zbb (ofB a.rules x):=by
 obtain⟨r,e⟩:=List.exists_mem_of_ne_nil _ f
 obtain⟨c,d⟩:=List.mem_filter.1 e
 have b:=ZjA a.rules _ h r.name ((Zdl a.rules []).2 r c)
 rw[of_decide_eq_true d]at b
 exact Zn9 b
theorem Zkc {rs:List DRule}{l:List DEra}{i:Nat}:∀ (f k:Nat),Zcd rs l i f k=none->∀ j,k<=j->j<k+f->Zdq rs (l.getD j dE0) (decide (j=0))=0/\Zc9 rs l j=0
 | 0,k,_,j,h1,h2=>by omega
 | f+1,k,h,j,h1,h2=>by
  rw[Zcd]at h
  by_cases a:Zdq rs (l.getD k dE0) (decide (k=0))≠0
  ·rw[if_pos a]at h;cases h
  rw[if_neg a]at h
  by_cases b:Zc9 rs l k≠0
  ·rw[if_pos b]at h;cases h
  rw[if_neg b]at h
  by_cases c:j=k
  ·subst c
   exact⟨Decidable.not_not.1 a,Decidable.not_not.1 b⟩
  ·exact Zkc f (k+1) h j (by omega) (by omega)
theorem Zfz {rs:List DRule}:∀ (l:List DZone) (i:Nat),Zbe rs l i=none->∀ z∈l,z.eras≠[]/\∃ j,Zcd rs z.eras j z.eras.length 0=none
 | [],_,_,_,h=>by cases h
 | y::l,i,h,z,hz=>by
  rw[Zbe]at h
  by_cases a:y.eras=[]
  ·rw[if_pos a]at h;cases h
  rw[if_neg a]at h
  cases h2:Zcd rs y.eras i y.eras.length 0 with
  | some x=>rw[h2]at h;cases h
  | none =>
   rw[h2]at h
   dsimp only at h
   by_cases b:ZeU rs y=false
   ·rw[if_pos b]at h;cases h
   rw[if_neg b]at h
   rcases List.mem_cons.1 hz with rfl|hz
   ·exact⟨a,i,h2⟩
   ·exact Zfz l (i+1) h z hz
structure Zei (rs:List DRule)(l:List DEra)(k:Nat)(e:DEra):Prop where
 at_:l[k]?=some e
 kind:0<=e.kind/\e.kind<=2
 first:k=0->e.kind≠2
 set:e.kind=2->Zbb (ofB rs e.set)
 off : -54000<=e.off/\e.off<=54000
 save:(e.kind=1/\1<=e.save/\e.save<=10800)\/(e.kind≠1/\e.save=0)
 hours:∀ x∈ZaB rs e,-54000<=e.off+x.1/\e.off+x.1<=54000
 fmt:Zem e (ZaA rs e)=0
 fin:Zc9 rs l k=0
theorem ZmW {a s:Int}:Za1 a s=true↔-54000<=a+s/\a+s<=54000:=by unfold Za1;simp
theorem Zjc {a:DSource}(h:accD a=none){z:DZone}(E:z∈a.zones){k:Nat}{e:DEra}(p:z.eras[k]?=some e):Zei a.rules z.eras k e:=by
 obtain⟨_,D,_,B⟩:=Zkv h
 obtain⟨_,j,C⟩:=Zfz _ _ B z E
 have G:k<z.eras.length:=(List.getElem?_eq_some_iff.1 p).1
 obtain⟨b,y⟩:=Zkc _ _ C k (Nat.zero_le _) (by omega)
 have A:z.eras.getD k dE0=e:=by rw[List.getD_eq_getElem?_getD,p];rfl
 rw[A]at b
 unfold Zdq at b
 by_cases t:e.kind<0\/2<e.kind
 ·rw[if_pos t]at b;omega
 rw[if_neg t]at b
 by_cases m:decide (k=0)=true/\e.kind=2
 ·rw[if_pos m]at b;omega
 rw[if_neg m]at b
 by_cases n:e.kind=2/\ZaA a.rules e=[]
 ·rw[if_pos n]at b;omega
 rw[if_neg n]at b
 by_cases u:e.kind=1/\(e.save<1\/10800<e.save)
 ·rw[if_pos u]at b;omega
 rw[if_neg u]at b
 by_cases i:Za1 e.off 0=false\/((ZaB a.rules e).any fun x => !Za1 e.off x.1)=true
 ·rw[if_pos i]at b;omega
 rw[if_neg i]at b
 by_cases o:Zdt e=true
 ·rw[if_pos o]at b;omega
 rw[if_neg o]at b
 have v:Za1 e.off 0=true:=by
  cases g:Za1 e.off 0 with
  | true=>rfl
  | false=>exact absurd (.inl g) i
 have F:=ZmW.1 v
 have w:∀ x∈ZaB a.rules e,Za1 e.off x.1=true:=fun x s=>by
  cases g:Za1 e.off x.1 with
  | true=>rfl
  | false=>exact absurd (.inr (List.any_eq_true.2 ⟨x,s,by rw[g];rfl⟩)) i
 have l:e.kind≠1->e.save=0:=fun c=>by
  refine Decidable.byContradiction fun r=>o ?_
  unfold Zdt
  rw[dF_ c,dF_ r]
  rfl
 refine⟨p,by omega,fun q d=>m ⟨dT_ q,d⟩,fun d=>?_,by omega,?_,fun x s=>ZmW.1 (w x s),b,y⟩
 ·have f:ZaA a.rules e≠[]:=fun g=>n ⟨d,g⟩
  unfold ZaA at f
  rw[if_pos d]at f
  exact ZA1 D f
 ·by_cases c:e.kind=1
  ·exact .inl ⟨c,by omega,by omega⟩
  ·exact .inr ⟨c,l c⟩
theorem ZoE (f:List UInt8):ZaP f=0\/ZaP f=1\/ZaP f=2\/ZaP f=3\/ZaP f=4\/ZaP f=5:=by
 unfold ZaP
 dsimp only
 repeat' split
 all_goals omega
theorem Ztb {f:List UInt8}(k2:ZaP f=2)(c:Zc5 f=none):False:=by
 unfold Zc5 at c
 cases hc:Zbn [47] f [] with
 | some ab =>
  obtain⟨a,b⟩:=ab
  rw[hc]at c
  dsimp only at c
  rw[if_pos (.inl k2)]at c
  cases c
 | none =>
  unfold ZaP at k2
  dsimp only at k2
  rw[hc]at k2
  dsimp only at k2
  by_cases d:ZbD f=true
  ·rw[if_pos d]at k2;omega
  rw[if_neg d,if_neg (by decide)]at k2
  split at k2
  ·omega
  ·split at k2
   ·omega
   ·split at k2 <;> omega
theorem ZxM {l:List DRule}{e:Zac}(h:EvOf l e):∃ r∈l,ruE l e=r/\behS l e=(r.save,r.letter):=by
 obtain⟨j,r,y,a,c⟩:=h
 have d:=(ZaT c).2.1
 have b:ruE l e=r:=by
  unfold ruE
  rw[d,Int.toNat_natCast,List.getD_eq_getElem?_getD,a]
  rfl
 exact⟨r,List.mem_of_getElem? a,b,by unfold behS;rw[b]⟩
theorem ZAD (l:List DRule)(all:Bool)(a:Int)(b:Option Zac)(e:Zac):fstB l all a b e=b\/fstB l all a b e=some e:=by
 unfold fstB
 cases b with
 | none =>
  dsimp only
  split
  ·exact .inl rfl
  ·exact .inr rfl
 | some b =>
  dsimp only
  split
  ·exact .inl rfl
  ·exact .inr rfl
theorem Ziw (l:List DRule)(all:Bool)(a:Int):∀ (L:List Zac) (b:Option Zac) (o:Zac),L.foldl (fstB l all a) b=some o->b=some o\/o∈L
 | [],_,_,h => .inl h
 | e::L,b,o,h=>by
  rw[List.foldl_cons]at h
  rcases Ziw l all a L _ o h with h1|h1
  ·rcases ZAD l all a b e with h2|h2
   ·rw[h2]at h1
    exact .inl h1
   ·rw[h2]at h1
    cases h1
    exact .inr List.mem_cons_self
  ·exact .inr (List.mem_cons_of_mem _ h1)
theorem Zlf (l:List DRule)(a:Int):∀ (L:List Zac) (b:Option Zac),b.isSome=true\/L≠[]->∃ o,L.foldl (fstB l true a) b=some o
 | [],b,h=>by
  rcases h with h|h
  ·exact Option.isSome_iff_exists.1 h
  ·exact absurd rfl h
 | e::L,b,_=>by
  rw[List.foldl_cons]
  refine Zlf l a L _ (.inl ?_)
  unfold fstB
  cases b with
  | none=>rfl
  | some b =>
   dsimp only
   split <;> rfl
theorem ZoM (least:Int)(r:DRule)(i:Int):∀ (k:Nat) (y:Int) (e:Zac),fiIn least r i y k=some e->∃ a,onR least r i a=some e
 | 0,_,_,h=>by cases h
 | k+1,y,e,h=>by
  rw[fiIn]at h
  cases ho:onR least r i y with
  | none=>rw[ho]at h;exact ZoM least r i k (y+1) e h
  | some x=>rw[ho]at h;cases h;exact⟨y,ho⟩
theorem ZtS (least:Int):∀ (l:List DRule) (i:Nat) (e:Zac),e∈firL least l i->∃ (j:Nat) (r:DRule) (y:Int),l[j]?=some r/\onR least r ((i+j:Nat):Int) y=some e
 | [],_,_,h=>by cases h
 | r::l,i,e,h=>by
  rw[firL,List.mem_append]at h
  rcases h with h|h
  ·obtain⟨y,c⟩:=ZoM _ _ _ _ _ _ (Option.mem_toList.1 h)
   exact⟨0,r,y,rfl,c⟩
  ·obtain⟨j,r',y,a,b⟩:=ZtS least l (i+1) e h
   exact⟨j+1,r',y,by simpa using a,by rw[show i+(j+1)=i+1+j by omega];exact b⟩
section
variable {l:List DRule}(h:Zbb l)
include h
theorem Zbb.firL_ne:firL (Zae l) l 0≠[]:=by
 have a:=h.ne
 cases hl:l with
 | nil=>exact absurd hl a
 | cons r t =>
  have b:=h.rule r (by rw[hl];exact List.mem_cons_self)
  have f0:=b.f0
  obtain⟨e,c⟩:=b.onY (Zae (r::t)) ((0:Nat):Int) (y:=max r.from_ (-2000000000)) (by omega) (by have:=b.last.1;omega)
  rw[firL,fiIn,c]
  simp
omit h in
theorem Zlg {e:Zac}(c:e∈firL (Zae l) l 0):EvOf l e:=by
 obtain⟨j,r,y,b,a⟩:=ZtS _ _ _ _ c
 rw[Nat.zero_add]at a
 exact⟨j,r,y,b,a⟩
theorem Zbb.ini:iniS l∈l.map fun r=>(r.save,r.letter):=by
 unfold iniS fstD
 obtain⟨e,b⟩:=Zlf l 0 (firL (Zae l) l 0) none (.inr h.firL_ne)
 rw[b]
 dsimp only
 have a:∀ {e},EvOf l e->behS l e∈l.map fun r=>(r.save,r.letter):=fun b=>by
  obtain⟨r,c,_,d⟩:=ZxM b
  rw[d]
  exact List.mem_map.2 ⟨r,c,rfl⟩
 cases ho:(firL (Zae l) l 0).foldl (fstB l false (ruE l e).save) none with
 | none =>
  rcases Ziw _ _ _ _ _ _ b with q|q
  ·cases q
  ·exact a (Zlg q)
 | some o =>
  rcases Ziw _ _ _ _ _ _ ho with q|q
  ·cases q
  ·exact a (Zlg q)
omit h in
theorem Zur {e:Zac}{n:Int}(c:befD l n=some e):behS l e∈l.map fun r=>(r.save,r.letter):=by
 obtain⟨r,a,_,b⟩:=ZxM (Zlx c).1
 rw[b]
 exact List.mem_map.2 ⟨r,a,rfl⟩
theorem Zbb.bef (n:Int):befS l n∈l.map fun r=>(r.save,r.letter):=by
 unfold befS
 cases hb:befD l n with
 | none=>exact h.ini
 | some e=>exact Zur hb
theorem Zbb.atGo_mem (a t:Int):∀ (k:Nat) (n:Int),atGo l a t k n∈l.map fun r=>(r.save,r.letter)
 | 0,n=>h.bef n
 | k+1,n=>by
  rw[atGo]
  cases hb:befD l n with
  | none=>exact h.ini
  | some e =>
   dsimp only
   split
   ·exact Zur hb
   ·exact Zbb.atGo_mem a t k _
theorem Zbb.sv {x:Int × ByteArray}(c:x∈l.map fun r=>(r.save,r.letter)):(-10800<=x.1/\x.1<=10800)/\x.2.size<=1000:=by
 obtain⟨r,b,rfl⟩:=List.mem_map.1 c
 have a:=h.rule r b
 refine⟨a.save,?_⟩
 rcases a.letter with q|q
 ·rw[q]
  show ByteArray.empty.size<=1000
  decide
 ·have:=ZgP q
  dsimp only
  omega
theorem Zbb.small (b:l.length<=1000000):RsSm l :=
 ⟨b,fun r a=>by have:=(h.rule r a).save;omega,fun r a=>by have:=(h.rule r a).f1;omega,fun r a=>by have:=(h.rule r a).ft;have:=(h.rule r a).f0;omega⟩
end
section
variable {rs:List DRule}{l:List DEra}{k:Nat}{e:DEra}(h:Zei rs l k e)
include h
theorem Zei.state (t:Int):ZaU rs e t∈ZaB rs e:=by
 unfold ZaU ZaB
 by_cases c:e.kind=0
 ·rw[if_pos c,if_neg (by omega),if_neg (by omega)]
  exact .head _
 rw[if_neg c]
 by_cases a:e.kind=1
 ·rw[if_pos a,if_pos a]
  exact .head _
 have b:e.kind=2:=by have:=h.kind;omega
 rw[if_neg a,if_neg a,if_pos b]
 unfold ZaA
 rw[if_pos b]
 exact(h.set b).atGo_mem _ _ _ _
theorem Zei.st_bd {x:Int × ByteArray}(a:x∈ZaB rs e):(-10800<=x.1/\x.1<=10800)/\x.2.size<=1000:=by
 unfold ZaB at a
 split at a
 ·rw[List.mem_singleton]at a
  subst a
  have:=h.save
  exact⟨by dsimp only;omega,by dsimp only;decide⟩
 ·split at a
  ·rename_i b
   unfold ZaA at a
   rw[if_pos b]at a
   exact(h.set b).sv a
  ·rw[List.mem_singleton]at a
   subst a
   exact⟨by decide,by decide⟩
theorem Zei.abbr {x:Int × ByteArray}(b:x∈ZaB rs e):abE e x=0:=by
 have c:=h.fmt
 have p:=h.hours x b
 unfold abE
 unfold Zem at c
 dsimp only at c
 unfold Zdx
 cases hp:Zc5 e.format.data.toList with
 | some ab=>rfl
 | none =>
  dsimp only
  by_cases m:ZaP e.format.data.toList=0
  ·rw[if_pos m]at c;omega
  rw[if_neg m]at c
  by_cases l:ZaP e.format.data.toList=3
  ·rw[if_pos l]at c ⊢
   have k:x.2.data.toList∈(if e.kind=2 then (ZaA rs e).map (fun r=>r.letter.data.toList) else [[]]):=by
    unfold ZaB at b
    by_cases g:e.kind=2
    ·rw[if_pos g]
     rw[if_neg (by omega),if_pos g]at b
     obtain⟨r,o,rfl⟩:=List.mem_map.1 b
     exact List.mem_map.2 ⟨r,o,rfl⟩
    ·rw[if_neg g]
     rw[if_neg g]at b
     split at b
     ·rw[List.mem_singleton]at b
      subst b
      exact .head _
     ·rw[List.mem_singleton]at b
      subst b
      exact .head _
   have j:∀ (L:List (List UInt8)),ZbG e.format.data.toList L=0->∀ y∈L,(Zdx e.format.data.toList 0 0 y).2=0:=by
    intro L
    induction L with
    | nil=>intro _ y f;cases f
    | cons z L ih =>
     intro d y f
     rw[ZbG]at d
     by_cases i:(Zdx e.format.data.toList 0 0 z).2=0
     ·rw[if_pos i]at d
      rcases List.mem_cons.1 f with rfl|f
      ·exact i
      ·exact ih d y f
     ·rw[if_neg i]at d
      exact absurd d i
   have a:=j _ c _ k
   unfold Zdx at a
   rw[hp]at a
   dsimp only at a
   rw[if_pos l]at a
   exact a
  rw[if_neg l]
  by_cases n:ZaP e.format.data.toList=4
  ·rw[if_pos n,if_pos ⟨by unfold ZcQ;simp;omega,Zsx _ (by omega)⟩]
  rw[if_neg n]
  have q:=ZoE e.format.data.toList
  rw[if_pos (by
   by_cases k1:ZaP e.format.data.toList=1
   ·exact .inl k1
   by_cases k2:ZaP e.format.data.toList=2
   ·exfalso
    exact Ztb k2 hp
   ·exact .inr (by omega))]
theorem Zei.least : -10800<=Zae (ZaA rs e)/\Zae (ZaA rs e)<=0:=by
 unfold ZaA
 split
 ·exact Zbb.least (h.set ‹_›).rule
 ·decide
theorem Zei.bs:Go.Wk.bsE e (ruEr rs e)=Zae (ZaA rs e):=by
 have a:=h.least
 unfold Go.Wk.bsE ruEr
 unfold ZaA at a ⊢
 split
 ·rw[if_pos ‹_›]at a
  omega
 ·rfl
theorem Zei.rsm (b:rs.length<=1000000):RsSm (ruEr rs e):=by
 unfold ruEr
 split
 ·exact(h.set ‹_›).small (Nat.le_trans (List.length_filter_le _ _) b)
 ·exact⟨Nat.zero_le _,fun r a=>(by cases a),fun r a=>(by cases a),fun r a=>(by cases a)⟩
theorem Zei.bf (n:Int) : -10800<=bfE e (ruEr rs e) n/\bfE e (ruEr rs e) n<=10800:=by
 unfold bfE
 by_cases b:e.kind=1
 ·rw[if_pos b]
  have:=h.save
  omega
 rw[if_neg b]
 by_cases a:e.kind=2
 ·rw[if_pos a]
  unfold ruEr
  rw[if_pos a]
  exact((h.set a).sv ((h.set a).bef n)).1
 ·rw[if_neg a];decide
theorem Zei.til (r:k+1<l.length):e.til.is=true/\ZaF e.til (Zae (ZaA rs e))=0/\(0<k->∀ b,l[k - 1]?=some b->(Zao b.til (Zae (ZaA rs b))).2=0/\259200<=(Zao e.til (Zae (ZaA rs e))).1 - (Zao b.til (Zae (ZaA rs b))).1):=by
 have a:=h.fin
 have q:l.getD k dE0=e:=by rw[List.getD_eq_getElem?_getD,h.at_];rfl
 unfold Zc9 at a
 rw[q]at a
 dsimp only at a
 by_cases f:e.til.is≠decide (k+1<l.length)
 ·rw[if_pos f]at a;omega
 rw[if_neg f]at a
 have c:e.til.is=true:=by rw[Decidable.not_not.1 f];exact dT_ r
 rw[if_neg (by rw[c];decide)]at a
 by_cases d:ZaF e.til (Zae (ZaA rs e))≠0
 ·rw[if_pos d]at a;exact absurd a d
 rw[if_neg d]at a
 refine⟨c,Decidable.not_not.1 d,fun m b p=>?_⟩
 have i:l.getD (k - 1) dE0=b:=by rw[List.getD_eq_getElem?_getD,p];rfl
 rw[i]at a
 by_cases g:0<k/\((Zao b.til (Zae (ZaA rs b))).2≠0\/(Zao e.til (Zae (ZaA rs e))).1 - (Zao b.til (Zae (ZaA rs b))).1<259200)
 ·rw[if_pos g]at a;omega
 ·refine⟨Decidable.byContradiction fun j=>g ⟨m,.inl j⟩,Int.not_lt.1 fun j=>g ⟨m,.inr j⟩⟩
theorem Zei.unok (b:k+1<l.length):UnOk e (ruEr rs e):=by
 obtain⟨_,a,_⟩:=h.til b
 have d:=h.off
 have f:=h.save
 have c:=h.bf (Zao e.til (Go.Wk.bsE e (ruEr rs e))).1
 exact⟨h.kind,Zld (by omega),Zld (by omega),by rw[h.bs];exact a,Zld (by unfold endB;omega)⟩
theorem Zei.endT_bd (d:k+1<l.length):(Zao e.til (Zae (ZaA rs e))).1 - 64800<=endT e (ruEr rs e)/\endT e (ruEr rs e)<=(Zao e.til (Zae (ZaA rs e))).1+64800:=by
 obtain⟨_,c,_⟩:=h.til d
 have j:=h.off
 have g:=h.bf (Zao e.til (Go.Wk.bsE e (ruEr rs e))).1
 have i:=h.least
 have f:(Zao e.til (Zae (ZaA rs e))).1=86400*(onD e.til.year e.til.month e.til.day).1+e.til.at_.sec+(if e.til.at_.base=1 then Zae (ZaA rs e) else 0):=by
  unfold Zao
  rw[if_neg (by rw[c];decide)]
 unfold endT endB
 generalize bfE e (ruEr rs e) _=B at *
 rw[f]
 generalize Zae (ZaA rs e)=L at *
 generalize (onD e.til.year e.til.month e.til.day).1=D at *
 by_cases b:e.til.at_.base=0
 ·rw[if_pos b,if_neg (by omega)]
  omega
 ·rw[if_neg b]
  by_cases a:e.til.at_.base=1
  ·rw[if_pos a,if_pos a]
   omega
  ·rw[if_neg a,if_neg a]
   omega
theorem Zei.nom_bd (i:k+1<l.length) : -4000000000<=(Zao e.til (Zae (ZaA rs e))).1/\(Zao e.til (Zae (ZaA rs e))).1<=6000000000:=by
 obtain⟨_,a,_⟩:=h.til i
 have q:=h.least
 unfold Zao
 rw[if_neg (by rw[a];decide)]
 dsimp only
 unfold ZaF at a
 rw[if_neg (by omega)]at a
 by_cases c:e.til.is=false
 ·rw[if_pos c]at a;omega
 rw[if_neg c]at a
 by_cases d:e.til.year<1850\/2149<e.til.year\/ZaL e.til.at_=false
 ·rw[if_pos d]at a;omega
 rw[if_neg d]at a
 dsimp only at a
 by_cases b:(onD e.til.year e.til.month e.til.day).2≠0\/(if e.til.at_.base=1 then e.til.at_.sec+Zae (ZaA rs e) else e.til.at_.sec) < -86400\/172800<(if e.til.at_.base=1 then e.til.at_.sec+Zae (ZaA rs e) else e.til.at_.sec)
 ·rw[if_pos b]at a;omega
 have f:(onD e.til.year e.til.month e.til.day).2=0:=Decidable.byContradiction fun g=>b (.inl g)
 obtain⟨m1,m2,n,o⟩:=Zmw f
 have p:=ZiU e.til.year e.til.month m1 m2
 have j:=Za9 1850 (e.til.year - 1850).toNat
 have m:=Za9 e.til.year (2149 - e.til.year).toNat
 rw[show(1850:Int)+((e.til.year - 1850).toNat:Int)=e.til.year by omega]at j
 rw[show e.til.year+((2149 - e.til.year).toNat:Int)=2149 by omega]at m
 have r:jan1 1850 = -43829:=by decide
 have k1:jan1 2149=65379:=by decide
 generalize (onD e.til.year e.til.month e.til.day).1=D at *
 split at b <;> simp_all <;> omega
end
theorem ZD2 {rs:List DRule}{l:List DEra}(h:∀ k e,l[k]?=some e->Zei rs l k e):∃ r,Zey rs l=some r:=by
 refine Zl4 rs l _ 0 (fun e a b=>?_) (fun k e f a c b=>?_)
 ·have d:=(h 0 e a).endT_bd b
  have g:=(h 0 e a).nom_bd b
  omega
 ·have d:=(h k e a).endT_bd (by omega)
  have g:=(h (k+1) f c).endT_bd (by omega)
  obtain⟨_,_,i⟩:=(h (k+1) f c).til (by omega)
  obtain⟨_,j⟩:=i (by omega) e (by rw[Nat.add_sub_cancel];exact a)
  omega
theorem ZAu {a:DSource}(h:accD a=none)(m:∀ z∈a.zones,∀ e∈z.eras,e.format.size<=1000000000):MnOk a:=by
 obtain⟨o,_,_,n⟩:=Zkv h
 have p:=Zwo o
 have g:∀ z∈a.zones,∀ k e,z.eras[k]?=some e->Zei a.rules z.eras k e:=fun z b k e d=>Zjc h b d
 have j:∀ z∈a.zones,∀ e∈z.eras,∃ k,Zei a.rules z.eras k e:=fun z b e d=>by
  obtain⟨k,c⟩:=List.mem_iff_getElem?.1 d
  exact⟨k,g z b k e c⟩
 refine⟨h,fun z b k e d c=>⟨(g z b k e d).rsm (by omega),(g z b k e d).unok c⟩,fun z b=>(Zfz _ _ n z b).1,fun z b=>ZD2 (g z b),fun z b e d=>?_,fun z b e d t=>?_⟩
 ·obtain⟨k,c⟩:=j z b e d
  have l:=c.off
  have i:=c.save
  refine⟨c.kind,by omega,by omega,fun i=>?_,m z b e d⟩
  have:=c.rsm (by omega)
  unfold ruEr at this
  rwa[if_pos i]at this
 ·obtain⟨k,c⟩:=j z b e d
  have f:=c.state t
  obtain⟨l,i⟩:=c.st_bd f
  exact⟨by omega,by omega,c.abbr f⟩
