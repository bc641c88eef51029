/- Parts of the proof. -/
import Derived.Test.YtpipekfmecikmaaGreatDoorW27
import Derived.Test.YtpipekfmecikmaaGreatDoorW28
import Derived.Test.YtpipekfmecikmaaGreatDoorW14
import Derived.Test.YtpipekfmecikmaaGreatDoorW06
import Derived.Test.YtpipekfmecikmaaGreatDoorW10
import Derived.Test.YtpipekfmecikmaaGreatDoorW23
import Derived.Test.YtpipekfmecikmaaGreatDoorW13
import Derived.Test.YtpipekfmecikmaaGreatDoorW16
import Derived.Test.YtpipekfmecikmaaGreatDoorW26
import Derived.Test.YtpipekfmecikmaaGreatDoorW24
import Derived.Test.YtpipekfmecikmaaGreatDoorW17
import Derived.Test.YtpipekfmecikmaaGreatDoorW15
import Derived.Test.YtpipekfmecikmaaGreatDoorW18
set_option maxHeartbeats 4000000
set_option linter.unusedVariables false
set_option linter.unusedSimpArgs false
namespace Go.Proofs.YtpipekfmecikmaaGreatDoor
open Go Go.RowKit Go.Wk
attribute [local irreducible] W RL Does Zat Zaj retQ Calls Pu Stp RD Qy Ay Zak
theorem Zdm (n:Int)(w:World):Does Tryz.prog 157 [.int .i64 n] w (fun v O=>v = .bool (Ze8 n)/\O=[]):=by
 refine Zaa Tryz.func157 rfl rfl rfl rfl ?_
 repeat' (first|refine walk ?_|refine und ?_|(refine Zam rfl rfl rfl (fun a=>?_) (fun a=>?_))|(refine Zas rfl rfl rfl (fun a=>?_) (fun a=>?_))|(refine Zaf rfl (fun a=>?_) (fun a=>?_)))
 all_goals first|(refine ret_1 _ [] (.tmp rfl) .nil ⟨?_,rfl⟩;first|rfl|(simp only[*,Bool.true_and,Bool.false_and,Bool.true_or,Bool.false_or,Bool.not_true,Bool.not_false];done)|(simp_all [Ze8];done)|(simp_all [Ze8];omega)|(simp_all [Ze8];rw[Bool.eq_iff_iff];simp;omega))|(exfalso;simp_all [Ze8];done)|(exfalso;simp_all [Ze8];omega)|(exfalso;omega)
theorem ZzE {u:DUntil}{least:Int}(h:ZaD u least=0):(-604799<=u.at_.sec/\u.at_.sec<=604799)/\0<=u.at_.base/\u.at_.base<=2:=by
 unfold ZaD at h
 by_cases a:least < -10800\/0<least
 ·rw[if_pos a]at h;omega
 rw[if_neg a]at h
 by_cases b:u.is=false
 ·rw[if_pos b]at h;omega
 rw[if_neg b]at h
 by_cases c:u.year<1850\/2149<u.year\/ZaI u.at_=false
 ·rw[if_pos c]at h;omega
 have d:ZaI u.at_=true:=by
  cases hc:ZaI u.at_ with
  | true=>rfl
  | false=>exact absurd (.inr (.inr hc)) c
 simp only[ZaI,Bool.and_eq_true,decide_eq_true_eq]at d
 omega
theorem Zwc {u:DUntil}{least:Int}(a:ZaD u least=0) : -4000000000<=(Zao u least).1/\(Zao u least).1<=6000000000:=by
 have m : -10800<=least/\least<=0:=by
  unfold ZaD at a
  by_cases e:least < -10800\/0<least
  ·rw[if_pos e]at a;omega
  ·omega
 unfold Zao
 rw[if_neg (by rw[a];decide)]
 dsimp only
 unfold ZaD at a
 rw[if_neg (by omega)]at a
 by_cases c:u.is=false
 ·rw[if_pos c]at a;omega
 rw[if_neg c]at a
 by_cases d:u.year<1850\/2149<u.year\/ZaI u.at_=false
 ·rw[if_pos d]at a;omega
 rw[if_neg d]at a
 dsimp only at a
 by_cases b:(onD u.year u.month u.day).2≠0\/(if u.at_.base=1 then u.at_.sec+least else u.at_.sec) < -86400\/172800<(if u.at_.base=1 then u.at_.sec+least else u.at_.sec)
 ·rw[if_pos b]at a;omega
 have f:(onD u.year u.month u.day).2=0:=Decidable.byContradiction fun g=>b (.inl g)
 obtain⟨m1,m2,j,k⟩:=Zmn f
 have l:=ZiV u.year u.month m1 m2
 have h:=Zbk 1850 (u.year - 1850).toNat
 have i:=Zbk u.year (2149 - u.year).toNat
 rw[show(1850:Int)+((u.year - 1850).toNat:Int)=u.year by omega]at h
 rw[show u.year+((2149 - u.year).toNat:Int)=2149 by omega]at i
 have n:jan1 1850 = -43829:=by decide
 have k1:jan1 2149=65379:=by decide
 generalize (onD u.year u.month u.day).1=D at *
 split at b <;> simp_all <;> omega
theorem ZsI (p q r:Int):p - q - r=p - r - q:=by omega
theorem Zu7 {G:Prop}(h:G:=by(first|(apply Zap;rfl;rfl;first|exact k1|exact k2|exact b0|exact b1)|(apply Zaw;rfl;rfl;exact k3)|(apply Zay;rfl;rfl;exact k4)|(apply Zds;rfl;rfl;exact hmx))):G:=h
theorem ZxU {G:Prop}(h:G:=by first|(apply Qy_y;rfl;exact Zu7)|exact QyA):G:=h
theorem Zhf {G:Prop}(h:G:=by repeat (first|exact QF.nil|(apply QF.mk;rfl;rfl;decide +kernel;exact ZxU))):G:=h
theorem Zsx {G G':Prop}(k:G')(h:Hold G'->G:=by intro k9;(first|refine und ?_|(apply RL_pu;rfl;exact Zu7)|(apply RD_Q;rfl;rfl;decide +kernel;rfl;rfl;exact ZxU)|refine walk1 ?_|(refine jg ?_;(try intro F);(first|(refine Zab (fun w' _=>hwo w') ?_)|(refine Zab (fun w' _=>hws w') ?_)|(refine Zab (fun w' _=>hwb w') ?_)|(refine Zab (fun w' _=>hno w') ?_)|(refine Zab (fun w' _=>hse w') ?_)|(refine Zab hls ?_)|(refine Zab hbf ?_));first|refine⟨_,EndsA,Zhf,?_⟩|refine fin ?_)|(refine jn ?_;(try intro F);(apply Zad;first|exact Zu7|exact PuA);first|refine⟨_,EndsA,Zhf,?_⟩|refine fin ?_));exact k9.out):G:=h ⟨k⟩
theorem Zu6 {G:Prop}(h:G:=by(first|(apply Zap;rfl;rfl;first|exact k1|exact k2|exact b0|exact b1)|(apply Zaw;rfl;rfl;exact k3)|(apply Zay;rfl;rfl;exact k4))):G:=h
theorem ZxT {G:Prop}(h:G:=by first|(apply Qy_y;rfl;exact Zu6)|exact QyA):G:=h
theorem Zde {G:Prop}(h:G:=by repeat (first|exact QF.nil|(apply QF.mk;rfl;rfl;decide +kernel;exact ZxT))):G:=h
theorem ZjA {G G':Prop}(k:G')(h:Hold G'->G:=by intro k9;(first|refine und ?_|(apply RL_pu;rfl;exact Zu6)|(apply RD_Q;rfl;rfl;decide +kernel;rfl;rfl;exact ZxT)|refine walk1 ?_|(refine jg ?_;(try intro F);(first|(refine Zab (fun w' _=>hwo w') ?_)|(refine Zab (fun w' _=>hws w') ?_)|(refine Zab (fun w' _=>hwb w') ?_)|(refine Zab (fun w' _=>hno w') ?_)|(refine Zab (fun w' _=>hse w') ?_));first|refine⟨_,EndsA,Zde,?_⟩|refine fin ?_)|(refine jn ?_;(try intro F);(apply Zad;first|exact Zu6|exact PuA);first|refine⟨_,EndsA,Zde,?_⟩|refine fin ?_));exact k9.out):G:=h ⟨k⟩
set_option maxHeartbeats 2000000 in
theorem Zmi (e:DEra)(A:Option Addr)(c:Nat)(l:List DRule)(w:World)(X:RdSl w A c DRule.enc 11 l)(N:RsSm l)(Y:e.kind=2->ZbH l)(f:UnOk e l) :
  Does Tryz.prog 103 [.agg e.enc.toArray,.slice A l.length c] w (fun v O=>v = .tuple #[.int .i64 (endT e l),.int .i64 0]/\O=[]):=by
 have hk:=f.k
 have ho:=ZfS f.o
 have hsv:=ZfS f.s
 have Q:=f.c
 have hb:=ZfS f.b
 obtain⟨R,hs1⟩:=ZzE Q
 have hDb:=Zem e.til.year e.til.month e.til.day
 have hwo:=fun w'=>Zdm e.off w'
 have hws:=fun w'=>Zdm e.save w'
 have hwb:=fun w'=>Zdm (endB e l) w'
 rw[f.o]at hwo
 rw[f.s]at hws
 rw[f.b]at hwb
 have hno:=fun w'=>Zh5 e.til (Go.Wk.bsE e l) w'
 have M:Zao e.til (Go.Wk.bsE e l)=(86400*(onD e.til.year e.til.month e.til.day).1+e.til.at_.sec+(if e.til.at_.base=1 then Go.Wk.bsE e l else 0),0):=by
  unfold Zao
  rw[if_neg (by rw[Q];decide)]
 have hse:=fun w'=>Zh4 e.til R w'
 have hls:=fun w' (S:Bel w.heap.size w w')=>Zcd A c l w' (X.up S)
 have hbd : -10800<=Go.Wk.bsE e l/\Go.Wk.bsE e l<=0:=by
  unfold Go.Wk.bsE
  split
  ·have:=ZcJ l;omega
  ·decide
 have hbf:e.kind=2->∀ w',Bel w.heap.size w w'->Does Tryz.prog 156 [.slice A l.length c,.int .i64 (Zao e.til (Go.Wk.bsE e l)).1] w' (fun v O=>v=stV (befS l (Zao e.til (Go.Wk.bsE e l)).1)/\O=[]):=fun I w' S=>by
  refine Zfr A c l _ w' (X.up S) N.n (Y I) ?_
  have:=Zwc Q
  omega
 unfold endT
 have m:endB e l=bfE e l (Zao e.til (Go.Wk.bsE e l)).1:=rfl
 generalize endB e l=B at *
 unfold bfE at m
 rw[M]at hno hbf m
 dsimp only at hno hbf m
 have r:Go.Wk.bsE e l=if e.kind=2 then max (Zag l) (-10800) else 0:=rfl
 generalize Go.Wk.bsE e l=bs at *
 generalize befS l _=x at *
 generalize Zag l=L at *
 generalize (onD e.til.year e.til.month e.til.day).1=D at *
 clear M Q f Y N
 obtain⟨x1,x2⟩:=x
 have hmx:(if L < -10800 then -10800 else L)=max L (-10800):=by split <;> omega
 obtain⟨off,u,K,st,Z,⟨T,W,U,⟨z,E,H⟩,⟨y,a⟩⟩⟩:=e
 dsimp only at *
 change ∀ w',Does _ _ [.agg #[.bool T,.int .i64 W,.int .i64 U,.int .i64 z,.int .i64 E,.int .i64 H,.int .i64 y,.int .i64 a],_] w' _ at hno
 change ∀ w',Does _ _ [.agg #[.bool T,.int .i64 W,.int .i64 U,.int .i64 z,.int .i64 E,.int .i64 H,.int .i64 y,.int .i64 a]] w' _ at hse
 show Does _ _ [.agg #[.int .i64 off,.int .i64 u,.int .i64 K,.string st,.string Z,.bool T,.int .i64 W,.int .i64 U,.int .i64 z,.int .i64 E,.int .i64 H,.int .i64 y,.int .i64 a],_] w _
 simp only[stV]at hbf
 have k3:decide (u<0)=false:=decide_eq_false (by omega)
 have k4:decide (2<u)=false:=decide_eq_false (by omega)
 have hD2:∀ b,(if a=1 then b else 0)=(if a=1 then b else 0):=fun _=>rfl
 refine Zaa Tryz.func103 rfl rfl rfl rfl ?_
 by_cases I:u=2
 ·subst I
  have k1:decide ((2:Int)=1)=false:=rfl
  have k2:decide ((2:Int)=2)=true:=rfl
  rw[if_pos rfl]at r
  rw[if_neg (by decide),if_pos rfl]at m
  replace hbf:=hbf rfl
  subst r
  subst m
  by_cases t:a=0
  ·subst t
   have b0:decide ((0:Int)=0)=true:=rfl
   have b1:=b0
   rw[if_pos rfl]
   rw[if_neg (by decide)]at hno hbf
   repeat (first|refine Zsx ?_|(refine jg ?_;(try intro F);(refine bx ?_;intro j);first|refine⟨_,EndsA,Zhf,?_⟩|refine fin ?_)|(refine jn ?_;(try intro F);(refine bx ?_;intro j);first|refine⟨_,EndsA,Zhf,?_⟩|refine fin ?_))
   exact ret_2 _ _ [] (.tmp rfl) (.tmp rfl) .nil ⟨by rw[ZsI],rfl⟩
  rw[if_neg t]
  have b0:decide (a=0)=false:=decide_eq_false t
  by_cases p:a=1
  ·subst p
   have b1:decide ((1:Int)=1)=true:=rfl
   rw[if_pos rfl]at hno hbf ⊢
   repeat (first|refine Zsx ?_|(refine jg ?_;(try intro F);(refine bx ?_;intro j);first|refine⟨_,EndsA,Zhf,?_⟩|refine fin ?_)|(refine jn ?_;(try intro F);(refine bx ?_;intro j);first|refine⟨_,EndsA,Zhf,?_⟩|refine fin ?_))
   exact rtB
  ·have b1:decide (a=1)=false:=decide_eq_false p
   rw[if_neg p]at hno hbf ⊢
   repeat (first|refine Zsx ?_|(refine jg ?_;(try intro F);(refine bx ?_;intro j);first|refine⟨_,EndsA,Zhf,?_⟩|refine fin ?_)|(refine jn ?_;(try intro F);(refine bx ?_;intro j);first|refine⟨_,EndsA,Zhf,?_⟩|refine fin ?_))
   exact rtB
 ·clear hbf
  have k2:decide (u=2)=false:=decide_eq_false I
  rw[if_neg I]at r
  subst r
  have hz:(if a=1 then (0:Int) else 0)=0:=by split <;> rfl
  rw[hz]at hno
  obtain⟨q,k1⟩:∃ q,decide (u=1)=q:=⟨_,rfl⟩
  have J:(q=true->B=K)/\(q=false->B=0):=by
   rw[m,if_neg I,<- k1]
   by_cases p:u=1
   ·rw[if_pos p,decide_eq_true p]
    exact⟨fun _=>rfl,fun h=>(by cases h)⟩
   ·rw[if_neg p,decide_eq_false p]
    exact⟨fun h=>(by cases h),fun _=>rfl⟩
  clear m
  by_cases t:a=0
  ·subst t
   have b0:decide ((0:Int)=0)=true:=rfl
   have b1:=b0
   rw[if_pos rfl]
   cases q with
   | true =>
    obtain rfl:=J.1 rfl
    repeat (first|refine ZjA ?_|(refine jg ?_;(try intro F);(refine bx ?_;intro j);first|refine⟨_,EndsA,Zde,?_⟩|refine fin ?_)|(refine jn ?_;(try intro F);(refine bx ?_;intro j);first|refine⟨_,EndsA,Zde,?_⟩|refine fin ?_))
    exact ret_2 _ _ [] (.tmp rfl) (.tmp rfl) .nil ⟨by rw[ZsI],rfl⟩
   | false =>
    obtain rfl:=J.2 rfl
    repeat (first|refine ZjA ?_|(refine jg ?_;(try intro F);(refine bx ?_;intro j);first|refine⟨_,EndsA,Zde,?_⟩|refine fin ?_)|(refine jn ?_;(try intro F);(refine bx ?_;intro j);first|refine⟨_,EndsA,Zde,?_⟩|refine fin ?_))
    exact ret_2 _ _ [] (.tmp rfl) (.tmp rfl) .nil ⟨by rw[ZsI],rfl⟩
  rw[if_neg t]
  have b0:decide (a=0)=false:=decide_eq_false t
  by_cases p:a=1
  ·subst p
   have b1:decide ((1:Int)=1)=true:=rfl
   rw[if_pos rfl]
   cases q with
   | true =>
    obtain rfl:=J.1 rfl
    repeat (first|refine ZjA ?_|(refine jg ?_;(try intro F);(refine bx ?_;intro j);first|refine⟨_,EndsA,Zde,?_⟩|refine fin ?_)|(refine jn ?_;(try intro F);(refine bx ?_;intro j);first|refine⟨_,EndsA,Zde,?_⟩|refine fin ?_))
    exact rtB
   | false =>
    obtain rfl:=J.2 rfl
    repeat (first|refine ZjA ?_|(refine jg ?_;(try intro F);(refine bx ?_;intro j);first|refine⟨_,EndsA,Zde,?_⟩|refine fin ?_)|(refine jn ?_;(try intro F);(refine bx ?_;intro j);first|refine⟨_,EndsA,Zde,?_⟩|refine fin ?_))
    exact rtB
  ·have b1:decide (a=1)=false:=decide_eq_false p
   rw[if_neg p]
   cases q with
   | true =>
    obtain rfl:=J.1 rfl
    repeat (first|refine ZjA ?_|(refine jg ?_;(try intro F);(refine bx ?_;intro j);first|refine⟨_,EndsA,Zde,?_⟩|refine fin ?_)|(refine jn ?_;(try intro F);(refine bx ?_;intro j);first|refine⟨_,EndsA,Zde,?_⟩|refine fin ?_))
    exact rtB
   | false =>
    obtain rfl:=J.2 rfl
    repeat (first|refine ZjA ?_|(refine jg ?_;(try intro F);(refine bx ?_;intro j);first|refine⟨_,EndsA,Zde,?_⟩|refine fin ?_)|(refine jn ?_;(try intro F);(refine bx ?_;intro j);first|refine⟨_,EndsA,Zde,?_⟩|refine fin ?_))
    exact rtB
theorem ZyQ {G:Prop}(h:G:=by(apply Zap;rfl;rfl;exact hb)):G:=h
theorem ZkT (Ar Az Al As:Option Addr)(i j g cs:Nat)(a:DSource)(e:DEra)(w:World)(t:Zal w Ar Az Al As i j g cs a)(u:a.rules.length<=1000000) :
  Does Tryz.prog 104 [srcV Ar Az Al As i j g cs a,.agg e.enc.toArray] w (ZgR 68 11 DRule.enc (ruEr a.rules e)):=by
 have d:=fun w' (p:Bel w.heap.size w w')=>Zib Ar Az Al As i j g cs a e.set w' (t.up p) u
 unfold ruEr
 obtain⟨x,c,r,set,f,til⟩:=e
 dsimp only at d ⊢
 simp only[DEra.enc]
 refine Zaa Tryz.func104 rfl rfl rfl rfl ?_
 by_cases m:c=2
 ·subst m
  have hb:decide ((2:Int)=2)=true:=rfl
  rw[if_pos rfl]
  generalize ofB a.rules set=R at *
  repeat (first|(apply RL_pu;rfl;exact ZyQ)|(refine js ?_;(first|(apply Zae (h:=fun w' p _=>d w' p);rfl;rintro v O' ⟨A3,q,rfl,rfl⟩)|(refine bx ?_;intro s)))|refine walk1 ?_)
  exact ret_1 _ [.row (.slice A3 R.length q) 68 11 R.length (R.flatMap DRule.enc)] (.tmp rfl) SOA ⟨A3,q,rfl,rfl⟩
 ·rw[if_neg m]
  have hb:decide (c=2)=false:=decide_eq_false m
  refine Zdq 68 11 ?_
  repeat (first|(apply RL_pu;rfl;exact ZyQ)|(refine js ?_;(refine bx ?_;intro s))|refine walk1 ?_)
  exact ret_1 _ [.row (.slice none 0 0) 68 11 0 []] (.tmp rfl) SOA ⟨none,0,rfl,rfl⟩
structure SqG where
 k:Nat
 st:Int
 A:Option Addr
 c:Nat
 m:Nat
 xs:List Value
 acc:List Zba
theorem ZyP {G:Prop}(h:G:=by(first|(apply Zaw;rfl;rfl;exact hb0)|(apply ZbG;rfl;rfl;exact hb1)|(apply Pu_indexAddr;rfl;rfl;omega;omega;exact hnz)|(apply Pu_loadO1;rfl;exact hcz 1 _ rfl))):G:=h
theorem Zu5 {G:Prop}(h:G:=by(first|exact PuI|(apply Zaw;rfl;rfl;exact q1)|(apply ZbF;rfl;rfl;exact q2))):G:=h
theorem ZxS {G:Prop}(h:G:=by first|(apply Qy_y;rfl;exact Zu5)|exact QyA):G:=h
theorem Zyn {G:Prop}(h:G:=by repeat (first|exact QF.nil|(apply QF.mk;rfl;rfl;decide +kernel;exact ZxS))):G:=h
theorem ZyO {G:Prop}(h:G:=by(first|exact PuI|(apply Zaw;rfl;rfl;exact q1))):G:=h
set_option maxHeartbeats 4000000 in
theorem ZkS (Ar Az Al As:Option Addr)(S U R cs:Nat)(a:DSource)(i:Nat)(z:DZone)(r:List Zba)(w:World)(W:Zal w Ar Az Al As S U R cs a)(hn:a.rules.length<=1000000)(hl:z.eras.length<=1000000)(hz:a.zones[i]?=some z)
  (hE:∀ k e,z.eras[k]?=some e->k+1<z.eras.length->RsSm (ruEr a.rules e)/\UnOk e (ruEr a.rules e)/\(e.kind=2->ZbH (ruEr a.rules e))) (hsp:ZkN a.rules z.eras=some r) :
  Does Tryz.prog 56 [srcV Ar Az Al As S U R cs a,.int .i64 i] w (SpR r):=by
 have hil:i<a.zones.length:=(List.getElem?_eq_some_iff.1 hz).1
 obtain⟨hnz,cs1,⟨Ae,ce,s,rfl⟩,hcz⟩:=W.z i _ hz
 have I:=W.zcap
 have hlez:=W.zle
 simp only[maxLen]at I
 have K:=fun(e:DEra) w' (X:Bel w.heap.size w w')=>ZkT Ar Az Al As S U R cs a e w' (W.up X) hn
 have hb0:decide ((i:Int)<0)=false:=decide_eq_false (by omega)
 have hb1:decide ((a.zones.length:Int)<=(i:Int))=false:=decide_eq_false (by omega)
 have hel:=s.le
 have hec:=s.cap
 simp only[maxLen]at hec
 refine Zaa Tryz.func56 rfl rfl rfl rfl ?_
 refine Zdq 109 3 ?_
 repeat (first|refine und ?_|(apply RL_pu;rfl;exact ZyP)|(apply RD_Q;rfl;rfl;decide +kernel;rfl;rfl;exact QyRhD3)|refine walk1 ?_|(refine jn ?_;(try intro F);(first|(refine bx ?_;intro j)|(apply Zad;first|exact ZyP|exact PuA));first|refine⟨_,EndsA,QFRhD3,?_⟩|refine fin ?_)|(apply RD_W;rfl;intro j))
 refine Zai [(2,.pointer (some ⟨j,0,none⟩)),(6,.slice Ae z.eras.length ce)] [.blk j [.slice Ar a.rules.length S,.slice Az a.zones.length U,.slice Al a.links.length R,.slice As a.shifts.length cs] 27]
  (fun g:SqG=>[(7,.slice g.A g.m g.c),(8,.int .i64 g.st),(9,.int .i64 g.k)]) (fun g=>[.row (.slice g.A g.m g.c) 109 3 g.m g.xs])
  (fun g=>g.k<=z.eras.length/\g.m=g.acc.length/\g.xs=g.acc.flatMap Zba.enc/\g.m=g.k/\∃ q,spGo a.rules (z.eras.drop g.k) g.st g.k=some q/\g.acc++q=r) (fun g=>z.eras.length - g.k)
  ⟨0,-9223372036854775808,none,0,0,[],[]⟩ SFA SOA ⟨Nat.zero_le _,rfl,rfl,rfl,r,hsp,rfl⟩ ?_
 rintro⟨k,st,A,c,m,xs,acc⟩ ⟨hk,hm,hx,hmk,q,hi,hacc⟩
 dsimp only at hk hm hx hmk hi hacc ⊢
 repeat (first|refine walk ?_|(refine jn ?_;(try intro F);(first|(refine bx ?_;intro j)|(apply Zad;exact PuA));refine fin ?_)|(apply RD_W;rfl;intro j))
 refine Zaf rfl (fun x=>?_) (fun x=>?_)
 ·simp only[decide_eq_true_eq,Int.ofNat_lt]at x
  obtain⟨hna,hca⟩:=s.rd k _ (List.getElem?_eq_getElem x)
  have hgk:=List.getElem?_eq_getElem x
  rw[Zah x]at hi
  have u:=K z.eras[k]
  generalize z.eras[k]=e at *
  by_cases f:k+1<z.eras.length
  ·have q1:decide ((k:Int)+1<(z.eras.length:Int))=true:=decide_eq_true (by omega)
   obtain⟨L,M,y⟩:=hE k _ hgk f
   rw[Zah f,spGo]at hi
   have J:=fun(A3:Option Addr) (Q:Nat) w' hR=>Zmi e A3 Q (ruEr a.rules e) w' hR L y M
   generalize endT e (ruEr a.rules e)=T at *
   by_cases Z:T<=st
   ·rw[if_pos Z]at hi
    cases hi
   rw[if_neg Z,<- Zah f]at hi
   have q2:decide (T<=st)=false:=decide_eq_false Z
   obtain⟨r2,hr2,rfl⟩:=Option.map_eq_some_iff.1 hi
   unfold ZgR at u
   generalize ruEr a.rules e=rr at *
   clear M L y hE hi
   obtain⟨off,kd,Y,N,fm,⟨ui,uy,um,⟨ud1,ud2,ud3⟩,⟨uc1,uc2⟩⟩⟩:=e
   simp only[DEra.enc]at hca J u
   repeat (first|(apply RL_pu;rfl;exact Zu5)|(apply RD_Q;rfl;rfl;decide +kernel;rfl;rfl;exact ZxS)|refine walk1 ?_|(refine jg ?_;(try intro F);(first|(apply Zae (h:=fun w' X _=>u w' X);rfl;rintro v O' ⟨A3,Q,rfl,rfl⟩)|(refine ZaH (fun w' X t=>J A3 Q w' (ZaP DRule.len (t.of (A := .row (.slice A3 rr.length Q) 68 11 rr.length (rr.flatMap DRule.enc)) (by repeat' constructor)))) ?_)|(apply ZaF;rfl;rfl;(intro A' c';(focus repeat' constructor));(intro w' _ t;exact ZbD (t.of (by repeat' constructor)));rfl;rfl;(simp only[maxLen];omega);omega;intro A' c' D E H)|(refine bx ?_;intro j));first|refine⟨_,EndsA,Zyn,?_⟩|refine fin ?_)|(refine jn ?_;(try intro F);(first|(apply ZaF;rfl;rfl;(intro A' c';(focus repeat' constructor));(intro w' _ t;exact ZbD (t.of (by repeat' constructor)));rfl;rfl;(simp only[maxLen];omega);omega;intro A' c' D E H)|(refine bx ?_;intro j)|(apply Zad;first|exact Zu5|exact PuA));first|refine⟨_,EndsA,Zyn,?_⟩|refine fin ?_)|(apply RD_W;rfl;intro j))
   exact⟨⟨k+1,T,A',c',m+1,xs++(⟨st,T,k⟩:Zba).enc,acc++[⟨st,T,k⟩]⟩,OA,⟨OA,by simp[hm],by rw[hx];exact Zb0 acc _,OA,r2,hr2,by rw[<- hacc];simp⟩,SFA,SOA⟩
  ·have q1:decide ((k:Int)+1<(z.eras.length:Int))=false:=decide_eq_false (by omega)
   rw[List.drop_eq_nil_of_le (by omega),spGo]at hi
   cases hi
   obtain⟨off,kd,Y,N,fm,⟨ui,uy,um,⟨ud1,ud2,ud3⟩,⟨uc1,uc2⟩⟩⟩:=e
   simp only[DEra.enc]at hca
   repeat (first|(apply RL_pu;rfl;exact ZyO)|(apply RD_Q;rfl;rfl;decide +kernel;rfl;rfl;exact QyRhD5)|refine walk1 ?_|(refine jn ?_;(try intro F);(first|(apply ZaF;rfl;rfl;(intro A' c';(focus repeat' constructor));(intro w' _ t;exact ZbD (t.of (by repeat' constructor)));rfl;rfl;(simp only[maxLen];omega);omega;intro A' c' D E H)|(refine bx ?_;intro j)|(apply Zad;first|exact ZyO|exact PuA));first|refine⟨_,EndsA,QFRhD5,?_⟩|refine fin ?_)|(apply RD_W;rfl;intro j))
   exact⟨⟨k+1,9223372036854775807,A',c',m+1,xs++(⟨st,9223372036854775807,k⟩:Zba).enc,acc++[⟨st,9223372036854775807,k⟩]⟩,OA,⟨OA,by simp[hm],by rw[hx];exact Zb0 acc _,OA,[],by dsimp only;rw[List.drop_eq_nil_of_le (by omega)];rfl,by rw[List.append_nil];exact hacc⟩,SFA,SOA⟩
 ·simp only[decide_eq_false_iff_not,Int.ofNat_lt]at x
  obtain rfl:k=z.eras.length:=by omega
  rw[List.drop_length,spGo]at hi
  cases hi
  rw[List.append_nil]at hacc
  subst hacc
  repeat (first|refine walk ?_|(refine jn ?_;(try intro F);(first|(refine bx ?_;intro j)|(apply Zad;exact PuA));refine fin ?_)|(apply RD_W;rfl;intro j))
  exact ret_2 _ _ [.row (.slice A acc.length c) 109 3 acc.length (acc.flatMap Zba.enc)] (.tmp rfl) (.tmp rfl) (by subst hm hx;exact SOA) ⟨A,c,by rw[hm],rfl⟩
theorem ZyN {G:Prop}(h:G:=by(first|exact PuI|(apply Pu_loadO1;rfl;first|exact hca 0 _ rfl|exact hca 1 _ rfl|exact hca 2 _ rfl)|(apply ZbF;rfl;rfl;exact b1)|(apply Zaw;rfl;rfl;exact b2))):G:=h
theorem Zmh (A:Option Addr)(c:Nat)(l:List Zba)(t:Int)(w:World)(m:RdSl w A c Zba.enc 3 l)(D:l.length<=1000000) :
  Does Tryz.prog 57 [.slice A l.length c,.int .i64 t] w (fun v O=>v = .tuple #[.agg (Zfz l t).1.enc.toArray,.bool (Zfz l t).2]/\O=[]):=by
 have z:=m.le
 have r:=m.cap
 simp only[maxLen]at r
 obtain⟨X,q⟩:∃ X,Zdk t l 0=X:=⟨_,rfl⟩
 unfold Zfz
 rw[q]
 refine Zaa Tryz.func57 rfl rfl rfl rfl ?_
 repeat (first|(refine js ?_;(refine bx ?_;intro e))|refine walk ?_)
 refine Zai [(0,.slice A l.length c),(1,.int .i64 t),(4,.pointer (some ⟨e,0,none⟩))] [.blk e [.int .i64 0,.int .i64 0,.int .i64 0] 109] (fun k:Nat=>[(6,.int .i64 k)]) (fun _=>[]) (fun k=>k<=l.length/\Zdk t (l.drop k) k=X) (fun k=>l.length - k) 0 SFA SOA ⟨Nat.zero_le _,q⟩ ?_
 clear q
 rintro k ⟨C,d⟩
 repeat (first|(refine js ?_;(refine bx ?_;intro e))|refine walk ?_)
 refine Zaf rfl (fun f=>?_) (fun f=>?_)
 ·simp only[decide_eq_true_eq,Int.ofNat_lt]at f
  have g:=List.getElem?_eq_getElem f
  obtain⟨hna,hca⟩:=m.rd k _ g
  rw[Zah f,Zdk]at d
  have s:l.getD k sp0=l[k]:=by rw[List.getD_eq_getElem?_getD,g];rfl
  generalize l[k]=x at *
  obtain⟨i,j,B⟩:=x
  change Zau w _ [.int .i64 i,.int .i64 j,.int .i64 B]at hca
  unfold spIn at d
  dsimp only at d
  by_cases u:i<=t
  ·have b1:decide (i<=t)=true:=decide_eq_true u
   rw[b1,Bool.true_and]at d
   by_cases y:t<j
   ·have b2:decide (t<j)=true:=decide_eq_true y
    rw[b2,if_pos rfl]at d
    subst d
    rw[if_neg (by omega),Int.toNat_natCast,s]
    repeat (first|refine und ?_|(apply RL_pu;rfl;exact ZyN)|(refine js ?_;(refine bx ?_;intro e))|refine walk1 ?_)
    exact rtC
   ·have b2:decide (t<j)=false:=decide_eq_false y
    rw[b2,if_neg (by decide)]at d
    repeat (first|refine und ?_|(apply RL_pu;rfl;exact ZyN)|(refine js ?_;(refine bx ?_;intro e))|refine walk1 ?_)
    exact⟨k+1,OA,⟨OA,d⟩,SFA,SOA⟩
  ·have b1:decide (i<=t)=false:=decide_eq_false u
   rw[b1,Bool.false_and,if_neg (by decide)]at d
   repeat (first|refine und ?_|(apply RL_pu;rfl;(first|exact PuI|(apply Pu_loadO1;rfl;first|exact hca 0 _ rfl|exact hca 1 _ rfl|exact hca 2 _ rfl)|(apply ZbF;rfl;rfl;exact b1)))|(refine js ?_;(refine bx ?_;intro e))|refine walk1 ?_)
   exact⟨k+1,OA,⟨OA,d⟩,SFA,SOA⟩
 ·simp only[decide_eq_false_iff_not,Int.ofNat_lt]at f
  rw[List.drop_eq_nil_of_le (by omega)]at d
  obtain rfl : -1=X:=d
  rw[if_pos (by decide)]
  repeat (first|(refine js ?_;(refine bx ?_;intro e))|refine walk ?_)
  exact rtC
end Go.Proofs.YtpipekfmecikmaaGreatDoor
namespace Go.Proofs.YtpipekfmecikmaaGreatDoor
open Go Go.RowKit Go.Wk
attribute [local irreducible] W RL Does Zat Zaj retQ Calls Pu Stp RD Qy Ay
attribute [local irreducible] Zak
end Go.Proofs.YtpipekfmecikmaaGreatDoor
namespace Go.Wk
open Go Go.RowKit
end Go.Wk
namespace Go.Proofs.YtpipekfmecikmaaGreatDoor
open Go Go.RowKit Go.Wk
attribute [local irreducible] W RL Does Zat Zaj retQ Calls Pu Stp RD Qy Ay Zak
end Go.Proofs.YtpipekfmecikmaaGreatDoor
namespace Go.Proofs.YtpipekfmecikmaaGreatDoor
open Go Go.RowKit Go.Wk
end Go.Proofs.YtpipekfmecikmaaGreatDoor
namespace Go.Wk
open Go Go.RowKit
end Go.Wk
namespace Go.Proofs.YtpipekfmecikmaaGreatDoor
open Go Go.RowKit Go.Wk
attribute [local irreducible] W RL Does Zat Zaj retQ Calls Pu Stp RD Qy Ay Zak
end Go.Proofs.YtpipekfmecikmaaGreatDoor
namespace Go.Wk
open Go Go.RowKit
theorem Zp9 (s:ByteArray)(i j:Nat):(s.extract i j).data.toList=(s.data.toList.drop i).take (j - i):=by
 rw[ByteArray.data_extract];simp[List.drop_take]
theorem ZwU {l:List UInt8}{f i:Nat}(h:f<=i)(a:i<l.length):(l.drop f).take (i+1 - f)=(l.drop f).take (i - f)++[l[i]]:=by
 rw[show i+1 - f=(i - f)+1 by omega,List.take_add_one,List.getElem?_drop,show f+(i - f)=i by omega,List.getElem?_eq_getElem a]
 rfl
end Go.Wk
namespace Go.Proofs.YtpipekfmecikmaaGreatDoor
open Go Go.RowKit Go.Wk
attribute [local irreducible] W RL Does Zat Zaj retQ Calls Pu Stp RD Qy Ay Zak
theorem Zzk {G:Prop}(h:G:=by(apply Zaw;rfl;rfl;exact b1)):G:=h
theorem Zvv {G:Prop}(h:G:=by(first|(apply Za0;rfl;rfl;decide;omega;exact hgc)|(apply Zaw;rfl;rfl;exact b1)|(apply Zay;rfl;rfl;exact b2)|(apply Zap;rfl;rfl;first|exact e1|exact e2))):G:=h
theorem ZB5 {G:Prop}(h:G:=by(first|(apply Za0;rfl;rfl;omega;omega;exact hgc)|(apply Zan;rfl;rfl;first|exact e1|exact e2|exact e3|exact e4))):G:=h
theorem ZhF {G G':Prop}(k:G')(h:Hold G'->G:=by intro k9;(first|refine und ?_|(apply RL_pu;rfl;exact ZB5)|(refine js ?_;(first|(refine Zab (fun w' _=>hcl w') ?_)|(refine Zab (fun w' _=>hcd w') ?_)))|refine walk1 ?_);exact k9.out):G:=h ⟨k⟩
set_option maxHeartbeats 1000000 in
theorem ZjH (s:ByteArray)(E:(s.size:Int)<=9223372036854775807)(w:World):Does Tryz.prog 250 [.string s] w (fun v O=>v = .bool (Zgo s.data.toList)/\O=[]):=by
 have r:s.data.toList.length=s.size:=rfl
 obtain⟨R,u⟩:∃ R,(s.data.toList.all fun c=>Zoq c.toNat)=R:=⟨_,rfl⟩
 have f:Zgo s.data.toList=((decide (1<=s.size)&&decide (s.size<=14)&&R)&&!(decide (s.data.toList.getD 0 0=46)||decide (s.data.toList.getD 0 0=45))):=by
  unfold Zgo ZbV ZbE
  rw[<- u,r]
  have z:(fun c:UInt8 => !decide (ZbO c.toNat &&& 31=0))=fun c=>Zoq c.toNat:=funext Zsf
  rw[z]
  cases hd:s.data.toList with
  | nil=>rw[hd]at r;rw[show s.size=0 from r.symm];rfl
  | cons x l=>rfl
 refine Zaa Tryz.func250 rfl rfl rfl rfl ?_
 by_cases B:s.size<1
 ·have b1:decide ((s.size:Int)<1)=true:=decide_eq_true (by omega)
  rw[show Zgo s.data.toList=false by rw[f,decide_eq_false (show ¬ 1<=s.size by omega)];rfl]
  repeat (first|refine und ?_|(apply RL_pu;rfl;exact Zzk)|refine walk1 ?_)
  exact rtA
 have b1:decide ((s.size:Int)<1)=false:=decide_eq_false (by omega)
 by_cases C:14<s.size
 ·have b2:decide (14<(s.size:Int))=true:=decide_eq_true (by omega)
  rw[show Zgo s.data.toList=false by rw[f,decide_eq_false (show ¬ s.size<=14 by omega),Bool.and_false];rfl]
  repeat (first|refine und ?_|(apply RL_pu;rfl;(first|exact Zzk|(apply Zay;rfl;rfl;exact b2)))|refine walk1 ?_)
  exact rtA
 have b2:decide (14<(s.size:Int))=false:=decide_eq_false (by omega)
 obtain⟨c,hgc⟩:∃ c,s.data.toList.getD ((0:Int)).toNat 0=c:=⟨_,rfl⟩
 rw[show s.data.toList.getD 0 0=c from hgc,decide_eq_true (show 1<=s.size by omega),decide_eq_true (show s.size<=14 by omega)]at f
 have m:decide ((c.toNat:Int)=46)=decide (c=46):=by
  rw[decide_eq_decide]
  constructor
  ·intro h;exact UInt8.toNat_inj.1 (by show c.toNat=46;omega)
  ·intro h;rw[h];rfl
 have j:decide ((c.toNat:Int)=45)=decide (c=45):=by
  rw[decide_eq_decide]
  constructor
  ·intro h;exact UInt8.toNat_inj.1 (by show c.toNat=45;omega)
  ·intro h;rw[h];rfl
 obtain⟨e,e1⟩:∃ e,decide ((c.toNat:Int)=46)=e:=⟨_,rfl⟩
 obtain⟨z2,e2⟩:∃ z2,decide ((c.toNat:Int)=45)=z2:=⟨_,rfl⟩
 rw[<- m,<- j,e1,e2]at f
 cases e with
 | true =>
  rw[f,Bool.true_or,Bool.not_true,Bool.and_false]
  repeat (first|refine und ?_|(apply RL_pu;rfl;exact Zvv)|refine walk1 ?_)
  exact rtA
 | false =>
 cases z2 with
 | true =>
  rw[f,Bool.or_true,Bool.not_true,Bool.and_false]
  repeat (first|refine und ?_|(apply RL_pu;rfl;exact Zvv)|refine walk1 ?_)
  exact rtA
 | false =>
 rw[show Zgo s.data.toList=R by rw[f,Bool.or_false,Bool.not_false,Bool.and_true];rfl]
 repeat (first|refine und ?_|(apply RL_pu;rfl;exact Zvv)|refine walk1 ?_)
 clear hgc f e1 e2 m j
 refine Zai [(0,.string s)] [] (fun k:Nat=>[(3,.int .i64 k)]) (fun _=>[]) (fun k=>k<=s.size/\((s.data.toList.drop k).all fun c=>Zoq c.toNat)=R) (fun k=>s.size - k) 0 SFA SOA ⟨Nat.zero_le _,u⟩ ?_
 rintro k ⟨D,i⟩
 repeat (first|refine walk ?_)
 refine Zaf rfl (fun t=>?_) (fun t=>?_)
 ·simp only[decide_eq_true_eq,Int.ofNat_lt]at t
  have hgc:s.data.toList.getD ((k:Int)).toNat 0=s.data.toList[k]:=Zdn (by omega)
  rw[Zah (show k<s.data.toList.length by omega),List.all_cons]at i
  generalize s.data.toList[k]=d at *
  unfold Zoq at i
  have hcl:=fun w'=>Zcq d.toNat w'
  have hcd:=fun w'=>Zh1 d.toNat w'
  generalize letC d.toNat=x at *
  generalize digC d.toNat=y at *
  obtain⟨e,e1⟩:∃ e,(!decide ((d.toNat:Int)=46))=e:=⟨_,rfl⟩
  obtain⟨z2,e2⟩:∃ z2,(!decide ((d.toNat:Int)=95))=z2:=⟨_,rfl⟩
  obtain⟨z3,e3⟩:∃ z3,(!decide ((d.toNat:Int)=43))=z3:=⟨_,rfl⟩
  obtain⟨z4,e4⟩:∃ z4,(!decide ((d.toNat:Int)=45))=z4:=⟨_,rfl⟩
  rw[show decide ((d.toNat:Int)=46) = !e by rw[<- e1,Bool.not_not],show decide ((d.toNat:Int)=95) = !z2 by rw[<- e2,Bool.not_not],show decide ((d.toNat:Int)=43) = !z3 by rw[<- e3,Bool.not_not],show decide ((d.toNat:Int)=45) = !z4 by rw[<- e4,Bool.not_not]]at i
  have g:∀ q:Bool,(x||(y||(!e||(!z2||(!z3||!z4)))))=q->(q&&(s.data.toList.drop (k+1)).all fun c=>Zoq c.toNat)=R:=fun q A=>by rw[<- A];exact i
  cases x with
  | true =>
   repeat refine ZhF ?_
   exact⟨k+1,OA,⟨OA,by simpa using g true rfl⟩,SFA,SOA⟩
  | false =>
  cases y with
  | true =>
   repeat refine ZhF ?_
   exact⟨k+1,OA,⟨OA,by simpa using g true rfl⟩,SFA,SOA⟩
  | false =>
  cases e with
  | false =>
   repeat refine ZhF ?_
   exact⟨k+1,OA,⟨OA,by simpa using g true rfl⟩,SFA,SOA⟩
  | true =>
  cases z2 with
  | false =>
   repeat refine ZhF ?_
   exact⟨k+1,OA,⟨OA,by simpa using g true rfl⟩,SFA,SOA⟩
  | true =>
  cases z3 with
  | false =>
   repeat refine ZhF ?_
   exact⟨k+1,OA,⟨OA,by simpa using g true rfl⟩,SFA,SOA⟩
  | true =>
  cases z4 with
  | false =>
   repeat refine ZhF ?_
   exact⟨k+1,OA,⟨OA,by simpa using g true rfl⟩,SFA,SOA⟩
  | true =>
   have:=g false rfl
   rw[Bool.false_and]at this
   subst this
   repeat refine ZhF ?_
   exact rtA
 ·simp only[decide_eq_false_iff_not,Int.ofNat_lt]at t
  rw[List.drop_eq_nil_of_le (by omega),List.all_nil]at i
  subst i
  repeat (first|refine walk ?_)
  exact rtA
structure RzG where
 i:Nat
 f:Nat
theorem Zzj {G:Prop}(h:G:=by(first|(apply Za0;rfl;rfl;omega;omega;exact hgc)|(apply Zap;rfl;rfl;exact b1)|(apply Ze3;rfl;rfl;rfl;omega;omega;omega;rfl))):G:=h
theorem Zzi {G:Prop}(h:G:=by(apply ZgL;rfl;rfl;omega;omega)):G:=h
theorem ZjK (s:ByteArray)(z:(s.size:Int)<=9223372036854775807)(w:World):Does Tryz.prog 193 [.string s] w (fun v O=>v = .bool (Ze5 s)/\O=[]):=by
 have y:s.data.toList.length=s.size:=rfl
 have m:∀ i j,((s.extract i j).size:Int)<=9223372036854775807:=fun i j=>by rw[ByteArray.size_extract];omega
 unfold Ze5
 obtain⟨R,u⟩:∃ R,(Zd9 s.data.toList []).all Zgo=R:=⟨_,rfl⟩
 rw[u]
 refine Zaa Tryz.func193 rfl rfl rfl rfl ?_
 repeat (first|refine walk ?_)
 refine Zai [(0,.string s)] [] (fun g:RzG=>[(3,.int .i64 g.f),(4,.int .i64 g.i)]) (fun _=>[]) (fun g=>g.f<=g.i/\g.i<=s.size/\(Zd9 (s.data.toList.drop g.i) ((s.data.toList.drop g.f).take (g.i - g.f))).all Zgo=R) (fun g=>s.size - g.i) ⟨0,0⟩ SFA SOA ⟨Nat.le_refl _,Nat.zero_le _,u⟩ ?_
 rintro⟨i,f⟩ ⟨h1,h2,hi⟩
 dsimp only at h1 h2 hi ⊢
 repeat (first|refine walk ?_)
 refine Zaf rfl (fun t=>?_) (fun t=>?_)
 ·simp only[decide_eq_true_eq,Int.ofNat_lt]at t
  have hgc:s.data.toList.getD ((i:Int)).toNat 0=s.data.toList[i]:=Zdn (by omega)
  have x:=ZwU h1 (show i<s.data.toList.length by omega)
  rw[Zah (show i<s.data.toList.length by omega),Zd9]at hi
  generalize s.data.toList[i]=d at *
  have q:((d.toNat:Int)=47)↔d=47:=by
   constructor
   ·intro h;exact UInt8.toNat_inj.1 (by show d.toNat=47;omega)
   ·intro h;rw[h];rfl
  by_cases r:d=47
  ·have b1:decide ((d.toNat:Int)=47)=true:=decide_eq_true (q.2 r)
   rw[if_pos r,List.all_cons]at hi
   have c:=fun w'=>ZjH (s.extract f i) (m f i) w'
   rw[Zp9]at c
   generalize Zgo ((s.data.toList.drop f).take (i - f))=pb at *
   cases pb with
   | true =>
    rw[Bool.true_and]at hi
    repeat (first|(apply RL_pu;rfl;exact Zzj)|(refine js ?_;(refine Zab (fun w' _=>c w') ?_))|refine walk1 ?_)
    exact⟨⟨i+1,i+1⟩,OA,⟨OA,OA,by dsimp only;rw[Nat.sub_self,List.take_zero];exact hi⟩,SFA,SOA⟩
   | false =>
    rw[Bool.false_and]at hi
    subst hi
    repeat (first|(apply RL_pu;rfl;exact Zzj)|(refine js ?_;(refine Zab (fun w' _=>c w') ?_))|refine walk1 ?_)
    exact ret_1 _ [] (.tmp rfl) .nil ⟨by rw[Bool.and_false],rfl⟩
  ·have b1:decide ((d.toNat:Int)=47)=false:=decide_eq_false (fun e=>r (q.1 e))
   rw[if_neg r,<- x]at hi
   repeat (first|(apply RL_pu;rfl;(first|(apply Za0;rfl;rfl;omega;omega;exact hgc)|(apply Zap;rfl;rfl;exact b1)))|refine walk1 ?_)
   exact⟨⟨i+1,f⟩,OA,⟨OA,OA,hi⟩,SFA,SOA⟩
 ·simp only[decide_eq_false_iff_not,Int.ofNat_lt]at t
  obtain rfl:i=s.size:=by omega
  rw[List.drop_eq_nil_of_le (by omega),Zd9,List.all_cons,List.all_nil,Bool.and_true]at hi
  have c:=fun w'=>ZjH (s.extract f s.size) (m f s.size) w'
  rw[Zp9,hi]at c
  cases R with
  | true =>
   rw[Bool.and_true,show decide (s.size<=60)=decide ((s.size:Int)<=60) by rw[decide_eq_decide];omega]
   repeat (first|(apply RL_pu;rfl;exact Zzi)|(refine js ?_;(refine Zab (fun w' _=>c w') ?_))|refine walk1 ?_)
   exact rtA
  | false =>
   rw[Bool.and_false]
   repeat (first|refine und ?_|(apply RL_pu;rfl;exact Zzi)|(refine js ?_;(refine Zab (fun w' _=>c w') ?_))|refine walk1 ?_)
   exact rtA
def ixN:Option Nat->Int
 | some i=>i
 | none => -1
theorem ZoE (o:Option Nat):decide ((0:Int)<=ixN o)=o.isSome:=by
 cases o with
 | none=>rfl
 | some i=>exact decide_eq_true (show(0:Int)<=(i:Int) by omega)
def Zez (s:DSource):Nat->ByteArray->Nat × Int
 | 0,_=>(0,11)
 | f+1,x =>
  match ZaK x s.zones 0 with
  | some i=>(i,0)
  | none=>match ZaN x s.links 0 with
   | none=>(0,9)
   | some i=>Zez s f ((s.links[i]?).map (·.target) |>.getD ByteArray.empty)
theorem ZmP {z:DZone}:∀ (l:List DZone) (k i:Nat),l[i]?=some z->∃ j,ZaK z.name l k=some j/\j<=k+i
 | [],_,i,h=>by simp at h
 | y::l,k,i,h=>by
  rw[ZaK]
  by_cases a:y.name=z.name
  ·rw[if_pos a];exact⟨k,rfl,Nat.le_add_right _ _⟩
  ·rw[if_neg a]
   cases i with
   | zero=>simp only[List.getElem?_cons_zero,Option.some.injEq]at h;rw[h]at a;exact absurd rfl a
   | succ i =>
    obtain⟨j,b,c⟩:=ZmP l (k+1) i (by simpa using h)
    exact⟨j,b,by omega⟩
theorem ZmQ {z:DLink}:∀ (l:List DLink) (k i:Nat),l[i]?=some z->∃ j,ZaN z.name l k=some j/\j<=k+i
 | [],_,i,h=>by simp at h
 | y::l,k,i,h=>by
  rw[ZaN]
  by_cases a:y.name=z.name
  ·rw[if_pos a];exact⟨k,rfl,Nat.le_add_right _ _⟩
  ·rw[if_neg a]
   cases i with
   | zero=>simp only[List.getElem?_cons_zero,Option.some.injEq]at h;rw[h]at a;exact absurd rfl a
   | succ i =>
    obtain⟨j,b,c⟩:=ZmQ l (k+1) i (by simpa using h)
    exact⟨j,b,by omega⟩
theorem Zgi (Ar Az Al As:Option Addr)(g i f cs:Nat)(a:DSource)(x:ByteArray)(w:World)(r:Zal w Ar Az Al As g i f cs a)(y:a.zones.length<=1000000) :
  Does Tryz.prog 100 [srcV Ar Az Al As g i f cs a,.string x] w (fun v O=>v = .int .i64 (ixN (ZaK x a.zones 0))/\O=[]):=by
 obtain⟨R,m⟩:∃ R,ZaK x a.zones 0=R:=⟨_,rfl⟩
 rw[m]
 refine Zaa Tryz.func100 rfl rfl rfl rfl ?_
 repeat (first|(refine js ?_;(refine bx ?_;intro c))|refine walk ?_)
 refine Zai [(1,.string x),(2,.pointer (some ⟨c,0,none⟩))] [.blk c [.slice Ar a.rules.length g,.slice Az a.zones.length i,.slice Al a.links.length f,.slice As a.shifts.length cs] 27] (fun k:Nat=>[(5,.int .i64 k)]) (fun _=>[]) (fun k=>k<=a.zones.length/\ZaK x (a.zones.drop k) k=R) (fun k=>a.zones.length - k) 0 SFA SOA ⟨Nat.zero_le _,m⟩ ?_
 clear m
 rintro k ⟨u,d⟩
 repeat (first|(refine js ?_;(refine bx ?_;intro c))|refine walk ?_)
 refine Zaf rfl (fun e=>?_) (fun e=>?_)
 ·simp only[decide_eq_true_eq,Int.ofNat_lt]at e
  obtain⟨hna,q,⟨Ae,t,s,rfl⟩,hca⟩:=r.z k _ (List.getElem?_eq_getElem e)
  rw[Zah e,ZaK]at d
  generalize a.zones[k]=z at *
  repeat (first|(apply RL_pu;rfl;exact PuI)|(refine js ?_;(refine bx ?_;intro c))|refine walk1 ?_)
  refine Zaf rfl (fun j=>?_) (fun j=>?_)
  ·rw[if_pos (of_decide_eq_true j)]at d
   subst d
   repeat (first|(refine js ?_;(refine bx ?_;intro c))|refine walk ?_)
   exact rtA
  ·rw[if_neg (of_decide_eq_false j)]at d
   repeat (first|(refine js ?_;(refine bx ?_;intro c))|refine walk ?_)
   exact⟨k+1,OA,⟨OA,d⟩,SFA,SOA⟩
 ·simp only[decide_eq_false_iff_not,Int.ofNat_lt]at e
  rw[List.drop_eq_nil_of_le (by omega),ZaK]at d
  subst d
  repeat (first|(refine js ?_;(refine bx ?_;intro c))|refine walk ?_)
  exact rtA
theorem Zgk (Ar Az Al As:Option Addr)(g i f cs:Nat)(a:DSource)(x:ByteArray)(w:World)(q:Zal w Ar Az Al As g i f cs a)(s:a.links.length<=1000000) :
  Does Tryz.prog 101 [srcV Ar Az Al As g i f cs a,.string x] w (fun v O=>v = .int .i64 (ixN (ZaN x a.links 0))/\O=[]):=by
 obtain⟨R,m⟩:∃ R,ZaN x a.links 0=R:=⟨_,rfl⟩
 rw[m]
 refine Zaa Tryz.func101 rfl rfl rfl rfl ?_
 repeat (first|(refine js ?_;(refine bx ?_;intro c))|refine walk ?_)
 refine Zai [(1,.string x),(2,.pointer (some ⟨c,0,none⟩))] [.blk c [.slice Ar a.rules.length g,.slice Az a.zones.length i,.slice Al a.links.length f,.slice As a.shifts.length cs] 27] (fun k:Nat=>[(5,.int .i64 k)]) (fun _=>[]) (fun k=>k<=a.links.length/\ZaN x (a.links.drop k) k=R) (fun k=>a.links.length - k) 0 SFA SOA ⟨Nat.zero_le _,m⟩ ?_
 clear m
 rintro k ⟨r,d⟩
 repeat (first|(refine js ?_;(refine bx ?_;intro c))|refine walk ?_)
 refine Zaf rfl (fun e=>?_) (fun e=>?_)
 ·simp only[decide_eq_true_eq,Int.ofNat_lt]at e
  obtain⟨hna,hca⟩:=q.l.rd k _ (List.getElem?_eq_getElem e)
  rw[Zah e,ZaN]at d
  generalize a.links[k]=z at *
  repeat (first|(apply RL_pu;rfl;exact PuI)|(refine js ?_;(refine bx ?_;intro c))|refine walk1 ?_)
  refine Zaf rfl (fun j=>?_) (fun j=>?_)
  ·rw[if_pos (of_decide_eq_true j)]at d
   subst d
   repeat (first|(refine js ?_;(refine bx ?_;intro c))|refine walk ?_)
   exact rtA
  ·rw[if_neg (of_decide_eq_false j)]at d
   repeat (first|(refine js ?_;(refine bx ?_;intro c))|refine walk ?_)
   exact⟨k+1,OA,⟨OA,d⟩,SFA,SOA⟩
 ·simp only[decide_eq_false_iff_not,Int.ofNat_lt]at e
  rw[List.drop_eq_nil_of_le (by omega),ZaN]at d
  subst d
  repeat (first|(refine js ?_;(refine bx ?_;intro c))|refine walk ?_)
  exact rtA
theorem Zzb {G:Prop}(h:G:=by(apply ZbG;rfl;rfl;first|exact b1|exact b2)):G:=h
theorem Zoe (Ar Az Al As:Option Addr)(c d b cs:Nat)(a:DSource)(x:ByteArray)(w:World)(g:Zal w Ar Az Al As c d b cs a)(p:a.zones.length<=1000000)(e:a.links.length<=1000000) :
  Does Tryz.prog 194 [srcV Ar Az Al As c d b cs a,.string x] w (fun v O=>v = .bool ((ZaK x a.zones 0).isSome||(ZaN x a.links 0).isSome)/\O=[]):=by
 have j:=fun w' (f:Bel w.heap.size w w')=>Zgi Ar Az Al As c d b cs a x w' (g.up f) p
 have i:=fun w' (f:Bel w.heap.size w w')=>Zgk Ar Az Al As c d b cs a x w' (g.up f) e
 have b1:=ZoE (ZaK x a.zones 0)
 have b2:=ZoE (ZaN x a.links 0)
 generalize ZaK x a.zones 0=o1 at *
 generalize ZaN x a.links 0=o2 at *
 generalize ixN o1=n1 at *
 generalize ixN o2=n2 at *
 refine Zaa Tryz.func194 rfl rfl rfl rfl ?_
 generalize o1.isSome=z1 at *
 generalize o2.isSome=z2 at *
 cases z1 with
 | true =>
  repeat (first|refine und ?_|(apply RL_pu;rfl;exact Zzb)|(refine js ?_;(first|(refine Zab j ?_)|(refine Zab i ?_)|(refine bx ?_;intro m)))|refine walk1 ?_)
  exact rtA
 | false =>
  repeat (first|refine und ?_|(apply RL_pu;rfl;exact Zzb)|(refine js ?_;(first|(refine Zab j ?_)|(refine Zab i ?_)|(refine bx ?_;intro m)))|refine walk1 ?_)
  exact rtA
structure ZCo where
 k:Nat
 x:ByteArray
theorem Zgn (Ar Az Al As:Option Addr)(m q j cs:Nat)(a:DSource)(x:ByteArray)(w:World)(s:Zal w Ar Az Al As m q j cs a)(F:a.zones.length<=1000000)(B:a.links.length<=1000000) :
  Does Tryz.prog 53 [srcV Ar Az Al As m q j cs a,.string x] w (fun v O=>v = .tuple #[.int .i64 (Zez a (a.links.length+1) x).1,.int .i64 (Zez a (a.links.length+1) x).2]/\O=[]):=by
 obtain⟨R,t⟩:∃ R,Zez a (a.links.length+1) x=R:=⟨_,rfl⟩
 rw[t]
 have D:=fun x w' (C:Bel w.heap.size w w')=>Zgi Ar Az Al As m q j cs a x w' (s.up C) F
 have y:=fun x w' (C:Bel w.heap.size w w')=>Zgk Ar Az Al As m q j cs a x w' (s.up C) B
 refine Zaa Tryz.func53 rfl rfl rfl rfl ?_
 repeat (first|(refine js ?_;(refine bx ?_;intro d))|refine walk ?_)
 refine Zai [(2,.pointer (some ⟨d,0,none⟩))] [.blk d [.slice Ar a.rules.length m,.slice Az a.zones.length q,.slice Al a.links.length j,.slice As a.shifts.length cs] 27] (fun g:ZCo=>[(1,.string g.x),(6,.int .i64 g.k)]) (fun _=>[]) (fun g=>g.k<=a.links.length+1/\Zez a (a.links.length+1 - g.k) g.x=R) (fun g=>a.links.length+1 - g.k) ⟨0,x⟩ SFA SOA ⟨Nat.zero_le _,t⟩ ?_
 clear t
 rintro⟨k,x⟩ ⟨hk,hi⟩
 dsimp only at hk hi ⊢
 repeat (first|(refine js ?_;(refine bx ?_;intro d))|refine walk ?_)
 refine Zaf rfl (fun u=>?_) (fun u=>?_)
 ·simp only[decide_eq_true_eq,Int.ofNat_le]at u
  rw[show a.links.length+1 - k=(a.links.length - k)+1 by omega,Zez]at hi
  have e:=D x
  have f:=y x
  have A:=fun i=>ZiA x a.links 0 i
  cases h1:ZaK x a.zones 0 with
  | some i =>
   rw[h1]at hi e
   dsimp only at hi
   subst hi
   have r:decide ((0:Int)<=(i:Int))=true:=decide_eq_true (by omega)
   simp only[ixN]at e
   repeat (first|(apply RL_pu;rfl;(apply ZbG;rfl;rfl;exact r))|(refine js ?_;(first|(refine Zab e ?_)|(refine bx ?_;intro d)))|refine walk1 ?_)
   exact rtB
  | none =>
   rw[h1]at hi e
   dsimp only at hi
   simp only[ixN]at e
   cases h2:ZaN x a.links 0 with
   | none =>
    rw[h2]at hi f
    dsimp only at hi
    subst hi
    simp only[ixN]at f
    repeat (first|(refine js ?_;(first|(refine Zab e ?_)|(refine Zab f ?_)|(refine bx ?_;intro d)))|refine walk ?_)
    exact rtB
   | some i =>
    have E:=(A i h2).2
    rw[h2]at hi f
    dsimp only at hi
    simp only[ixN]at f
    have r:decide ((i:Int)<0)=false:=decide_eq_false (by omega)
    have c:i<a.links.length:=by omega
    obtain⟨hna,hca⟩:=s.l.rd i _ (List.getElem?_eq_getElem c)
    rw[List.getElem?_eq_getElem c,Option.map_some,Option.getD_some]at hi
    generalize a.links[i]=z at *
    repeat (first|(apply RL_pu;rfl;(first|exact PuI|(apply Zaw;rfl;rfl;exact r)))|(refine js ?_;(first|(refine Zab e ?_)|(refine Zab f ?_)|(refine bx ?_;intro d)))|refine walk1 ?_)
    exact⟨⟨k+1,z.target⟩,OA,⟨OA,by dsimp only;rw[show a.links.length+1 - (k+1)=a.links.length - k by omega];exact hi⟩,SFA,SOA⟩
 ·simp only[decide_eq_false_iff_not,Int.ofNat_le]at u
  rw[show a.links.length+1 - k=0 by omega,Zez]at hi
  subst hi
  repeat (first|(refine js ?_;(refine bx ?_;intro d))|refine walk ?_)
  exact rtB
end Go.Proofs.YtpipekfmecikmaaGreatDoor
