/- Parts of the proof. -/
import Derived.Test.YtpipekfmecikmaaGreatDoorW30
import Derived.Test.YtpipekfmecikmaaGreatDoorW35
import Derived.Test.YtpipekfmecikmaaGreatDoorW20
import Derived.Test.YtpipekfmecikmaaGreatDoorW22
set_option maxHeartbeats 4000000
set_option linter.unusedVariables false
set_option linter.unusedSimpArgs false
namespace Go.Proofs.YtpipekfmecikmaaGreatDoor
open Go Go.RowKit Go.Wk
attribute [local irreducible] W RL Does Zat Zaj retQ Calls Pu Stp RD Qy Ay Zak
def Zs2 (e:DEra)(R:List DRule):Int:=if Zdj e then 2 else Zd6 e R
theorem ZBn (a:Int)(S:List (Int × ByteArray))(c:S≠[]):(ZaW a 0=false\/(S.any fun x => !ZaW a x.1)=true)↔(S.any fun x => !inO a||!inO (a+x.1))=true:=by
 have b:ZaW a 0=inO a:=by unfold ZaW inO;rw[Int.add_zero]
 rw[b]
 cases h:inO a with
 | true=>simp[ZaW,inO]
 | false =>
  cases S with
  | nil=>exact absurd rfl c
  | cons x l=>simp
theorem Zn2 {rs:List DRule}{e:DEra}(h:¬ (e.kind=2/\ZaA rs e=[])):ZaB rs e≠[]:=by
 unfold ZaB
 split
 ·simp
 ·split
  ·rename_i a
   intro b
   exact h ⟨a,List.map_eq_nil_iff.1 b⟩
  ·simp
theorem ZnI {G:Prop}(h:G:=by(first|(apply Zaw;rfl;rfl;first|exact b1|exact s1)|(apply Zay;rfl;rfl;first|exact b2|exact s2)|(apply Zap;rfl;rfl;first|exact k0|exact r0))):G:=h
theorem ZgT {G G':Prop}(k:G')(h:Hold G'->G:=by intro k9;(first|refine und ?_|(apply RL_pu;rfl;exact ZnI)|(apply RD_Q;rfl;rfl;decide +kernel;rfl;rfl;exact QyRfT0)|refine walk1 ?_|(refine jg ?_;(try intro F);(refine stA ?_);first|refine⟨_,EndsA,QFRfT0,?_⟩|refine fin ?_)|(refine jn ?_;(try intro F);(first|(refine stA ?_)|(apply Zad;first|exact ZnI|exact PuA));first|refine⟨_,EndsA,QFRfT0,?_⟩|refine fin ?_));exact k9.out):G:=h ⟨k⟩
theorem Zy3 {G:Prop}(h:G:=by(first|exact ZnI|(apply Zap;rfl;rfl;exact hf2))):G:=h
theorem Zy2 {G:Prop}(h:G:=by(first|exact ZnI|(apply Zap;rfl;rfl;exact hq2))):G:=h
theorem Zy1 {G:Prop}(h:G:=by(apply Zap;rfl;rfl;first|exact r0|exact hq2)):G:=h
theorem ZqS {G:Prop}(h:G:=by(first|exact ZnI|(apply Zap;rfl;rfl;exact hq1))):G:=h
theorem ZnH {G:Prop}(h:G:=by(first|(apply ZaG;rfl;rfl;omega;omega;(intro w' _ hO;exact(Za2 (hO.of (A := .row (.slice A5 S.length c5) 155 2 S.length (S.flatMap Za1)) (by repeat' constructor)) hg1).1))|(apply ZeI;rfl;(focus repeat' constructor);exact hgx)|(apply Zb9;rfl;(focus repeat' constructor);exact hgx))):G:=h
theorem ZuE {G:Prop}(h:G:=by first|(apply Qy_y;rfl;exact ZnH)|exact QyA):G:=h
theorem ZqC {G:Prop}(h:G:=by repeat (first|exact QF.nil|(apply QF.mk;rfl;rfl;decide +kernel;exact ZuE))):G:=h
theorem Zy0 {G:Prop}(h:G:=by(first|(apply Zan;rfl;rfl;first|exact un1|exact un2|exact u1)|(apply Zcl;rfl;rfl;exact u4)|(apply ZqG (i:=(⟨false,year,month,⟨dk,dw,dd⟩,⟨us,ub⟩⟩:DUntil)) (j:=dU0) (enc:=DUntil.enc);rfl;rfl;exact u5))):G:=h
set_option maxHeartbeats 4000000 in
theorem Zl9 (Ar Az Al As:Option Addr)(N T M cs:Nat)(a:DSource)(e:DEra)(i:Nat)(w:World)(hA:Zal w Ar Az Al As N T M cs a)(hS:ZcX a)(hV:ZgJ a)(hE:Zjs e) :
  Does Tryz.prog 195 [srcV Ar Az Al As N T M cs a,.agg e.enc.toArray,.int .i64 i] w (fun v O=>v = .int .i64 (Zda a.rules e (decide (i=0)))/\O=[]):=by
 have hn:=hS.nr
 have s:=fun w' (f:Bel w.heap.size w w')=>ZdO Ar Az Al As N T M cs a e w' (hA.up f) hn
 have t:=fun w' (f:Bel w.heap.size w w')=>ZgY Ar Az Al As N T M cs a e w' (hA.up f) hn
 have hRs:∀ r∈ZaA a.rules e,r∈a.rules:=fun r h=>Zdv h
 have hRl:=Zeh a.rules e
 have hSl:=Zeg a.rules e
 have hSv:e.kind=2\/e.kind=0\/(e.kind=1/\¬ (e.save<1\/10800<e.save))->∀ x∈ZaB a.rules e,-4611686018427387904<=x.1/\x.1<=4611686018427387904:=by
  intro hk x hx
  unfold ZaB at hx
  split at hx
  ·simp only[List.mem_singleton]at hx;subst hx;dsimp only;omega
  ·split at hx
   ·obtain⟨r,h,rfl⟩:=List.mem_map.1 hx
    exact(hV r (Zdv h)).1
   ·simp only[List.mem_singleton]at hx;subst hx;dsimp only;omega
 have hfc:=fun A3 y w' (f:Bel w.heap.size w w') h=>Zom e A3 y (ZaA a.rules e) w' h hE.off hE.save (fun r hr=>hV.i64 r (hRs r hr)) (by omega) hE.fmt (fun r hr=>(hS.rs r (hRs r hr)).2)
 have hne := @Zn2 a.rules e
 unfold Zda
 have ho:=hE.off
 have W:=fun w'=>ZjJ e.off w'
 rw[show(if Zdj e then (2:Int) else Zd6 e (ZaA a.rules e))=Zs2 e (ZaA a.rules e) from rfl]
 rw[show Zs2 e (ZaA a.rules e)=Zs2 e (ZaA a.rules e) from rfl]
 have z:=ZBn e.off (ZaB a.rules e)
 have E:Zs2 e (ZaA a.rules e)=if Zdj e then 2 else Zd6 e (ZaA a.rules e):=rfl
 unfold Zdj at E
 generalize Zs2 e (ZaA a.rules e)=RE at *
 generalize Zd6 e (ZaA a.rules e)=fc at *
 generalize ZaA a.rules e=R at *
 generalize ZaB a.rules e=S at *
 obtain⟨off,kind,save,set,m,⟨u,year,month,⟨dk,dw,dd⟩,⟨us,ub⟩⟩⟩:=e
 dsimp only at s t hSv hfc hne ho W z E ⊢
 simp only[DEra.enc]at s t hfc ⊢
 clear hE hRs
 obtain⟨X,hfi⟩:∃ X,decide (i=0)=X:=⟨_,rfl⟩
 have k0:decide ((i:Int)=0)=X:=by rw[<- hfi,decide_eq_decide];omega
 rw[hfi]
 refine Zaa Tryz.func195 rfl rfl rfl rfl ?_
 by_cases c1:kind<0
 ·have b1:decide (kind<0)=true:=decide_eq_true c1
  rw[if_pos (.inl c1)]
  repeat (first|refine ZgT ?_|(refine jg ?_;(try intro F);(first|(apply Zae (h:=fun w' f _=>s w' f);rfl;rintro v O' ⟨A3,y,rfl,rfl⟩)|(apply Zae (h:=fun w' f _=>t w' f);rfl;rintro v O' ⟨A5,c5,rfl,rfl⟩)|(refine bx ?_;intro c));first|refine⟨_,EndsA,QFRfT0,?_⟩|refine fin ?_)|(refine jn ?_;(try intro F);(refine bx ?_;intro c);first|refine⟨_,EndsA,QFRfT0,?_⟩|refine fin ?_)|(apply RD_W;rfl;intro c))
  exact rtA
 have b1:decide (kind<0)=false:=decide_eq_false c1
 by_cases c2:2<kind
 ·have b2:decide (2<kind)=true:=decide_eq_true c2
  rw[if_pos (.inr c2)]
  repeat (first|refine ZgT ?_|(refine jg ?_;(try intro F);(first|(apply Zae (h:=fun w' f _=>s w' f);rfl;rintro v O' ⟨A3,y,rfl,rfl⟩)|(apply Zae (h:=fun w' f _=>t w' f);rfl;rintro v O' ⟨A5,c5,rfl,rfl⟩)|(refine bx ?_;intro c));first|refine⟨_,EndsA,QFRfT0,?_⟩|refine fin ?_)|(refine jn ?_;(try intro F);(refine bx ?_;intro c);first|refine⟨_,EndsA,QFRfT0,?_⟩|refine fin ?_)|(apply RD_W;rfl;intro c))
  exact rtA
 have b2:decide (2<kind)=false:=decide_eq_false c2
 rw[if_neg (by omega)]
 by_cases y:X=true/\kind=2
 ·rw[if_pos y]
  obtain⟨rfl,rfl⟩:=y
  repeat (first|refine ZgT ?_|(refine jg ?_;(try intro F);(first|(apply Zae (h:=fun w' f _=>s w' f);rfl;rintro v O' ⟨A3,y,rfl,rfl⟩)|(apply Zae (h:=fun w' f _=>t w' f);rfl;rintro v O' ⟨A5,c5,rfl,rfl⟩)|(refine bx ?_;intro c));first|refine⟨_,EndsA,QFRfT0,?_⟩|refine fin ?_)|(refine jn ?_;(try intro F);(refine bx ?_;intro c);first|refine⟨_,EndsA,QFRfT0,?_⟩|refine fin ?_)|(apply RD_W;rfl;intro c))
  exact rtA
 rw[if_neg y]
 by_cases c4:kind=2/\R=[]
 ·rw[if_pos c4]
  obtain⟨rfl,hR⟩:=c4
  have r0:decide ((R.length:Int)=0)=true:=by rw[hR];rfl
  have hfi2:X=false:=by cases X with|false=>rfl|true=>exact absurd ⟨rfl,rfl⟩ y
  subst hfi2
  repeat (first|refine ZgT ?_|(refine jg ?_;(try intro F);(first|(apply Zae (h:=fun w' f _=>s w' f);rfl;rintro v O' ⟨A3,y,rfl,rfl⟩)|(apply Zae (h:=fun w' f _=>t w' f);rfl;rintro v O' ⟨A5,c5,rfl,rfl⟩)|(refine bx ?_;intro c));first|refine⟨_,EndsA,QFRfT0,?_⟩|refine fin ?_)|(refine jn ?_;(try intro F);(refine bx ?_;intro c);first|refine⟨_,EndsA,QFRfT0,?_⟩|refine fin ?_)|(apply RD_W;rfl;intro c))
  exact rtA
 rw[if_neg c4]
 by_cases c5:kind=1/\(save<1\/10800<save)
 ·rw[if_pos c5]
  obtain⟨rfl,hs⟩:=c5
  by_cases d1:save<1
  ·have s1:decide (save<1)=true:=decide_eq_true d1
   cases X
   all_goals
    repeat (first|refine ZgT ?_|(refine jg ?_;(try intro F);(first|(apply Zae (h:=fun w' f _=>s w' f);rfl;rintro v O' ⟨A3,y,rfl,rfl⟩)|(apply Zae (h:=fun w' f _=>t w' f);rfl;rintro v O' ⟨A5,c5,rfl,rfl⟩)|(refine bx ?_;intro c));first|refine⟨_,EndsA,QFRfT0,?_⟩|refine fin ?_)|(refine jn ?_;(try intro F);(refine bx ?_;intro c);first|refine⟨_,EndsA,QFRfT0,?_⟩|refine fin ?_)|(apply RD_W;rfl;intro c))
    exact rtA
  ·have s1:decide (save<1)=false:=decide_eq_false d1
   have s2:decide (10800<save)=true:=decide_eq_true (by omega)
   cases X
   all_goals
    repeat (first|refine ZgT ?_|(refine jg ?_;(try intro F);(first|(apply Zae (h:=fun w' f _=>s w' f);rfl;rintro v O' ⟨A3,y,rfl,rfl⟩)|(apply Zae (h:=fun w' f _=>t w' f);rfl;rintro v O' ⟨A5,c5,rfl,rfl⟩)|(refine bx ?_;intro c));first|refine⟨_,EndsA,QFRfT0,?_⟩|refine fin ?_)|(refine jn ?_;(try intro F);(refine bx ?_;intro c);first|refine⟨_,EndsA,QFRfT0,?_⟩|refine fin ?_)|(apply RD_W;rfl;intro c))
    exact rtA
 rw[if_neg c5]
 replace hSv:=hSv (by omega)
 replace z:=z (hne c4)
 obtain⟨Q,hQ⟩:∃ Q,(S.any fun x => !inO off||!inO (off+x.1))=Q:=⟨_,rfl⟩
 rw[hQ]at z
 have L:(if ZaW off 0=false\/(S.any fun x => !ZaW off x.1)=true then (3:Int) else RE)=if Q then 3 else RE:=by
  by_cases h:Q=true
  ·rw[if_pos (z.2 h),if_pos h]
  ·rw[if_neg (fun h'=>h (z.1 h')),if_neg h]
 rw[L]
 clear L z hne
 obtain⟨v1,u1⟩:∃ v,(!decide (save=0))=v:=⟨_,rfl⟩
 obtain⟨v2,u4⟩:∃ v,(!decide (set=(⟨#[]⟩:ByteArray)))=v:=⟨_,rfl⟩
 obtain⟨v3,u5⟩:∃ v,(!decide ((⟨false,year,month,⟨dk,dw,dd⟩,⟨us,ub⟩⟩:DUntil)=dU0))=v:=⟨_,rfl⟩
 rw[show(!decide (set=ByteArray.empty))=v2 from u4]at E
 rw[u1,u5]at E
 have n3:∀ q,decide (kind=2)=q->q=true->X=false:=fun q h h'=>by
  cases X with
  | false=>rfl
  | true=>exact absurd ⟨rfl,of_decide_eq_true (h.trans h')⟩ y
 obtain⟨q2,hq2⟩:∃ q,decide (kind=2)=q:=⟨_,rfl⟩
 obtain⟨q1,hq1⟩:∃ q,decide (kind=1)=q:=⟨_,rfl⟩
 have r0:q2=true->decide ((R.length:Int)=0)=false:=fun h=>decide_eq_false (fun h'=>c4 ⟨of_decide_eq_true (hq2.trans h),List.eq_nil_of_length_eq_zero (by omega)⟩)
 have s1:q1=true->decide (save<1)=false:=fun h=>decide_eq_false (fun h'=>c5 ⟨of_decide_eq_true (hq1.trans h),.inl h'⟩)
 have s2:q1=true->decide (10800<save)=false:=fun h=>decide_eq_false (fun h'=>c5 ⟨of_decide_eq_true (hq1.trans h),.inr h'⟩)
 refine W_seq ?_
 refine Zb6 (fun fr' O'=>∃ H I:Nat,Sub [(2,.int .i64 i),(3,.pointer (some ⟨H,0,none⟩)),(4,.pointer (some ⟨I,0,none⟩))] fr'/\SubO [.blk I [.int .i64 off,.int .i64 kind,.int .i64 save,.string set,.string m,.bool u,.int .i64 year,.int .i64 month,.int .i64 dk,.int .i64 dw,.int .i64 dd,.int .i64 us,.int .i64 ub] 75,.blk H [.slice Ar a.rules.length N,.slice Az a.zones.length T,.slice Al a.links.length M,.slice As a.shifts.length cs] 27] O') ?_ ?_
 ·repeat (first|refine walk ?_|(refine jn ?_;(try intro F);(first|(refine bx ?_;intro c)|(refine stA ?_)|(apply Zad;exact PuA));refine fin ?_)|(apply RD_W;rfl;intro c))
  exact⟨rfl,_,_,SFA,SOA⟩
 rintro fr' O' ⟨H,I,D,hO⟩
 apply thenQ_n
 refine ZcV D hO ?_
 clear D hO fr' O'
 refine W_seq ?_
 refine Zb6 (fun fr' O'=>Sub [(2,.int .i64 i),(3,.pointer (some ⟨H,0,none⟩)),(4,.pointer (some ⟨I,0,none⟩))] fr'/\SubO [.blk I [.int .i64 off,.int .i64 kind,.int .i64 save,.string set,.string m,.bool u,.int .i64 year,.int .i64 month,.int .i64 dk,.int .i64 dw,.int .i64 dd,.int .i64 us,.int .i64 ub] 75,.blk H [.slice Ar a.rules.length N,.slice Az a.zones.length T,.slice Al a.links.length M,.slice As a.shifts.length cs] 27] O') ?_ ?_
 ·repeat (first|refine ZgT ?_|(refine jg ?_;(try intro F);(first|(apply Zae (h:=fun w' f _=>s w' f);rfl;rintro v O' ⟨A3,y,rfl,rfl⟩)|(apply Zae (h:=fun w' f _=>t w' f);rfl;rintro v O' ⟨A5,c5,rfl,rfl⟩)|(refine bx ?_;intro c));first|refine⟨_,EndsA,QFRfT0,?_⟩|refine fin ?_)|(refine jn ?_;(try intro F);(refine bx ?_;intro c);first|refine⟨_,EndsA,QFRfT0,?_⟩|refine fin ?_)|(apply RD_W;rfl;intro c))
  exact⟨rfl,SFA,SOA⟩
 rintro fr' O' ⟨D,hO⟩
 apply thenQ_n
 refine ZcV D hO ?_
 clear D hO fr' O'
 refine W_seq ?_
 refine Zb6 (fun fr' O'=>Sub [(2,.int .i64 i),(3,.pointer (some ⟨H,0,none⟩)),(4,.pointer (some ⟨I,0,none⟩))] fr'/\SubO [.blk I [.int .i64 off,.int .i64 kind,.int .i64 save,.string set,.string m,.bool u,.int .i64 year,.int .i64 month,.int .i64 dk,.int .i64 dw,.int .i64 dd,.int .i64 us,.int .i64 ub] 75,.blk H [.slice Ar a.rules.length N,.slice Az a.zones.length T,.slice Al a.links.length M,.slice As a.shifts.length cs] 27] O') ?_ ?_
 ·cases X with
  | false =>
   repeat (first|refine ZgT ?_|(refine jg ?_;(try intro F);(first|(apply Zae (h:=fun w' f _=>s w' f);rfl;rintro v O' ⟨A3,y,rfl,rfl⟩)|(apply Zae (h:=fun w' f _=>t w' f);rfl;rintro v O' ⟨A5,c5,rfl,rfl⟩)|(refine bx ?_;intro c));first|refine⟨_,EndsA,QFRfT0,?_⟩|refine fin ?_)|(refine jn ?_;(try intro F);(refine bx ?_;intro c);first|refine⟨_,EndsA,QFRfT0,?_⟩|refine fin ?_)|(apply RD_W;rfl;intro c))
   exact⟨rfl,SFA,SOA⟩
  | true =>
   have hf2:decide (kind=2)=false:=by
    cases h:decide (kind=2)
    ·rfl
    ·have:=n3 _ rfl h;cases this
   repeat (first|refine und ?_|(apply RL_pu;rfl;exact Zy3)|(apply RD_Q;rfl;rfl;decide +kernel;rfl;rfl;exact QyRfT1)|refine walk1 ?_|(refine jg ?_;(try intro F);(first|(apply Zae (h:=fun w' f _=>s w' f);rfl;rintro v O' ⟨A3,y,rfl,rfl⟩)|(apply Zae (h:=fun w' f _=>t w' f);rfl;rintro v O' ⟨A5,c5,rfl,rfl⟩)|(refine bx ?_;intro c)|(refine stA ?_));first|refine⟨_,EndsA,QFRfT1,?_⟩|refine fin ?_)|(refine jn ?_;(try intro F);(first|(refine bx ?_;intro c)|(refine stA ?_)|(apply Zad;first|exact Zy3|exact PuA));first|refine⟨_,EndsA,QFRfT1,?_⟩|refine fin ?_)|(apply RD_W;rfl;intro c))
   exact⟨rfl,SFA,SOA⟩
 rintro fr' O' ⟨D,hO⟩
 apply thenQ_n
 refine ZcV D hO ?_
 clear D hO fr' O'
 refine W_seq ?_
 refine Zb6 (fun fr' O'=>Sub [(2,.int .i64 i),(3,.pointer (some ⟨H,0,none⟩)),(4,.pointer (some ⟨I,0,none⟩))] fr'/\SubO [.blk I [.int .i64 off,.int .i64 kind,.int .i64 save,.string set,.string m,.bool u,.int .i64 year,.int .i64 month,.int .i64 dk,.int .i64 dw,.int .i64 dd,.int .i64 us,.int .i64 ub] 75,.blk H [.slice Ar a.rules.length N,.slice Az a.zones.length T,.slice Al a.links.length M,.slice As a.shifts.length cs] 27] O') ?_ ?_
 ·cases q2 with
  | false =>
   repeat (first|refine und ?_|(apply RL_pu;rfl;exact Zy2)|(apply RD_Q;rfl;rfl;decide +kernel;rfl;rfl;exact QyRfT2)|refine walk1 ?_|(refine jg ?_;(try intro F);(first|(apply Zae (h:=fun w' f _=>s w' f);rfl;rintro v O' ⟨A3,y,rfl,rfl⟩)|(apply Zae (h:=fun w' f _=>t w' f);rfl;rintro v O' ⟨A5,c5,rfl,rfl⟩)|(refine bx ?_;intro c)|(refine stA ?_));first|refine⟨_,EndsA,QFRfT2,?_⟩|refine fin ?_)|(refine jn ?_;(try intro F);(first|(refine bx ?_;intro c)|(refine stA ?_)|(apply Zad;first|exact Zy2|exact PuA));first|refine⟨_,EndsA,QFRfT2,?_⟩|refine fin ?_)|(apply RD_W;rfl;intro c))
   exact⟨rfl,SFA,SOA⟩
  | true =>
   replace r0:=r0 rfl
   repeat (first|refine und ?_|(apply RL_pu;rfl;exact Zy1)|(apply RD_Q;rfl;rfl;decide +kernel;rfl;rfl;exact QyRfT3)|refine walk1 ?_|(refine jg ?_;(try intro F);(first|(apply Zae (h:=fun w' f _=>s w' f);rfl;rintro v O' ⟨A3,y,rfl,rfl⟩)|(refine bx ?_;intro c)|(refine stA ?_));first|refine⟨_,EndsA,QFRfT3,?_⟩|refine fin ?_)|(refine jn ?_;(try intro F);(first|(refine bx ?_;intro c)|(refine stA ?_)|(apply Zad;first|exact Zy1|exact PuA));first|refine⟨_,EndsA,QFRfT3,?_⟩|refine fin ?_)|(apply RD_W;rfl;intro c))
   exact⟨rfl,SFA,SOA⟩
 rintro fr' O' ⟨D,hO⟩
 apply thenQ_n
 refine ZcV D hO ?_
 clear D hO fr' O'
 refine W_seq ?_
 refine Zb6 (fun fr' O'=>Sub [(2,.int .i64 i),(3,.pointer (some ⟨H,0,none⟩)),(4,.pointer (some ⟨I,0,none⟩))] fr'/\SubO [.blk I [.int .i64 off,.int .i64 kind,.int .i64 save,.string set,.string m,.bool u,.int .i64 year,.int .i64 month,.int .i64 dk,.int .i64 dw,.int .i64 dd,.int .i64 us,.int .i64 ub] 75,.blk H [.slice Ar a.rules.length N,.slice Az a.zones.length T,.slice Al a.links.length M,.slice As a.shifts.length cs] 27] O') ?_ ?_
 ·cases q1 with
  | false =>
   repeat (first|refine und ?_|(apply RL_pu;rfl;exact ZqS)|(apply RD_Q;rfl;rfl;decide +kernel;rfl;rfl;exact QyRfT4)|refine walk1 ?_|(refine jg ?_;(try intro F);(first|(apply Zae (h:=fun w' f _=>s w' f);rfl;rintro v O' ⟨A3,y,rfl,rfl⟩)|(apply Zae (h:=fun w' f _=>t w' f);rfl;rintro v O' ⟨A5,c5,rfl,rfl⟩)|(refine bx ?_;intro c)|(refine stA ?_));first|refine⟨_,EndsA,QFRfT4,?_⟩|refine fin ?_)|(refine jn ?_;(try intro F);(first|(refine bx ?_;intro c)|(refine stA ?_)|(apply Zad;first|exact ZqS|exact PuA));first|refine⟨_,EndsA,QFRfT4,?_⟩|refine fin ?_)|(apply RD_W;rfl;intro c))
   exact⟨rfl,SFA,SOA⟩
  | true =>
   replace s1:=s1 rfl
   replace s2:=s2 rfl
   repeat (first|refine und ?_|(apply RL_pu;rfl;exact ZqS)|(apply RD_Q;rfl;rfl;decide +kernel;rfl;rfl;exact QyRfT4)|refine walk1 ?_|(refine jg ?_;(try intro F);(first|(apply Zae (h:=fun w' f _=>s w' f);rfl;rintro v O' ⟨A3,y,rfl,rfl⟩)|(apply Zae (h:=fun w' f _=>t w' f);rfl;rintro v O' ⟨A5,c5,rfl,rfl⟩)|(refine bx ?_;intro c)|(refine stA ?_));first|refine⟨_,EndsA,QFRfT4,?_⟩|refine fin ?_)|(refine jn ?_;(try intro F);(first|(refine bx ?_;intro c)|(refine stA ?_)|(apply Zad;first|exact ZqS|exact PuA));first|refine⟨_,EndsA,QFRfT4,?_⟩|refine fin ?_)|(apply RD_W;rfl;intro c))
   exact⟨rfl,SFA,SOA⟩
 rintro fr' O' ⟨D,hO⟩
 apply thenQ_n
 refine ZcV D hO ?_
 clear D hO fr' O'
 repeat (first|refine walk ?_|(refine jg ?_;(try intro F);(first|(apply Zae (h:=fun w' f _=>t w' f);rfl;rintro v O' ⟨A5,c5,rfl,rfl⟩)|(refine bx ?_;intro c)|(refine stA ?_));refine fin ?_)|(refine jn ?_;(try intro F);(first|(refine bx ?_;intro c)|(refine stA ?_)|(apply Zad;exact PuA));refine fin ?_)|(apply RD_W;rfl;intro c))
 refine Zai [(3,.pointer (some ⟨H,0,none⟩)),(4,.pointer (some ⟨I,0,none⟩)),(7,.slice A5 S.length c5)] [.row (.slice A5 S.length c5) 155 2 S.length (S.flatMap Za1),.blk I [.int .i64 off,.int .i64 kind,.int .i64 save,.string set,.string m,.bool u,.int .i64 year,.int .i64 month,.int .i64 dk,.int .i64 dw,.int .i64 dd,.int .i64 us,.int .i64 ub] 75,.blk H [.slice Ar a.rules.length N,.slice Az a.zones.length T,.slice Al a.links.length M,.slice As a.shifts.length cs] 27]
  (fun j:Nat=>[(8,.int .i64 j)]) (fun _=>[]) (fun j=>j<=S.length/\((S.drop j).any fun x => !inO off||!inO (off+x.1))=Q) (fun j=>S.length - j) 0 SFA SOA ⟨Nat.zero_le _,hQ⟩ ?_
 clear hQ
 rintro j ⟨hj,Z⟩
 repeat (first|refine walk ?_|(refine jn ?_;(try intro F);(first|(refine bx ?_;intro c)|(refine stA ?_)|(apply Zad;exact PuA));refine fin ?_)|(apply RD_W;rfl;intro c))
 refine Zaf rfl (fun hc=>?_) (fun hc=>?_)
 ·simp only[decide_eq_true_eq,Int.ofNat_lt]at hc
  have hg1:=ZaC Za1.len S j _ 0 _ (List.getElem?_eq_getElem hc) rfl
  have hgx:=ZaC Za1.len S j _ 0 _ (List.getElem?_eq_getElem hc) (show(Za1 S[j])[0]?=some (.int .i64 S[j].1) from rfl)
  have hxb:=hSv _ (List.getElem_mem hc)
  rw[Zah hc,List.any_cons]at Z
  generalize S[j]=x at *
  have Y:=fun w'=>ZjJ (off+x.1) w'
  cases hz1:inO off with
  | false =>
   rw[hz1]at Z W
   obtain rfl:true=Q:=by simpa using Z
   repeat (first|refine und ?_|refine walk ?_|(refine jg ?_;(try intro F);(first|(refine Zab (fun w' _=>W w') ?_)|(refine Zab (fun w' _=>Y w') ?_)|(refine bx ?_;intro c)|(refine stA ?_));refine fin ?_)|(refine jn ?_;(try intro F);(first|(refine bx ?_;intro c)|(refine stA ?_)|(apply Zad;exact PuA));refine fin ?_)|(apply RD_W;rfl;intro c))
   exact rtA
  | true =>
   rw[hz1]at Z W
   have hob : -54000<=off/\off<=54000:=by unfold inO at hz1;simpa using hz1
   cases hz2:inO (off+x.1) with
   | false =>
    rw[hz2]at Z Y
    obtain rfl:true=Q:=by simpa using Z
    repeat (first|refine und ?_|(apply RL_pu;rfl;exact ZnH)|(apply RD_Q;rfl;rfl;decide +kernel;rfl;rfl;exact ZuE)|refine walk1 ?_|(refine jg ?_;(try intro F);(first|(refine Zab (fun w' _=>W w') ?_)|(refine Zab (fun w' _=>Y w') ?_)|(refine bx ?_;intro c)|(refine stA ?_));first|refine⟨_,EndsA,ZqC,?_⟩|refine fin ?_)|(refine jn ?_;(try intro F);(first|(refine bx ?_;intro c)|(refine stA ?_)|(apply Zad;first|exact ZnH|exact PuA));first|refine⟨_,EndsA,ZqC,?_⟩|refine fin ?_)|(apply RD_W;rfl;intro c))
    exact rtA
   | true =>
    rw[hz2]at Z Y
    repeat (first|refine und ?_|(apply RL_pu;rfl;exact ZnH)|(apply RD_Q;rfl;rfl;decide +kernel;rfl;rfl;exact ZuE)|refine walk1 ?_|(refine jg ?_;(try intro F);(first|(refine Zab (fun w' _=>W w') ?_)|(refine Zab (fun w' _=>Y w') ?_)|(refine bx ?_;intro c)|(refine stA ?_));first|refine⟨_,EndsA,ZqC,?_⟩|refine fin ?_)|(refine jn ?_;(try intro F);(first|(refine bx ?_;intro c)|(refine stA ?_)|(apply Zad;first|exact ZnH|exact PuA));first|refine⟨_,EndsA,ZqC,?_⟩|refine fin ?_)|(apply RD_W;rfl;intro c))
    exact⟨j+1,OA,⟨OA,by simpa using Z⟩,SFA,SOA⟩
 ·simp only[decide_eq_false_iff_not,Int.ofNat_lt]at hc
  rw[List.drop_eq_nil_of_le (by omega),List.any_nil]at Z
  subst Z
  rw[if_neg (by decide),E]
  obtain⟨J,un1⟩:∃ v,(!decide (kind=1))=v:=⟨_,rfl⟩
  obtain⟨K,un2⟩:∃ v,(!decide (kind=2))=v:=⟨_,rfl⟩
  rw[un1,un2]
  obtain⟨U,hU⟩:∃ U,(J&&v1||K&&v2||!u&&v3)=U:=⟨_,rfl⟩
  rw[hU]
  apply W_exit
  repeat (first|apply thenQ_e|apply blockQ_hit|(apply blockQ_miss;rfl))
  apply thenQ_n
  refine W_seq ?_
  refine Zb6 (fun fr' O'=>∃ b9:Nat,Sub [(3,.pointer (some ⟨H,0,none⟩)),(4,.pointer (some ⟨I,0,none⟩)),(9,.pointer (some ⟨b9,0,none⟩))] fr'/\SubO [.blk b9 [.bool u,.int .i64 year,.int .i64 month,.int .i64 dk,.int .i64 dw,.int .i64 dd,.int .i64 us,.int .i64 ub] 73,.blk I [.int .i64 off,.int .i64 kind,.int .i64 save,.string set,.string m,.bool u,.int .i64 year,.int .i64 month,.int .i64 dk,.int .i64 dw,.int .i64 dd,.int .i64 us,.int .i64 ub] 75,.blk H [.slice Ar a.rules.length N,.slice Az a.zones.length T,.slice Al a.links.length M,.slice As a.shifts.length cs] 27] O') ?_ ?_
  ·repeat (first|refine walk ?_|(refine jn ?_;(try intro F);(first|(refine bx ?_;intro c)|(refine stA ?_)|(apply Zad;exact PuA));refine fin ?_)|(apply RD_W;rfl;intro c))
   exact⟨rfl,_,SFA,SOA⟩
  rintro fr' O' ⟨b9,D,hO⟩
  apply thenQ_n
  refine ZcV D hO ?_
  clear D hO fr' O'
  refine W_seq ?_
  refine Zb6 (fun fr' O'=>Sub [(3,.pointer (some ⟨H,0,none⟩)),(4,.pointer (some ⟨I,0,none⟩)),(9,.pointer (some ⟨b9,0,none⟩))] fr'/\SubO [.blk b9 [.bool false,.int .i64 year,.int .i64 month,.int .i64 dk,.int .i64 dw,.int .i64 dd,.int .i64 us,.int .i64 ub] 73,.blk I [.int .i64 off,.int .i64 kind,.int .i64 save,.string set,.string m,.bool u,.int .i64 year,.int .i64 month,.int .i64 dk,.int .i64 dw,.int .i64 dd,.int .i64 us,.int .i64 ub] 75,.blk H [.slice Ar a.rules.length N,.slice Az a.zones.length T,.slice Al a.links.length M,.slice As a.shifts.length cs] 27] O') ?_ ?_
  ·repeat (first|refine walk ?_|(refine jn ?_;(try intro F);(first|(refine bx ?_;intro c)|(refine stA ?_)|(apply Zad;exact PuA));refine fin ?_)|(apply RD_W;rfl;intro c))
   exact⟨rfl,SFA,SOA⟩
  rintro fr' O' ⟨D,hO⟩
  apply thenQ_n
  refine ZcV D hO ?_
  clear D hO fr' O'
  refine W_seq ?_
  refine W_seq ?_
  refine Zb6 (fun fr' O'=>Sub [(3,.pointer (some ⟨H,0,none⟩)),(4,.pointer (some ⟨I,0,none⟩)),(104,.bool U)] fr'/\SubO [.blk I [.int .i64 off,.int .i64 kind,.int .i64 save,.string set,.string m,.bool u,.int .i64 year,.int .i64 month,.int .i64 dk,.int .i64 dw,.int .i64 dd,.int .i64 us,.int .i64 ub] 75,.blk H [.slice Ar a.rules.length N,.slice Az a.zones.length T,.slice Al a.links.length M,.slice As a.shifts.length cs] 27] O') ?_ ?_
  ·have hd:(true=U/\J=true/\v1=true)\/(true=U/\J=false/\K=true/\v2=true)\/(true=U/\J=true/\v1=false/\K=true/\v2=true)\/(true=U/\J=false/\K=false/\u=false/\v3=true)\/(true=U/\J=false/\K=true/\v2=false/\u=false/\v3=true)\/(true=U/\J=true/\v1=false/\K=false/\u=false/\v3=true)\/(true=U/\J=true/\v1=false/\K=true/\v2=false/\u=false/\v3=true)\/(false=U/\J=false/\K=false/\u=true)\/(false=U/\J=false/\K=false/\u=false/\v3=false)\/(false=U/\J=false/\K=true/\v2=false/\u=true)\/(false=U/\J=false/\K=true/\v2=false/\u=false/\v3=false)\/(false=U/\J=true/\v1=false/\K=false/\u=true)\/(false=U/\J=true/\v1=false/\K=false/\u=false/\v3=false)\/(false=U/\J=true/\v1=false/\K=true/\v2=false/\u=true)\/(false=U/\J=true/\v1=false/\K=true/\v2=false/\u=false/\v3=false):=by
    revert hU
    cases J <;> cases v1 <;> cases K <;> cases v2 <;> cases u <;> cases v3 <;> simp
   clear hU hfc
   rcases hd with⟨rfl,rfl,rfl⟩|⟨rfl,rfl,rfl,rfl⟩|⟨rfl,rfl,rfl,rfl,rfl⟩|⟨rfl,rfl,rfl,rfl,rfl⟩|⟨rfl,rfl,rfl,rfl,rfl,rfl⟩|⟨rfl,rfl,rfl,rfl,rfl,rfl⟩|⟨rfl,rfl,rfl,rfl,rfl,rfl,rfl⟩|⟨rfl,rfl,rfl,rfl⟩|⟨rfl,rfl,rfl,rfl,rfl⟩|⟨rfl,rfl,rfl,rfl,rfl⟩|⟨rfl,rfl,rfl,rfl,rfl,rfl⟩|⟨rfl,rfl,rfl,rfl,rfl⟩|⟨rfl,rfl,rfl,rfl,rfl,rfl⟩|⟨rfl,rfl,rfl,rfl,rfl,rfl⟩|⟨rfl,rfl,rfl,rfl,rfl,rfl,rfl⟩
   all_goals
    repeat (first|refine und ?_|(apply RL_pu;rfl;exact Zy0)|(apply RD_Q;rfl;rfl;decide +kernel;rfl;rfl;exact QyRfT6)|refine walk1 ?_|(refine jn ?_;(try intro F);(first|(refine bx ?_;intro c)|(refine stA ?_)|(apply Zad;first|exact Zy0|exact PuA));first|refine⟨_,EndsA,QFRfT6,?_⟩|refine fin ?_)|(apply RD_W;rfl;intro c))
    exact⟨rfl,SFA,SOA⟩
  rintro fr' O' ⟨D,hO⟩
  apply thenQ_n
  refine ZcV D hO ?_
  clear D hO fr' O' hU
  cases U with
  | true =>
   rw[if_pos rfl]
   repeat (first|refine walk ?_|(refine jn ?_;(try intro F);(first|(refine bx ?_;intro c)|(refine stA ?_)|(apply Zad;exact PuA));refine fin ?_)|(apply RD_W;rfl;intro c))
   exact rtA
  | false =>
   rw[if_neg (by decide)]
   repeat (first|refine walk ?_|(refine jg ?_;(try intro F);(first|(apply Zae (h:=fun w' f _=>s w' f);rfl;rintro v O' ⟨A3,y,rfl,rfl⟩)|(refine ZaH (fun w' f hO=>hfc A3 y w' f (ZaP DRule.len (hO.of (A := .row (.slice A3 R.length y) 68 11 R.length (R.flatMap DRule.enc)) (by repeat' constructor)))) ?_)|(refine bx ?_;intro c)|(refine stA ?_));refine fin ?_)|(refine jn ?_;(try intro F);(first|(refine bx ?_;intro c)|(refine stA ?_)|(apply Zad;exact PuA));refine fin ?_)|(apply RD_W;rfl;intro c))
   exact rtA
end Go.Proofs.YtpipekfmecikmaaGreatDoor
