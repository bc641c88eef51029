/- Parts of the proof. -/
import Derived.Test.YtpipekfmecikmaaGreatDoorV26
import Derived.Test.YtpipekfmecikmaaGreatDoorV31
import Derived.Test.YtpipekfmecikmaaGreatDoorV18
import Derived.Test.YtpipekfmecikmaaGreatDoorV20
set_option maxHeartbeats 4000000
set_option linter.unusedVariables false
set_option linter.unusedSimpArgs false
namespace Go.Proofs.YtpipekfmecikmaaGreatDoor
open Go Go.RowKit Go.Wk
attribute [local irreducible] W RL Does Zat Zaj retQ Calls Pu Stp RD Qy Ay Zak
def ZrG (e:DEra)(R:List DRule):Int:=if Zc2 e then 2 else Zek e R
theorem ZzG (off:Int)(S:List (Int × ByteArray))(hS:S≠[]):(Za0 off 0=false\/(S.any fun x => !Za0 off x.1)=true)↔(S.any fun x => !inO off||!inO (off+x.1))=true:=by
 have h0:Za0 off 0=inO off:=by unfold Za0 inO;rw[Int.add_zero]
 rw[h0]
 cases h:inO off with
 | true=>simp[Za0,inO]
 | false =>
  cases S with
  | nil=>exact absurd rfl hS
  | cons x l=>simp
theorem ZmY {rs:List DRule}{e:DEra}(h:¬ (e.kind=2/\ZaE rs e=[])):ZaG rs e≠[]:=by
 unfold ZaG
 split
 ·simp
 ·split
  ·rename_i hk
   intro hm
   exact h ⟨hk,List.map_eq_nil_iff.1 hm⟩
  ·simp
theorem ZmE {G:Prop}(h:G:=by(first|(apply Zaz;rfl;rfl;first|exact b1|exact s1)|(apply Zaw;rfl;rfl;first|exact b2|exact s2)|(apply Zan;rfl;rfl;first|exact k0|exact r0))):G:=h
theorem Zgt {G G':Prop}(k:G')(h:Hold G'->G:=by intro k9;(first|refine und ?_|(apply RL_pu;rfl;exact ZmE)|(apply RD_Q;rfl;rfl;decide +kernel;rfl;rfl;exact QyRfT0)|refine walk1 ?_|(refine jg ?_;(try intro F);(refine stA ?_);first|refine⟨_,EndsA,QFRfT0,?_⟩|refine fin ?_)|(refine jn ?_;(try intro F);(first|(refine stA ?_)|(apply Zac;first|exact ZmE|exact PuA));first|refine⟨_,EndsA,QFRfT0,?_⟩|refine fin ?_));exact k9.out):G:=h ⟨k⟩
theorem Zxp {G:Prop}(h:G:=by(first|exact ZmE|(apply Zan;rfl;rfl;exact hf2))):G:=h
theorem Zxo {G:Prop}(h:G:=by(first|exact ZmE|(apply Zan;rfl;rfl;exact hq2))):G:=h
theorem Zxn {G:Prop}(h:G:=by(apply Zan;rfl;rfl;first|exact r0|exact hq2)):G:=h
theorem ZpO {G:Prop}(h:G:=by(first|exact ZmE|(apply Zan;rfl;rfl;exact hq1))):G:=h
theorem ZmD {G:Prop}(h:G:=by(first|(apply Zap;rfl;rfl;omega;omega;(intro w' _ hO;exact(ZaD (hO.of (A := .row (.slice A5 S.length c5) 155 2 S.length (S.flatMap Za4)) (by repeat' constructor)) hg1).1))|(apply Zbt;rfl;(focus repeat' constructor);exact hgx)|(apply ZbW;rfl;(focus repeat' constructor);exact hgx))):G:=h
theorem Zte {G:Prop}(h:G:=by first|(apply Qy_y;rfl;exact ZmD)|exact QyA):G:=h
theorem Zpy {G:Prop}(h:G:=by repeat (first|exact QF.nil|(apply QF.mk;rfl;rfl;decide +kernel;exact Zte))):G:=h
theorem Zxm {G:Prop}(h:G:=by(first|(apply Zal;rfl;rfl;first|exact un1|exact un2|exact u1)|(apply Zcc;rfl;rfl;exact u4)|(apply ZpD (i:=(⟨false,year,month,⟨dk,dw,dd⟩,⟨us,ub⟩⟩:DUntil)) (j:=dU0) (enc:=DUntil.enc);rfl;rfl;exact u5))):G:=h
set_option maxHeartbeats 4000000 in
theorem Zlk (Ar Az Al As:Option Addr)(cr cz cl cs:Nat)(a:DSource)(e:DEra)(i:Nat)(w:World)(hA:Zar w Ar Az Al As cr cz cl cs a)(hS:ZcK a)(hV:Zgl a)(hE:ZiQ e) :
  Does Tryz.prog 195 [srcV Ar Az Al As cr cz cl cs a,.agg e.enc.toArray,.int .i64 i] w (fun v O=>v = .int .i64 (ZcZ a.rules e (decide (i=0)))/\O=[]):=by
 have hn:=hS.nr
 have hst:=fun w' (hw:Bel w.heap.size w w')=>Zdz Ar Az Al As cr cz cl cs a e w' (hA.up hw) hn
 have hss:=fun w' (hw:Bel w.heap.size w w')=>Zgx Ar Az Al As cr cz cl cs a e w' (hA.up hw) hn
 have hRs:∀ r∈ZaE a.rules e,r∈a.rules:=fun r h=>Zdb h
 have hRl:=Zd7 a.rules e
 have hSl:=Zd6 a.rules e
 have hSv:e.kind=2\/e.kind=0\/(e.kind=1/\¬ (e.save<1\/10800<e.save))->∀ x∈ZaG a.rules e,-4611686018427387904<=x.1/\x.1<=4611686018427387904:=by
  intro hk x hx
  unfold ZaG at hx
  split at hx
  ·simp only[List.mem_singleton]at hx;subst hx;dsimp only;omega
  ·split at hx
   ·obtain⟨r,h,rfl⟩:=List.mem_map.1 hx
    exact(hV r (Zdb h)).1
   ·simp only[List.mem_singleton]at hx;subst hx;dsimp only;omega
 have hfc:=fun A3 c3 w' (hw:Bel w.heap.size w w') h=>Znl e A3 c3 (ZaE a.rules e) w' h hE.off hE.save (fun r hr=>hV.i64 r (hRs r hr)) (by omega) hE.fmt (fun r hr=>(hS.rs r (hRs r hr)).2)
 have hne := @ZmY a.rules e
 unfold ZcZ
 have ho:=hE.off
 have hin:=fun w'=>Zi5 e.off w'
 rw[show(if Zc2 e then (2:Int) else Zek e (ZaE a.rules e))=ZrG e (ZaE a.rules e) from rfl]
 rw[show ZrG e (ZaE a.rules e)=ZrG e (ZaE a.rules e) from rfl]
 have hany:=ZzG e.off (ZaG a.rules e)
 have hrest:ZrG e (ZaE a.rules e)=if Zc2 e then 2 else Zek e (ZaE a.rules e):=rfl
 unfold Zc2 at hrest
 generalize ZrG e (ZaE a.rules e)=RE at *
 generalize Zek e (ZaE a.rules e)=fc at *
 generalize ZaE a.rules e=R at *
 generalize ZaG a.rules e=S at *
 obtain⟨off,kind,save,set,format,⟨is,year,month,⟨dk,dw,dd⟩,⟨us,ub⟩⟩⟩:=e
 dsimp only at hst hss hSv hfc hne ho hin hany hrest ⊢
 simp only[DEra.enc]at hst hss hfc ⊢
 clear hE hRs
 obtain⟨fi,hfi⟩:∃ fi,decide (i=0)=fi:=⟨_,rfl⟩
 have k0:decide ((i:Int)=0)=fi:=by rw[<- hfi,decide_eq_decide];omega
 rw[hfi]
 refine Zaa Tryz.func195 rfl rfl rfl rfl ?_
 by_cases c1:kind<0
 ·have b1:decide (kind<0)=true:=decide_eq_true c1
  rw[if_pos (.inl c1)]
  repeat (first|refine Zgt ?_|(refine jg ?_;(try intro F);(first|(apply Zae (h:=fun w' hw _=>hst w' hw);rfl;rintro v O' ⟨A3,c3,rfl,rfl⟩)|(apply Zae (h:=fun w' hw _=>hss w' hw);rfl;rintro v O' ⟨A5,c5,rfl,rfl⟩)|(refine bx ?_;intro bk));first|refine⟨_,EndsA,QFRfT0,?_⟩|refine fin ?_)|(refine jn ?_;(try intro F);(refine bx ?_;intro bk);first|refine⟨_,EndsA,QFRfT0,?_⟩|refine fin ?_)|(apply RD_W;rfl;intro bk))
  exact rtA
 have b1:decide (kind<0)=false:=decide_eq_false c1
 by_cases c2:2<kind
 ·have b2:decide (2<kind)=true:=decide_eq_true c2
  rw[if_pos (.inr c2)]
  repeat (first|refine Zgt ?_|(refine jg ?_;(try intro F);(first|(apply Zae (h:=fun w' hw _=>hst w' hw);rfl;rintro v O' ⟨A3,c3,rfl,rfl⟩)|(apply Zae (h:=fun w' hw _=>hss w' hw);rfl;rintro v O' ⟨A5,c5,rfl,rfl⟩)|(refine bx ?_;intro bk));first|refine⟨_,EndsA,QFRfT0,?_⟩|refine fin ?_)|(refine jn ?_;(try intro F);(refine bx ?_;intro bk);first|refine⟨_,EndsA,QFRfT0,?_⟩|refine fin ?_)|(apply RD_W;rfl;intro bk))
  exact rtA
 have b2:decide (2<kind)=false:=decide_eq_false c2
 rw[if_neg (by omega)]
 by_cases c3:fi=true/\kind=2
 ·rw[if_pos c3]
  obtain⟨rfl,rfl⟩:=c3
  repeat (first|refine Zgt ?_|(refine jg ?_;(try intro F);(first|(apply Zae (h:=fun w' hw _=>hst w' hw);rfl;rintro v O' ⟨A3,c3,rfl,rfl⟩)|(apply Zae (h:=fun w' hw _=>hss w' hw);rfl;rintro v O' ⟨A5,c5,rfl,rfl⟩)|(refine bx ?_;intro bk));first|refine⟨_,EndsA,QFRfT0,?_⟩|refine fin ?_)|(refine jn ?_;(try intro F);(refine bx ?_;intro bk);first|refine⟨_,EndsA,QFRfT0,?_⟩|refine fin ?_)|(apply RD_W;rfl;intro bk))
  exact rtA
 rw[if_neg c3]
 by_cases c4:kind=2/\R=[]
 ·rw[if_pos c4]
  obtain⟨rfl,hR⟩:=c4
  have r0:decide ((R.length:Int)=0)=true:=by rw[hR];rfl
  have hfi2:fi=false:=by cases fi with|false=>rfl|true=>exact absurd ⟨rfl,rfl⟩ c3
  subst hfi2
  repeat (first|refine Zgt ?_|(refine jg ?_;(try intro F);(first|(apply Zae (h:=fun w' hw _=>hst w' hw);rfl;rintro v O' ⟨A3,c3,rfl,rfl⟩)|(apply Zae (h:=fun w' hw _=>hss w' hw);rfl;rintro v O' ⟨A5,c5,rfl,rfl⟩)|(refine bx ?_;intro bk));first|refine⟨_,EndsA,QFRfT0,?_⟩|refine fin ?_)|(refine jn ?_;(try intro F);(refine bx ?_;intro bk);first|refine⟨_,EndsA,QFRfT0,?_⟩|refine fin ?_)|(apply RD_W;rfl;intro bk))
  exact rtA
 rw[if_neg c4]
 by_cases c5:kind=1/\(save<1\/10800<save)
 ·rw[if_pos c5]
  obtain⟨rfl,hs⟩:=c5
  by_cases d1:save<1
  ·have s1:decide (save<1)=true:=decide_eq_true d1
   cases fi
   all_goals
    repeat (first|refine Zgt ?_|(refine jg ?_;(try intro F);(first|(apply Zae (h:=fun w' hw _=>hst w' hw);rfl;rintro v O' ⟨A3,c3,rfl,rfl⟩)|(apply Zae (h:=fun w' hw _=>hss w' hw);rfl;rintro v O' ⟨A5,c5,rfl,rfl⟩)|(refine bx ?_;intro bk));first|refine⟨_,EndsA,QFRfT0,?_⟩|refine fin ?_)|(refine jn ?_;(try intro F);(refine bx ?_;intro bk);first|refine⟨_,EndsA,QFRfT0,?_⟩|refine fin ?_)|(apply RD_W;rfl;intro bk))
    exact rtA
  ·have s1:decide (save<1)=false:=decide_eq_false d1
   have s2:decide (10800<save)=true:=decide_eq_true (by omega)
   cases fi
   all_goals
    repeat (first|refine Zgt ?_|(refine jg ?_;(try intro F);(first|(apply Zae (h:=fun w' hw _=>hst w' hw);rfl;rintro v O' ⟨A3,c3,rfl,rfl⟩)|(apply Zae (h:=fun w' hw _=>hss w' hw);rfl;rintro v O' ⟨A5,c5,rfl,rfl⟩)|(refine bx ?_;intro bk));first|refine⟨_,EndsA,QFRfT0,?_⟩|refine fin ?_)|(refine jn ?_;(try intro F);(refine bx ?_;intro bk);first|refine⟨_,EndsA,QFRfT0,?_⟩|refine fin ?_)|(apply RD_W;rfl;intro bk))
    exact rtA
 rw[if_neg c5]
 replace hSv:=hSv (by omega)
 replace hany:=hany (hne c4)
 obtain⟨Q,hQ⟩:∃ Q,(S.any fun x => !inO off||!inO (off+x.1))=Q:=⟨_,rfl⟩
 rw[hQ]at hany
 have hthree:(if Za0 off 0=false\/(S.any fun x => !Za0 off x.1)=true then (3:Int) else RE)=if Q then 3 else RE:=by
  by_cases h:Q=true
  ·rw[if_pos (hany.2 h),if_pos h]
  ·rw[if_neg (fun h'=>h (hany.1 h')),if_neg h]
 rw[hthree]
 clear hthree hany hne
 obtain⟨v1,u1⟩:∃ v,(!decide (save=0))=v:=⟨_,rfl⟩
 obtain⟨v2,u4⟩:∃ v,(!decide (set=(⟨#[]⟩:ByteArray)))=v:=⟨_,rfl⟩
 obtain⟨v3,u5⟩:∃ v,(!decide ((⟨false,year,month,⟨dk,dw,dd⟩,⟨us,ub⟩⟩:DUntil)=dU0))=v:=⟨_,rfl⟩
 rw[show(!decide (set=ByteArray.empty))=v2 from u4]at hrest
 rw[u1,u5]at hrest
 have n3:∀ q,decide (kind=2)=q->q=true->fi=false:=fun q h h'=>by
  cases fi with
  | false=>rfl
  | true=>exact absurd ⟨rfl,of_decide_eq_true (h.trans h')⟩ c3
 obtain⟨q2,hq2⟩:∃ q,decide (kind=2)=q:=⟨_,rfl⟩
 obtain⟨q1,hq1⟩:∃ q,decide (kind=1)=q:=⟨_,rfl⟩
 have r0:q2=true->decide ((R.length:Int)=0)=false:=fun h=>decide_eq_false (fun h'=>c4 ⟨of_decide_eq_true (hq2.trans h),List.eq_nil_of_length_eq_zero (by omega)⟩)
 have s1:q1=true->decide (save<1)=false:=fun h=>decide_eq_false (fun h'=>c5 ⟨of_decide_eq_true (hq1.trans h),.inl h'⟩)
 have s2:q1=true->decide (10800<save)=false:=fun h=>decide_eq_false (fun h'=>c5 ⟨of_decide_eq_true (hq1.trans h),.inr h'⟩)
 refine W_seq ?_
 refine ZbZ (fun fr' O'=>∃ b3 b4:Nat,Sub [(2,.int .i64 i),(3,.pointer (some ⟨b3,0,none⟩)),(4,.pointer (some ⟨b4,0,none⟩))] fr'/\SubO [.blk b4 [.int .i64 off,.int .i64 kind,.int .i64 save,.string set,.string format,.bool is,.int .i64 year,.int .i64 month,.int .i64 dk,.int .i64 dw,.int .i64 dd,.int .i64 us,.int .i64 ub] 75,.blk b3 [.slice Ar a.rules.length cr,.slice Az a.zones.length cz,.slice Al a.links.length cl,.slice As a.shifts.length cs] 27] O') ?_ ?_
 ·repeat (first|refine walk ?_|(refine jn ?_;(try intro F);(first|(refine bx ?_;intro bk)|(refine stA ?_)|(apply Zac;exact PuA));refine fin ?_)|(apply RD_W;rfl;intro bk))
  exact⟨rfl,_,_,SFA,SOA⟩
 rintro fr' O' ⟨b3,b4,hf,hO⟩
 apply thenQ_n
 refine ZcO hf hO ?_
 clear hf hO fr' O'
 refine W_seq ?_
 refine ZbZ (fun fr' O'=>Sub [(2,.int .i64 i),(3,.pointer (some ⟨b3,0,none⟩)),(4,.pointer (some ⟨b4,0,none⟩))] fr'/\SubO [.blk b4 [.int .i64 off,.int .i64 kind,.int .i64 save,.string set,.string format,.bool is,.int .i64 year,.int .i64 month,.int .i64 dk,.int .i64 dw,.int .i64 dd,.int .i64 us,.int .i64 ub] 75,.blk b3 [.slice Ar a.rules.length cr,.slice Az a.zones.length cz,.slice Al a.links.length cl,.slice As a.shifts.length cs] 27] O') ?_ ?_
 ·repeat (first|refine Zgt ?_|(refine jg ?_;(try intro F);(first|(apply Zae (h:=fun w' hw _=>hst w' hw);rfl;rintro v O' ⟨A3,c3,rfl,rfl⟩)|(apply Zae (h:=fun w' hw _=>hss w' hw);rfl;rintro v O' ⟨A5,c5,rfl,rfl⟩)|(refine bx ?_;intro bk));first|refine⟨_,EndsA,QFRfT0,?_⟩|refine fin ?_)|(refine jn ?_;(try intro F);(refine bx ?_;intro bk);first|refine⟨_,EndsA,QFRfT0,?_⟩|refine fin ?_)|(apply RD_W;rfl;intro bk))
  exact⟨rfl,SFA,SOA⟩
 rintro fr' O' ⟨hf,hO⟩
 apply thenQ_n
 refine ZcO hf hO ?_
 clear hf hO fr' O'
 refine W_seq ?_
 refine ZbZ (fun fr' O'=>Sub [(2,.int .i64 i),(3,.pointer (some ⟨b3,0,none⟩)),(4,.pointer (some ⟨b4,0,none⟩))] fr'/\SubO [.blk b4 [.int .i64 off,.int .i64 kind,.int .i64 save,.string set,.string format,.bool is,.int .i64 year,.int .i64 month,.int .i64 dk,.int .i64 dw,.int .i64 dd,.int .i64 us,.int .i64 ub] 75,.blk b3 [.slice Ar a.rules.length cr,.slice Az a.zones.length cz,.slice Al a.links.length cl,.slice As a.shifts.length cs] 27] O') ?_ ?_
 ·cases fi with
  | false =>
   repeat (first|refine Zgt ?_|(refine jg ?_;(try intro F);(first|(apply Zae (h:=fun w' hw _=>hst w' hw);rfl;rintro v O' ⟨A3,c3,rfl,rfl⟩)|(apply Zae (h:=fun w' hw _=>hss w' hw);rfl;rintro v O' ⟨A5,c5,rfl,rfl⟩)|(refine bx ?_;intro bk));first|refine⟨_,EndsA,QFRfT0,?_⟩|refine fin ?_)|(refine jn ?_;(try intro F);(refine bx ?_;intro bk);first|refine⟨_,EndsA,QFRfT0,?_⟩|refine fin ?_)|(apply RD_W;rfl;intro bk))
   exact⟨rfl,SFA,SOA⟩
  | true =>
   have hf2:decide (kind=2)=false:=by
    cases h:decide (kind=2)
    ·rfl
    ·have:=n3 _ rfl h;cases this
   repeat (first|refine und ?_|(apply RL_pu;rfl;exact Zxp)|(apply RD_Q;rfl;rfl;decide +kernel;rfl;rfl;exact QyRfT1)|refine walk1 ?_|(refine jg ?_;(try intro F);(first|(apply Zae (h:=fun w' hw _=>hst w' hw);rfl;rintro v O' ⟨A3,c3,rfl,rfl⟩)|(apply Zae (h:=fun w' hw _=>hss w' hw);rfl;rintro v O' ⟨A5,c5,rfl,rfl⟩)|(refine bx ?_;intro bk)|(refine stA ?_));first|refine⟨_,EndsA,QFRfT1,?_⟩|refine fin ?_)|(refine jn ?_;(try intro F);(first|(refine bx ?_;intro bk)|(refine stA ?_)|(apply Zac;first|exact Zxp|exact PuA));first|refine⟨_,EndsA,QFRfT1,?_⟩|refine fin ?_)|(apply RD_W;rfl;intro bk))
   exact⟨rfl,SFA,SOA⟩
 rintro fr' O' ⟨hf,hO⟩
 apply thenQ_n
 refine ZcO hf hO ?_
 clear hf hO fr' O'
 refine W_seq ?_
 refine ZbZ (fun fr' O'=>Sub [(2,.int .i64 i),(3,.pointer (some ⟨b3,0,none⟩)),(4,.pointer (some ⟨b4,0,none⟩))] fr'/\SubO [.blk b4 [.int .i64 off,.int .i64 kind,.int .i64 save,.string set,.string format,.bool is,.int .i64 year,.int .i64 month,.int .i64 dk,.int .i64 dw,.int .i64 dd,.int .i64 us,.int .i64 ub] 75,.blk b3 [.slice Ar a.rules.length cr,.slice Az a.zones.length cz,.slice Al a.links.length cl,.slice As a.shifts.length cs] 27] O') ?_ ?_
 ·cases q2 with
  | false =>
   repeat (first|refine und ?_|(apply RL_pu;rfl;exact Zxo)|(apply RD_Q;rfl;rfl;decide +kernel;rfl;rfl;exact QyRfT2)|refine walk1 ?_|(refine jg ?_;(try intro F);(first|(apply Zae (h:=fun w' hw _=>hst w' hw);rfl;rintro v O' ⟨A3,c3,rfl,rfl⟩)|(apply Zae (h:=fun w' hw _=>hss w' hw);rfl;rintro v O' ⟨A5,c5,rfl,rfl⟩)|(refine bx ?_;intro bk)|(refine stA ?_));first|refine⟨_,EndsA,QFRfT2,?_⟩|refine fin ?_)|(refine jn ?_;(try intro F);(first|(refine bx ?_;intro bk)|(refine stA ?_)|(apply Zac;first|exact Zxo|exact PuA));first|refine⟨_,EndsA,QFRfT2,?_⟩|refine fin ?_)|(apply RD_W;rfl;intro bk))
   exact⟨rfl,SFA,SOA⟩
  | true =>
   replace r0:=r0 rfl
   repeat (first|refine und ?_|(apply RL_pu;rfl;exact Zxn)|(apply RD_Q;rfl;rfl;decide +kernel;rfl;rfl;exact QyRfT3)|refine walk1 ?_|(refine jg ?_;(try intro F);(first|(apply Zae (h:=fun w' hw _=>hst w' hw);rfl;rintro v O' ⟨A3,c3,rfl,rfl⟩)|(refine bx ?_;intro bk)|(refine stA ?_));first|refine⟨_,EndsA,QFRfT3,?_⟩|refine fin ?_)|(refine jn ?_;(try intro F);(first|(refine bx ?_;intro bk)|(refine stA ?_)|(apply Zac;first|exact Zxn|exact PuA));first|refine⟨_,EndsA,QFRfT3,?_⟩|refine fin ?_)|(apply RD_W;rfl;intro bk))
   exact⟨rfl,SFA,SOA⟩
 rintro fr' O' ⟨hf,hO⟩
 apply thenQ_n
 refine ZcO hf hO ?_
 clear hf hO fr' O'
 refine W_seq ?_
 refine ZbZ (fun fr' O'=>Sub [(2,.int .i64 i),(3,.pointer (some ⟨b3,0,none⟩)),(4,.pointer (some ⟨b4,0,none⟩))] fr'/\SubO [.blk b4 [.int .i64 off,.int .i64 kind,.int .i64 save,.string set,.string format,.bool is,.int .i64 year,.int .i64 month,.int .i64 dk,.int .i64 dw,.int .i64 dd,.int .i64 us,.int .i64 ub] 75,.blk b3 [.slice Ar a.rules.length cr,.slice Az a.zones.length cz,.slice Al a.links.length cl,.slice As a.shifts.length cs] 27] O') ?_ ?_
 ·cases q1 with
  | false =>
   repeat (first|refine und ?_|(apply RL_pu;rfl;exact ZpO)|(apply RD_Q;rfl;rfl;decide +kernel;rfl;rfl;exact QyRfT4)|refine walk1 ?_|(refine jg ?_;(try intro F);(first|(apply Zae (h:=fun w' hw _=>hst w' hw);rfl;rintro v O' ⟨A3,c3,rfl,rfl⟩)|(apply Zae (h:=fun w' hw _=>hss w' hw);rfl;rintro v O' ⟨A5,c5,rfl,rfl⟩)|(refine bx ?_;intro bk)|(refine stA ?_));first|refine⟨_,EndsA,QFRfT4,?_⟩|refine fin ?_)|(refine jn ?_;(try intro F);(first|(refine bx ?_;intro bk)|(refine stA ?_)|(apply Zac;first|exact ZpO|exact PuA));first|refine⟨_,EndsA,QFRfT4,?_⟩|refine fin ?_)|(apply RD_W;rfl;intro bk))
   exact⟨rfl,SFA,SOA⟩
  | true =>
   replace s1:=s1 rfl
   replace s2:=s2 rfl
   repeat (first|refine und ?_|(apply RL_pu;rfl;exact ZpO)|(apply RD_Q;rfl;rfl;decide +kernel;rfl;rfl;exact QyRfT4)|refine walk1 ?_|(refine jg ?_;(try intro F);(first|(apply Zae (h:=fun w' hw _=>hst w' hw);rfl;rintro v O' ⟨A3,c3,rfl,rfl⟩)|(apply Zae (h:=fun w' hw _=>hss w' hw);rfl;rintro v O' ⟨A5,c5,rfl,rfl⟩)|(refine bx ?_;intro bk)|(refine stA ?_));first|refine⟨_,EndsA,QFRfT4,?_⟩|refine fin ?_)|(refine jn ?_;(try intro F);(first|(refine bx ?_;intro bk)|(refine stA ?_)|(apply Zac;first|exact ZpO|exact PuA));first|refine⟨_,EndsA,QFRfT4,?_⟩|refine fin ?_)|(apply RD_W;rfl;intro bk))
   exact⟨rfl,SFA,SOA⟩
 rintro fr' O' ⟨hf,hO⟩
 apply thenQ_n
 refine ZcO hf hO ?_
 clear hf hO fr' O'
 repeat (first|refine walk ?_|(refine jg ?_;(try intro F);(first|(apply Zae (h:=fun w' hw _=>hss w' hw);rfl;rintro v O' ⟨A5,c5,rfl,rfl⟩)|(refine bx ?_;intro bk)|(refine stA ?_));refine fin ?_)|(refine jn ?_;(try intro F);(first|(refine bx ?_;intro bk)|(refine stA ?_)|(apply Zac;exact PuA));refine fin ?_)|(apply RD_W;rfl;intro bk))
 refine Zai [(3,.pointer (some ⟨b3,0,none⟩)),(4,.pointer (some ⟨b4,0,none⟩)),(7,.slice A5 S.length c5)] [.row (.slice A5 S.length c5) 155 2 S.length (S.flatMap Za4),.blk b4 [.int .i64 off,.int .i64 kind,.int .i64 save,.string set,.string format,.bool is,.int .i64 year,.int .i64 month,.int .i64 dk,.int .i64 dw,.int .i64 dd,.int .i64 us,.int .i64 ub] 75,.blk b3 [.slice Ar a.rules.length cr,.slice Az a.zones.length cz,.slice Al a.links.length cl,.slice As a.shifts.length cs] 27]
  (fun j:Nat=>[(8,.int .i64 j)]) (fun _=>[]) (fun j=>j<=S.length/\((S.drop j).any fun x => !inO off||!inO (off+x.1))=Q) (fun j=>S.length - j) 0 SFA SOA ⟨Nat.zero_le _,hQ⟩ ?_
 clear hQ
 rintro j ⟨hj,hi⟩
 repeat (first|refine walk ?_|(refine jn ?_;(try intro F);(first|(refine bx ?_;intro bk)|(refine stA ?_)|(apply Zac;exact PuA));refine fin ?_)|(apply RD_W;rfl;intro bk))
 refine Zaf rfl (fun hc=>?_) (fun hc=>?_)
 ·simp only[decide_eq_true_eq,Int.ofNat_lt]at hc
  have hg1:=Zao Za4.len S j _ 0 _ (List.getElem?_eq_getElem hc) rfl
  have hgx:=Zao Za4.len S j _ 0 _ (List.getElem?_eq_getElem hc) (show(Za4 S[j])[0]?=some (.int .i64 S[j].1) from rfl)
  have hxb:=hSv _ (List.getElem_mem hc)
  rw[Zag hc,List.any_cons]at hi
  generalize S[j]=x at *
  have hix:=fun w'=>Zi5 (off+x.1) w'
  cases hz1:inO off with
  | false =>
   rw[hz1]at hi hin
   obtain rfl:true=Q:=by simpa using hi
   repeat (first|refine und ?_|refine walk ?_|(refine jg ?_;(try intro F);(first|(refine Zab (fun w' _=>hin w') ?_)|(refine Zab (fun w' _=>hix w') ?_)|(refine bx ?_;intro bk)|(refine stA ?_));refine fin ?_)|(refine jn ?_;(try intro F);(first|(refine bx ?_;intro bk)|(refine stA ?_)|(apply Zac;exact PuA));refine fin ?_)|(apply RD_W;rfl;intro bk))
   exact rtA
  | true =>
   rw[hz1]at hi hin
   have hob : -54000<=off/\off<=54000:=by unfold inO at hz1;simpa using hz1
   cases hz2:inO (off+x.1) with
   | false =>
    rw[hz2]at hi hix
    obtain rfl:true=Q:=by simpa using hi
    repeat (first|refine und ?_|(apply RL_pu;rfl;exact ZmD)|(apply RD_Q;rfl;rfl;decide +kernel;rfl;rfl;exact Zte)|refine walk1 ?_|(refine jg ?_;(try intro F);(first|(refine Zab (fun w' _=>hin w') ?_)|(refine Zab (fun w' _=>hix w') ?_)|(refine bx ?_;intro bk)|(refine stA ?_));first|refine⟨_,EndsA,Zpy,?_⟩|refine fin ?_)|(refine jn ?_;(try intro F);(first|(refine bx ?_;intro bk)|(refine stA ?_)|(apply Zac;first|exact ZmD|exact PuA));first|refine⟨_,EndsA,Zpy,?_⟩|refine fin ?_)|(apply RD_W;rfl;intro bk))
    exact rtA
   | true =>
    rw[hz2]at hi hix
    repeat (first|refine und ?_|(apply RL_pu;rfl;exact ZmD)|(apply RD_Q;rfl;rfl;decide +kernel;rfl;rfl;exact Zte)|refine walk1 ?_|(refine jg ?_;(try intro F);(first|(refine Zab (fun w' _=>hin w') ?_)|(refine Zab (fun w' _=>hix w') ?_)|(refine bx ?_;intro bk)|(refine stA ?_));first|refine⟨_,EndsA,Zpy,?_⟩|refine fin ?_)|(refine jn ?_;(try intro F);(first|(refine bx ?_;intro bk)|(refine stA ?_)|(apply Zac;first|exact ZmD|exact PuA));first|refine⟨_,EndsA,Zpy,?_⟩|refine fin ?_)|(apply RD_W;rfl;intro bk))
    exact⟨j+1,OA,⟨OA,by simpa using hi⟩,SFA,SOA⟩
 ·simp only[decide_eq_false_iff_not,Int.ofNat_lt]at hc
  rw[List.drop_eq_nil_of_le (by omega),List.any_nil]at hi
  subst hi
  rw[if_neg (by decide),hrest]
  obtain⟨n1,un1⟩:∃ v,(!decide (kind=1))=v:=⟨_,rfl⟩
  obtain⟨n2,un2⟩:∃ v,(!decide (kind=2))=v:=⟨_,rfl⟩
  rw[un1,un2]
  obtain⟨U,hU⟩:∃ U,(n1&&v1||n2&&v2||!is&&v3)=U:=⟨_,rfl⟩
  rw[hU]
  apply W_exit
  repeat (first|apply thenQ_e|apply blockQ_hit|(apply blockQ_miss;rfl))
  apply thenQ_n
  refine W_seq ?_
  refine ZbZ (fun fr' O'=>∃ b9:Nat,Sub [(3,.pointer (some ⟨b3,0,none⟩)),(4,.pointer (some ⟨b4,0,none⟩)),(9,.pointer (some ⟨b9,0,none⟩))] fr'/\SubO [.blk b9 [.bool is,.int .i64 year,.int .i64 month,.int .i64 dk,.int .i64 dw,.int .i64 dd,.int .i64 us,.int .i64 ub] 73,.blk b4 [.int .i64 off,.int .i64 kind,.int .i64 save,.string set,.string format,.bool is,.int .i64 year,.int .i64 month,.int .i64 dk,.int .i64 dw,.int .i64 dd,.int .i64 us,.int .i64 ub] 75,.blk b3 [.slice Ar a.rules.length cr,.slice Az a.zones.length cz,.slice Al a.links.length cl,.slice As a.shifts.length cs] 27] O') ?_ ?_
  ·repeat (first|refine walk ?_|(refine jn ?_;(try intro F);(first|(refine bx ?_;intro bk)|(refine stA ?_)|(apply Zac;exact PuA));refine fin ?_)|(apply RD_W;rfl;intro bk))
   exact⟨rfl,_,SFA,SOA⟩
  rintro fr' O' ⟨b9,hf,hO⟩
  apply thenQ_n
  refine ZcO hf hO ?_
  clear hf hO fr' O'
  refine W_seq ?_
  refine ZbZ (fun fr' O'=>Sub [(3,.pointer (some ⟨b3,0,none⟩)),(4,.pointer (some ⟨b4,0,none⟩)),(9,.pointer (some ⟨b9,0,none⟩))] fr'/\SubO [.blk b9 [.bool false,.int .i64 year,.int .i64 month,.int .i64 dk,.int .i64 dw,.int .i64 dd,.int .i64 us,.int .i64 ub] 73,.blk b4 [.int .i64 off,.int .i64 kind,.int .i64 save,.string set,.string format,.bool is,.int .i64 year,.int .i64 month,.int .i64 dk,.int .i64 dw,.int .i64 dd,.int .i64 us,.int .i64 ub] 75,.blk b3 [.slice Ar a.rules.length cr,.slice Az a.zones.length cz,.slice Al a.links.length cl,.slice As a.shifts.length cs] 27] O') ?_ ?_
  ·repeat (first|refine walk ?_|(refine jn ?_;(try intro F);(first|(refine bx ?_;intro bk)|(refine stA ?_)|(apply Zac;exact PuA));refine fin ?_)|(apply RD_W;rfl;intro bk))
   exact⟨rfl,SFA,SOA⟩
  rintro fr' O' ⟨hf,hO⟩
  apply thenQ_n
  refine ZcO hf hO ?_
  clear hf hO fr' O'
  refine W_seq ?_
  refine W_seq ?_
  refine ZbZ (fun fr' O'=>Sub [(3,.pointer (some ⟨b3,0,none⟩)),(4,.pointer (some ⟨b4,0,none⟩)),(104,.bool U)] fr'/\SubO [.blk b4 [.int .i64 off,.int .i64 kind,.int .i64 save,.string set,.string format,.bool is,.int .i64 year,.int .i64 month,.int .i64 dk,.int .i64 dw,.int .i64 dd,.int .i64 us,.int .i64 ub] 75,.blk b3 [.slice Ar a.rules.length cr,.slice Az a.zones.length cz,.slice Al a.links.length cl,.slice As a.shifts.length cs] 27] O') ?_ ?_
  ·have hd:(true=U/\n1=true/\v1=true)\/(true=U/\n1=false/\n2=true/\v2=true)\/(true=U/\n1=true/\v1=false/\n2=true/\v2=true)\/(true=U/\n1=false/\n2=false/\is=false/\v3=true)\/(true=U/\n1=false/\n2=true/\v2=false/\is=false/\v3=true)\/(true=U/\n1=true/\v1=false/\n2=false/\is=false/\v3=true)\/(true=U/\n1=true/\v1=false/\n2=true/\v2=false/\is=false/\v3=true)\/(false=U/\n1=false/\n2=false/\is=true)\/(false=U/\n1=false/\n2=false/\is=false/\v3=false)\/(false=U/\n1=false/\n2=true/\v2=false/\is=true)\/(false=U/\n1=false/\n2=true/\v2=false/\is=false/\v3=false)\/(false=U/\n1=true/\v1=false/\n2=false/\is=true)\/(false=U/\n1=true/\v1=false/\n2=false/\is=false/\v3=false)\/(false=U/\n1=true/\v1=false/\n2=true/\v2=false/\is=true)\/(false=U/\n1=true/\v1=false/\n2=true/\v2=false/\is=false/\v3=false):=by
    revert hU
    cases n1 <;> cases v1 <;> cases n2 <;> cases v2 <;> cases is <;> cases v3 <;> simp
   clear hU hfc
   rcases hd with⟨rfl,rfl,rfl⟩|⟨rfl,rfl,rfl,rfl⟩|⟨rfl,rfl,rfl,rfl,rfl⟩|⟨rfl,rfl,rfl,rfl,rfl⟩|⟨rfl,rfl,rfl,rfl,rfl,rfl⟩|⟨rfl,rfl,rfl,rfl,rfl,rfl⟩|⟨rfl,rfl,rfl,rfl,rfl,rfl,rfl⟩|⟨rfl,rfl,rfl,rfl⟩|⟨rfl,rfl,rfl,rfl,rfl⟩|⟨rfl,rfl,rfl,rfl,rfl⟩|⟨rfl,rfl,rfl,rfl,rfl,rfl⟩|⟨rfl,rfl,rfl,rfl,rfl⟩|⟨rfl,rfl,rfl,rfl,rfl,rfl⟩|⟨rfl,rfl,rfl,rfl,rfl,rfl⟩|⟨rfl,rfl,rfl,rfl,rfl,rfl,rfl⟩
   all_goals
    repeat (first|refine und ?_|(apply RL_pu;rfl;exact Zxm)|(apply RD_Q;rfl;rfl;decide +kernel;rfl;rfl;exact QyRfT6)|refine walk1 ?_|(refine jn ?_;(try intro F);(first|(refine bx ?_;intro bk)|(refine stA ?_)|(apply Zac;first|exact Zxm|exact PuA));first|refine⟨_,EndsA,QFRfT6,?_⟩|refine fin ?_)|(apply RD_W;rfl;intro bk))
    exact⟨rfl,SFA,SOA⟩
  rintro fr' O' ⟨hf,hO⟩
  apply thenQ_n
  refine ZcO hf hO ?_
  clear hf hO fr' O' hU
  cases U with
  | true =>
   rw[if_pos rfl]
   repeat (first|refine walk ?_|(refine jn ?_;(try intro F);(first|(refine bx ?_;intro bk)|(refine stA ?_)|(apply Zac;exact PuA));refine fin ?_)|(apply RD_W;rfl;intro bk))
   exact rtA
  | false =>
   rw[if_neg (by decide)]
   repeat (first|refine walk ?_|(refine jg ?_;(try intro F);(first|(apply Zae (h:=fun w' hw _=>hst w' hw);rfl;rintro v O' ⟨A3,c3,rfl,rfl⟩)|(refine ZaM (fun w' hw hO=>hfc A3 c3 w' hw (ZaX DRule.len (hO.of (A := .row (.slice A3 R.length c3) 68 11 R.length (R.flatMap DRule.enc)) (by repeat' constructor)))) ?_)|(refine bx ?_;intro bk)|(refine stA ?_));refine fin ?_)|(refine jn ?_;(try intro F);(first|(refine bx ?_;intro bk)|(refine stA ?_)|(apply Zac;exact PuA));refine fin ?_)|(apply RD_W;rfl;intro bk))
   exact rtA
end Go.Proofs.YtpipekfmecikmaaGreatDoor
