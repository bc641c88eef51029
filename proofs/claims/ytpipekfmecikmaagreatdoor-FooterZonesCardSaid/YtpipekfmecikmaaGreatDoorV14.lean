/- Parts of the proof. -/
import Derived.Test.YtpipekfmecikmaaGreatDoorV13
import Derived.Test.YtpipekfmecikmaaGreatDoorV10
set_option maxHeartbeats 4000000
set_option linter.unusedVariables false
set_option linter.unusedSimpArgs false
namespace Go.Proofs.YtpipekfmecikmaaGreatDoor
open Go Go.RowKit Go.Wk
attribute [local irreducible] W RL Does Zat Zaj retQ Calls Pu Stp RD Qy Ay Zak
theorem Zpa {r:DRule}(h:Ze2 r=true)(off before:Int):ZdK r off before=(dt0,2):=by unfold ZdK;rw[if_pos h]
theorem ZcL {G:Prop}(h:G:=by(first|(apply Zal;rfl;rfl;exact e1)|(apply Zaz;rfl;rfl;exact e2)|(apply Zaw;rfl;rfl;exact e3))):G:=h
theorem Zhj {G G':Prop}(k:G')(h:Hold G'->G:=by intro k9;(first|refine und ?_|(apply RL_pu;rfl;exact ZcL)|(apply RD_Q;rfl;rfl;decide +kernel;rfl;rfl;exact QyFtDate0)|refine walk1 ?_|(refine jn ?_;(try intro F);(first|(refine stA ?_)|(apply Zac;first|exact ZcL|exact PuA));first|refine⟨_,EndsA,QFFtDate0,?_⟩|refine fin ?_));exact k9.out):G:=h ⟨k⟩
theorem Zvv (r:DRule)(off before:Int)(h:Ze2 r=true)(w:World)(hG:Glob w):Does Tryz.prog 32 [.agg r.enc.toArray,.int .i64 off,.int .i64 before] w (fun v O=>v=ZqQ (dt0,2)/\O=[]):=by
 have hdc:=fun w' (hw:Bel w.heap.size w w')=>ZdJ r.day w' (hG.up hw)
 have hcc:=fun w'=>Zb4 r.at_ w'
 unfold Ze2 at h
 obtain⟨nm,fr,to,mo,⟨dk,dw,dd⟩,⟨cs,cb⟩,sv,le⟩:=r
 dsimp only at h hdc hcc
 generalize Za8 ⟨dk,dw,dd⟩=c1 at *
 generalize ZaH ⟨cs,cb⟩=c2 at *
 show Does _ _ [.agg #[.string nm,.int .i64 fr,.int .i64 to,.int .i64 mo,.int .i64 dk,.int .i64 dw,.int .i64 dd,.int .i64 cs,.int .i64 cb,.int .i64 sv,.string le],.int .i64 off,.int .i64 before] w _
 refine Zaa Tryz.func32 rfl rfl rfl rfl ?_
 by_cases h1:to=1048576
 ·have e1:(!decide (to=1048576))=false:=by rw[decide_eq_true h1];rfl
  by_cases h2:mo<1
  ·have e2:decide (mo<1)=true:=decide_eq_true h2
   repeat (first|refine Zhj ?_|(refine jn ?_;(try intro F);(refine bx ?_;intro bk);first|refine⟨_,EndsA,QFFtDate0,?_⟩|refine fin ?_)|(apply RD_W;rfl;intro bk))
   exact rtC
  have e2:decide (mo<1)=false:=decide_eq_false h2
  by_cases h3:12<mo
  ·have e3:decide (12<mo)=true:=decide_eq_true h3
   repeat (first|refine Zhj ?_|(refine jn ?_;(try intro F);(refine bx ?_;intro bk);first|refine⟨_,EndsA,QFFtDate0,?_⟩|refine fin ?_)|(apply RD_W;rfl;intro bk))
   exact rtC
  have e3:decide (12<mo)=false:=decide_eq_false h3
  cases c1 with
  | false =>
   repeat (first|refine und ?_|(apply RL_pu;rfl;exact ZcL)|(apply RD_Q;rfl;rfl;decide +kernel;rfl;rfl;exact QyFtDate0)|refine walk1 ?_|(refine jg ?_;(try intro F);(first|(refine Zab hdc ?_)|(refine Zab (fun w' hw=>hcc w') ?_)|(refine bx ?_;intro bk)|(refine stA ?_));first|refine⟨_,EndsA,QFFtDate0,?_⟩|refine fin ?_)|(refine jn ?_;(try intro F);(first|(refine bx ?_;intro bk)|(refine stA ?_)|(apply Zac;first|exact ZcL|exact PuA));first|refine⟨_,EndsA,QFFtDate0,?_⟩|refine fin ?_)|(apply RD_W;rfl;intro bk))
   exact rtC
  | true =>
  cases c2 with
  | false =>
   repeat (first|refine und ?_|(apply RL_pu;rfl;exact ZcL)|(apply RD_Q;rfl;rfl;decide +kernel;rfl;rfl;exact QyFtDate0)|refine walk1 ?_|(refine jg ?_;(try intro F);(first|(refine Zab hdc ?_)|(refine Zab (fun w' hw=>hcc w') ?_)|(refine bx ?_;intro bk)|(refine stA ?_));first|refine⟨_,EndsA,QFFtDate0,?_⟩|refine fin ?_)|(refine jn ?_;(try intro F);(first|(refine bx ?_;intro bk)|(refine stA ?_)|(apply Zac;first|exact ZcL|exact PuA));first|refine⟨_,EndsA,QFFtDate0,?_⟩|refine fin ?_)|(apply RD_W;rfl;intro bk))
   exact rtC
  | true =>
   exfalso
   rw[e1,e2,e3]at h
   cases h
 ·have e1:(!decide (to=1048576))=true:=by rw[decide_eq_false h1];rfl
  repeat (first|refine Zhj ?_|(refine jn ?_;(try intro F);(refine bx ?_;intro bk);first|refine⟨_,EndsA,QFFtDate0,?_⟩|refine fin ?_)|(apply RD_W;rfl;intro bk))
  exact rtC
theorem ZoV {r:DRule}(h:Ze2 r=false):r.to=1048576/\1<=r.month/\r.month<=12/\Za8 r.day=true/\ZaH r.at_=true:=by
 unfold Ze2 at h
 simp only[Bool.or_eq_false_iff,Bool.not_eq_false',decide_eq_true_eq,decide_eq_false_iff_not]at h
 obtain⟨⟨⟨⟨h1,h2⟩,h3⟩,h4⟩,h5⟩:=h
 exact⟨h1,by omega,by omega,h4,h5⟩
theorem Zex {G:Prop}(h:G:=by(first|exact ZcL|(apply Zbn;rfl;rfl;omega;omega)|(apply Pu_loadO1;rfl;exact hcell 0 _ rfl))):G:=h
theorem ZiA {G:Prop}(h:G:=by first|(apply Qy_y;rfl;exact Zex)|exact QyA):G:=h
theorem ZaQ {G:Prop}(h:G:=by repeat (first|exact QF.nil|(apply QF.mk;rfl;rfl;decide +kernel;exact ZiA))):G:=h
theorem Zce {G G':Prop}(k:G')(h:Hold G'->G:=by intro k9;(first|refine und ?_|(apply RL_pu;rfl;exact Zex)|(apply RD_Q;rfl;rfl;decide +kernel;rfl;rfl;exact ZiA)|refine walk1 ?_|(refine jg ?_;(try intro F);(first|(refine Zab hdc ?_)|(refine Zab (fun w' hw=>hcc w') ?_)|(refine Zab (fun w' hw=>hw1 w') ?_)|(refine Zab (fun w' hw=>hw2 w') ?_)|(refine Zab (fun w' hw=>hw3 w') ?_)|(refine stA ?_));first|refine⟨_,EndsA,ZaQ,?_⟩|refine fin ?_)|(refine jn ?_;(try intro F);(first|(refine stA ?_)|(apply Zac;first|exact Zex|exact PuA));first|refine⟨_,EndsA,ZaQ,?_⟩|refine fin ?_));exact k9.out):G:=h ⟨k⟩
set_option maxHeartbeats 4000000 in
theorem Zf9 (r:DRule)(off before:Int)(w:World)(hG:Glob w)(hF:FtG w):Does Tryz.prog 32 [.agg r.enc.toArray,.int .i64 off,.int .i64 before] w (fun v O=>v=ZqQ (ZdK r off before)/\O=[]):=by
 cases hno:Ze2 r with
 | true =>
  rw[Zpa hno]
  exact Zvv r off before hno w hG
 | false =>
 obtain⟨h1,h2,h3,h4,h5⟩:=ZoV hno
 obtain⟨b1,b2,b3⟩:=Zcm h4
 have hdc:=fun w' (hw:Bel w.heap.size w w')=>ZdJ r.day w' (hG.up hw)
 have hcc:=fun w'=>Zb4 r.at_ w'
 have hds:=fun w' (hw:Bel w.heap.size w w')=>ZnM r.month r.day b1 b3 w' (hG.up hw)
 have hcell:=ZAt hF r.day.kind b1
 have hw1:=fun w'=>ZdF off w'
 have hw2:=fun w'=>ZdF before w'
 have hw3:=fun w'=>ZdF (secD r off before) w'
 have hsb:=fun(q1:ZbY off=true) (q2:ZbY before=true)=>Zrz h5 q1 q2
 haveI:Body Tryz.prog (Zl2 r.day.kind):=by
  unfold Zl2
  split
  ·infer_instance
  ·split
   ·infer_instance
   ·split <;> infer_instance
 rw[h4]at hdc
 rw[h5]at hcc
 unfold ZdK
 rw[hno,if_neg (by decide)]
 generalize hsd:secD r off before=sc at *
 unfold secD at hsd
 generalize ZdX r.month r.day=x at *
 clear h4 h5 hno hF
 obtain⟨nm,fr,to,mo,⟨dk,dw,dd⟩,⟨cs,cb⟩,sv,le⟩:=r
 obtain⟨⟨x1,x2,x3,x4,x5⟩,ok⟩:=x
 dsimp only at h1 h2 h3 b1 b3 hdc hcc hds hcell hsb hsd ⊢
 subst h1
 generalize Zl2 dk=kf at *
 have e2:decide (mo<1)=false:=decide_eq_false (by omega)
 have e3:decide (12<mo)=false:=decide_eq_false (by omega)
 show Does _ _ [.agg #[.string nm,.int .i64 fr,.int .i64 1048576,.int .i64 mo,.int .i64 dk,.int .i64 dw,.int .i64 dd,.int .i64 cs,.int .i64 cb,.int .i64 sv,.string le],.int .i64 off,.int .i64 before] w _
 refine Zaa Tryz.func32 rfl rfl rfl rfl ?_
 cases ok with
 | false =>
  rw[if_pos rfl]
  repeat (first|refine und ?_|(apply RL_pu;rfl;exact Zex)|(apply RD_Q;rfl;rfl;decide +kernel;rfl;rfl;exact ZiA)|refine walk1 ?_|(refine jg ?_;(try intro F);(first|(refine Zab hdc ?_)|(refine Zab (fun w' hw=>hcc w') ?_)|(apply Zay (f:=kf) (us:=[]) (cs:=[]) (vs:=[.int .i64 mo,.agg #[.int .i64 dk,.int .i64 dw,.int .i64 dd]]) (h:=fun w' hw _=>hds w' hw);rfl;rfl;rintro v O' ⟨rfl,rfl⟩)|(refine bx ?_;intro bk)|(refine stA ?_));first|refine⟨_,EndsA,ZaQ,?_⟩|refine fin ?_)|(refine jn ?_;(try intro F);(first|(refine bx ?_;intro bk)|(refine stA ?_)|(apply Zac;first|exact Zex|exact PuA));first|refine⟨_,EndsA,ZaQ,?_⟩|refine fin ?_)|(apply RD_W;rfl;intro bk))
  exact rtC
 | true =>
 rw[if_neg (by decide)]
 generalize ZbY off=i1 at *
 generalize ZbY before=i2 at *
 cases i1 with
 | false =>
  rw[if_pos (.inl rfl)]
  repeat (first|refine Zce ?_|(refine jg ?_;(try intro F);(first|(apply Zay (f:=kf) (us:=[]) (cs:=[]) (vs:=[.int .i64 mo,.agg #[.int .i64 dk,.int .i64 dw,.int .i64 dd]]) (h:=fun w' hw _=>hds w' hw);rfl;rfl;rintro v O' ⟨rfl,rfl⟩)|(refine bx ?_;intro bk));first|refine⟨_,EndsA,ZaQ,?_⟩|refine fin ?_)|(refine jn ?_;(try intro F);(refine bx ?_;intro bk);first|refine⟨_,EndsA,ZaQ,?_⟩|refine fin ?_)|(apply RD_W;rfl;intro bk))
  exact rtC
 | true =>
 cases i2 with
 | false =>
  rw[if_pos (.inr rfl)]
  repeat (first|refine Zce ?_|(refine jg ?_;(try intro F);(first|(apply Zay (f:=kf) (us:=[]) (cs:=[]) (vs:=[.int .i64 mo,.agg #[.int .i64 dk,.int .i64 dw,.int .i64 dd]]) (h:=fun w' hw _=>hds w' hw);rfl;rfl;rintro v O' ⟨rfl,rfl⟩)|(refine bx ?_;intro bk));first|refine⟨_,EndsA,ZaQ,?_⟩|refine fin ?_)|(refine jn ?_;(try intro F);(refine bx ?_;intro bk);first|refine⟨_,EndsA,ZaQ,?_⟩|refine fin ?_)|(apply RD_W;rfl;intro bk))
  exact rtC
 | true =>
 rw[if_neg (by decide)]
 obtain⟨q1,q2,q3,q4,q5,q6,q7⟩:=hsb rfl rfl
 clear hsb
 have hcb:cb=0\/cb=1\/cb=2:=by omega
 generalize ZbY sc=i3 at *
 rcases hcb with rfl|rfl|rfl
 ·obtain rfl:cs=sc:=by rw[<- hsd];simp
  cases i3 with
  | false =>
   repeat (first|refine Zce ?_|(refine jg ?_;(try intro F);(first|(apply Zay (f:=kf) (us:=[]) (cs:=[]) (vs:=[.int .i64 mo,.agg #[.int .i64 dk,.int .i64 dw,.int .i64 dd]]) (h:=fun w' hw _=>hds w' hw);rfl;rfl;rintro v O' ⟨rfl,rfl⟩)|(refine bx ?_;intro bk));first|refine⟨_,EndsA,ZaQ,?_⟩|refine fin ?_)|(refine jn ?_;(try intro F);(refine bx ?_;intro bk);first|refine⟨_,EndsA,ZaQ,?_⟩|refine fin ?_)|(apply RD_W;rfl;intro bk))
   exact rtC
  | true =>
   repeat (first|refine Zce ?_|(refine jg ?_;(try intro F);(first|(apply Zay (f:=kf) (us:=[]) (cs:=[]) (vs:=[.int .i64 mo,.agg #[.int .i64 dk,.int .i64 dw,.int .i64 dd]]) (h:=fun w' hw _=>hds w' hw);rfl;rfl;rintro v O' ⟨rfl,rfl⟩)|(refine bx ?_;intro bk));first|refine⟨_,EndsA,ZaQ,?_⟩|refine fin ?_)|(refine jn ?_;(try intro F);(refine bx ?_;intro bk);first|refine⟨_,EndsA,ZaQ,?_⟩|refine fin ?_)|(apply RD_W;rfl;intro bk))
   exact rtC
 ·obtain rfl:cs+before=sc:=by rw[<- hsd];simp
  cases i3 with
  | false =>
   repeat (first|refine Zce ?_|(refine jg ?_;(try intro F);(first|(apply Zay (f:=kf) (us:=[]) (cs:=[]) (vs:=[.int .i64 mo,.agg #[.int .i64 dk,.int .i64 dw,.int .i64 dd]]) (h:=fun w' hw _=>hds w' hw);rfl;rfl;rintro v O' ⟨rfl,rfl⟩)|(refine bx ?_;intro bk));first|refine⟨_,EndsA,ZaQ,?_⟩|refine fin ?_)|(refine jn ?_;(try intro F);(refine bx ?_;intro bk);first|refine⟨_,EndsA,ZaQ,?_⟩|refine fin ?_)|(apply RD_W;rfl;intro bk))
   exact rtC
  | true =>
   repeat (first|refine Zce ?_|(refine jg ?_;(try intro F);(first|(apply Zay (f:=kf) (us:=[]) (cs:=[]) (vs:=[.int .i64 mo,.agg #[.int .i64 dk,.int .i64 dw,.int .i64 dd]]) (h:=fun w' hw _=>hds w' hw);rfl;rfl;rintro v O' ⟨rfl,rfl⟩)|(refine bx ?_;intro bk));first|refine⟨_,EndsA,ZaQ,?_⟩|refine fin ?_)|(refine jn ?_;(try intro F);(refine bx ?_;intro bk);first|refine⟨_,EndsA,ZaQ,?_⟩|refine fin ?_)|(apply RD_W;rfl;intro bk))
   exact rtC
 ·obtain rfl:cs+off+before=sc:=by rw[<- hsd];simp
  cases i3 with
  | false =>
   repeat (first|refine Zce ?_|(refine jg ?_;(try intro F);(first|(apply Zay (f:=kf) (us:=[]) (cs:=[]) (vs:=[.int .i64 mo,.agg #[.int .i64 dk,.int .i64 dw,.int .i64 dd]]) (h:=fun w' hw _=>hds w' hw);rfl;rfl;rintro v O' ⟨rfl,rfl⟩)|(refine bx ?_;intro bk));first|refine⟨_,EndsA,ZaQ,?_⟩|refine fin ?_)|(refine jn ?_;(try intro F);(refine bx ?_;intro bk);first|refine⟨_,EndsA,ZaQ,?_⟩|refine fin ?_)|(apply RD_W;rfl;intro bk))
   exact rtC
  | true =>
   repeat (first|refine Zce ?_|(refine jg ?_;(try intro F);(first|(apply Zay (f:=kf) (us:=[]) (cs:=[]) (vs:=[.int .i64 mo,.agg #[.int .i64 dk,.int .i64 dw,.int .i64 dd]]) (h:=fun w' hw _=>hds w' hw);rfl;rfl;rintro v O' ⟨rfl,rfl⟩)|(refine bx ?_;intro bk));first|refine⟨_,EndsA,ZaQ,?_⟩|refine fin ?_)|(refine jn ?_;(try intro F);(refine bx ?_;intro bk);first|refine⟨_,EndsA,ZaQ,?_⟩|refine fin ?_)|(apply RD_W;rfl;intro bk))
   exact rtC
end Go.Proofs.YtpipekfmecikmaaGreatDoor
