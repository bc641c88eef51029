/- Parts of the proof. -/
import Derived.Test.YtpipekfmecikmaaGreatDoorV13
import Derived.Test.YtpipekfmecikmaaGreatDoorV21
import Derived.Test.YtpipekfmecikmaaGreatDoorV14
import Derived.Test.YtpipekfmecikmaaGreatDoorV22
import Derived.Test.YtpipekfmecikmaaGreatDoorV12
import Derived.Test.YtpipekfmecikmaaGreatDoorV15
import Derived.Test.YtpipekfmecikmaaGreatDoorV16
set_option maxHeartbeats 4000000
set_option linter.unusedVariables false
set_option linter.unusedSimpArgs false
namespace Go.Proofs.YtpipekfmecikmaaGreatDoor
open Go Go.RowKit Go.Wk
attribute [local irreducible] W RL Does Zat Zaj retQ Calls Pu Stp RD Qy Ay Zak
theorem Zc3 (n:Int)(w:World):Does Tryz.prog 95 [.int .i64 n] w (fun v O=>v = .bool (ZbY n)/\O=[]):=by
 refine Zaa Tryz.func95 rfl rfl rfl rfl ?_
 repeat' (first|refine walk ?_|refine und ?_|(refine Zam rfl rfl rfl (fun hc=>?_) (fun hc=>?_))|(refine Zas rfl rfl rfl (fun hc=>?_) (fun hc=>?_))|(refine Zaf rfl (fun hc=>?_) (fun hc=>?_)))
 all_goals first|(refine ret_1 _ [] (.tmp rfl) .nil ⟨?_,rfl⟩;first|rfl|(simp only[*,Bool.true_and,Bool.false_and,Bool.true_or,Bool.false_or,Bool.not_true,Bool.not_false];done)|(simp_all [ZbY];done)|(simp_all [ZbY];omega)|(simp_all [ZbY];rw[Bool.eq_iff_iff];simp;omega))|(exfalso;simp_all [ZbY];done)|(exfalso;simp_all [ZbY];omega)|(exfalso;omega)
theorem Zso (d:Int)(hd:0<=d/\d<=31):∀ k,k<=12->0<=julD d k/\julD d k<=31+31*k
 | 0,_=>by simp only[julD];omega
 | k+1,hk=>by
  have h1:=Zso d hd k (by omega)
  have h2:=Zc4 2001 ((k+1:Nat):Int)
  rw[julD]
  omega
theorem ZnD (m d:Int)(hm:1<=m/\m<=12)(hd:0<=d/\d<=31)(w:World):Does Tryz.prog 141 [.int .i64 m,.int .i64 d] w (fun v O=>v = .int .i64 (julD d (m - 1).toNat)/\O=[]):=by
 obtain⟨n,hn⟩:∃ n:Nat,(n:Int)=m:=⟨m.toNat,by omega⟩
 subst hn
 rw[show((n:Int) - 1).toNat=n - 1 by omega]
 refine Zaa Tryz.func141 rfl rfl rfl rfl ?_
 repeat (first|refine walk ?_)
 refine Zai [(0,.int .i64 n)] [] (fun k:Nat=>[(5,.int .i64 (julD d k)),(6,.int .i64 ((k+1:Nat):Int))]) (fun _=>[]) (fun k=>k<=n - 1) (fun k=>n - 1 - k) 0 SFA SOA (Nat.zero_le _) ?_
 intro k hk
 have hb:=Zso d hd k (by omega)
 have hl:=fun w'=>Zdf 2001 ((k+1:Nat):Int) w'
 have hlb:=Zc4 2001 ((k+1:Nat):Int)
 repeat (first|refine walk ?_)
 refine Zaf rfl (fun hc=>?_) (fun hc=>?_)
 ·simp only[decide_eq_true_eq]at hc
  repeat (first|(refine js ?_;(refine Zab (fun w' _=>hl w') ?_))|refine walk ?_)
  exact⟨k+1,by omega,by omega,SFA,SOA⟩
 ·simp only[decide_eq_false_iff_not]at hc
  obtain rfl:k=n - 1:=by omega
  repeat (first|refine walk ?_)
  exact rtA
def Zl1 (m:Int)(d:DDay):ZcP × Bool:=(if (ZdX m d).2 then (ZdX m d).1 else dt0,(ZdX m d).2)
theorem Zzy (m wk dd:Int)(hm:1<=m/\m<=12)(hd:1<=dd):Zl1 m ⟨1,wk,dd⟩=if dd<=lenM 2001 m then (⟨1,julD dd (m - 1).toNat,0,0,0⟩,true) else (dt0,false):=by
 have e:ZdX m ⟨1,wk,dd⟩=(⟨1,(if ZaN 2001 m dd then ZaP 2001 m dd else 0) - ZaP 2001 1 1+1,0,0,0⟩,ZaN 2001 m dd):=rfl
 unfold Zl1
 rw[e]
 dsimp only
 have hok:ZaN 2001 m dd=decide (dd<=lenM 2001 m):=by
  unfold ZaN
  rw[show inY 2001=true from by decide,decide_eq_true hd]
  rfl
 rw[hok]
 by_cases h:dd<=lenM 2001 m
 ·rw[decide_eq_true h,if_pos h,if_pos rfl,if_pos rfl,Zzs hm.1 hm.2]
 ·rw[decide_eq_false h,if_neg h,if_neg (by decide)]
theorem Zzx (m wk dd:Int)(hd:0<=dd):Zl1 m ⟨3,wk,dd⟩=if dd.tmod 7=1/\dd<=22 then (⟨3,wk,m,dd / 7+1,0⟩,true) else (dt0,false):=by
 unfold Zl1
 rw[show ZdX m ⟨3,wk,dd⟩=(⟨3,wk,m,dd / 7+1,0⟩,decide (dd % 7=1)&&decide (dd<29)) from rfl,Int.tmod_eq_emod_of_nonneg hd]
 dsimp only
 by_cases h:dd % 7=1/\dd<=22
 ·rw[if_pos h,decide_eq_true h.1,decide_eq_true (show dd<29 by omega)]
  rfl
 ·rw[if_neg h]
  have hf:(decide (dd % 7=1)&&decide (dd<29))=false:=by
   rw[Bool.and_eq_false_iff,decide_eq_false_iff_not,decide_eq_false_iff_not]
   omega
  rw[hf]
  rfl
theorem ZiI {G:Prop}(h:G:=by(apply Zew;rfl;rfl;exact e1)):G:=h
theorem Ztk {G:Prop}(h:G:=by first|(apply Qy_y;rfl;exact ZiI)|exact QyA):G:=h
theorem ZpC {G:Prop}(h:G:=by repeat (first|exact QF.nil|(apply QF.mk;rfl;rfl;decide +kernel;exact Ztk))):G:=h
theorem Zue {G:Prop}(h:G:=by(first|exact ZiI|(apply Zan;rfl;rfl;exact e2)|(apply Pu_quo64;rfl;rfl;omega;omega;omega)|(apply Pu_rem;rfl;rfl;decide))):G:=h
theorem ZwG {G:Prop}(h:G:=by first|(apply Qy_y;rfl;exact Zue)|exact QyA):G:=h
theorem ZwY {G:Prop}(h:G:=by repeat (first|exact QF.nil|(apply QF.mk;rfl;rfl;decide +kernel;exact ZwG))):G:=h
theorem Zud {G:Prop}(h:G:=by(first|exact ZiI|(apply Zan;rfl;rfl;exact e2)|(apply Pu_rem;rfl;rfl;decide))):G:=h
theorem ZwF {G:Prop}(h:G:=by first|(apply Qy_y;rfl;exact Zud)|exact QyA):G:=h
theorem ZwX {G:Prop}(h:G:=by repeat (first|exact QF.nil|(apply QF.mk;rfl;rfl;decide +kernel;exact ZwF))):G:=h
theorem Zuc {G:Prop}(h:G:=by(first|(apply Zan;rfl;rfl;exact e2)|(apply Pu_rem;rfl;rfl;decide))):G:=h
theorem ZwE {G:Prop}(h:G:=by first|(apply Qy_y;rfl;exact Zuc)|exact QyA):G:=h
theorem ZwW {G:Prop}(h:G:=by repeat (first|exact QF.nil|(apply QF.mk;rfl;rfl;decide +kernel;exact ZwE))):G:=h
theorem ZrH (r:DRule)(hm:1<=r.month/\r.month<=12)(hc:Za8 r.day=true)(w:World):Does Tryz.prog 94 [.agg r.enc.toArray] w (fun v O=>v=dtV (Zl1 r.month r.day)/\O=[]):=by
 obtain⟨b1,b2,b3⟩:=Zcm hc
 have hln:=fun w'=>Zdf 2001 r.month w'
 have hjl:=fun w'=>ZnD r.month r.day.day hm b3 w'
 have r1:=fun h=>Zzy r.month r.day.week r.day.day hm h
 have r3:=Zzx r.month r.day.week r.day.day b3.1
 have hd1:r.day.kind=1->1<=r.day.day:=fun h=>by
  unfold Za8 at hc
  rw[h]at hc
  simp only[Bool.and_eq_true,Bool.not_eq_true',Bool.or_eq_false_iff,dayK,decide_eq_false_iff_not]at hc
  have:=hc.2.1.1.2
  simp at this
  omega
 obtain⟨nm,fr,to,mo,⟨dk,dw,dd⟩,⟨cs,cb⟩,sv,le⟩:=r
 dsimp only at hm b1 b2 b3 hln hjl r1 r3 hd1 ⊢
 clear hc
 generalize lenM 2001 mo=ln at *
 generalize julD dd (mo - 1).toNat=jl at *
 have h4:dk=1\/dk=2\/dk=3\/dk=4:=by omega
 rcases h4 with rfl|rfl|rfl|rfl
 ·rw[r1 (hd1 rfl)]
  by_cases h:dd<=ln
  ·have e1:decide (dd<=ln)=true:=decide_eq_true h
   rw[if_pos h]
   show Does _ _ [.agg #[.string nm,.int .i64 fr,.int .i64 to,.int .i64 mo,.int .i64 1,.int .i64 dw,.int .i64 dd,.int .i64 cs,.int .i64 cb,.int .i64 sv,.string le]] w _
   refine Zaa Tryz.func94 rfl rfl rfl rfl ?_
   repeat (first|refine und ?_|(apply RL_pu;rfl;exact ZiI)|(apply RD_Q;rfl;rfl;decide +kernel;rfl;rfl;exact Ztk)|refine walk1 ?_|(refine jg ?_;(try intro F);(first|(refine Zab (fun w' _=>hln w') ?_)|(refine Zab (fun w' _=>hjl w') ?_)|(refine bx ?_;intro bk)|(refine stA ?_));first|refine⟨_,EndsA,ZpC,?_⟩|refine fin ?_)|(refine jn ?_;(try intro F);(first|(refine bx ?_;intro bk)|(refine stA ?_)|(apply Zac;first|exact ZiI|exact PuA));first|refine⟨_,EndsA,ZpC,?_⟩|refine fin ?_)|(apply RD_W;rfl;intro bk))
   exact rtC
  ·have e1:decide (dd<=ln)=false:=decide_eq_false h
   rw[if_neg h]
   show Does _ _ [.agg #[.string nm,.int .i64 fr,.int .i64 to,.int .i64 mo,.int .i64 1,.int .i64 dw,.int .i64 dd,.int .i64 cs,.int .i64 cb,.int .i64 sv,.string le]] w _
   refine Zaa Tryz.func94 rfl rfl rfl rfl ?_
   repeat (first|refine und ?_|(apply RL_pu;rfl;exact ZiI)|(apply RD_Q;rfl;rfl;decide +kernel;rfl;rfl;exact Ztk)|refine walk1 ?_|(refine jg ?_;(try intro F);(first|(refine Zab (fun w' _=>hln w') ?_)|(refine Zab (fun w' _=>hjl w') ?_)|(refine bx ?_;intro bk)|(refine stA ?_));first|refine⟨_,EndsA,ZpC,?_⟩|refine fin ?_)|(refine jn ?_;(try intro F);(first|(refine bx ?_;intro bk)|(refine stA ?_)|(apply Zac;first|exact ZiI|exact PuA));first|refine⟨_,EndsA,ZpC,?_⟩|refine fin ?_)|(apply RD_W;rfl;intro bk))
   exact rtC
 ·rw[show Zl1 mo ⟨2,dw,dd⟩=(⟨3,dw,mo,5,0⟩,true) from rfl]
  show Does _ _ [.agg #[.string nm,.int .i64 fr,.int .i64 to,.int .i64 mo,.int .i64 2,.int .i64 dw,.int .i64 dd,.int .i64 cs,.int .i64 cb,.int .i64 sv,.string le]] w _
  refine Zaa Tryz.func94 rfl rfl rfl rfl ?_
  repeat (first|refine und ?_|refine walk ?_|(refine jg ?_;(try intro F);(first|(refine Zab (fun w' _=>hln w') ?_)|(refine Zab (fun w' _=>hjl w') ?_)|(refine bx ?_;intro bk)|(refine stA ?_));refine fin ?_)|(refine jn ?_;(try intro F);(first|(refine bx ?_;intro bk)|(refine stA ?_)|(apply Zac;exact PuA));refine fin ?_)|(apply RD_W;rfl;intro bk))
  exact rtC
 ·rw[r3]
  by_cases h:dd.tmod 7=1
  ·have e2:decide (dd.tmod 7=1)=true:=decide_eq_true h
   by_cases h2:dd<=22
   ·have e1:decide (dd<=22)=true:=decide_eq_true h2
    rw[if_pos ⟨h,h2⟩]
    show Does _ _ [.agg #[.string nm,.int .i64 fr,.int .i64 to,.int .i64 mo,.int .i64 3,.int .i64 dw,.int .i64 dd,.int .i64 cs,.int .i64 cb,.int .i64 sv,.string le]] w _
    refine Zaa Tryz.func94 rfl rfl rfl rfl ?_
    repeat (first|refine und ?_|(apply RL_pu;rfl;exact Zue)|(apply RD_Q;rfl;rfl;decide +kernel;rfl;rfl;exact ZwG)|refine walk1 ?_|(refine jg ?_;(try intro F);(first|(refine Zab (fun w' _=>hln w') ?_)|(refine Zab (fun w' _=>hjl w') ?_)|(refine bx ?_;intro bk)|(refine stA ?_));first|refine⟨_,EndsA,ZwY,?_⟩|refine fin ?_)|(refine jn ?_;(try intro F);(first|(refine bx ?_;intro bk)|(refine stA ?_)|(apply Zac;first|exact Zue|exact PuA));first|refine⟨_,EndsA,ZwY,?_⟩|refine fin ?_)|(apply RD_W;rfl;intro bk))
    exact rtC
   ·have e1:decide (dd<=22)=false:=decide_eq_false h2
    rw[if_neg fun q=>h2 q.2]
    show Does _ _ [.agg #[.string nm,.int .i64 fr,.int .i64 to,.int .i64 mo,.int .i64 3,.int .i64 dw,.int .i64 dd,.int .i64 cs,.int .i64 cb,.int .i64 sv,.string le]] w _
    refine Zaa Tryz.func94 rfl rfl rfl rfl ?_
    repeat (first|refine und ?_|(apply RL_pu;rfl;exact Zud)|(apply RD_Q;rfl;rfl;decide +kernel;rfl;rfl;exact ZwF)|refine walk1 ?_|(refine jg ?_;(try intro F);(first|(refine Zab (fun w' _=>hln w') ?_)|(refine Zab (fun w' _=>hjl w') ?_)|(refine bx ?_;intro bk)|(refine stA ?_));first|refine⟨_,EndsA,ZwX,?_⟩|refine fin ?_)|(refine jn ?_;(try intro F);(first|(refine bx ?_;intro bk)|(refine stA ?_)|(apply Zac;first|exact Zud|exact PuA));first|refine⟨_,EndsA,ZwX,?_⟩|refine fin ?_)|(apply RD_W;rfl;intro bk))
    exact rtC
  ·have e2:decide (dd.tmod 7=1)=false:=decide_eq_false h
   rw[if_neg fun q=>h q.1]
   show Does _ _ [.agg #[.string nm,.int .i64 fr,.int .i64 to,.int .i64 mo,.int .i64 3,.int .i64 dw,.int .i64 dd,.int .i64 cs,.int .i64 cb,.int .i64 sv,.string le]] w _
   refine Zaa Tryz.func94 rfl rfl rfl rfl ?_
   repeat (first|refine und ?_|(apply RL_pu;rfl;exact Zuc)|(apply RD_Q;rfl;rfl;decide +kernel;rfl;rfl;exact ZwE)|refine walk1 ?_|(refine jg ?_;(try intro F);(first|(refine Zab (fun w' _=>hln w') ?_)|(refine Zab (fun w' _=>hjl w') ?_)|(refine bx ?_;intro bk)|(refine stA ?_));first|refine⟨_,EndsA,ZwW,?_⟩|refine fin ?_)|(refine jn ?_;(try intro F);(first|(refine bx ?_;intro bk)|(refine stA ?_)|(apply Zac;first|exact Zuc|exact PuA));first|refine⟨_,EndsA,ZwW,?_⟩|refine fin ?_)|(apply RD_W;rfl;intro bk))
   exact rtC
 ·rw[show Zl1 mo ⟨4,dw,dd⟩=(dt0,false) from rfl]
  show Does _ _ [.agg #[.string nm,.int .i64 fr,.int .i64 to,.int .i64 mo,.int .i64 4,.int .i64 dw,.int .i64 dd,.int .i64 cs,.int .i64 cb,.int .i64 sv,.string le]] w _
  refine Zaa Tryz.func94 rfl rfl rfl rfl ?_
  repeat (first|refine und ?_|refine walk ?_|(refine jg ?_;(try intro F);(first|(refine Zab (fun w' _=>hln w') ?_)|(refine Zab (fun w' _=>hjl w') ?_)|(refine bx ?_;intro bk)|(refine stA ?_));refine fin ?_)|(refine jn ?_;(try intro F);(first|(refine bx ?_;intro bk)|(refine stA ?_)|(apply Zac;exact PuA));refine fin ?_)|(apply RD_W;rfl;intro bk))
  exact rtC
theorem Zfk {G:Prop}(h:G:=by(first|(apply Zal;rfl;rfl;exact e1)|(apply Zaz;rfl;rfl;exact e2)|(apply Zaw;rfl;rfl;exact e3))):G:=h
theorem ZuT (r:DRule)(off before:Int)(h:Ze2 r=true)(w:World):Does Tryz.prog 48 [.agg r.enc.toArray,.int .i64 off,.int .i64 before] w (fun v O=>v=ZqQ (dt0,2)/\O=[]):=by
 have hdc:=fun w'=>ZeF r.day w'
 have hcc:=fun w'=>ZeE r.at_ w'
 unfold Ze2 at h
 obtain⟨nm,fr,to,mo,⟨dk,dw,dd⟩,⟨cs,cb⟩,sv,le⟩:=r
 dsimp only at h hdc hcc
 generalize Za8 ⟨dk,dw,dd⟩=c1 at *
 generalize ZaH ⟨cs,cb⟩=c2 at *
 show Does _ _ [.agg #[.string nm,.int .i64 fr,.int .i64 to,.int .i64 mo,.int .i64 dk,.int .i64 dw,.int .i64 dd,.int .i64 cs,.int .i64 cb,.int .i64 sv,.string le],.int .i64 off,.int .i64 before] w _
 refine Zaa Tryz.func48 rfl rfl rfl rfl ?_
 by_cases h1:to=1048576
 ·have e1:(!decide (to=1048576))=false:=by rw[decide_eq_true h1];rfl
  by_cases h2:mo<1
  ·have e2:decide (mo<1)=true:=decide_eq_true h2
   repeat (first|refine und ?_|(apply RL_pu;rfl;exact Zfk)|(refine js ?_;(refine bx ?_;intro bk))|refine walk1 ?_)
   exact rtC
  have e2:decide (mo<1)=false:=decide_eq_false h2
  by_cases h3:12<mo
  ·have e3:decide (12<mo)=true:=decide_eq_true h3
   repeat (first|refine und ?_|(apply RL_pu;rfl;exact Zfk)|(refine js ?_;(refine bx ?_;intro bk))|refine walk1 ?_)
   exact rtC
  have e3:decide (12<mo)=false:=decide_eq_false h3
  cases c1 with
  | false =>
   repeat (first|refine und ?_|(apply RL_pu;rfl;exact Zfk)|(refine js ?_;(first|(refine Zab (fun w' hw=>hdc w') ?_)|(refine Zab (fun w' hw=>hcc w') ?_)|(refine bx ?_;intro bk)))|refine walk1 ?_)
   exact rtC
  | true =>
  cases c2 with
  | false =>
   repeat (first|refine und ?_|(apply RL_pu;rfl;exact Zfk)|(refine js ?_;(first|(refine Zab (fun w' hw=>hdc w') ?_)|(refine Zab (fun w' hw=>hcc w') ?_)|(refine bx ?_;intro bk)))|refine walk1 ?_)
   exact rtC
  | true =>
   exfalso
   rw[e1,e2,e3]at h
   cases h
 ·have e1:(!decide (to=1048576))=true:=by rw[decide_eq_false h1];rfl
  repeat (first|refine und ?_|(apply RL_pu;rfl;exact Zfk)|(refine js ?_;(refine bx ?_;intro bk))|refine walk1 ?_)
  exact rtC
theorem Zd2 {G G':Prop}(k:G')(h:Hold G'->G:=by intro k9;(first|refine und ?_|(apply RL_pu;rfl;exact Zfk)|(refine js ?_;(first|(refine Zab (fun w' hw=>hdc w') ?_)|(refine Zab (fun w' hw=>hcc w') ?_)|(refine Zab (fun w' _=>hds w') ?_)|(refine Zab (fun w' hw=>hw1 w') ?_)|(refine Zab (fun w' hw=>hw2 w') ?_)|(refine Zab (fun w' hw=>hw3 w') ?_)))|refine walk1 ?_);exact k9.out):G:=h ⟨k⟩
set_option maxHeartbeats 4000000 in
theorem Zi6 (r:DRule)(off before:Int)(w:World):Does Tryz.prog 48 [.agg r.enc.toArray,.int .i64 off,.int .i64 before] w (fun v O=>v=ZqQ (ZdK r off before)/\O=[]):=by
 cases hno:Ze2 r with
 | true =>
  rw[Zpa hno]
  exact ZuT r off before hno w
 | false =>
 obtain⟨h1,h2,h3,h4,h5⟩:=ZoV hno
 obtain⟨b1,b2,b3⟩:=Zcm h4
 have hdc:=fun w'=>ZeF r.day w'
 have hcc:=fun w'=>ZeE r.at_ w'
 have hds:=fun w'=>ZrH r ⟨h2,h3⟩ h4 w'
 unfold Zl1 at hds
 have hw1:=fun w'=>Zc3 off w'
 have hw2:=fun w'=>Zc3 before w'
 have hw3:=fun w'=>Zc3 (secD r off before) w'
 have hsb:=fun(q1:ZbY off=true) (q2:ZbY before=true)=>Zrz h5 q1 q2
 rw[h4]at hdc
 rw[h5]at hcc
 unfold ZdK
 rw[hno,if_neg (by decide)]
 generalize hsd:secD r off before=sc at *
 unfold secD at hsd
 generalize ZdX r.month r.day=x at *
 clear h4 h5 hno
 obtain⟨nm,fr,to,mo,⟨dk,dw,dd⟩,⟨cs,cb⟩,sv,le⟩:=r
 obtain⟨⟨x1,x2,x3,x4,x5⟩,ok⟩:=x
 dsimp only at h1 h2 h3 b1 b3 hdc hcc hds hsb hsd ⊢
 subst h1
 have e2:decide (mo<1)=false:=decide_eq_false (by omega)
 have e3:decide (12<mo)=false:=decide_eq_false (by omega)
 show Does _ _ [.agg #[.string nm,.int .i64 fr,.int .i64 1048576,.int .i64 mo,.int .i64 dk,.int .i64 dw,.int .i64 dd,.int .i64 cs,.int .i64 cb,.int .i64 sv,.string le],.int .i64 off,.int .i64 before] w _
 refine Zaa Tryz.func48 rfl rfl rfl rfl ?_
 cases ok with
 | false =>
  rw[if_neg (by decide)]at hds
  rw[if_pos rfl]
  repeat (first|refine und ?_|(apply RL_pu;rfl;exact Zfk)|(refine js ?_;(first|(refine Zab (fun w' hw=>hdc w') ?_)|(refine Zab (fun w' hw=>hcc w') ?_)|(refine Zab (fun w' _=>hds w') ?_)|(refine bx ?_;intro bk)))|refine walk1 ?_)
  exact rtC
 | true =>
 rw[if_pos rfl]at hds
 rw[if_neg (by decide)]
 generalize ZbY off=i1 at *
 generalize ZbY before=i2 at *
 cases i1 with
 | false =>
  rw[if_pos (.inl rfl)]
  repeat (first|refine Zd2 ?_|(refine js ?_;(refine bx ?_;intro bk)))
  exact rtC
 | true =>
 cases i2 with
 | false =>
  rw[if_pos (.inr rfl)]
  repeat (first|refine Zd2 ?_|(refine js ?_;(refine bx ?_;intro bk)))
  exact rtC
 | true =>
 rw[if_neg (by decide)]
 obtain⟨q1,q2,q3,q4,q5,q6,q7⟩:=hsb rfl rfl
 clear hsb
 have hcb:cb=0\/cb=1\/cb=2:=by omega
 generalize ZbY sc=i3 at *
 rcases hcb with rfl|rfl|rfl
 ·obtain rfl:cs=sc:=by rw[<- hsd];simp
  cases i3 with
  | false =>
   repeat (first|refine Zd2 ?_|(refine js ?_;(refine bx ?_;intro bk)))
   exact rtC
  | true =>
   repeat (first|refine Zd2 ?_|(refine js ?_;(refine bx ?_;intro bk)))
   exact rtC
 ·obtain rfl:cs+before=sc:=by rw[<- hsd];simp
  cases i3 with
  | false =>
   repeat (first|refine Zd2 ?_|(refine js ?_;(refine bx ?_;intro bk)))
   exact rtC
  | true =>
   repeat (first|refine Zd2 ?_|(refine js ?_;(refine bx ?_;intro bk)))
   exact rtC
 ·obtain rfl:cs+before+off=sc:=by rw[<- hsd];simp only[if_true,true_or];omega
  cases i3 with
  | false =>
   repeat (first|refine Zd2 ?_|(refine js ?_;(refine bx ?_;intro bk)))
   exact rtC
  | true =>
   repeat (first|refine Zd2 ?_|(refine js ?_;(refine bx ?_;intro bk)))
   exact rtC
end Go.Proofs.YtpipekfmecikmaaGreatDoor
namespace Go.Wk
open Go Go.RowKit
theorem Zo7 (s:ByteArray)(i j:Nat):(s.extract i j).data.toList=(s.data.toList.drop i).take (j - i):=by
 rw[ByteArray.data_extract];simp[List.drop_take]
theorem Zvx {l:List UInt8}{f i:Nat}(h:f<=i)(hi:i<l.length):(l.drop f).take (i+1 - f)=(l.drop f).take (i - f)++[l[i]]:=by
 rw[show i+1 - f=(i - f)+1 by omega,List.take_add_one,List.getElem?_drop,show f+(i - f)=i by omega,List.getElem?_eq_getElem hi]
 rfl
end Go.Wk
namespace Go.Proofs.YtpipekfmecikmaaGreatDoor
open Go Go.RowKit Go.Wk
attribute [local irreducible] W RL Does Zat Zaj retQ Calls Pu Stp RD Qy Ay Zak
theorem ZxG {G:Prop}(h:G:=by(apply Zaz;rfl;rfl;exact b1)):G:=h
theorem Zt2 {G:Prop}(h:G:=by(first|(apply Za3;rfl;rfl;decide;omega;exact hgc)|(apply Zaz;rfl;rfl;exact b1)|(apply Zaw;rfl;rfl;exact b2)|(apply Zan;rfl;rfl;first|exact e1|exact e2))):G:=h
theorem ZAh {G:Prop}(h:G:=by(first|(apply Za3;rfl;rfl;omega;omega;exact hgc)|(apply Zal;rfl;rfl;first|exact e1|exact e2|exact e3|exact e4))):G:=h
theorem Zhi {G G':Prop}(k:G')(h:Hold G'->G:=by intro k9;(first|refine und ?_|(apply RL_pu;rfl;exact ZAh)|(refine js ?_;(first|(refine Zab (fun w' _=>hcl w') ?_)|(refine Zab (fun w' _=>hcd w') ?_)))|refine walk1 ?_);exact k9.out):G:=h ⟨k⟩
set_option maxHeartbeats 1000000 in
theorem Zi3 (s:ByteArray)(hs:(s.size:Int)<=9223372036854775807)(w:World):Does Tryz.prog 250 [.string s] w (fun v O=>v = .bool (Zf3 s.data.toList)/\O=[]):=by
 have hL:s.data.toList.length=s.size:=rfl
 obtain⟨R,hR⟩:∃ R,(s.data.toList.all fun c=>Znq c.toNat)=R:=⟨_,rfl⟩
 have hN:Zf3 s.data.toList=((decide (1<=s.size)&&decide (s.size<=14)&&R)&&!(decide (s.data.toList.getD 0 0=46)||decide (s.data.toList.getD 0 0=45))):=by
  unfold Zf3 ZbK Zby
  rw[<- hR,hL]
  have hf:(fun c:UInt8 => !decide (ZbE c.toNat &&& 31=0))=fun c=>Znq c.toNat:=funext Zq0
  rw[hf]
  cases hd:s.data.toList with
  | nil=>rw[hd]at hL;rw[show s.size=0 from hL.symm];rfl
  | cons x l=>rfl
 refine Zaa Tryz.func250 rfl rfl rfl rfl ?_
 by_cases h1:s.size<1
 ·have b1:decide ((s.size:Int)<1)=true:=decide_eq_true (by omega)
  rw[show Zf3 s.data.toList=false by rw[hN,decide_eq_false (show ¬ 1<=s.size by omega)];rfl]
  repeat (first|refine und ?_|(apply RL_pu;rfl;exact ZxG)|refine walk1 ?_)
  exact rtA
 have b1:decide ((s.size:Int)<1)=false:=decide_eq_false (by omega)
 by_cases h2:14<s.size
 ·have b2:decide (14<(s.size:Int))=true:=decide_eq_true (by omega)
  rw[show Zf3 s.data.toList=false by rw[hN,decide_eq_false (show ¬ s.size<=14 by omega),Bool.and_false];rfl]
  repeat (first|refine und ?_|(apply RL_pu;rfl;(first|exact ZxG|(apply Zaw;rfl;rfl;exact b2)))|refine walk1 ?_)
  exact rtA
 have b2:decide (14<(s.size:Int))=false:=decide_eq_false (by omega)
 obtain⟨c,hgc⟩:∃ c,s.data.toList.getD ((0:Int)).toNat 0=c:=⟨_,rfl⟩
 rw[show s.data.toList.getD 0 0=c from hgc,decide_eq_true (show 1<=s.size by omega),decide_eq_true (show s.size<=14 by omega)]at hN
 have u46:decide ((c.toNat:Int)=46)=decide (c=46):=by
  rw[decide_eq_decide]
  constructor
  ·intro h;exact UInt8.toNat_inj.1 (by show c.toNat=46;omega)
  ·intro h;rw[h];rfl
 have u45:decide ((c.toNat:Int)=45)=decide (c=45):=by
  rw[decide_eq_decide]
  constructor
  ·intro h;exact UInt8.toNat_inj.1 (by show c.toNat=45;omega)
  ·intro h;rw[h];rfl
 obtain⟨z1,e1⟩:∃ z1,decide ((c.toNat:Int)=46)=z1:=⟨_,rfl⟩
 obtain⟨z2,e2⟩:∃ z2,decide ((c.toNat:Int)=45)=z2:=⟨_,rfl⟩
 rw[<- u46,<- u45,e1,e2]at hN
 cases z1 with
 | true =>
  rw[hN,Bool.true_or,Bool.not_true,Bool.and_false]
  repeat (first|refine und ?_|(apply RL_pu;rfl;exact Zt2)|refine walk1 ?_)
  exact rtA
 | false =>
 cases z2 with
 | true =>
  rw[hN,Bool.or_true,Bool.not_true,Bool.and_false]
  repeat (first|refine und ?_|(apply RL_pu;rfl;exact Zt2)|refine walk1 ?_)
  exact rtA
 | false =>
 rw[show Zf3 s.data.toList=R by rw[hN,Bool.or_false,Bool.not_false,Bool.and_true];rfl]
 repeat (first|refine und ?_|(apply RL_pu;rfl;exact Zt2)|refine walk1 ?_)
 clear hgc hN e1 e2 u46 u45
 refine Zai [(0,.string s)] [] (fun k:Nat=>[(3,.int .i64 k)]) (fun _=>[]) (fun k=>k<=s.size/\((s.data.toList.drop k).all fun c=>Znq c.toNat)=R) (fun k=>s.size - k) 0 SFA SOA ⟨Nat.zero_le _,hR⟩ ?_
 rintro k ⟨hk,hi⟩
 repeat (first|refine walk ?_)
 refine Zaf rfl (fun hc=>?_) (fun hc=>?_)
 ·simp only[decide_eq_true_eq,Int.ofNat_lt]at hc
  have hgc:s.data.toList.getD ((k:Int)).toNat 0=s.data.toList[k]:=Zc5 (by omega)
  rw[Zag (show k<s.data.toList.length by omega),List.all_cons]at hi
  generalize s.data.toList[k]=d at *
  unfold Znq at hi
  have hcl:=fun w'=>Zcj d.toNat w'
  have hcd:=fun w'=>ZhD d.toNat w'
  generalize letC d.toNat=x at *
  generalize digC d.toNat=y at *
  obtain⟨z1,e1⟩:∃ z1,(!decide ((d.toNat:Int)=46))=z1:=⟨_,rfl⟩
  obtain⟨z2,e2⟩:∃ z2,(!decide ((d.toNat:Int)=95))=z2:=⟨_,rfl⟩
  obtain⟨z3,e3⟩:∃ z3,(!decide ((d.toNat:Int)=43))=z3:=⟨_,rfl⟩
  obtain⟨z4,e4⟩:∃ z4,(!decide ((d.toNat:Int)=45))=z4:=⟨_,rfl⟩
  rw[show decide ((d.toNat:Int)=46) = !z1 by rw[<- e1,Bool.not_not],show decide ((d.toNat:Int)=95) = !z2 by rw[<- e2,Bool.not_not],show decide ((d.toNat:Int)=43) = !z3 by rw[<- e3,Bool.not_not],show decide ((d.toNat:Int)=45) = !z4 by rw[<- e4,Bool.not_not]]at hi
  have go:∀ q:Bool,(x||(y||(!z1||(!z2||(!z3||!z4)))))=q->(q&&(s.data.toList.drop (k+1)).all fun c=>Znq c.toNat)=R:=fun q hq=>by rw[<- hq];exact hi
  cases x with
  | true =>
   repeat refine Zhi ?_
   exact⟨k+1,OA,⟨OA,by simpa using go true rfl⟩,SFA,SOA⟩
  | false =>
  cases y with
  | true =>
   repeat refine Zhi ?_
   exact⟨k+1,OA,⟨OA,by simpa using go true rfl⟩,SFA,SOA⟩
  | false =>
  cases z1 with
  | false =>
   repeat refine Zhi ?_
   exact⟨k+1,OA,⟨OA,by simpa using go true rfl⟩,SFA,SOA⟩
  | true =>
  cases z2 with
  | false =>
   repeat refine Zhi ?_
   exact⟨k+1,OA,⟨OA,by simpa using go true rfl⟩,SFA,SOA⟩
  | true =>
  cases z3 with
  | false =>
   repeat refine Zhi ?_
   exact⟨k+1,OA,⟨OA,by simpa using go true rfl⟩,SFA,SOA⟩
  | true =>
  cases z4 with
  | false =>
   repeat refine Zhi ?_
   exact⟨k+1,OA,⟨OA,by simpa using go true rfl⟩,SFA,SOA⟩
  | true =>
   have:=go false rfl
   rw[Bool.false_and]at this
   subst this
   repeat refine Zhi ?_
   exact rtA
 ·simp only[decide_eq_false_iff_not,Int.ofNat_lt]at hc
  rw[List.drop_eq_nil_of_le (by omega),List.all_nil]at hi
  subst hi
  repeat (first|refine walk ?_)
  exact rtA
structure RzG where
 i:Nat
 f:Nat
theorem ZxF {G:Prop}(h:G:=by(first|(apply Za3;rfl;rfl;omega;omega;exact hgc)|(apply Zan;rfl;rfl;exact b1)|(apply ZeQ;rfl;rfl;rfl;omega;omega;omega;rfl))):G:=h
theorem ZxE {G:Prop}(h:G:=by(apply Zgn;rfl;rfl;omega;omega)):G:=h
theorem Zi7 (s:ByteArray)(hs:(s.size:Int)<=9223372036854775807)(w:World):Does Tryz.prog 193 [.string s] w (fun v O=>v = .bool (ZeS s)/\O=[]):=by
 have hL:s.data.toList.length=s.size:=rfl
 have hex:∀ i j,((s.extract i j).size:Int)<=9223372036854775807:=fun i j=>by rw[ByteArray.size_extract];omega
 unfold ZeS
 obtain⟨R,hR⟩:∃ R,(ZdY s.data.toList []).all Zf3=R:=⟨_,rfl⟩
 rw[hR]
 refine Zaa Tryz.func193 rfl rfl rfl rfl ?_
 repeat (first|refine walk ?_)
 refine Zai [(0,.string s)] [] (fun g:RzG=>[(3,.int .i64 g.f),(4,.int .i64 g.i)]) (fun _=>[]) (fun g=>g.f<=g.i/\g.i<=s.size/\(ZdY (s.data.toList.drop g.i) ((s.data.toList.drop g.f).take (g.i - g.f))).all Zf3=R) (fun g=>s.size - g.i) ⟨0,0⟩ SFA SOA ⟨Nat.le_refl _,Nat.zero_le _,hR⟩ ?_
 rintro⟨i,f⟩ ⟨h1,h2,hi⟩
 dsimp only at h1 h2 hi ⊢
 repeat (first|refine walk ?_)
 refine Zaf rfl (fun hc=>?_) (fun hc=>?_)
 ·simp only[decide_eq_true_eq,Int.ofNat_lt]at hc
  have hgc:s.data.toList.getD ((i:Int)).toNat 0=s.data.toList[i]:=Zc5 (by omega)
  have hg:=Zvx h1 (show i<s.data.toList.length by omega)
  rw[Zag (show i<s.data.toList.length by omega),ZdY]at hi
  generalize s.data.toList[i]=d at *
  have u47:((d.toNat:Int)=47)↔d=47:=by
   constructor
   ·intro h;exact UInt8.toNat_inj.1 (by show d.toNat=47;omega)
   ·intro h;rw[h];rfl
  by_cases hd:d=47
  ·have b1:decide ((d.toNat:Int)=47)=true:=decide_eq_true (u47.2 hd)
   rw[if_pos hd,List.all_cons]at hi
   have hp:=fun w'=>Zi3 (s.extract f i) (hex f i) w'
   rw[Zo7]at hp
   generalize Zf3 ((s.data.toList.drop f).take (i - f))=pb at *
   cases pb with
   | true =>
    rw[Bool.true_and]at hi
    repeat (first|(apply RL_pu;rfl;exact ZxF)|(refine js ?_;(refine Zab (fun w' _=>hp w') ?_))|refine walk1 ?_)
    exact⟨⟨i+1,i+1⟩,OA,⟨OA,OA,by dsimp only;rw[Nat.sub_self,List.take_zero];exact hi⟩,SFA,SOA⟩
   | false =>
    rw[Bool.false_and]at hi
    subst hi
    repeat (first|(apply RL_pu;rfl;exact ZxF)|(refine js ?_;(refine Zab (fun w' _=>hp w') ?_))|refine walk1 ?_)
    exact ret_1 _ [] (.tmp rfl) .nil ⟨by rw[Bool.and_false],rfl⟩
  ·have b1:decide ((d.toNat:Int)=47)=false:=decide_eq_false (fun e=>hd (u47.1 e))
   rw[if_neg hd,<- hg]at hi
   repeat (first|(apply RL_pu;rfl;(first|(apply Za3;rfl;rfl;omega;omega;exact hgc)|(apply Zan;rfl;rfl;exact b1)))|refine walk1 ?_)
   exact⟨⟨i+1,f⟩,OA,⟨OA,OA,hi⟩,SFA,SOA⟩
 ·simp only[decide_eq_false_iff_not,Int.ofNat_lt]at hc
  obtain rfl:i=s.size:=by omega
  rw[List.drop_eq_nil_of_le (by omega),ZdY,List.all_cons,List.all_nil,Bool.and_true]at hi
  have hp:=fun w'=>Zi3 (s.extract f s.size) (hex f s.size) w'
  rw[Zo7,hi]at hp
  cases R with
  | true =>
   rw[Bool.and_true,show decide (s.size<=60)=decide ((s.size:Int)<=60) by rw[decide_eq_decide];omega]
   repeat (first|(apply RL_pu;rfl;exact ZxE)|(refine js ?_;(refine Zab (fun w' _=>hp w') ?_))|refine walk1 ?_)
   exact rtA
  | false =>
   rw[Bool.and_false]
   repeat (first|refine und ?_|(apply RL_pu;rfl;exact ZxE)|(refine js ?_;(refine Zab (fun w' _=>hp w') ?_))|refine walk1 ?_)
   exact rtA
def ixN:Option Nat->Int
 | some i=>i
 | none => -1
theorem ZnE (o:Option Nat):decide ((0:Int)<=ixN o)=o.isSome:=by
 cases o with
 | none=>rfl
 | some i=>exact decide_eq_true (show(0:Int)<=(i:Int) by omega)
def Zh9 (s:DSource):Nat->ByteArray->Nat × Int
 | 0,_=>(0,11)
 | f+1,x =>
  match ZaO x s.zones 0 with
  | some i=>(i,0)
  | none=>match ZaR x s.links 0 with
   | none=>(0,9)
   | some i=>Zh9 s f ((s.links[i]?).map (·.target) |>.getD ByteArray.empty)
theorem ZlP {z:DZone}:∀ (l:List DZone) (k i:Nat),l[i]?=some z->∃ j,ZaO z.name l k=some j/\j<=k+i
 | [],_,i,h=>by simp at h
 | y::l,k,i,h=>by
  rw[ZaO]
  by_cases hy:y.name=z.name
  ·rw[if_pos hy];exact⟨k,rfl,Nat.le_add_right _ _⟩
  ·rw[if_neg hy]
   cases i with
   | zero=>simp only[List.getElem?_cons_zero,Option.some.injEq]at h;rw[h]at hy;exact absurd rfl hy
   | succ i =>
    obtain⟨j,h1,h2⟩:=ZlP l (k+1) i (by simpa using h)
    exact⟨j,h1,by omega⟩
theorem ZlQ {z:DLink}:∀ (l:List DLink) (k i:Nat),l[i]?=some z->∃ j,ZaR z.name l k=some j/\j<=k+i
 | [],_,i,h=>by simp at h
 | y::l,k,i,h=>by
  rw[ZaR]
  by_cases hy:y.name=z.name
  ·rw[if_pos hy];exact⟨k,rfl,Nat.le_add_right _ _⟩
  ·rw[if_neg hy]
   cases i with
   | zero=>simp only[List.getElem?_cons_zero,Option.some.injEq]at h;rw[h]at hy;exact absurd rfl hy
   | succ i =>
    obtain⟨j,h1,h2⟩:=ZlQ l (k+1) i (by simpa using h)
    exact⟨j,h1,by omega⟩
theorem ZfY (Ar Az Al As:Option Addr)(cr cz cl cs:Nat)(a:DSource)(x:ByteArray)(w:World)(hA:Zar w Ar Az Al As cr cz cl cs a)(hn:a.zones.length<=1000000) :
  Does Tryz.prog 100 [srcV Ar Az Al As cr cz cl cs a,.string x] w (fun v O=>v = .int .i64 (ixN (ZaO x a.zones 0))/\O=[]):=by
 obtain⟨R,hR⟩:∃ R,ZaO x a.zones 0=R:=⟨_,rfl⟩
 rw[hR]
 refine Zaa Tryz.func100 rfl rfl rfl rfl ?_
 repeat (first|(refine js ?_;(refine bx ?_;intro bk))|refine walk ?_)
 refine Zai [(1,.string x),(2,.pointer (some ⟨bk,0,none⟩))] [.blk bk [.slice Ar a.rules.length cr,.slice Az a.zones.length cz,.slice Al a.links.length cl,.slice As a.shifts.length cs] 27] (fun k:Nat=>[(5,.int .i64 k)]) (fun _=>[]) (fun k=>k<=a.zones.length/\ZaO x (a.zones.drop k) k=R) (fun k=>a.zones.length - k) 0 SFA SOA ⟨Nat.zero_le _,hR⟩ ?_
 clear hR
 rintro k ⟨hk,hi⟩
 repeat (first|(refine js ?_;(refine bx ?_;intro bk))|refine walk ?_)
 refine Zaf rfl (fun hc=>?_) (fun hc=>?_)
 ·simp only[decide_eq_true_eq,Int.ofNat_lt]at hc
  obtain⟨hna,cs1,⟨Ae,ce,hEz,rfl⟩,hca⟩:=hA.z k _ (List.getElem?_eq_getElem hc)
  rw[Zag hc,ZaO]at hi
  generalize a.zones[k]=z at *
  repeat (first|(apply RL_pu;rfl;exact PuI)|(refine js ?_;(refine bx ?_;intro bk))|refine walk1 ?_)
  refine Zaf rfl (fun h3=>?_) (fun h3=>?_)
  ·rw[if_pos (of_decide_eq_true h3)]at hi
   subst hi
   repeat (first|(refine js ?_;(refine bx ?_;intro bk))|refine walk ?_)
   exact rtA
  ·rw[if_neg (of_decide_eq_false h3)]at hi
   repeat (first|(refine js ?_;(refine bx ?_;intro bk))|refine walk ?_)
   exact⟨k+1,OA,⟨OA,hi⟩,SFA,SOA⟩
 ·simp only[decide_eq_false_iff_not,Int.ofNat_lt]at hc
  rw[List.drop_eq_nil_of_le (by omega),ZaO]at hi
  subst hi
  repeat (first|(refine js ?_;(refine bx ?_;intro bk))|refine walk ?_)
  exact rtA
theorem Zf0 (Ar Az Al As:Option Addr)(cr cz cl cs:Nat)(a:DSource)(x:ByteArray)(w:World)(hA:Zar w Ar Az Al As cr cz cl cs a)(hn:a.links.length<=1000000) :
  Does Tryz.prog 101 [srcV Ar Az Al As cr cz cl cs a,.string x] w (fun v O=>v = .int .i64 (ixN (ZaR x a.links 0))/\O=[]):=by
 obtain⟨R,hR⟩:∃ R,ZaR x a.links 0=R:=⟨_,rfl⟩
 rw[hR]
 refine Zaa Tryz.func101 rfl rfl rfl rfl ?_
 repeat (first|(refine js ?_;(refine bx ?_;intro bk))|refine walk ?_)
 refine Zai [(1,.string x),(2,.pointer (some ⟨bk,0,none⟩))] [.blk bk [.slice Ar a.rules.length cr,.slice Az a.zones.length cz,.slice Al a.links.length cl,.slice As a.shifts.length cs] 27] (fun k:Nat=>[(5,.int .i64 k)]) (fun _=>[]) (fun k=>k<=a.links.length/\ZaR x (a.links.drop k) k=R) (fun k=>a.links.length - k) 0 SFA SOA ⟨Nat.zero_le _,hR⟩ ?_
 clear hR
 rintro k ⟨hk,hi⟩
 repeat (first|(refine js ?_;(refine bx ?_;intro bk))|refine walk ?_)
 refine Zaf rfl (fun hc=>?_) (fun hc=>?_)
 ·simp only[decide_eq_true_eq,Int.ofNat_lt]at hc
  obtain⟨hna,hca⟩:=hA.l.rd k _ (List.getElem?_eq_getElem hc)
  rw[Zag hc,ZaR]at hi
  generalize a.links[k]=z at *
  repeat (first|(apply RL_pu;rfl;exact PuI)|(refine js ?_;(refine bx ?_;intro bk))|refine walk1 ?_)
  refine Zaf rfl (fun h3=>?_) (fun h3=>?_)
  ·rw[if_pos (of_decide_eq_true h3)]at hi
   subst hi
   repeat (first|(refine js ?_;(refine bx ?_;intro bk))|refine walk ?_)
   exact rtA
  ·rw[if_neg (of_decide_eq_false h3)]at hi
   repeat (first|(refine js ?_;(refine bx ?_;intro bk))|refine walk ?_)
   exact⟨k+1,OA,⟨OA,hi⟩,SFA,SOA⟩
 ·simp only[decide_eq_false_iff_not,Int.ofNat_lt]at hc
  rw[List.drop_eq_nil_of_le (by omega),ZaR]at hi
  subst hi
  repeat (first|(refine js ?_;(refine bx ?_;intro bk))|refine walk ?_)
  exact rtA
theorem Zxx {G:Prop}(h:G:=by(apply Zb6;rfl;rfl;first|exact b1|exact b2)):G:=h
theorem Zm9 (Ar Az Al As:Option Addr)(cr cz cl cs:Nat)(a:DSource)(x:ByteArray)(w:World)(hA:Zar w Ar Az Al As cr cz cl cs a)(hn:a.zones.length<=1000000)(hn2:a.links.length<=1000000) :
  Does Tryz.prog 194 [srcV Ar Az Al As cr cz cl cs a,.string x] w (fun v O=>v = .bool ((ZaO x a.zones 0).isSome||(ZaR x a.links 0).isSome)/\O=[]):=by
 have hz:=fun w' (hw:Bel w.heap.size w w')=>ZfY Ar Az Al As cr cz cl cs a x w' (hA.up hw) hn
 have hl:=fun w' (hw:Bel w.heap.size w w')=>Zf0 Ar Az Al As cr cz cl cs a x w' (hA.up hw) hn2
 have b1:=ZnE (ZaO x a.zones 0)
 have b2:=ZnE (ZaR x a.links 0)
 generalize ZaO x a.zones 0=o1 at *
 generalize ZaR x a.links 0=o2 at *
 generalize ixN o1=n1 at *
 generalize ixN o2=n2 at *
 refine Zaa Tryz.func194 rfl rfl rfl rfl ?_
 generalize o1.isSome=z1 at *
 generalize o2.isSome=z2 at *
 cases z1 with
 | true =>
  repeat (first|refine und ?_|(apply RL_pu;rfl;exact Zxx)|(refine js ?_;(first|(refine Zab hz ?_)|(refine Zab hl ?_)|(refine bx ?_;intro bk)))|refine walk1 ?_)
  exact rtA
 | false =>
  repeat (first|refine und ?_|(apply RL_pu;rfl;exact Zxx)|(refine js ?_;(first|(refine Zab hz ?_)|(refine Zab hl ?_)|(refine bx ?_;intro bk)))|refine walk1 ?_)
  exact rtA
structure ZAz where
 k:Nat
 x:ByteArray
theorem Zqo (Ar Az Al As:Option Addr)(cr cz cl cs:Nat)(a:DSource)(x:ByteArray)(w:World)(hA:Zar w Ar Az Al As cr cz cl cs a)(hn:a.zones.length<=1000000)(hn2:a.links.length<=1000000) :
  Does Tryz.prog 53 [srcV Ar Az Al As cr cz cl cs a,.string x] w (fun v O=>v = .tuple #[.int .i64 (Zh9 a (a.links.length+1) x).1,.int .i64 (Zh9 a (a.links.length+1) x).2]/\O=[]):=by
 obtain⟨R,hR⟩:∃ R,Zh9 a (a.links.length+1) x=R:=⟨_,rfl⟩
 rw[hR]
 have hzs:=fun x w' (hw:Bel w.heap.size w w')=>ZfY Ar Az Al As cr cz cl cs a x w' (hA.up hw) hn
 have hls:=fun x w' (hw:Bel w.heap.size w w')=>Zf0 Ar Az Al As cr cz cl cs a x w' (hA.up hw) hn2
 refine Zaa Tryz.func53 rfl rfl rfl rfl ?_
 repeat (first|(refine js ?_;(refine bx ?_;intro bk))|refine walk ?_)
 refine Zai [(2,.pointer (some ⟨bk,0,none⟩))] [.blk bk [.slice Ar a.rules.length cr,.slice Az a.zones.length cz,.slice Al a.links.length cl,.slice As a.shifts.length cs] 27] (fun g:ZAz=>[(1,.string g.x),(6,.int .i64 g.k)]) (fun _=>[]) (fun g=>g.k<=a.links.length+1/\Zh9 a (a.links.length+1 - g.k) g.x=R) (fun g=>a.links.length+1 - g.k) ⟨0,x⟩ SFA SOA ⟨Nat.zero_le _,hR⟩ ?_
 clear hR
 rintro⟨k,x⟩ ⟨hk,hi⟩
 dsimp only at hk hi ⊢
 repeat (first|(refine js ?_;(refine bx ?_;intro bk))|refine walk ?_)
 refine Zaf rfl (fun hc=>?_) (fun hc=>?_)
 ·simp only[decide_eq_true_eq,Int.ofNat_le]at hc
  rw[show a.links.length+1 - k=(a.links.length - k)+1 by omega,Zh9]at hi
  have hz:=hzs x
  have hl:=hls x
  have hlt:=fun i=>Zh6 x a.links 0 i
  cases h1:ZaO x a.zones 0 with
  | some i =>
   rw[h1]at hi hz
   dsimp only at hi
   subst hi
   have b1:decide ((0:Int)<=(i:Int))=true:=decide_eq_true (by omega)
   simp only[ixN]at hz
   repeat (first|(apply RL_pu;rfl;(apply Zb6;rfl;rfl;exact b1))|(refine js ?_;(first|(refine Zab hz ?_)|(refine bx ?_;intro bk)))|refine walk1 ?_)
   exact rtB
  | none =>
   rw[h1]at hi hz
   dsimp only at hi
   simp only[ixN]at hz
   cases h2:ZaR x a.links 0 with
   | none =>
    rw[h2]at hi hl
    dsimp only at hi
    subst hi
    simp only[ixN]at hl
    repeat (first|(refine js ?_;(first|(refine Zab hz ?_)|(refine Zab hl ?_)|(refine bx ?_;intro bk)))|refine walk ?_)
    exact rtB
   | some i =>
    have hil:=(hlt i h2).2
    rw[h2]at hi hl
    dsimp only at hi
    simp only[ixN]at hl
    have b1:decide ((i:Int)<0)=false:=decide_eq_false (by omega)
    have hil2:i<a.links.length:=by omega
    obtain⟨hna,hca⟩:=hA.l.rd i _ (List.getElem?_eq_getElem hil2)
    rw[List.getElem?_eq_getElem hil2,Option.map_some,Option.getD_some]at hi
    generalize a.links[i]=z at *
    repeat (first|(apply RL_pu;rfl;(first|exact PuI|(apply Zaz;rfl;rfl;exact b1)))|(refine js ?_;(first|(refine Zab hz ?_)|(refine Zab hl ?_)|(refine bx ?_;intro bk)))|refine walk1 ?_)
    exact⟨⟨k+1,z.target⟩,OA,⟨OA,by dsimp only;rw[show a.links.length+1 - (k+1)=a.links.length - k by omega];exact hi⟩,SFA,SOA⟩
 ·simp only[decide_eq_false_iff_not,Int.ofNat_le]at hc
  rw[show a.links.length+1 - k=0 by omega,Zh9]at hi
  subst hi
  repeat (first|(refine js ?_;(refine bx ?_;intro bk))|refine walk ?_)
  exact rtB
def ZlE:List DZone->Nat->Option Nat
 | [],_=>none
 | z::l,k=>if 60<z.eras.length then some k else ZlE l (k+1)
theorem ZoY:∀ (l:List DZone) (k:Nat),ZlE l k=(l.findIdx? fun z=>decide (60<z.eras.length)).map (·+k)
 | [],_=>rfl
 | z::l,k=>by
  rw[ZlE,List.findIdx?_cons]
  by_cases h:60<z.eras.length
  ·rw[if_pos h,decide_eq_true h];simp
  ·rw[if_neg h,decide_eq_false h,ZoY l (k+1)]
   simp only[Bool.false_eq_true,if_false,Option.map_map]
   congr 1
   funext x
   simp only[Function.comp]
   omega
theorem ZjZ {G:Prop}(h:G:=by(apply Zaw;rfl;rfl;first|exact b1|exact b2|exact b3|exact b4|exact b5)):G:=h
theorem Zxs {G:Prop}(h:G:=by(first|exact PuI|(apply Zaw;rfl;rfl;first|exact b1|exact b2|exact b3|exact b4|exact b5))):G:=h
theorem Zm5 (Ar Az Al As:Option Addr)(cr cz cl cs:Nat)(a:DSource)(w:World)(hA:Zar w Ar Az Al As cr cz cl cs a)(hS:ZcK a) :
  Does Tryz.prog 125 [srcV Ar Az Al As cr cz cl cs a] w (fun v O=>v=ptV (ZdS a)/\O=[]):=by
 have hnz:=hS.nz
 unfold ZdS
 rw[show(a.zones.findIdx? fun z=>decide (60<z.eras.length))=ZlE a.zones 0 by rw[ZoY];simp]
 obtain⟨R,hR⟩:∃ R,ZlE a.zones 0=R:=⟨_,rfl⟩
 rw[hR]
 refine Zaa Tryz.func125 rfl rfl rfl rfl ?_
 by_cases h1:2000<a.rules.length
 ·have b1:decide (2000<(a.rules.length:Int))=true:=decide_eq_true (by omega)
  rw[if_pos h1]
  simp only[ptV,plV,Zaq.enc]
  repeat (first|(apply RL_pu;rfl;exact ZjZ)|(refine js ?_;(refine bx ?_;intro bk))|refine walk1 ?_)
  exact rtC
 have b1:decide (2000<(a.rules.length:Int))=false:=decide_eq_false (by omega)
 rw[if_neg h1]
 by_cases h2:500<a.zones.length
 ·have b2:decide (500<(a.zones.length:Int))=true:=decide_eq_true (by omega)
  rw[if_pos h2]
  simp only[ptV,plV,Zaq.enc]
  repeat (first|(apply RL_pu;rfl;exact ZjZ)|(refine js ?_;(refine bx ?_;intro bk))|refine walk1 ?_)
  exact rtC
 have b2:decide (500<(a.zones.length:Int))=false:=decide_eq_false (by omega)
 rw[if_neg h2]
 repeat (first|(apply RL_pu;rfl;exact ZjZ)|(refine js ?_;(refine bx ?_;intro bk))|refine walk1 ?_)
 rename_i bs
 obtain⟨b2',hb2⟩:∃ b2,bk=b2:=⟨_,rfl⟩
 rw[hb2]
 clear hb2 bk
 refine Zai [(1,.pointer (some ⟨bs,0,none⟩)),(2,.pointer (some ⟨b2',0,none⟩))] [.blk b2' [.int .i64 0,.int .i64 0,.int .i64 0] 138,.blk bs [.slice Ar a.rules.length cr,.slice Az a.zones.length cz,.slice Al a.links.length cl,.slice As a.shifts.length cs] 27]
  (fun k:Nat=>[(4,.int .i64 k)]) (fun _=>[]) (fun k=>k<=a.zones.length/\ZlE (a.zones.drop k) k=R) (fun k=>a.zones.length - k) 0 SFA SOA ⟨Nat.zero_le _,hR⟩ ?_
 clear hR
 rintro k ⟨hk,hi⟩
 repeat (first|(refine js ?_;(refine bx ?_;intro bk))|refine walk ?_)
 refine Zaf rfl (fun hc=>?_) (fun hc=>?_)
 ·simp only[decide_eq_true_eq,Int.ofNat_lt]at hc
  obtain⟨hna,cs1,⟨Ae,ce,hEz,rfl⟩,hca⟩:=hA.z k _ (List.getElem?_eq_getElem hc)
  rw[Zag hc,ZlE]at hi
  generalize a.zones[k]=z at *
  by_cases h3:60<z.eras.length
  ·have b3:decide (60<(z.eras.length:Int))=true:=decide_eq_true (by omega)
   rw[if_pos h3]at hi
   subst hi
   simp only[ptV,plV,Zaq.enc]
   repeat (first|(apply RL_pu;rfl;exact Zxs)|(refine js ?_;(refine bx ?_;intro bk))|refine walk1 ?_)
   exact rtC
  ·have b3:decide (60<(z.eras.length:Int))=false:=decide_eq_false (by omega)
   rw[if_neg h3]at hi
   repeat (first|(apply RL_pu;rfl;exact Zxs)|(refine js ?_;(refine bx ?_;intro bk))|refine walk1 ?_)
   exact⟨k+1,OA,⟨OA,hi⟩,SFA,SOA⟩
 simp only[decide_eq_false_iff_not,Int.ofNat_lt]at hc
 rw[List.drop_eq_nil_of_le (by omega),ZlE]at hi
 subst hi
 dsimp only
 by_cases h4:1000<a.links.length
 ·have b4:decide (1000<(a.links.length:Int))=true:=decide_eq_true (by omega)
  rw[if_pos h4]
  simp only[ptV,plV,Zaq.enc]
  repeat (first|(apply RL_pu;rfl;exact ZjZ)|(refine js ?_;(refine bx ?_;intro bk))|refine walk1 ?_)
  exact rtC
 have b4:decide (1000<(a.links.length:Int))=false:=decide_eq_false (by omega)
 rw[if_neg h4]
 by_cases h5:2000<a.shifts.length
 ·have b5:decide (2000<(a.shifts.length:Int))=true:=decide_eq_true (by omega)
  rw[if_pos h5]
  simp only[ptV,plV,Zaq.enc]
  repeat (first|(apply RL_pu;rfl;exact ZjZ)|(refine js ?_;(refine bx ?_;intro bk))|refine walk1 ?_)
  exact rtC
 have b5:decide (2000<(a.shifts.length:Int))=false:=decide_eq_false (by omega)
 rw[if_neg h5]
 simp only[ptV,plV,Zaq.enc]
 repeat (first|(apply RL_pu;rfl;exact ZjZ)|(refine js ?_;(refine bx ?_;intro bk))|refine walk1 ?_)
 exact rtC
structure RuG where
 k:Nat
 i:Nat
theorem ZtT {G:Prop}(h:G:=by(first|exact PuI|(apply Zcc;rfl;rfl;exact b1))):G:=h
theorem Zlg (Ar Az Al As:Option Addr)(cr cz cl cs:Nat)(a:DSource)(x:ByteArray)(i:Nat)(w:World)(hA:Zar w Ar Az Al As cr cz cl cs a)(hn:a.rules.length<=1000000)(hi:i<=1000000) :
  Does Tryz.prog 189 [srcV Ar Az Al As cr cz cl cs a,.string x,.int .i64 i] w (fun v O=>v=plV (ZbN x a.rules i 0)/\O=[]):=by
 obtain⟨R,hR⟩:∃ R,ZbN x a.rules i 0=R:=⟨_,rfl⟩
 rw[hR]
 refine Zaa Tryz.func189 rfl rfl rfl rfl ?_
 repeat (first|(refine js ?_;(refine bx ?_;intro bk))|refine walk ?_)
 rename_i bs
 obtain⟨b6,hb6⟩:∃ b6,bk=b6:=⟨_,rfl⟩
 rw[hb6]
 clear hb6 bk
 refine Zai [(1,.string x),(3,.pointer (some ⟨bs,0,none⟩)),(6,.pointer (some ⟨b6,0,none⟩))] [.blk b6 [.int .i64 0,.int .i64 0,.int .i64 0] 138,.blk bs [.slice Ar a.rules.length cr,.slice Az a.zones.length cz,.slice Al a.links.length cl,.slice As a.shifts.length cs] 27]
  (fun g:RuG=>[(2,.int .i64 g.i),(7,.int .i64 g.k)]) (fun _=>[]) (fun g=>g.k<=a.rules.length/\g.i<=1000000/\ZbN x (a.rules.drop g.k) g.i g.k=R) (fun g=>a.rules.length - g.k) ⟨0,i⟩ SFA SOA ⟨Nat.zero_le _,hi,hR⟩ ?_
 clear hR
 rintro⟨k,j⟩ ⟨hk,hj,hi⟩
 dsimp only at hk hj hi ⊢
 repeat (first|(refine js ?_;(refine bx ?_;intro bk))|refine walk ?_)
 refine Zaf rfl (fun hc=>?_) (fun hc=>?_)
 ·simp only[decide_eq_true_eq,Int.ofNat_lt]at hc
  obtain⟨hna,hca⟩:=hA.r.rd k _ (List.getElem?_eq_getElem hc)
  rw[Zag hc,Zhw]at hi
  generalize a.rules[k]=r at *
  simp only[DRule.enc]at hca
  by_cases h3:r.name=x
  ·have b1:(!decide (r.name=x))=false:=by rw[decide_eq_true h3];rfl
   rw[if_pos h3]at hi
   cases j with
   | zero =>
    dsimp only at hi
    subst hi
    simp only[plV,Zaq.enc]
    repeat (first|(apply RL_pu;rfl;exact ZtT)|(refine js ?_;(refine bx ?_;intro bk))|refine walk1 ?_)
    exact ret_1 _ [] (.cellB rfl (by repeat' constructor) rfl rfl) .nil ⟨rfl,rfl⟩
   | succ j =>
    dsimp only at hi
    have b2:decide (((j+1:Nat):Int)=0)=false:=decide_eq_false (by omega)
    repeat (first|(apply RL_pu;rfl;(first|exact ZtT|(apply Zan;rfl;rfl;exact b2)))|(refine js ?_;(refine bx ?_;intro bk))|refine walk1 ?_)
    refine⟨⟨k+1,j⟩,OA,⟨OA,OA,hi⟩,?_,SOA⟩
    rw[show((j+1:Nat):Int) - 1=(j:Int) by omega]
    exact SFA
  ·have b1:(!decide (r.name=x))=true:=by rw[decide_eq_false h3];rfl
   rw[if_neg h3]at hi
   repeat (first|(apply RL_pu;rfl;exact ZtT)|(refine js ?_;(refine bx ?_;intro bk))|refine walk1 ?_)
   exact⟨⟨k+1,j⟩,OA,⟨OA,hj,hi⟩,SFA,SOA⟩
 simp only[decide_eq_false_iff_not,Int.ofNat_lt]at hc
 rw[List.drop_eq_nil_of_le (by omega),Zi1]at hi
 subst hi
 simp only[plV,Zaq.enc]
 repeat (first|(refine js ?_;(refine bx ?_;intro bk))|refine walk ?_)
 exact ret_1 _ [] (.cellB rfl (by repeat' constructor) rfl rfl) .nil ⟨rfl,rfl⟩
end Go.Proofs.YtpipekfmecikmaaGreatDoor
