/- Parts of the proof. -/
import Derived.Test.YtpipekfmecikmaaGreatDoorV06
import Derived.Laws.Strings2
set_option maxHeartbeats 4000000
set_option linter.unusedVariables false
set_option linter.unusedSimpArgs false
namespace Go.Proofs.YtpipekfmecikmaaGreatDoor
open Go Go.RowKit Go.Wk
attribute [local irreducible] W RL Does Zat Zaj retQ Calls Pu Stp RD Qy Ay Zak
theorem Zgf (y:Int)(w:World):Does Tryz.prog 164 [.int .i64 y] w (fun v O=>v = .bool (inY y)/\O=[]):=by
 refine Zaa Tryz.func164 rfl rfl rfl rfl ?_
 repeat' (first|refine walk ?_|refine und ?_|(refine Zam rfl rfl rfl (fun hc=>?_) (fun hc=>?_))|(refine Zas rfl rfl rfl (fun hc=>?_) (fun hc=>?_))|(refine Zaf rfl (fun hc=>?_) (fun hc=>?_)))
 all_goals first|(refine ret_1 _ [] (.tmp rfl) .nil ⟨?_,rfl⟩;first|rfl|(simp only[*,Bool.true_and,Bool.false_and,Bool.true_or,Bool.false_or,Bool.not_true,Bool.not_false];done)|(simp_all [inY];done)|(simp_all [inY];omega)|(simp_all [inY];rw[Bool.eq_iff_iff];simp;omega))|(exfalso;simp_all [inY];done)|(exfalso;simp_all [inY];omega)|(exfalso;omega)
theorem Zp1 {G:Prop}(h:G:=by(apply Pu_rem;rfl;rfl;decide)):G:=h
theorem Zsj (y:Int)(w:World):Does Tryz.prog 219 [.int .i64 y] w (fun v O=>v = .bool (ZbP y)/\O=[]):=by
 rw[show ZbP y=(decide (y.tmod 4=0)&&(!decide (y.tmod 100=0)||decide (y.tmod 400=0))) by simp only[ZbP,Zhq]]
 refine Zaa Tryz.func219 rfl rfl rfl rfl ?_
 repeat' (first|(apply RL_pu;rfl;exact Zp1)|refine walk1 ?_|refine und ?_|(refine Zam rfl rfl rfl (fun hc=>?_) (fun hc=>?_))|(refine Zas rfl rfl rfl (fun hc=>?_) (fun hc=>?_))|(refine Zaf rfl (fun hc=>?_) (fun hc=>?_)))
 all_goals exact clo1
theorem Zbz (y m:Int)(w:World):Does Tryz.prog 165 [.int .i64 y,.int .i64 m] w (fun v O=>v = .int .i64 (lenM y m)/\O=[]):=by
 refine Zaa Tryz.func165 rfl rfl rfl rfl ?_
 repeat' (first|(refine js ?_;(refine Zab (fun w' _=>Zsj y w') ?_))|refine walk ?_|refine und ?_|(refine Zam rfl rfl rfl (fun hc=>?_) (fun hc=>?_))|(refine Zas rfl rfl rfl (fun hc=>?_) (fun hc=>?_))|(refine Zaf rfl (fun hc=>?_) (fun hc=>?_)))
 all_goals first|(refine ret_1 _ [] (.tmp rfl) .nil ⟨?_,rfl⟩;first|rfl|(simp only[*,Bool.true_and,Bool.false_and,Bool.true_or,Bool.false_or,Bool.not_true,Bool.not_false];done)|(simp_all [lenM];done)|(simp_all [lenM];omega)|(simp_all [lenM];rw[Bool.eq_iff_iff];simp;omega))|(exfalso;simp_all [lenM];done)|(exfalso;simp_all [lenM];omega)|(exfalso;omega)
theorem ZkS {G:Prop}(h:G:=by(first|(apply Zty;rfl;rfl;omega;omega)|(apply Pu_rem;rfl;rfl;omega))):G:=h
theorem Zpt {G:Prop}(h:G:=by first|(apply Qy_y;rfl;exact ZkS)|exact QyA):G:=h
theorem ZvN {G:Prop}(h:G:=by repeat (first|exact QF.nil|(apply QF.mk;rfl;rfl;decide +kernel;exact Zpt))):G:=h
theorem Zcz (a b:Int)(h0:0<b)(ha : -4611686018427387904<=a/\a<=4611686018427387904)(hb:b<=4611686018427387904)(w:World):Does Tryz.prog 118 [.int .i64 a,.int .i64 b] w (fun v O=>v = .tuple #[.int .i64 (a / b),.int .i64 (a % b)]/\O=[]):=by
 have h2:=Int.tmod_lt_of_pos a h0
 have h3:=Int.lt_tmod_of_pos a h0
 have h4:=ZmW a b
 obtain⟨h5,h6⟩:=Zfp a b h0
 refine Zaa Tryz.func118 rfl rfl rfl rfl ?_
 repeat' (first|(apply RL_pu;rfl;exact ZkS)|(apply RD_Q;rfl;rfl;decide +kernel;rfl;rfl;exact Zpt)|refine walk1 ?_|(refine RD_Lw ?_;intro F;(apply Zac;first|exact ZkS|exact PuA);refine⟨_,EndsA,ZvN,?_⟩)|(refine Zaf rfl (fun hc=>?_) (fun hc=>?_)))
 ·obtain⟨e1,e2⟩:=h5 (of_decide_eq_true hc)
  exact ret_2 _ _ [] (.tmp rfl) (.tmp rfl) .nil ⟨by rw[<- e1,<- e2],rfl⟩
 ·obtain⟨e1,e2⟩:=h6 (of_decide_eq_false hc)
  exact ret_2 _ _ [] (.tmp rfl) (.tmp rfl) .nil ⟨by rw[<- e1,<- e2],rfl⟩
theorem ZiV (a:Int)(ha : -4611686018427387904<=a/\a<=4611686018427387904)(w:World):Does Tryz.prog 389 [.int .i64 a] w (fun v O=>v = .int .i64 (Zd1 a)/\O=[]):=by
 have h2:=Int.tmod_lt_of_pos a (b:=7) (by decide)
 have h3:=Int.lt_tmod_of_pos a (b:=7) (by decide)
 refine Zaa Tryz.func389 rfl rfl rfl rfl ?_
 repeat (first|(apply RL_pu;rfl;exact Zp1)|(refine js ?_;(refine Zab (fun w' _=>Zcz (a.tmod 7+4) 7 (by decide) (by omega) (by decide) w') ?_))|refine walk1 ?_)
 refine ret_1 _ [] (.tmp rfl) .nil ⟨?_,rfl⟩
 have h:=Zfp a 7 (by decide)
 have e:(a.tmod 7+4) % 7=Zd1 a:=by
  unfold Zd1
  by_cases hn:a.tmod 7<0
  ·have:=(h.1 hn).2
   omega
  ·have:=(h.2 hn).2
   omega
 rw[e]
theorem ZkF {w:World}(hG:Glob w)(k:Nat)(hk:k<12):(Za2.map fun n=>Value.int .i64 n)[k*1]?=some (.int .i64 (Za2.getD k 0)):=by
 rw[Nat.mul_one,List.getElem?_map,List.getD_eq_getElem?_getD,List.getElem?_eq_getElem (show k<Za2.length from hk)]
 rfl
theorem Zdl {y m d:Int}(h:ZaN y m d=true):(-2000000000<=y/\y<=2000000000)/\(1<=m/\m<=12)/\1<=d/\d<=31:=by
 simp only[ZaN,inY,Bool.and_eq_true,decide_eq_true_eq]at h
 obtain⟨⟨⟨h1,h2⟩,h3⟩,h4⟩:=h
 have h5:=Zc4 y m
 refine⟨⟨h1,h2⟩,?_,h3,by omega⟩
 unfold lenM at h4
 split at h4 <;> omega
theorem ZfR {G:Prop}(h:G:=by(first|(apply Zc0;rfl;rfl;(constructor <;> omega))|(apply Pu_quo64;rfl;rfl;omega;omega;omega)|(apply Zbn;rfl;rfl;omega;omega)|(apply Pu_loadO1';rfl;exact hG.bef;exact hb))):G:=h
theorem Zps {G:Prop}(h:G:=by first|(apply Qy_y;rfl;exact ZfR)|exact QyA):G:=h
theorem ZvM {G:Prop}(h:G:=by repeat (first|exact QF.nil|(apply QF.mk;rfl;rfl;decide +kernel;exact Zps))):G:=h
theorem Zeo (y m d:Int)(w:World)(hG:Glob w):Does Tryz.prog 107 [.int .i64 y,.int .i64 m,.int .i64 d] w (fun v O=>v = .tuple #[.int .i64 (if ZaN y m d then ZaP y m d else 0),.int .i64 (if ZaN y m d then 0 else 3)]/\O=[]):=by
 refine Zaa Tryz.func107 rfl rfl rfl rfl ?_
 by_cases hok:ZaN y m d=true
 ·obtain⟨h1,h2,h3⟩:=Zdl hok
  have hl:=hok
  simp only[ZaN,Bool.and_eq_true,decide_eq_true_eq]at hl
  obtain⟨⟨hy,_⟩,hd⟩:=hl
  rw[if_pos hok,if_pos hok]
  by_cases hm:m<3
  ·have hb:=ZkF hG (m+12 - 3).toNat (by omega)
   have hq:=ZbJ (m+12 - 3).toNat
   rw[ZaP,if_pos hm,ZbI]
   generalize Za2.getD (m+12 - 3).toNat 0=q at *
   repeat' (first|(apply RL_pu;rfl;exact ZfR)|(refine js ?_;(first|(refine Zab (fun w' _=>Zgf y w') ?_)|(refine Zab (fun w' _=>Zbz y m w') ?_)|(refine Zab (fun w' _=>Zcz (y - 1) 400 (by decide) (by omega) (by decide) w') ?_)))|refine walk1 ?_|refine und ?_|(refine Zam rfl rfl rfl (fun hc=>?_) (fun hc=>?_))|(refine Zas rfl rfl rfl (fun hc=>?_) (fun hc=>?_))|(refine Zaf rfl (fun hc=>?_) (fun hc=>?_)))
   all_goals exact clo2
  ·have hb:=ZkF hG (m - 3).toNat (by omega)
   have hq:=ZbJ (m - 3).toNat
   rw[ZaP,if_neg hm,ZbI]
   generalize Za2.getD (m - 3).toNat 0=q at *
   repeat' (first|(apply RL_pu;rfl;exact ZfR)|(refine js ?_;(first|(refine Zab (fun w' _=>Zgf y w') ?_)|(refine Zab (fun w' _=>Zbz y m w') ?_)|(refine Zab (fun w' _=>Zcz y 400 (by decide) (by omega) (by decide) w') ?_)))|refine walk1 ?_|refine und ?_|(refine Zam rfl rfl rfl (fun hc=>?_) (fun hc=>?_))|(refine Zas rfl rfl rfl (fun hc=>?_) (fun hc=>?_))|(refine Zaf rfl (fun hc=>?_) (fun hc=>?_)))
   all_goals exact clo2
 ·rw[if_neg hok,if_neg hok]
  repeat' (first|(refine js ?_;(first|(refine Zab (fun w' _=>Zgf y w') ?_)|(refine Zab (fun w' _=>Zbz y m w') ?_)))|refine walk ?_|refine und ?_|(refine Zam rfl rfl rfl (fun hc=>?_) (fun hc=>?_))|(refine Zas rfl rfl rfl (fun hc=>?_) (fun hc=>?_))|(refine Zaf rfl (fun hc=>?_) (fun hc=>?_)))
  all_goals first|(refine ret_2 _ _ [] (.tmp rfl) (.tmp rfl) .nil ⟨?_,rfl⟩;first|rfl|(simp only[*,Bool.true_and,Bool.false_and,Bool.true_or,Bool.false_or,Bool.not_true,Bool.not_false];done)|(simp_all [ZaN];done)|(simp_all [ZaN];omega)|(simp_all [ZaN];rw[Bool.eq_iff_iff];simp;omega))|(exfalso;simp_all [ZaN];done)|(exfalso;simp_all [ZaN];omega)|(exfalso;omega)
theorem Zre (n:Int):n / 146097+(n % 146097+719468) / 146097=(n+719468) / 146097/\(n % 146097+719468) % 146097=(n+719468) % 146097:=by omega
theorem Zr7 (r:Int):∀ m,monN r m<=m
 | 0=>Nat.le_refl _
 | m+1=>by
  rw[monN]
  split
  ·exact Nat.le_refl _
  ·have:=Zr7 r m;omega
theorem ZeR {G:Prop}(h:G:=by(first|(apply Zc0;rfl;rfl;(constructor <;> omega))|(apply Pu_quo64;rfl;rfl;omega;omega;omega))):G:=h
theorem Zj6 {G G':Prop}(k:G')(h:Hold G'->G:=by intro k9;(first|(apply RL_pu;rfl;exact ZeR)|(apply RD_Q;rfl;rfl;decide +kernel;rfl;rfl;exact QyCivil3)|refine walk1 ?_|(refine jn ?_;(try intro F);(apply Zac;first|exact ZeR|exact PuA);first|refine⟨_,EndsA,QFCivil3,?_⟩|refine fin ?_));exact k9.out):G:=h ⟨k⟩
theorem Zp0 {G:Prop}(h:G:=by(first|(apply Zbn;rfl;rfl;omega;omega)|(apply Pu_loadO1';rfl;exact hG.bef;exact hb))):G:=h
theorem ZsI (n:Int)(hn : -1000000000000000000<=n/\n<=1000000000000000000)(w:World)(hG:Glob w):Does Tryz.prog 119 [.int .i64 n] w (fun v O=>(∃ m d,v = .tuple #[.int .i64 (ZbD n),.int .i64 m,.int .i64 d])/\O=[]):=by
 obtain⟨c1,c2⟩:=Zre n
 have c3:0<=(n+719468) % 146097/\(n+719468) % 146097<146097:=by omega
 obtain⟨y1,y2,y3,y4⟩:=ZoB _ c3.1 c3.2
 have hD:ZbD n=if 10<=monN ((n+719468) % 146097 - (Zcw ((n+719468) % 146097)*365+Zcw ((n+719468) % 146097) / 4 - Zcw ((n+719468) % 146097) / 100)) 11 then (n+719468) / 146097*400+Zcw ((n+719468) % 146097)+1 else (n+719468) / 146097*400+Zcw ((n+719468) % 146097):=rfl
 refine Zaa Tryz.func119 rfl rfl rfl rfl ?_
 repeat (first|(apply RL_pu;rfl;exact ZeR)|(apply RD_Q;rfl;rfl;decide +kernel;rfl;rfl;exact QyCivil3)|refine walk1 ?_|(refine jg ?_;(try intro F);(refine Zab (fun w' _=>Zcz n 146097 (by decide) (by omega) (by decide) w') ?_);first|refine⟨_,EndsA,QFCivil3,?_⟩|refine fin ?_)|(refine jn ?_;(try intro F);(apply Zac;first|exact ZeR|exact PuA);first|refine⟨_,EndsA,QFCivil3,?_⟩|refine fin ?_))
 refine Zaf rfl (fun _=>?_) (fun h=>?_)
 rotate_left
 ·have:=of_decide_eq_false h
  omega
 repeat (first|refine walk ?_|(refine jg ?_;(try intro F);(refine Zab (fun w' _=>Zcz (n % 146097+719468) 146097 (by decide) (by omega) (by decide) w') ?_);refine fin ?_)|(refine jn ?_;(try intro F);(apply Zac;exact PuA);refine fin ?_))
 rw[c1,c2]
 clear c1 c2
 generalize hcc:(n+719468) / 146097=c at *
 have hcb : -10000000000000<=c/\c<=10000000000000:=by omega
 generalize (n+719468) % 146097=r at *
 rw[show(r - r / 1460+r / 36524 - r / 146096) / 365=Zcw r from rfl]
 generalize Zcw r=y at *
 clear hn hcc
 generalize hq:r - (y*365+y / 4 - y / 100)=q at *
 repeat (first|(apply RL_pu;rfl;exact ZeR)|(apply RD_Q;rfl;rfl;decide +kernel;rfl;rfl;exact QyCivil3)|refine walkB1 ?_|(refine jn ?_;(try intro F);(apply Zac;first|exact ZeR|exact PuA);first|refine⟨_,EndsA,QFCivil3,?_⟩|refine fin ?_))
 rw[hq]
 refine ZbZ (fun fr' O'=>Sub [(10,.int .i64 (monN q 11)),(5,.int .i64 c),(9,.int .i64 y),(6,.int .i64 q)] fr'/\SubO [] O') ?_ ?_
 ·apply W_block
  refine Zai [(5,.int .i64 c),(9,.int .i64 y),(6,.int .i64 q)] [] (fun k:Nat=>[(10,.int .i64 k)]) (fun _=>[]) (fun k=>k<=11/\monN q k=monN q 11) (fun k=>k) 11 SFA .nil ⟨Nat.le_refl _,rfl⟩ ?_
  rintro k ⟨hk,hm⟩
  have hb:=ZkF hG k (by omega)
  have hstp:∀ j,k=j+1->monN q k=if Za2.getD k 0<=q then k else monN q j:=fun j h=>by subst h;rw[monN]
  have h0:k=0->Za2.getD k 0=0:=fun h=>by subst h;rfl
  generalize Za2.getD k 0=z at *
  repeat (first|(apply RL_pu;rfl;exact Zp0)|(apply RD_Q;rfl;rfl;decide +kernel;rfl;rfl;exact QyCivil4)|refine walk1 ?_|(refine jn ?_;(try intro F);(apply Zac;first|exact Zp0|exact PuA);first|refine⟨_,EndsA,QFCivil4,?_⟩|refine fin ?_))
  refine Zaf rfl (fun h=>?_) (fun h=>?_)
  ·have h1:=of_decide_eq_true h
   have hk1:k≠0:=fun e=>by have:=h0 e;omega
   obtain⟨j,rfl⟩:∃ j,k=j+1:=⟨k - 1,by omega⟩
   have h2:=hstp j rfl
   rw[if_neg (by omega)]at h2
   repeat refine Zj6 ?_
   rw[show((j+1:Nat):Int) - 1=(j:Int) by omega]
   exact⟨j,OA,⟨OA,by rw[<- h2];exact hm⟩,SFA,.nil⟩
  ·have h1:=of_decide_eq_false h
   have h2:monN q k=k:=by
    cases k with
    | zero=>rfl
    | succ j =>
     have h2:=hstp j rfl
     rw[if_pos (by omega)]at h2
     exact h2
   repeat (first|refine walk ?_|(refine jn ?_;(try intro F);(apply Zac;exact PuA);refine fin ?_))
   rw[<- hm,h2]
   exact⟨rfl,SFA,.nil⟩
 rintro fr' O' ⟨hf,hO⟩
 apply thenQ_n
 refine ZcO hf hO ?_
 clear hf hO fr' O'
 have hml:=Zr7 q 11
 generalize monN q 11=k at *
 have hb:=ZkF hG k (by omega)
 have hbb:=ZbJ k
 generalize Za2.getD k 0=z at *
 repeat (first|(apply RL_pu;rfl;exact ZfR)|(apply RD_Q;rfl;rfl;decide +kernel;rfl;rfl;exact Zps)|refine walk1 ?_|(refine jn ?_;(try intro F);(apply Zac;first|exact ZfR|exact PuA);first|refine⟨_,EndsA,ZvM,?_⟩|refine fin ?_))
 refine Zaf rfl (fun h=>?_) (fun h=>?_)
 ·have h1:=of_decide_eq_true h
  rw[if_pos (by omega)]at hD
  repeat refine Zj6 ?_
  exact Zck _ _ _ [] (.tmp rfl) (.tmp rfl) (.tmp rfl) .nil ⟨⟨_,_,by rw[hD]⟩,rfl⟩
 ·have h1:=of_decide_eq_false h
  rw[if_neg (by omega)]at hD
  repeat refine Zj6 ?_
  exact Zck _ _ _ [] (.tmp rfl) (.tmp rfl) (.tmp rfl) .nil ⟨⟨_,_,by rw[hD]⟩,rfl⟩
theorem ZkY (t:Int)(ht : -4611686018427387904<=t/\t<=4611686018427387904)(w:World)(hG:Glob w):Does Tryz.prog 78 [.int .i64 t] w (fun v O=>v = .int .i64 (ZaC t)/\O=[]):=by
 refine Zaa Tryz.func78 rfl rfl rfl rfl ?_
 repeat (first|(apply RL_pu;rfl;(first|(apply ZkL;rfl;rfl)|(apply Zoh;rfl;rfl)))|(refine js ?_;(first|(refine Zab (fun w' _=>Zcz t 86400 (by decide) (by omega) (by decide) w') ?_)|(apply Zae (h:=fun w' hw _=>ZsI (t / 86400) (by omega) w' (hG.up hw));rfl;rintro v O' ⟨⟨m,d,rfl⟩,rfl⟩)))|refine walk1 ?_)
 refine ret_1 _ [] (.tmp rfl) .nil ⟨?_,rfl⟩
 unfold ZaC
 generalize ZbD (t / 86400)=y
 congr 1
 split <;> split <;> omega
theorem ZnZ (x k:Int)(hx : -1000000000000000000<=x/\x<=1000000000000000000)(hk:0<=k/\k<=6)(w:World):Does Tryz.prog 387 [.int .i64 x,.int .i64 k] w (fun v O=>v = .int .i64 (Zbp x k)/\O=[]):=by
 have hw:=ZoC x
 refine Zaa Tryz.func387 rfl rfl rfl rfl ?_
 unfold Zbp
 repeat' (first|(apply RL_pu;rfl;exact PuDayf0)|(refine js ?_;(refine Zab (fun w' _=>ZiV x (by omega) w') ?_))|refine walk1 ?_|(refine Zaf rfl (fun hc=>?_) (fun hc=>?_)))
 all_goals exact clo1
theorem Zin (x k:Int)(hx : -1000000000000000000<=x/\x<=1000000000000000000)(hk:0<=k/\k<=6)(w:World):Does Tryz.prog 385 [.int .i64 x,.int .i64 k] w (fun v O=>v = .int .i64 (Za1 x k)/\O=[]):=by
 have hw:=ZoC x
 refine Zaa Tryz.func385 rfl rfl rfl rfl ?_
 unfold Za1
 repeat' (first|(apply RL_pu;rfl;exact PuDayf0)|(refine js ?_;(refine Zab (fun w' _=>ZiV x (by omega) w') ?_))|refine walk1 ?_|(refine Zaf rfl (fun hc=>?_) (fun hc=>?_)))
 all_goals exact clo1
def ZlG (k:Int):FuncId:=if k=1 then 383 else if k=2 then 384 else if k=3 then 386 else 388
theorem ZqF (p q:Int)(d:DDay)(hp : -100000000000000000<=p/\p<=100000000000000000)(hq : -100000000000000000<=q/\q<=100000000000000000)(hk:1<=d.kind/\d.kind<=4)(hw:0<=d.week/\d.week<=6)(hd:0<=d.day/\d.day<=31)(w:World) :
  Does Tryz.prog (ZlG d.kind) [.int .i64 p,.int .i64 q,.agg (DDay.enc d).toArray] w (fun v O=>v = .int .i64 (ZeV p q d)/\O=[]):=by
 obtain⟨k,wk,dd⟩:=d
 simp only at hk hw hd ⊢
 have h4:k=1\/k=2\/k=3\/k=4:=by omega
 rcases h4 with rfl|rfl|rfl|rfl
 ·rw[show ZeV p q ⟨1,wk,dd⟩=p+dd - 1 by simp[ZeV]]
  show Does _ 383 [.int .i64 p,.int .i64 q,.agg #[.int .i64 1,.int .i64 wk,.int .i64 dd]] w _
  refine Zaa Tryz.func383 rfl rfl rfl rfl ?_
  repeat' (first|(apply RL_pu;rfl;exact PuDayf0)|(refine js ?_;(refine bx ?_;intro bk))|refine walk1 ?_|(refine Zaf rfl (fun hc=>?_) (fun hc=>?_)))
  all_goals exact clo1
 ·rw[show ZeV p q ⟨2,wk,dd⟩=Za1 q wk by simp[ZeV]]
  show Does _ 384 [.int .i64 p,.int .i64 q,.agg #[.int .i64 2,.int .i64 wk,.int .i64 dd]] w _
  refine Zaa Tryz.func384 rfl rfl rfl rfl ?_
  repeat' (first|(apply RL_pu;rfl;exact PuDayf0)|(refine js ?_;(first|(refine Zab (fun w' _=>Zin q wk (by omega) hw w') ?_)|(refine bx ?_;intro bk)))|refine walk1 ?_|(refine Zaf rfl (fun hc=>?_) (fun hc=>?_)))
  all_goals exact clo1
 ·rw[show ZeV p q ⟨3,wk,dd⟩=Zbp (p+dd - 1) wk by simp[ZeV]]
  show Does _ 386 [.int .i64 p,.int .i64 q,.agg #[.int .i64 3,.int .i64 wk,.int .i64 dd]] w _
  refine Zaa Tryz.func386 rfl rfl rfl rfl ?_
  repeat' (first|(apply RL_pu;rfl;exact PuDayf0)|(refine js ?_;(first|(refine Zab (fun w' _=>ZnZ (p+dd - 1) wk (by omega) hw w') ?_)|(refine bx ?_;intro bk)))|refine walk1 ?_|(refine Zaf rfl (fun hc=>?_) (fun hc=>?_)))
  all_goals exact clo1
 ·rw[show ZeV p q ⟨4,wk,dd⟩=Za1 (p+dd - 1) wk by simp[ZeV]]
  show Does _ 388 [.int .i64 p,.int .i64 q,.agg #[.int .i64 4,.int .i64 wk,.int .i64 dd]] w _
  refine Zaa Tryz.func388 rfl rfl rfl rfl ?_
  repeat' (first|(apply RL_pu;rfl;exact PuDayf0)|(refine js ?_;(first|(refine Zab (fun w' _=>Zin (p+dd - 1) wk (by omega) hw w') ?_)|(refine bx ?_;intro bk)))|refine walk1 ?_|(refine Zaf rfl (fun hc=>?_) (fun hc=>?_)))
  all_goals exact clo1
theorem Zwa {w:World}(hG:Glob w)(k:Int)(hk:1<=k/\k<=4):Zau w ((⟨2,0,none⟩:Addr).add (k.toNat*3)) [.bool (Zp4 k),.bool (dayK k),fnV (ZlG k)]:=by
 intro j v hj
 have hk:=hG.kin ((k.toNat - 1)*3+j) v
 have h4:k=1\/k=2\/k=3\/k=4:=by omega
 have hj3:j<3:=(List.getElem?_eq_some_iff.1 hj).1
 have h3:j=0\/j=1\/j=2:=by omega
 rcases h4 with rfl|rfl|rfl|rfl <;> rcases h3 with rfl|rfl|rfl <;> exact hk hj
theorem ZdJ (d:DDay)(w:World)(hG:Glob w):Does Tryz.prog 72 [.agg (DDay.enc d).toArray] w (fun v O=>v = .int .i64 (if Za8 d then 0 else 2)/\O=[]):=by
 obtain⟨k,wk,dd⟩:=d
 by_cases hk:1<=k/\k<=4
 ·have hcell:=Zwa hG k hk
  have e:Za8 ⟨k,wk,dd⟩ = !((!decide (wk=0)&&!Zp4 k)||decide (wk<0)||decide (6<wk)||(dayK k==decide (dd=0))||decide (dd<0)||decide (31<dd)):=by simp[Za8,hk.1,hk.2]
  rw[e]
  generalize Zp4 k=b1 at *
  generalize dayK k=b2 at *
  show Does _ _ [.agg #[.int .i64 k,.int .i64 wk,.int .i64 dd]] w _
  refine Zaa Tryz.func72 rfl rfl rfl rfl ?_
  repeat' (first|(apply RL_pu;rfl;(first|exact PuDayf0|(apply Zbn;rfl;rfl;omega;omega)|(apply Pu_loadON;rfl;exact hcell;rfl)))|(refine js ?_;(refine bx ?_;intro bk))|refine walk1 ?_|refine und ?_|(refine Zam rfl rfl rfl (fun hc=>?_) (fun hc=>?_))|(refine Zas rfl rfl rfl (fun hc=>?_) (fun hc=>?_))|(refine Zaf rfl (fun hc=>?_) (fun hc=>?_)))
  all_goals exact clo1
 ·have e:Za8 ⟨k,wk,dd⟩=false:=by
   simp only[Za8]
   have:(decide (1<=k)&&decide (k<=4))=false:=by simp;omega
   rw[this];rfl
  rw[e]
  show Does _ _ [.agg #[.int .i64 k,.int .i64 wk,.int .i64 dd]] w _
  refine Zaa Tryz.func72 rfl rfl rfl rfl ?_
  repeat' (first|(refine js ?_;(refine bx ?_;intro bk))|refine walk ?_|refine und ?_|(refine Zam rfl rfl rfl (fun hc=>?_) (fun hc=>?_))|(refine Zas rfl rfl rfl (fun hc=>?_) (fun hc=>?_))|(refine Zaf rfl (fun hc=>?_) (fun hc=>?_)))
  all_goals exact clo1
theorem Zb4 (d:DClock)(w:World):Does Tryz.prog 73 [.agg (DClock.enc d).toArray] w (fun v O=>v = .int .i64 (if ZaH d then 0 else 2)/\O=[]):=by
 obtain⟨k,wk⟩:=d
 show Does _ _ [.agg #[.int .i64 k,.int .i64 wk]] w _
 refine Zaa Tryz.func73 rfl rfl rfl rfl ?_
 repeat' (first|(refine js ?_;(refine bx ?_;intro bk))|refine walk ?_|refine und ?_|(refine Zam rfl rfl rfl (fun hc=>?_) (fun hc=>?_))|(refine Zas rfl rfl rfl (fun hc=>?_) (fun hc=>?_))|(refine Zaf rfl (fun hc=>?_) (fun hc=>?_)))
 all_goals first|(refine ret_1 _ [] (.tmp rfl) .nil ⟨?_,rfl⟩;first|rfl|(simp only[*,Bool.true_and,Bool.false_and,Bool.true_or,Bool.false_or,Bool.not_true,Bool.not_false];done)|(simp_all [ZaH];done)|(simp_all [ZaH];omega)|(simp_all [ZaH];rw[Bool.eq_iff_iff];simp;omega))|(exfalso;simp_all [ZaH];done)|(exfalso;simp_all [ZaH];omega)|(exfalso;omega)
theorem Zcm {d:DDay}(h:Za8 d=true):(1<=d.kind/\d.kind<=4)/\(0<=d.week/\d.week<=6)/\0<=d.day/\d.day<=31:=by
 simp only[Za8,Bool.and_eq_true,Bool.not_eq_true',Bool.or_eq_false_iff,decide_eq_true_eq,decide_eq_false_iff_not]at h
 omega
theorem Zg4 {y m d:Int}(h:ZaN y m d=true) : -1000000000000<=ZaP y m d/\ZaP y m d<=1000000000000:=by
 obtain⟨h1,h2,h3⟩:=Zdl h
 unfold ZaP ZbI
 have hb:=ZbJ
 split
 ·have:=hb (m+12 - 3).toNat
  omega
 ·have:=hb (m - 3).toNat
  omega
theorem Zop {G:Prop}(h:G:=by(first|exact PuDayf0|(apply Zbn;rfl;rfl;omega;omega)|(apply Pu_loadO1';rfl;exact hcell;rfl))):G:=h
theorem Ztm {G:Prop}(h:G:=by first|(apply Qy_y;rfl;exact Zop)|exact QyA):G:=h
theorem ZyW {G:Prop}(h:G:=by repeat (first|exact QF.nil|(apply QF.mk;rfl;rfl;decide +kernel;exact Ztm))):G:=h
theorem Zns (y m:Int)(d:DDay)(w:World)(hG:Glob w):Does Tryz.prog 120 [.int .i64 y,.int .i64 m,.agg (DDay.enc d).toArray] w (fun v O=>v = .tuple #[.int .i64 (onD y m d).1,.int .i64 (onD y m d).2]/\O=[]):=by
 have hl:=Zc4 y m
 have hdc:=fun w' hw=>ZdJ d w' (Glob.up (w':=w') hG hw)
 by_cases hok:ZaN y m 1=true
 ·have hdb:=Zg4 hok
  by_cases hc:Za8 d=true
  ·obtain⟨b1,b2,b3⟩:=Zcm hc
   have hcell:=Zwa hG d.kind b1
   have hks:=fun w'=>ZqF (ZaP y m 1) (ZaP y m 1+lenM y m - 1) d (by omega) (by omega) b1 b2 b3 w'
   haveI:Body Tryz.prog (ZlG d.kind):=by
    unfold ZlG
    split
    ·infer_instance
    ·split
     ·infer_instance
     ·split <;> infer_instance
   have e:onD y m d=if lenM y m<d.day then (0,4) else (ZeV (ZaP y m 1) (ZaP y m 1+lenM y m - 1) d,0):=by simp[onD,hok,hc]
   rw[e]
   clear e
   have ed:=Zeo y m 1
   rw[if_pos hok,if_pos hok]at ed
   rw[hc]at hdc
   generalize ZeV (ZaP y m 1) (ZaP y m 1+lenM y m - 1) d=res at *
   obtain⟨k,wk,dd⟩:=d
   simp only at *
   generalize ZlG k=kf at *
   show Does _ _ [.int .i64 y,.int .i64 m,.agg #[.int .i64 k,.int .i64 wk,.int .i64 dd]] w _
   refine Zaa Tryz.func120 rfl rfl rfl rfl ?_
   repeat' (first|(apply RL_pu;rfl;exact Zop)|(refine js ?_;(first|(apply Zay (f:=kf) (us:=[]) (cs:=[]) (vs:=[.int .i64 (ZaP y m 1),.int .i64 (ZaP y m 1+lenM y m - 1),.agg #[.int .i64 k,.int .i64 wk,.int .i64 dd]]) (h:=fun w' hw _=>hks w');rfl;rfl;rintro v O' ⟨rfl,rfl⟩)|(refine Zab (fun w' hw=>ed w' (hG.up hw)) ?_)|(refine Zab hdc ?_)|(refine Zab (fun w' hw=>Zbz y m w') ?_)|(refine bx ?_;intro bk)))|(apply RD_Q;rfl;rfl;decide +kernel;rfl;rfl;exact Ztm)|refine walk1 ?_|(refine Zdo ?_;intro F;(first|(apply Zay (f:=kf) (us:=[]) (cs:=[]) (vs:=[.int .i64 (ZaP y m 1),.int .i64 (ZaP y m 1+lenM y m - 1),.agg #[.int .i64 k,.int .i64 wk,.int .i64 dd]]) (h:=fun w' hw _=>hks w');rfl;rfl;rintro v O' ⟨rfl,rfl⟩)|(refine Zab (fun w' hw=>ed w' (hG.up hw)) ?_)|(refine Zab hdc ?_)|(refine Zab (fun w' hw=>Zbz y m w') ?_));refine⟨_,EndsA,SubO.right _ _,?_⟩)|(refine RD_Lw ?_;intro F;(first|(apply Zay (f:=kf) (us:=[]) (cs:=[]) (vs:=[.int .i64 (ZaP y m 1),.int .i64 (ZaP y m 1+lenM y m - 1),.agg #[.int .i64 k,.int .i64 wk,.int .i64 dd]]) (h:=fun w' hw _=>hks w');rfl;rfl;rintro v O' ⟨rfl,rfl⟩)|(refine Zab (fun w' hw=>ed w' (hG.up hw)) ?_)|(refine Zab hdc ?_)|(refine Zab (fun w' hw=>Zbz y m w') ?_)|(refine bx ?_;intro bk)|(apply Zac;first|exact Zop|exact PuA));refine⟨_,EndsA,ZyW,?_⟩)|(refine Zaf rfl (fun hc=>?_) (fun hc=>?_)))
   ·have hr:=hc
    rw[if_pos (of_decide_eq_true hr)]
    exact rtB
   ·have hr:=hc
    rw[if_neg (of_decide_eq_false hr)]
    exact rtB
  ·have e:onD y m d=(0,2):=by simp[onD,hok,hc]
   rw[e]
   have ed:=Zeo y m 1
   rw[if_pos hok,if_pos hok]at ed
   rw[Bool.not_eq_true]at hc
   rw[hc]at hdc
   obtain⟨k,wk,dd⟩:=d
   show Does _ _ [.int .i64 y,.int .i64 m,.agg #[.int .i64 k,.int .i64 wk,.int .i64 dd]] w _
   refine Zaa Tryz.func120 rfl rfl rfl rfl ?_
   repeat' (first|(refine js ?_;(first|(refine Zab (fun w' hw=>ed w' (hG.up hw)) ?_)|(refine Zab hdc ?_)|(refine bx ?_;intro bk)))|refine walk ?_|(refine Zdo ?_;intro F;(first|(refine Zab (fun w' hw=>ed w' (hG.up hw)) ?_)|(refine Zab hdc ?_));refine⟨_,EndsA,SubO.right _ _,?_⟩)|(refine RD_Lw ?_;intro F;(first|(refine Zab (fun w' hw=>ed w' (hG.up hw)) ?_)|(refine Zab hdc ?_)|(refine bx ?_;intro bk)|(apply Zac;exact PuA));refine⟨_,EndsA,QFA,?_⟩)|(refine Zaf rfl (fun hc=>?_) (fun hc=>?_)))
   all_goals exact clo2
 ·have e:onD y m d=(0,3):=by simp[onD,hok]
  rw[e]
  have ed:=Zeo y m 1
  rw[if_neg hok,if_neg hok]at ed
  refine Zaa Tryz.func120 rfl rfl rfl rfl ?_
  repeat' (first|(refine js ?_;(first|(refine Zab (fun w' hw=>ed w' (hG.up hw)) ?_)|(refine bx ?_;intro bk)))|refine walk ?_|(refine Zdo ?_;intro F;(refine Zab (fun w' hw=>ed w' (hG.up hw)) ?_);refine⟨_,EndsA,SubO.right _ _,?_⟩)|(refine RD_Lw ?_;intro F;(first|(refine Zab (fun w' hw=>ed w' (hG.up hw)) ?_)|(refine bx ?_;intro bk)|(apply Zac;exact PuA));refine⟨_,EndsA,QFA,?_⟩)|(refine Zaf rfl (fun hc=>?_) (fun hc=>?_)))
  all_goals exact clo2
theorem Zoo {G:Prop}(h:G:=by(apply Pu_rem;rfl;rfl;decide)):G:=h
theorem Ztl {G:Prop}(h:G:=by first|(apply Qy_y;rfl;exact Zoo)|exact QyA):G:=h
theorem ZyV {G:Prop}(h:G:=by repeat (first|exact QF.nil|(apply QF.mk;rfl;rfl;decide +kernel;exact Ztl))):G:=h
theorem Zn4 (a b m:Int)(d:DDay)(w:World)(hG:Glob w):Does Tryz.prog 394 [.int .i64 a,.int .i64 b,.int .i64 m,.agg (DDay.enc d).toArray] w (fun v O=>v = .bool (ZbU a b m d)/\O=[]):=by
 have hdc:=fun w' hw=>ZdJ d w' (Glob.up (w':=w') hG hw)
 unfold ZbU
 generalize Za8 d=c at *
 obtain⟨k,wk,dd⟩:=d
 simp only at *
 show Does _ _ [.int .i64 a,.int .i64 b,.int .i64 m,.agg #[.int .i64 k,.int .i64 wk,.int .i64 dd]] w _
 refine Zaa Tryz.func394 rfl rfl rfl rfl ?_
 repeat' (first|(apply RL_pu;rfl;exact Zoo)|(refine js ?_;(first|(refine Zab hdc ?_)|(refine Zab (fun w' hw=>Zbz 1 m w') ?_)|(refine Zab (fun w' hw=>Zbz (a.tmod 400) m w') ?_)|(refine bx ?_;intro bk)))|(apply RD_Q;rfl;rfl;decide +kernel;rfl;rfl;exact Ztl)|refine walk1 ?_|(refine Zdo ?_;intro F;(first|(refine Zab hdc ?_)|(refine Zab (fun w' hw=>Zbz 1 m w') ?_)|(refine Zab (fun w' hw=>Zbz (a.tmod 400) m w') ?_));refine⟨_,EndsA,SubO.right _ _,?_⟩)|(refine RD_Lw ?_;intro F;(first|(refine Zab hdc ?_)|(refine Zab (fun w' hw=>Zbz 1 m w') ?_)|(refine Zab (fun w' hw=>Zbz (a.tmod 400) m w') ?_)|(refine bx ?_;intro bk)|(apply Zac;first|exact Zoo|exact PuA));refine⟨_,EndsA,ZyV,?_⟩)|refine und ?_|(refine Zam rfl rfl rfl (fun hc=>?_) (fun hc=>?_))|(refine Zas rfl rfl rfl (fun hc=>?_) (fun hc=>?_))|(refine Zaf rfl (fun hc=>?_) (fun hc=>?_)))
 all_goals exact clo1
end Go.Proofs.YtpipekfmecikmaaGreatDoor
namespace Go.Wk
open Go Go.RowKit
def kArr (p:Nat->Nat):List Value:=(List.range 256).map fun i => .int .u8 (p i)
theorem ZcW (p:Nat->Nat):(kArr p).length=256:=by simp[kArr]
theorem Zvh {p:Nat->Nat}{j:Nat}(hj:j<256):(kArr p)[j]?=some (.int .u8 (p j)):=by simp[kArr,hj]
theorem Zvg (p:Nat->Nat)(j v:Nat):(kArr p).set j (.int .u8 v)=kArr fun i=>if i=j then v else p i:=by
 apply List.ext_getElem
 ·simp[kArr]
 ·intro i h1 h2
  simp only[kArr,List.getElem_set,List.getElem_map,List.getElem_range]
  by_cases h:j=i
  ·subst h;simp
  ·have:i≠j:=fun e=>h e.symm
   simp[h,this]
theorem Zdj {p q:Nat->Nat}(h:∀ i,i<256->p i=q i):kArr p=kArr q:=by
 unfold kArr
 apply List.map_congr_left
 intro i hi
 rw[h i (List.mem_range.1 hi)]
theorem Zo0 (p:Nat->Nat):(kArr p).all Value.oneCell'=true:=by simp[kArr,Value.oneCell']
attribute [irreducible] kArr
theorem Zsl:∀ (vs:List Value) (pre cs:List Value),cs.length=vs.length->lay (pre++cs) pre.length vs=pre++vs
 | [],pre,cs,h=>by
  have:cs=[]:=List.eq_nil_of_length_eq_zero h
  rw[this];rfl
 | v::r,pre,[],h=>by simp at h
 | v::r,pre,c::cs,h=>by
  rw[lay,List.set_append_right _ _ (Nat.le_refl _),Nat.sub_self,List.set_cons_zero]
  have:=Zsl r (pre++[v]) cs (by simpa using h)
  rw[List.append_assoc,List.length_append]at this
  simpa using this
section
variable {P:Program}{n:Nat}{wr:World}{fr:Fr}{O:List It}{ty:TypeId}{pos:String}{af:Array Edge}
theorem Zq9 {t sz b:Nat}{x:Operand}{cs:List Value}{bt:TypeId}{R:List It}[Ty P t sz true](hx:ev fr x=some (.pointer (some ⟨b,0,none⟩)))(hp:Pick (.blk b cs bt) O R)(hl:cs.length=sz):Pu P n wr fr O (.load t x) ty (.agg cs.toArray) :=
 Zmt hx hp (by simp[List.take_of_length_le (Nat.le_of_eq hl)]) hl
theorem Zgo {t:TypeId}{x z:Operand}{s:ByteArray}{k':IntKind}{j:Int}[hS:StringT P t](hx:ev fr x=some (.string s))(hz:ev fr z=some (.int k' j))(h1:0<=j)(h2:j<=s.size) :
  Pu P n wr fr O (.slice t x none (some z) none) ty (.string (s.extract 0 j.toNat)):=fun a w hs _ _ _ _=>by
 have h:(Instr.slice t (.string s) none (some (.int k' j)) none).run P w = .ok (.string (s.extract 0 j.toNat)) w:=by
  have hj:0<=j/\j<=(s.size:Int):=⟨by omega,h2⟩
  simp[Instr.slice,Instr.sliceBounds,Instr.sliceBound,asIntOf,run_underlying hS.h,hj]
 simp[execOp,hs.sim.ev hx,hs.sim.ev hz,Instr.sliceAt,run_underlying hS.h,h]
theorem Zgn {t:TypeId}{x y:Operand}{s:ByteArray}{k:IntKind}{i:Int}[hS:StringT P t](hx:ev fr x=some (.string s))(hy:ev fr y=some (.int k i))(h0:0<=i)(h1:i<=s.size) :
  Pu P n wr fr O (.slice t x (some y) none none) ty (.string (s.extract i.toNat s.size)):=fun a w hs _ _ _ _=>by
 have h:(Instr.slice t (.string s) (some (.int k i)) none none).run P w = .ok (.string (s.extract i.toNat s.size)) w:=by
  have hi:0<=i/\i<=(s.size:Int):=⟨h0,h1⟩
  simp[Instr.slice,Instr.sliceBounds,Instr.sliceBound,asIntOf,run_underlying hS.h,hi]
 simp[execOp,hs.sim.ev hx,hs.sim.ev hy,Instr.sliceAt,run_underlying hS.h,h]
theorem Za3 {t:TypeId}{x ix:Operand}{s:ByteArray}{kk:IntKind}{i:Int}{c:UInt8}[hS:StringT P t](hx:ev fr x=some (.string s))(hi:ev fr ix=some (.int kk i))(h0:0<=i)(h1:i<s.size)(hc:s.data.toList.getD i.toNat 0=c):Pu P n wr fr O (.index t x ix) ty (.int .u8 c.toNat):=by
 subst hc
 exact Zmu hx hi h0 h1
theorem Zgi {t b j v:Nat}{bt:TypeId}{x y:Operand}{p:Nat->Nat}{O':List It}{dst:Option Tmp}{g:Option (Nat × Bool)}{Kp:Value->List It->Prop}[Ty P t 1 false](hx:ev fr x=some (.pointer (some ((⟨b,0,none⟩:Addr).add (j*1)))))(hy:ev fr y=some (.int .u8 v))
  (hu:Upd O (.blk b (kArr p) bt) (.blk b (kArr fun i=>if i=j then v else p i) bt) O') (hj:j<256) (k:Kp undef O'):Stp P n wr fr O ⟨dst,.store t x y,ty,pos,af,g⟩ Kp:=by
 rw[ZbV,Nat.zero_add,Nat.mul_one]at hx
 exact Zgj (sz:=1) (v := .int .u8 v) (vs:=[.int .u8 v]) (j:=j) hx hy hu rfl rfl rfl (by rw[Nat.ble_eq,ZcW];omega) (Zvg p j v) k
theorem ZgK {t b sz:Nat}{bt:TypeId}{x y:Operand}{cs vs:List Value}{O':List It}{dst:Option Tmp}{g:Option (Nat × Bool)}{Kp:Value->List It->Prop}[Ty P t sz true](hx:ev fr x=some (.pointer (some ⟨b,0,none⟩)))(hy:ev fr y=some (.agg vs.toArray))
  (hu:Upd O (.blk b cs bt) (.blk b vs bt) O') (hl:vs.length=sz) (hc:cs.length=sz) (h1:vs.all Value.oneCell'=true) (k:Kp undef O'):Stp P n wr fr O ⟨dst,.store t x y,ty,pos,af,g⟩ Kp :=
 Zgj (v := .agg vs.toArray) (vs:=vs) hx hy hu rfl hl h1 (by rw[Nat.ble_eq];omega) (Zsl vs [] cs (by omega)) k
end
theorem ZaA.cells {base b:Nat}{cs:List Value}{t:TypeId}{O R:List It}{w:World}(h:ZaA base O w)(hp:Pick (.blk b cs t) O R):Zau w ⟨b,0,none⟩ cs:=fun j v hj=>by
 rw[ZbV,Zcy (h.sat _ (hp.perm.mem_iff.2 List.mem_cons_self)),Nat.zero_add,hj]
theorem ZuH:∀ a∈[0,1,2,4,8,16],∀ s:Fin 256,IntKind.u8.wrap ((BitVec.ofInt IntKind.u8.bits ((a:Nat):Int) &&& BitVec.ofInt IntKind.u8.bits ((s.val:Nat):Int)).toNat:Nat)=((a &&& s.val:Nat):Int):=by decide +kernel
theorem Zmc (c:Nat):ZbE c∈[0,1,2,4,8,16]:=by
 unfold ZbE
 repeat' split
 all_goals decide
end Go.Wk
namespace Go.Proofs.YtpipekfmecikmaaGreatDoor
open Go Go.RowKit Go.Wk
attribute [local irreducible] W RL Does Zat Zaj retQ Calls Pu Stp RD Qy Ay Zak
instance zeroKinds:ZeroT Tryz.prog 279 (kArr fun _=>0):=⟨by kernel_rfl⟩
def k1 (k i:Nat):Nat:=if (65<=i/\i<65+k)\/(97<=i/\i<97+k) then 1 else 0
def k2 (k i:Nat):Nat:=if 48<=i/\i<48+k then 2 else k1 26 i
theorem ZiH {G:Prop}(h:G:=by(apply Zbn;rfl;rfl;omega;omega)):G:=h
theorem Znw (w:World):Does Tryz.prog 264 [] w (fun v O=>v = .agg (kArr ZbE).toArray/\O=[]):=by
 refine Zaa Tryz.func264 rfl rfl rfl rfl ?_
 repeat (first|(refine js ?_;(refine bx ?_;intro bk))|refine ZmR ?_)
 rename_i b0
 have e0:kArr (k1 0)=kArr fun _=>0:=Zdj fun i _=>if_neg (by omega)
 rw[<- e0]
 refine ZbZ (fun fr' O'=>Go.Wk.Sub [(0,.pointer (some ⟨b0,0,none⟩)),(1,.pointer (some ⟨bk,0,none⟩))] fr'/\SubO [.blk bk (kArr (k1 26)) 279,.blk b0 (kArr (k1 0)) 279] O') ?_ ?_
 ·apply W_block
  refine Zai [(0,.pointer (some ⟨b0,0,none⟩)),(1,.pointer (some ⟨bk,0,none⟩))] [.blk b0 (kArr (k1 0)) 279] (fun k:Nat=>[(4,.int .i64 k)]) (fun k=>[.blk bk (kArr (k1 k)) 279]) (fun k=>k<=26) (fun k=>26 - k) 0 SFA SOA (Nat.zero_le _) ?_
  intro k hk
  repeat (first|(apply RL_pu;rfl;exact ZiH)|(refine js ?_;(refine bx ?_;intro bk))|refine walk1 ?_)
  refine Zaf rfl (fun h=>?_) (fun h=>?_)
  ·have h1:=of_decide_eq_true h
   repeat (first|(apply RL_pu;rfl;exact ZiH)|(refine js ?_;(first|(apply Zgi;rfl;rfl;(focus repeat' constructor);omega)|(refine bx ?_;intro bk)))|refine walk1 ?_)
   rw[Zdj (p:=fun i=>if i=(97+(k:Int)).toNat then 1 else if i=(65+(k:Int)).toNat then 1 else k1 k i) (q:=k1 (k+1)) (fun i hi=>by
    unfold k1
    repeat' split
    all_goals omega)]
   exact⟨k+1,OA,OA,SFA,SOA⟩
  ·have h1:=of_decide_eq_false h
   obtain rfl:k=26:=by omega
   repeat (first|(refine js ?_;(refine bx ?_;intro bk))|refine walk ?_)
   exact⟨rfl,SFA,SOA⟩
 rintro fr' O' ⟨hf,hO⟩
 apply thenQ_n
 refine ZcO hf hO ?_
 clear hf hO fr' O'
 rw[show kArr (k1 26)=kArr (k2 0) from Zdj fun i _=>(if_neg (by omega)).symm]
 repeat (first|(refine js ?_;(refine bx ?_;intro bk))|refine ZmR ?_)
 refine ZbZ (fun fr' O'=>Go.Wk.Sub [(0,.pointer (some ⟨b0,0,none⟩)),(1,.pointer (some ⟨bk,0,none⟩))] fr'/\SubO [.blk bk (kArr (k2 10)) 279,.blk b0 (kArr (k1 0)) 279] O') ?_ ?_
 ·apply W_block
  refine Zai [(0,.pointer (some ⟨b0,0,none⟩)),(1,.pointer (some ⟨bk,0,none⟩))] [.blk b0 (kArr (k1 0)) 279] (fun k:Nat=>[(14,.int .i64 k)]) (fun k=>[.blk bk (kArr (k2 k)) 279]) (fun k=>k<=10) (fun k=>10 - k) 0 SFA SOA (Nat.zero_le _) ?_
  intro k hk
  repeat (first|(apply RL_pu;rfl;exact ZiH)|(refine js ?_;(refine bx ?_;intro bk))|refine walk1 ?_)
  refine Zaf rfl (fun h=>?_) (fun h=>?_)
  ·have h1:=of_decide_eq_true h
   repeat (first|(apply RL_pu;rfl;exact ZiH)|(refine js ?_;(first|(apply Zgi;rfl;rfl;(focus repeat' constructor);omega)|(refine bx ?_;intro bk)))|refine walk1 ?_)
   rw[Zdj (p:=fun i=>if i=(48+(k:Int)).toNat then 2 else k2 k i) (q:=k2 (k+1)) (fun i hi=>by
    unfold k2
    repeat' split
    all_goals omega)]
   exact⟨k+1,OA,OA,SFA,SOA⟩
  ·have h1:=of_decide_eq_false h
   obtain rfl:k=10:=by omega
   repeat (first|(refine js ?_;(refine bx ?_;intro bk))|refine walk ?_)
   exact⟨rfl,SFA,SOA⟩
 rintro fr' O' ⟨hf,hO⟩
 apply thenQ_n
 refine ZcO hf hO ?_
 clear hf hO fr' O'
 repeat (first|(apply RL_pu;rfl;(first|exact ZiH|(apply Zq9;rfl;(focus repeat' constructor);exact ZcW _)))|(refine js ?_;(first|(apply Zgi;rfl;rfl;(focus repeat' constructor);omega)|(apply ZgK;rfl;rfl;(focus repeat' constructor);exact ZcW _;exact ZcW _;exact Zo0 _)|(refine bx ?_;intro bk)))|refine walk1 ?_)
 refine ret_1 _ [] (.cellB rfl (by repeat' constructor) (List.take_of_length_le (Nat.le_of_eq (ZcW _))) (ZcW _)) .nil ⟨?_,rfl⟩
 rw[Zdj (q:=ZbE) (fun i hi=>by
    unfold ZbE k2 k1
    repeat' split
    all_goals omega)]
theorem Zj5 {G G':Prop}(k:G')(h:Hold G'->G:=by intro k9;(first|refine walk ?_|(refine jn ?_;(try intro F);(apply Zac;exact PuA);refine fin ?_));exact k9.out):G:=h ⟨k⟩
theorem Zt8 {G:Prop}(h:G:=by(apply Pu_loadO1;rfl;first|exact h1 0 _ rfl|exact h2 0 _ rfl|exact h4 0 _ rfl)):G:=h
theorem Zom {G:Prop}(h:G:=by(first|(apply Za3 (c:=c);rfl;rfl;omega;omega;exact hcd)|(apply Zbn;rfl;rfl;omega;omega)|(apply Pu_loadO1';rfl;exact h3;exact hcell)|(apply Pu_loadO1;rfl;exact h4 0 _ rfl)|(apply Zy1;rfl;rfl))):G:=h
theorem ZyT {G:Prop}(h:G:=by first|(apply Qy_y;rfl;exact Zom)|exact QyA):G:=h
theorem Zu8 (s:ByteArray)(a b m b1 b2 b3 b4:Nat)(hs:(s.size:Int)<=9223372036854775807)(hm:m<256)(w:World)(h1:Zau w ⟨b1,0,none⟩ [.int .i64 a])(h2:Zau w ⟨b2,0,none⟩ [.int .i64 b])(h3:Zau w ⟨b3,0,none⟩ (kArr ZbE))(h4:Zau w ⟨b4,0,none⟩ [.int .u8 m]) :
  Does Tryz.prog 265 [.string s,.pointer (some ⟨b1,0,none⟩),.pointer (some ⟨b2,0,none⟩),.pointer (some ⟨b3,0,none⟩),.pointer (some ⟨b4,0,none⟩)] w (fun v O=>v = .bool (ZbK a b m s.data.toList)/\O=[]):=by
 have hlen:s.data.toList.length=s.size:=rfl
 have hg:∀ j,s.data.toList.getD j 0=(s.data.toList[j]?).getD 0:=fun j=>by rw[List.getD_eq_getElem?_getD]
 refine Zaa Tryz.func265 rfl rfl rfl rfl ?_
 rw[ZbK,hlen]
 obtain⟨l,hl⟩:∃ l,l=s.data.toList:=⟨_,rfl⟩
 rw[<- hl]at hlen hg ⊢
 repeat' (first|(apply RL_pu;rfl;exact Zt8)|(apply RD_Q;rfl;rfl;decide +kernel;rfl;rfl;exact QyName2)|refine walk1 ?_|(refine RD_Lw ?_;intro F;(apply Zac;first|exact Zt8|exact PuA);refine⟨_,EndsA,QFName2,?_⟩)|refine und ?_|(refine Zam rfl rfl rfl (fun hc=>?_) (fun hc=>?_))|(refine Zas rfl rfl rfl (fun hc=>?_) (fun hc=>?_))|(refine Zaf rfl (fun hc=>?_) (fun hc=>?_)))
 ·have h:=of_decide_eq_true hc
  exact ret_1 _ [] (.tmp rfl) .nil ⟨by rw[decide_eq_false (show ¬ a<=s.size by omega)];rfl,rfl⟩
 ·have h:=of_decide_eq_true hc
  exact ret_1 _ [] (.tmp rfl) .nil ⟨by rw[decide_eq_false (show ¬ s.size<=b by omega),Bool.and_false];rfl,rfl⟩
 rename_i hca
 have ha:=of_decide_eq_false hca
 have hb:=of_decide_eq_false hc
 rw[decide_eq_true (show a<=s.size by omega),decide_eq_true (show s.size<=b by omega),Bool.true_and,Bool.true_and]
 refine Zai [(0,.string s),(3,.pointer (some ⟨b3,0,none⟩)),(4,.pointer (some ⟨b4,0,none⟩)),(19,.int .i64 s.size)] [] (fun k:Nat=>[(20,.int .i64 k)]) (fun _=>[]) (fun k=>k<=s.size/\Zby m (l.take k)=true) (fun k=>s.size - k) 0 SFA .nil ⟨Nat.zero_le _,rfl⟩ ?_
 rintro k ⟨hk,hok⟩
 repeat refine Zj5 ?_
 refine Zaf rfl (fun h=>?_) (fun h=>?_)
 ·have hlt:=of_decide_eq_true h
  have hlt':k<l.length:=by omega
  have hd:l.getD k 0=l[k]:=by rw[hg,List.getElem?_eq_getElem hlt'];rfl
  have hc8:=UInt8.toNat_lt (l.getD k 0)
  have hcell:=Zvh (p:=ZbE) hc8
  have hw:=ZuH (ZbE (l.getD k 0).toNat) (Zmc _) ⟨m,hm⟩
  have hst:Zby m (l.take (k+1))=(Zby m (l.take k)&&!decide (ZbE (l.getD k 0).toNat &&& m=0)):=by
   rw[Zby,List.take_succ_eq_append_getElem hlt',List.all_append,hd]
   simp[Zby]
  have hall:Zby m l=(Zby m (l.take (k+1))&&Zby m (l.drop (k+1))):=by
   rw[Zby,Zby,Zby,<- List.all_append,List.take_append_drop]
  rw[hok,Bool.true_and]at hst
  obtain⟨c,hcd⟩:∃ c,s.data.toList.getD k 0=c:=⟨_,rfl⟩
  rw[hl,hcd]at hc8 hcell hw
  rw[hl]at hst
  rw[hcd,<- hl]at hst
  rw[<- Nat.mul_one c.toNat]at hcell
  rw[show ZbE (c.toNat*1)=ZbE c.toNat by rw[Nat.mul_one]]at hcell
  simp only at hw
  repeat (first|(apply RL_pu;rfl;exact Zom)|(apply RD_Q;rfl;rfl;decide +kernel;rfl;rfl;exact ZyT)|refine walk1 ?_|(refine jn ?_;(try intro F);(apply Zac;first|exact Zom|exact PuA);first|refine⟨_,EndsA,QFName3,?_⟩|refine fin ?_))
  rw[hw]
  refine Zaf rfl (fun hz=>?_) (fun hz=>?_)
  ·have h0:=of_decide_eq_true hz
   have h0':ZbE c.toNat &&& m=0:=by omega
   rw[hall,hst,decide_eq_true h0']
   repeat refine Zj5 ?_
   exact rtA
  ·have h0:=of_decide_eq_false hz
   have h0':¬ ZbE c.toNat &&& m=0:=by omega
   rw[decide_eq_false h0']at hst
   repeat refine Zj5 ?_
   exact⟨k+1,OA,⟨OA,hst⟩,SFA,.nil⟩
 ·have h1:=of_decide_eq_false h
  obtain rfl:k=s.size:=by omega
  rw[<- hlen,List.take_length]at hok
  repeat refine Zj5 ?_
  exact ret_1 _ [] (.tmp rfl) .nil ⟨by rw[hok],rfl⟩
def ofV (b1 b2 b3 b4:Nat):Value := .func (.func 265) #[] #[.pointer (some ⟨b1,0,none⟩),.pointer (some ⟨b2,0,none⟩),.pointer (some ⟨b3,0,none⟩),.pointer (some ⟨b4,0,none⟩)]
def ofO (a b m b1 b2 b3 b4:Nat):List It:=[.blk b1 [.int .i64 a] 3,.blk b2 [.int .i64 b] 3,.blk b3 (kArr ZbE) 279,.blk b4 [.int .u8 m] 5]
theorem Zfw (a b m:Nat)(w:World):Does Tryz.prog 215 [.int .i64 a,.int .i64 b,.int .u8 m] w (fun v O=>∃ b1 b2 b3 b4,v=ofV b1 b2 b3 b4/\O=ofO a b m b1 b2 b3 b4):=by
 refine Zaa Tryz.func215 rfl rfl rfl rfl ?_
 repeat (first|(refine js ?_;(first|(refine Zab (fun w' _=>Znw w') ?_)|(apply ZgK;rfl;rfl;(focus repeat' constructor);exact ZcW _;exact ZcW _;exact Zo0 _)|(refine bx ?_;intro bk)))|refine walk ?_)
 exact ret_1 _ _ (.tmp rfl) SOA ⟨_,_,_,_,rfl,rfl⟩
theorem Zkg {base:Nat}{s:ByteArray}{a b m b1 b2 b3 b4:Nat}{O:List It}{w:World}(hs:(s.size:Int)<=9223372036854775807)(hm:m<256)(hH:ZaA base O w)(hO:SubO (ofO a b m b1 b2 b3 b4) O) :
  Does Tryz.prog 265 ([]++[.string s]++[.pointer (some ⟨b1,0,none⟩),.pointer (some ⟨b2,0,none⟩),.pointer (some ⟨b3,0,none⟩),.pointer (some ⟨b4,0,none⟩)]) w (fun v O=>v = .bool (ZbK a b m s.data.toList)/\O=[]):=by
 have h:=hH.sub hO
 unfold ofO at h
 exact Zu8 s a b m b1 b2 b3 b4 hs hm w (h.cells (by repeat' constructor)) (h.cells (by repeat' constructor)) (h.cells (by repeat' constructor)) (h.cells (by repeat' constructor))
theorem ZnB (s:ByteArray)(hs:(s.size:Int)<=9223372036854775807)(w:World):Does Tryz.prog 399 [.string s] w (fun v O=>v = .bool (Zeg s)/\O=[]):=by
 refine Zaa Tryz.func399 rfl rfl rfl rfl ?_
 repeat (first|(refine js ?_;(first|(apply Zae (h:=fun w' _ _=>Zfw 1 4 1 w');rfl;rintro v O' ⟨b1,b2,b3,b4,rfl,rfl⟩)|(apply Zay (f:=265) (us:=[]) (vs:=[.string s]) (cs:=[.pointer (some ⟨b1,0,none⟩),.pointer (some ⟨b2,0,none⟩),.pointer (some ⟨b3,0,none⟩),.pointer (some ⟨b4,0,none⟩)]) (h:=fun w' _ hH=>Zkg (a:=1) (b:=4) (m:=1) hs (by decide) hH (by exact .refl _));rfl;rfl;rintro v O' ⟨rfl,rfl⟩)))|refine walk ?_)
 exact rtA
theorem ZfM (s:ByteArray)(hs:(s.size:Int)<=9223372036854775807)(w:World):Does Tryz.prog 150 [.string s] w (fun v O=>v = .bool (ZgU s)/\O=[]):=by
 refine Zaa Tryz.func150 rfl rfl rfl rfl ?_
 repeat (first|(refine js ?_;(first|(apply Zae (h:=fun w' _ _=>Zfw 3 6 1 w');rfl;rintro v O' ⟨b1,b2,b3,b4,rfl,rfl⟩)|(apply Zay (f:=265) (us:=[]) (vs:=[.string s]) (cs:=[.pointer (some ⟨b1,0,none⟩),.pointer (some ⟨b2,0,none⟩),.pointer (some ⟨b3,0,none⟩),.pointer (some ⟨b4,0,none⟩)]) (h:=fun w' _ hH=>Zkg (a:=3) (b:=6) (m:=1) hs (by decide) hH (by exact .refl _));rfl;rfl;rintro v O' ⟨rfl,rfl⟩)))|refine walk ?_)
 exact rtA
end Go.Proofs.YtpipekfmecikmaaGreatDoor
namespace Go.Wk
open Go Go.RowKit
theorem Zf6 {a b m:Nat}{s:ByteArray}(h:ZbK a b m s.data.toList=true):(a:Int)<=s.size/\(s.size:Int)<=b:=by
 simp only[ZbK,Bool.and_eq_true,decide_eq_true_eq]at h
 have:s.data.toList.length=s.size:=rfl
 omega
theorem ext1 (s:ByteArray):(s.extract 0 1).data.toList=s.data.toList.take 1:=by
 rw[ByteArray.data_extract];simp
end Go.Wk
namespace Go.Proofs.YtpipekfmecikmaaGreatDoor
open Go Go.RowKit Go.Wk
attribute [local irreducible] W RL Does Zat Zaj retQ Calls Pu Stp RD Qy Ay Zak ZbK
theorem ZoU {base:Nat}{s:ByteArray}{a b m b1 b2 b3 b4:Nat}{O:List It}{w:World}(hs:(s.size:Int)<=9223372036854775807)(hm:m<256)(hH:ZaA base O w)(hO:SubO (ofO a b m b1 b2 b3 b4) O) :
  Does Tryz.prog 265 ([]++[.string s]++[.pointer (some ⟨b1,0,none⟩),.pointer (some ⟨b2,0,none⟩),.pointer (some ⟨b3,0,none⟩),.pointer (some ⟨b4,0,none⟩)]) w (fun v O=>∃ x,ZbK a b m s.data.toList=x/\v = .bool x/\O=[]) :=
 (Zkg hs hm hH hO).monoO fun v O ⟨h1,h2⟩=>⟨O,⟨_,rfl,h1,h2⟩,fun _ _ h=>h⟩
theorem ZkP {G:Prop}(h:G:=by(apply Zgo;rfl;rfl;decide;exact hsz)):G:=h
theorem Zpr {G:Prop}(h:G:=by first|(apply Qy_y;rfl;exact ZkP)|exact QyA):G:=h
theorem ZvL {G:Prop}(h:G:=by repeat (first|exact QF.nil|(apply QF.mk;rfl;rfl;decide +kernel;exact Zpr))):G:=h
theorem ZuQ (s:ByteArray)(hs:(s.size:Int)<=9223372036854775807)(w:World):Does Tryz.prog 175 [.string s] w (fun v O=>v = .bool (setB s)/\O=[]):=by
 have hs1:((s.extract 0 1).size:Int)<=9223372036854775807:=by rw[ByteArray.size_extract];omega
 refine Zaa Tryz.func175 rfl rfl rfl rfl ?_
 repeat (first|refine walk ?_|(refine jn ?_;(try intro F);(first|(apply Zae (h:=fun w' _ _=>Zfw 1 30 15 w');rfl;rintro v O' ⟨b1,b2,b3,b4,rfl,rfl⟩)|(apply Zay (f:=265) (us:=[]) (vs:=[.string (s)]) (cs:=[.pointer (some ⟨b1,0,none⟩),.pointer (some ⟨b2,0,none⟩),.pointer (some ⟨b3,0,none⟩),.pointer (some ⟨b4,0,none⟩)]) (h:=fun w' _ hH=>ZoU (a:=1) (b:=30) (m:=15) hs (by decide) hH SOA);rfl;rfl;rintro v O' ⟨x1,hx1,rfl,rfl⟩)|(apply Zac;exact PuA));refine fin ?_))
 refine Zas rfl rfl rfl (fun hc=>?_) (fun hc=>?_)
 ·subst hc
  have hsz:=(Zf6 hx1).1
  have e:setB s=ZbK 1 1 1 (s.extract 0 1).data.toList:=by rw[setB,hx1,ext1];rfl
  rw[e]
  repeat (first|(apply RL_pu;rfl;exact ZkP)|(apply RD_Q;rfl;rfl;decide +kernel;rfl;rfl;exact Zpr)|refine walk1 ?_|(refine jn ?_;(try intro F);(first|(apply Zae (h:=fun w' _ _=>Zfw 1 1 1 w');rfl;rintro v O' ⟨b1,b2,b3,b4,rfl,rfl⟩)|(apply Zay (f:=265) (us:=[]) (vs:=[.string (s.extract 0 1)]) (cs:=[.pointer (some ⟨b1,0,none⟩),.pointer (some ⟨b2,0,none⟩),.pointer (some ⟨b3,0,none⟩),.pointer (some ⟨b4,0,none⟩)]) (h:=fun w' _ hH=>ZoU (a:=1) (b:=1) (m:=1) hs1 (by decide) hH SOA);rfl;rfl;rintro v O' ⟨x2,hx2,rfl,rfl⟩)|(apply Zac;first|exact ZkP|exact PuA));first|refine⟨_,EndsA,ZvL,?_⟩|refine fin ?_))
  exact ret_1 _ [] (.tmp rfl) .nil ⟨by rw[hx2],rfl⟩
 ·subst hc
  have e:setB s=false:=by rw[setB,hx1];rfl
  rw[e]
  repeat (first|refine walk ?_|(refine jn ?_;(try intro F);(apply Zac;exact PuA);refine fin ?_))
  exact rtA
end Go.Proofs.YtpipekfmecikmaaGreatDoor
