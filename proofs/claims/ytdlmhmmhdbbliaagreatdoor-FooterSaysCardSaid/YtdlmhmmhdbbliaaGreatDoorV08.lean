/- Parts of the proof. -/
import Derived.Test.YtdlmhmmhdbbliaaGreatDoorV07
set_option maxHeartbeats 4000000
set_option linter.unusedVariables false
set_option linter.unusedSimpArgs false
namespace Go.Proofs.YtdlmhmmhdbbliaaGreatDoor
open Go Go.RowKit Go.Wk
attribute [local irreducible] W RL Does Zau Zak retQ Calls Pu Stp RD Qy Ay Zaj
theorem Zhl (y:Int)(w:World):Does Tryz.prog 19 [.int .i64 y] w (fun v O=>v = .bool (inY y)/\O=[]):=by
 refine Zaa Tryz.func19 rfl rfl rfl rfl ?_
 repeat' (first|refine walk ?_|refine und ?_|(refine Zat rfl rfl rfl (fun hc=>?_) (fun hc=>?_))|(refine Zas rfl rfl rfl (fun hc=>?_) (fun hc=>?_))|(refine Zaf rfl (fun hc=>?_) (fun hc=>?_)))
 all_goals first|(refine ret_1 _ [] (.tmp rfl) .nil ⟨?_,rfl⟩;first|rfl|(simp only[*,Bool.true_and,Bool.false_and,Bool.true_or,Bool.false_or,Bool.not_true,Bool.not_false];done)|(simp_all [inY];done)|(simp_all [inY];omega)|(simp_all [inY];rw[Bool.eq_iff_iff];simp;omega))|(exfalso;simp_all [inY];done)|(exfalso;simp_all [inY];omega)|(exfalso;omega)
theorem ZqM {G:Prop}(h:G:=by(apply Pu_rem;rfl;rfl;decide)):G:=h
theorem ZmH (y:Int)(w:World):Does Tryz.prog 56 [.int .i64 y] w (fun v O=>v = .bool (Zex y)/\O=[]):=by
 rw[show Zex y=(decide (y.tmod 4=0)&&(!decide (y.tmod 100=0)||decide (y.tmod 400=0))) by simp only[Zex,Zsu]]
 refine Zaa Tryz.func56 rfl rfl rfl rfl ?_
 repeat' (first|(apply RL_pu;rfl;exact ZqM)|refine walk1 ?_|refine und ?_|(refine Zat rfl rfl rfl (fun hc=>?_) (fun hc=>?_))|(refine Zas rfl rfl rfl (fun hc=>?_) (fun hc=>?_))|(refine Zaf rfl (fun hc=>?_) (fun hc=>?_)))
 all_goals exact clo1
theorem ZbV (y m:Int)(w:World):Does Tryz.prog 20 [.int .i64 y,.int .i64 m] w (fun v O=>v = .int .i64 (lenM y m)/\O=[]):=by
 refine Zaa Tryz.func20 rfl rfl rfl rfl ?_
 repeat' (first|(refine js ?_;(refine Zac (fun w' _=>ZmH y w') ?_))|refine walk ?_|refine und ?_|(refine Zat rfl rfl rfl (fun hc=>?_) (fun hc=>?_))|(refine Zas rfl rfl rfl (fun hc=>?_) (fun hc=>?_))|(refine Zaf rfl (fun hc=>?_) (fun hc=>?_)))
 all_goals first|(refine ret_1 _ [] (.tmp rfl) .nil ⟨?_,rfl⟩;first|rfl|(simp only[*,Bool.true_and,Bool.false_and,Bool.true_or,Bool.false_or,Bool.not_true,Bool.not_false];done)|(simp_all [lenM];done)|(simp_all [lenM];omega)|(simp_all [lenM];rw[Bool.eq_iff_iff];simp;omega))|(exfalso;simp_all [lenM];done)|(exfalso;simp_all [lenM];omega)|(exfalso;omega)
theorem ZlO {G:Prop}(h:G:=by(first|(apply ZzU;rfl;rfl;omega;omega)|(apply Pu_rem;rfl;rfl;omega))):G:=h
theorem ZqB {G:Prop}(h:G:=by first|(apply Qy_y;rfl;exact ZlO)|exact QyA):G:=h
theorem Zxf {G:Prop}(h:G:=by repeat (first|exact QF.nil|(apply QF.mk;rfl;rfl;decide +kernel;exact ZqB))):G:=h
theorem ZcZ (a b:Int)(h0:0<b)(ha : -4611686018427387904<=a/\a<=4611686018427387904)(hb:b<=4611686018427387904)(w:World):Does Tryz.prog 21 [.int .i64 a,.int .i64 b] w (fun v O=>v = .tuple #[.int .i64 (a / b),.int .i64 (a % b)]/\O=[]):=by
 have h2:=Int.tmod_lt_of_pos a h0
 have h3:=Int.lt_tmod_of_pos a h0
 have h4:=Zsx a b
 obtain⟨h5,h6⟩:=ZpJ a b h0
 refine Zaa Tryz.func21 rfl rfl rfl rfl ?_
 repeat' (first|(apply RL_pu;rfl;exact ZlO)|(apply RD_Q;rfl;rfl;decide +kernel;rfl;rfl;exact ZqB)|refine walk1 ?_|(refine RD_Lw ?_;intro F;(apply Zae;first|exact ZlO|exact PuA);refine⟨_,EndsA,Zxf,?_⟩)|(refine Zaf rfl (fun hc=>?_) (fun hc=>?_)))
 ·obtain⟨e1,e2⟩:=h5 (of_decide_eq_true hc)
  exact ret_2 _ _ [] (.tmp rfl) (.tmp rfl) .nil ⟨by rw[<- e1,<- e2],rfl⟩
 ·obtain⟨e1,e2⟩:=h6 (of_decide_eq_false hc)
  exact ret_2 _ _ [] (.tmp rfl) (.tmp rfl) .nil ⟨by rw[<- e1,<- e2],rfl⟩
theorem ZjW (a:Int)(ha : -4611686018427387904<=a/\a<=4611686018427387904)(w:World):Does Tryz.prog 305 [.int .i64 a] w (fun v O=>v = .int .i64 (ZlW a)/\O=[]):=by
 have h2:=Int.tmod_lt_of_pos a (b:=7) (by decide)
 have h3:=Int.lt_tmod_of_pos a (b:=7) (by decide)
 refine Zaa Tryz.func305 rfl rfl rfl rfl ?_
 repeat (first|(apply RL_pu;rfl;exact ZqM)|(refine js ?_;(refine Zac (fun w' _=>ZcZ (a.tmod 7+4) 7 (by decide) (by omega) (by decide) w') ?_))|refine walk1 ?_)
 refine ret_1 _ [] (.tmp rfl) .nil ⟨?_,rfl⟩
 have h:=ZpJ a 7 (by decide)
 have e:(a.tmod 7+4) % 7=ZlW a:=by
  unfold ZlW
  by_cases hn:a.tmod 7<0
  ·have:=(h.1 hn).2
   omega
  ·have:=(h.2 hn).2
   omega
 rw[e]
theorem Zlu {w:World}(hG:Glob w)(k:Nat)(hk:k<12):(ZaN.map fun n=>Value.int .i64 n)[k*1]?=some (.int .i64 (ZaN.getD k 0)):=by
 rw[Nat.mul_one,List.getElem?_map,List.getD_eq_getElem?_getD,List.getElem?_eq_getElem (show k<ZaN.length from hk)]
 rfl
theorem Zm8 {y m d:Int}(h:ZaL y m d=true):(-2000000000<=y/\y<=2000000000)/\(1<=m/\m<=12)/\1<=d/\d<=31:=by
 simp only[ZaL,inY,Bool.and_eq_true,decide_eq_true_eq]at h
 obtain⟨⟨⟨h1,h2⟩,h3⟩,h4⟩:=h
 have h5:=Zg9 y m
 refine⟨⟨h1,h2⟩,?_,h3,by omega⟩
 unfold lenM at h4
 split at h4 <;> omega
theorem ZgR {G:Prop}(h:G:=by(first|(apply ZcQ;rfl;rfl;(constructor <;> omega))|(apply Pu_quo64;rfl;rfl;omega;omega;omega)|(apply ZaT;rfl;rfl;omega;omega)|(apply Pu_loadO1';rfl;exact hG.bef;exact hb))):G:=h
theorem ZqA {G:Prop}(h:G:=by first|(apply Qy_y;rfl;exact ZgR)|exact QyA):G:=h
theorem Zxe {G:Prop}(h:G:=by repeat (first|exact QF.nil|(apply QF.mk;rfl;rfl;decide +kernel;exact ZqA))):G:=h
theorem Zdj (y m d:Int)(w:World)(hG:Glob w):Does Tryz.prog 7 [.int .i64 y,.int .i64 m,.int .i64 d] w (fun v O=>v = .tuple #[.int .i64 (if ZaL y m d then Zan y m d else 0),.int .i64 (if ZaL y m d then 0 else 3)]/\O=[]):=by
 refine Zaa Tryz.func7 rfl rfl rfl rfl ?_
 by_cases hok:ZaL y m d=true
 ·obtain⟨h1,h2,h3⟩:=Zm8 hok
  have hl:=hok
  simp only[ZaL,Bool.and_eq_true,decide_eq_true_eq]at hl
  obtain⟨⟨hy,_⟩,hd⟩:=hl
  rw[if_pos hok,if_pos hok]
  by_cases hm:m<3
  ·have hb:=Zlu hG (m+12 - 3).toNat (by omega)
   have hq:=Zfn (m+12 - 3).toNat
   rw[Zan,if_pos hm,Zb3]
   generalize ZaN.getD (m+12 - 3).toNat 0=q at *
   repeat' (first|(apply RL_pu;rfl;exact ZgR)|(refine js ?_;(first|(refine Zac (fun w' _=>Zhl y w') ?_)|(refine Zac (fun w' _=>ZbV y m w') ?_)|(refine Zac (fun w' _=>ZcZ (y - 1) 400 (by decide) (by omega) (by decide) w') ?_)))|refine walk1 ?_|refine und ?_|(refine Zat rfl rfl rfl (fun hc=>?_) (fun hc=>?_))|(refine Zas rfl rfl rfl (fun hc=>?_) (fun hc=>?_))|(refine Zaf rfl (fun hc=>?_) (fun hc=>?_)))
   all_goals exact clo2
  ·have hb:=Zlu hG (m - 3).toNat (by omega)
   have hq:=Zfn (m - 3).toNat
   rw[Zan,if_neg hm,Zb3]
   generalize ZaN.getD (m - 3).toNat 0=q at *
   repeat' (first|(apply RL_pu;rfl;exact ZgR)|(refine js ?_;(first|(refine Zac (fun w' _=>Zhl y w') ?_)|(refine Zac (fun w' _=>ZbV y m w') ?_)|(refine Zac (fun w' _=>ZcZ y 400 (by decide) (by omega) (by decide) w') ?_)))|refine walk1 ?_|refine und ?_|(refine Zat rfl rfl rfl (fun hc=>?_) (fun hc=>?_))|(refine Zas rfl rfl rfl (fun hc=>?_) (fun hc=>?_))|(refine Zaf rfl (fun hc=>?_) (fun hc=>?_)))
   all_goals exact clo2
 ·rw[if_neg hok,if_neg hok]
  repeat' (first|(refine js ?_;(first|(refine Zac (fun w' _=>Zhl y w') ?_)|(refine Zac (fun w' _=>ZbV y m w') ?_)))|refine walk ?_|refine und ?_|(refine Zat rfl rfl rfl (fun hc=>?_) (fun hc=>?_))|(refine Zas rfl rfl rfl (fun hc=>?_) (fun hc=>?_))|(refine Zaf rfl (fun hc=>?_) (fun hc=>?_)))
  all_goals first|(refine ret_2 _ _ [] (.tmp rfl) (.tmp rfl) .nil ⟨?_,rfl⟩;first|rfl|(simp only[*,Bool.true_and,Bool.false_and,Bool.true_or,Bool.false_or,Bool.not_true,Bool.not_false];done)|(simp_all [ZaL];done)|(simp_all [ZaL];omega)|(simp_all [ZaL];rw[Bool.eq_iff_iff];simp;omega))|(exfalso;simp_all [ZaL];done)|(exfalso;simp_all [ZaL];omega)|(exfalso;omega)
theorem Zsf (n:Int):n / 146097+(n % 146097+719468) / 146097=(n+719468) / 146097/\(n % 146097+719468) % 146097=(n+719468) % 146097:=by omega
theorem Ztk (r:Int):∀ m,monN r m<=m
 | 0=>Nat.le_refl _
 | m+1=>by
  rw[monN]
  split
  ·exact Nat.le_refl _
  ·have:=Ztk r m;omega
theorem Zfw {G:Prop}(h:G:=by(first|(apply ZcQ;rfl;rfl;(constructor <;> omega))|(apply Pu_quo64;rfl;rfl;omega;omega;omega))):G:=h
theorem ZkY {G G':Prop}(k:G')(h:Hold G'->G:=by intro k9;(first|(apply RL_pu;rfl;exact Zfw)|(apply RD_Q;rfl;rfl;decide +kernel;rfl;rfl;exact QyCivil3)|refine walk1 ?_|(refine jn ?_;(try intro F);(apply Zae;first|exact Zfw|exact PuA);first|refine⟨_,EndsA,QFCivil3,?_⟩|refine fin ?_));exact k9.out):G:=h ⟨k⟩
theorem ZqL {G:Prop}(h:G:=by(first|(apply ZaT;rfl;rfl;omega;omega)|(apply Pu_loadO1';rfl;exact hG.bef;exact hb))):G:=h
theorem Zt9 (n:Int)(hn : -1000000000000000000<=n/\n<=1000000000000000000)(w:World)(hG:Glob w):Does Tryz.prog 68 [.int .i64 n] w (fun v O=>(∃ m d,v = .tuple #[.int .i64 (Zhj n),.int .i64 m,.int .i64 d])/\O=[]):=by
 obtain⟨c1,c2⟩:=Zsf n
 have c3:0<=(n+719468) % 146097/\(n+719468) % 146097<146097:=by omega
 obtain⟨y1,y2,y3,y4⟩:=ZpA _ c3.1 c3.2
 have hD:Zhj n=if 10<=monN ((n+719468) % 146097 - (ZcR ((n+719468) % 146097)*365+ZcR ((n+719468) % 146097) / 4 - ZcR ((n+719468) % 146097) / 100)) 11 then (n+719468) / 146097*400+ZcR ((n+719468) % 146097)+1 else (n+719468) / 146097*400+ZcR ((n+719468) % 146097):=rfl
 refine Zaa Tryz.func68 rfl rfl rfl rfl ?_
 repeat (first|(apply RL_pu;rfl;exact Zfw)|(apply RD_Q;rfl;rfl;decide +kernel;rfl;rfl;exact QyCivil3)|refine walk1 ?_|(refine jg ?_;(try intro F);(refine Zac (fun w' _=>ZcZ n 146097 (by decide) (by omega) (by decide) w') ?_);first|refine⟨_,EndsA,QFCivil3,?_⟩|refine fin ?_)|(refine jn ?_;(try intro F);(apply Zae;first|exact Zfw|exact PuA);first|refine⟨_,EndsA,QFCivil3,?_⟩|refine fin ?_))
 refine Zaf rfl (fun _=>?_) (fun h=>?_)
 rotate_left
 ·have:=of_decide_eq_false h
  omega
 repeat (first|refine walk ?_|(refine jg ?_;(try intro F);(refine Zac (fun w' _=>ZcZ (n % 146097+719468) 146097 (by decide) (by omega) (by decide) w') ?_);refine fin ?_)|(refine jn ?_;(try intro F);(apply Zae;exact PuA);refine fin ?_))
 rw[c1,c2]
 clear c1 c2
 generalize hcc:(n+719468) / 146097=c at *
 have hcb : -10000000000000<=c/\c<=10000000000000:=by omega
 generalize (n+719468) % 146097=r at *
 rw[show(r - r / 1460+r / 36524 - r / 146096) / 365=ZcR r from rfl]
 generalize ZcR r=y at *
 clear hn hcc
 generalize hq:r - (y*365+y / 4 - y / 100)=q at *
 repeat (first|(apply RL_pu;rfl;exact Zfw)|(apply RD_Q;rfl;rfl;decide +kernel;rfl;rfl;exact QyCivil3)|refine walkB1 ?_|(refine jn ?_;(try intro F);(apply Zae;first|exact Zfw|exact PuA);first|refine⟨_,EndsA,QFCivil3,?_⟩|refine fin ?_))
 rw[hq]
 refine Zbx (fun fr' O'=>Sub [(10,.int .i64 (monN q 11)),(5,.int .i64 c),(9,.int .i64 y),(6,.int .i64 q)] fr'/\SubO [] O') ?_ ?_
 ·apply W_block
  refine Zao [(5,.int .i64 c),(9,.int .i64 y),(6,.int .i64 q)] [] (fun k:Nat=>[(10,.int .i64 k)]) (fun _=>[]) (fun k=>k<=11/\monN q k=monN q 11) (fun k=>k) 11 SFA .nil ⟨Nat.le_refl _,rfl⟩ ?_
  rintro k ⟨hk,hm⟩
  have hb:=Zlu hG k (by omega)
  have hstp:∀ j,k=j+1->monN q k=if ZaN.getD k 0<=q then k else monN q j:=fun j h=>by subst h;rw[monN]
  have h0:k=0->ZaN.getD k 0=0:=fun h=>by subst h;rfl
  generalize ZaN.getD k 0=z at *
  repeat (first|(apply RL_pu;rfl;exact ZqL)|(apply RD_Q;rfl;rfl;decide +kernel;rfl;rfl;exact QyCivil4)|refine walk1 ?_|(refine jn ?_;(try intro F);(apply Zae;first|exact ZqL|exact PuA);first|refine⟨_,EndsA,QFCivil4,?_⟩|refine fin ?_))
  refine Zaf rfl (fun h=>?_) (fun h=>?_)
  ·have h1:=of_decide_eq_true h
   have hk1:k≠0:=fun e=>by have:=h0 e;omega
   obtain⟨j,rfl⟩:∃ j,k=j+1:=⟨k - 1,by omega⟩
   have h2:=hstp j rfl
   rw[if_neg (by omega)]at h2
   repeat refine ZkY ?_
   rw[show((j+1:Nat):Int) - 1=(j:Int) by omega]
   exact⟨j,OA,⟨OA,by rw[<- h2];exact hm⟩,SFA,.nil⟩
  ·have h1:=of_decide_eq_false h
   have h2:monN q k=k:=by
    cases k with
    | zero=>rfl
    | succ j =>
     have h2:=hstp j rfl
     rw[if_pos (by omega)]at h2
     exact h2
   repeat (first|refine walk ?_|(refine jn ?_;(try intro F);(apply Zae;exact PuA);refine fin ?_))
   rw[<- hm,h2]
   exact⟨rfl,SFA,.nil⟩
 rintro fr' O' ⟨hf,hO⟩
 apply thenQ_n
 refine Zb0 hf hO ?_
 clear hf hO fr' O'
 have hml:=Ztk q 11
 generalize monN q 11=k at *
 have hb:=Zlu hG k (by omega)
 have hbb:=Zfn k
 generalize ZaN.getD k 0=z at *
 repeat (first|(apply RL_pu;rfl;exact ZgR)|(apply RD_Q;rfl;rfl;decide +kernel;rfl;rfl;exact ZqA)|refine walk1 ?_|(refine jn ?_;(try intro F);(apply Zae;first|exact ZgR|exact PuA);first|refine⟨_,EndsA,Zxe,?_⟩|refine fin ?_))
 refine Zaf rfl (fun h=>?_) (fun h=>?_)
 ·have h1:=of_decide_eq_true h
  rw[if_pos (by omega)]at hD
  repeat refine ZkY ?_
  exact ZhR _ _ _ [] (.tmp rfl) (.tmp rfl) (.tmp rfl) .nil ⟨⟨_,_,by rw[hD]⟩,rfl⟩
 ·have h1:=of_decide_eq_false h
  rw[if_neg (by omega)]at hD
  repeat refine ZkY ?_
  exact ZhR _ _ _ [] (.tmp rfl) (.tmp rfl) (.tmp rfl) .nil ⟨⟨_,_,by rw[hD]⟩,rfl⟩
theorem Zh8 (t:Int)(ht : -4611686018427387904<=t/\t<=4611686018427387904)(w:World)(hG:Glob w):Does Tryz.prog 28 [.int .i64 t] w (fun v O=>v = .int .i64 (ZaA t)/\O=[]):=by
 refine Zaa Tryz.func28 rfl rfl rfl rfl ?_
 repeat (first|(apply RL_pu;rfl;(first|(apply Ze2;rfl;rfl)|(apply Zpe;rfl;rfl)))|(refine js ?_;(first|(refine Zac (fun w' _=>ZcZ t 86400 (by decide) (by omega) (by decide) w') ?_)|(apply Zag (h:=fun w' hw _=>Zt9 (t / 86400) (by omega) w' (hG.up hw));rfl;rintro v O' ⟨⟨m,d,rfl⟩,rfl⟩)))|refine walk1 ?_)
 refine ret_1 _ [] (.tmp rfl) .nil ⟨?_,rfl⟩
 unfold ZaA
 generalize Zhj (t / 86400)=y
 congr 1
 split <;> split <;> omega
theorem ZoU (x k:Int)(hx : -1000000000000000000<=x/\x<=1000000000000000000)(hk:0<=k/\k<=6)(w:World):Does Tryz.prog 303 [.int .i64 x,.int .i64 k] w (fun v O=>v = .int .i64 (ZeX x k)/\O=[]):=by
 have hw:=ZpC x
 refine Zaa Tryz.func303 rfl rfl rfl rfl ?_
 unfold ZeX
 repeat' (first|(apply RL_pu;rfl;exact PuDayf0)|(refine js ?_;(refine Zac (fun w' _=>ZjW x (by omega) w') ?_))|refine walk1 ?_|(refine Zaf rfl (fun hc=>?_) (fun hc=>?_)))
 all_goals exact clo1
theorem Zjg (x k:Int)(hx : -1000000000000000000<=x/\x<=1000000000000000000)(hk:0<=k/\k<=6)(w:World):Does Tryz.prog 301 [.int .i64 x,.int .i64 k] w (fun v O=>v = .int .i64 (Zel x k)/\O=[]):=by
 have hw:=ZpC x
 refine Zaa Tryz.func301 rfl rfl rfl rfl ?_
 unfold Zel
 repeat' (first|(apply RL_pu;rfl;exact PuDayf0)|(refine js ?_;(refine Zac (fun w' _=>ZjW x (by omega) w') ?_))|refine walk1 ?_|(refine Zaf rfl (fun hc=>?_) (fun hc=>?_)))
 all_goals exact clo1
def ZmK (k:Int):FuncId:=if k=1 then 299 else if k=2 then 300 else if k=3 then 302 else 304
theorem Zru (p q:Int)(d:DDay)(hp : -100000000000000000<=p/\p<=100000000000000000)(hq : -100000000000000000<=q/\q<=100000000000000000)(hk:1<=d.kind/\d.kind<=4)(hw:0<=d.week/\d.week<=6)(hd:0<=d.day/\d.day<=31)(w:World) :
  Does Tryz.prog (ZmK d.kind) [.int .i64 p,.int .i64 q,.agg (DDay.enc d).toArray] w (fun v O=>v = .int .i64 (Zey p q d)/\O=[]):=by
 obtain⟨k,wk,dd⟩:=d
 simp only at hk hw hd ⊢
 have h4:k=1\/k=2\/k=3\/k=4:=by omega
 rcases h4 with rfl|rfl|rfl|rfl
 ·rw[show Zey p q ⟨1,wk,dd⟩=p+dd - 1 by simp[Zey]]
  show Does _ 299 [.int .i64 p,.int .i64 q,.agg #[.int .i64 1,.int .i64 wk,.int .i64 dd]] w _
  refine Zaa Tryz.func299 rfl rfl rfl rfl ?_
  repeat' (first|(apply RL_pu;rfl;exact PuDayf0)|(refine js ?_;(refine bx ?_;intro bk))|refine walk1 ?_|(refine Zaf rfl (fun hc=>?_) (fun hc=>?_)))
  all_goals exact clo1
 ·rw[show Zey p q ⟨2,wk,dd⟩=Zel q wk by simp[Zey]]
  show Does _ 300 [.int .i64 p,.int .i64 q,.agg #[.int .i64 2,.int .i64 wk,.int .i64 dd]] w _
  refine Zaa Tryz.func300 rfl rfl rfl rfl ?_
  repeat' (first|(apply RL_pu;rfl;exact PuDayf0)|(refine js ?_;(first|(refine Zac (fun w' _=>Zjg q wk (by omega) hw w') ?_)|(refine bx ?_;intro bk)))|refine walk1 ?_|(refine Zaf rfl (fun hc=>?_) (fun hc=>?_)))
  all_goals exact clo1
 ·rw[show Zey p q ⟨3,wk,dd⟩=ZeX (p+dd - 1) wk by simp[Zey]]
  show Does _ 302 [.int .i64 p,.int .i64 q,.agg #[.int .i64 3,.int .i64 wk,.int .i64 dd]] w _
  refine Zaa Tryz.func302 rfl rfl rfl rfl ?_
  repeat' (first|(apply RL_pu;rfl;exact PuDayf0)|(refine js ?_;(first|(refine Zac (fun w' _=>ZoU (p+dd - 1) wk (by omega) hw w') ?_)|(refine bx ?_;intro bk)))|refine walk1 ?_|(refine Zaf rfl (fun hc=>?_) (fun hc=>?_)))
  all_goals exact clo1
 ·rw[show Zey p q ⟨4,wk,dd⟩=Zel (p+dd - 1) wk by simp[Zey]]
  show Does _ 304 [.int .i64 p,.int .i64 q,.agg #[.int .i64 4,.int .i64 wk,.int .i64 dd]] w _
  refine Zaa Tryz.func304 rfl rfl rfl rfl ?_
  repeat' (first|(apply RL_pu;rfl;exact PuDayf0)|(refine js ?_;(first|(refine Zac (fun w' _=>Zjg (p+dd - 1) wk (by omega) hw w') ?_)|(refine bx ?_;intro bk)))|refine walk1 ?_|(refine Zaf rfl (fun hc=>?_) (fun hc=>?_)))
  all_goals exact clo1
theorem Zxz {w:World}(hG:Glob w)(k:Int)(hk:1<=k/\k<=4):Zal w ((⟨3,0,none⟩:Addr).add (k.toNat*3)) [.bool (ZlX k),.bool (dayK k),fnV (ZmK k)]:=by
 intro j v hj
 have hk:=hG.kin ((k.toNat - 1)*3+j) v
 have h4:k=1\/k=2\/k=3\/k=4:=by omega
 have hj3:j<3:=(List.getElem?_eq_some_iff.1 hj).1
 have h3:j=0\/j=1\/j=2:=by omega
 rcases h4 with rfl|rfl|rfl|rfl <;> rcases h3 with rfl|rfl|rfl <;> exact hk hj
theorem Zej (d:DDay)(w:World)(hG:Glob w):Does Tryz.prog 70 [.agg (DDay.enc d).toArray] w (fun v O=>v = .int .i64 (if ZbT d then 0 else 2)/\O=[]):=by
 obtain⟨k,wk,dd⟩:=d
 by_cases hk:1<=k/\k<=4
 ·have hcell:=Zxz hG k hk
  have e:ZbT ⟨k,wk,dd⟩ = !((!decide (wk=0)&&!ZlX k)||decide (wk<0)||decide (6<wk)||(dayK k==decide (dd=0))||decide (dd<0)||decide (31<dd)):=by simp[ZbT,hk.1,hk.2]
  rw[e]
  generalize ZlX k=b1 at *
  generalize dayK k=b2 at *
  show Does _ _ [.agg #[.int .i64 k,.int .i64 wk,.int .i64 dd]] w _
  refine Zaa Tryz.func70 rfl rfl rfl rfl ?_
  repeat' (first|(apply RL_pu;rfl;(first|exact PuDayf0|(apply ZaT;rfl;rfl;omega;omega)|(apply Pu_loadON;rfl;exact hcell;rfl)))|(refine js ?_;(refine bx ?_;intro bk))|refine walk1 ?_|refine und ?_|(refine Zat rfl rfl rfl (fun hc=>?_) (fun hc=>?_))|(refine Zas rfl rfl rfl (fun hc=>?_) (fun hc=>?_))|(refine Zaf rfl (fun hc=>?_) (fun hc=>?_)))
  all_goals exact clo1
 ·have e:ZbT ⟨k,wk,dd⟩=false:=by
   simp only[ZbT]
   have:(decide (1<=k)&&decide (k<=4))=false:=by simp;omega
   rw[this];rfl
  rw[e]
  show Does _ _ [.agg #[.int .i64 k,.int .i64 wk,.int .i64 dd]] w _
  refine Zaa Tryz.func70 rfl rfl rfl rfl ?_
  repeat' (first|(refine js ?_;(refine bx ?_;intro bk))|refine walk ?_|refine und ?_|(refine Zat rfl rfl rfl (fun hc=>?_) (fun hc=>?_))|(refine Zas rfl rfl rfl (fun hc=>?_) (fun hc=>?_))|(refine Zaf rfl (fun hc=>?_) (fun hc=>?_)))
  all_goals exact clo1
theorem Zcp (d:Ze6)(w:World):Does Tryz.prog 71 [.agg (Ze6.enc d).toArray] w (fun v O=>v = .int .i64 (if ZaP d then 0 else 2)/\O=[]):=by
 obtain⟨k,wk⟩:=d
 show Does _ _ [.agg #[.int .i64 k,.int .i64 wk]] w _
 refine Zaa Tryz.func71 rfl rfl rfl rfl ?_
 repeat' (first|(refine js ?_;(refine bx ?_;intro bk))|refine walk ?_|refine und ?_|(refine Zat rfl rfl rfl (fun hc=>?_) (fun hc=>?_))|(refine Zas rfl rfl rfl (fun hc=>?_) (fun hc=>?_))|(refine Zaf rfl (fun hc=>?_) (fun hc=>?_)))
 all_goals first|(refine ret_1 _ [] (.tmp rfl) .nil ⟨?_,rfl⟩;first|rfl|(simp only[*,Bool.true_and,Bool.false_and,Bool.true_or,Bool.false_or,Bool.not_true,Bool.not_false];done)|(simp_all [ZaP];done)|(simp_all [ZaP];omega)|(simp_all [ZaP];rw[Bool.eq_iff_iff];simp;omega))|(exfalso;simp_all [ZaP];done)|(exfalso;simp_all [ZaP];omega)|(exfalso;omega)
theorem Zi8 {d:DDay}(h:ZbT d=true):(1<=d.kind/\d.kind<=4)/\(0<=d.week/\d.week<=6)/\0<=d.day/\d.day<=31:=by
 simp only[ZbT,Bool.and_eq_true,Bool.not_eq_true',Bool.or_eq_false_iff,decide_eq_true_eq,decide_eq_false_iff_not]at h
 omega
theorem Zfl {y m d:Int}(h:ZaL y m d=true) : -1000000000000<=Zan y m d/\Zan y m d<=1000000000000:=by
 obtain⟨h1,h2,h3⟩:=Zm8 h
 unfold Zan Zb3
 have hb:=Zfn
 split
 ·have:=hb (m+12 - 3).toNat
  omega
 ·have:=hb (m - 3).toNat
  omega
theorem Zpn {G:Prop}(h:G:=by(first|exact PuDayf0|(apply ZaT;rfl;rfl;omega;omega)|(apply Pu_loadO1';rfl;exact hcell;rfl))):G:=h
theorem ZuP {G:Prop}(h:G:=by first|(apply Qy_y;rfl;exact Zpn)|exact QyA):G:=h
theorem ZzT {G:Prop}(h:G:=by repeat (first|exact QF.nil|(apply QF.mk;rfl;rfl;decide +kernel;exact ZuP))):G:=h
theorem Ziw (y m:Int)(d:DDay)(w:World)(hG:Glob w):Does Tryz.prog 69 [.int .i64 y,.int .i64 m,.agg (DDay.enc d).toArray] w (fun v O=>v = .tuple #[.int .i64 (onD y m d).1,.int .i64 (onD y m d).2]/\O=[]):=by
 have hl:=Zg9 y m
 have hdc:=fun w' hw=>Zej d w' (Glob.up (w':=w') hG hw)
 by_cases hok:ZaL y m 1=true
 ·have hdb:=Zfl hok
  by_cases hc:ZbT d=true
  ·obtain⟨b1,b2,b3⟩:=Zi8 hc
   have hcell:=Zxz hG d.kind b1
   have hks:=fun w'=>Zru (Zan y m 1) (Zan y m 1+lenM y m - 1) d (by omega) (by omega) b1 b2 b3 w'
   haveI:Body Tryz.prog (ZmK d.kind):=by
    unfold ZmK
    split
    ·infer_instance
    ·split
     ·infer_instance
     ·split <;> infer_instance
   have e:onD y m d=if lenM y m<d.day then (0,4) else (Zey (Zan y m 1) (Zan y m 1+lenM y m - 1) d,0):=by simp[onD,hok,hc]
   rw[e]
   clear e
   have ed:=Zdj y m 1
   rw[if_pos hok,if_pos hok]at ed
   rw[hc]at hdc
   generalize Zey (Zan y m 1) (Zan y m 1+lenM y m - 1) d=res at *
   obtain⟨k,wk,dd⟩:=d
   simp only at *
   generalize ZmK k=kf at *
   show Does _ _ [.int .i64 y,.int .i64 m,.agg #[.int .i64 k,.int .i64 wk,.int .i64 dd]] w _
   refine Zaa Tryz.func69 rfl rfl rfl rfl ?_
   repeat' (first|(apply RL_pu;rfl;exact Zpn)|(refine js ?_;(first|(apply Zar (f:=kf) (us:=[]) (cs:=[]) (vs:=[.int .i64 (Zan y m 1),.int .i64 (Zan y m 1+lenM y m - 1),.agg #[.int .i64 k,.int .i64 wk,.int .i64 dd]]) (h:=fun w' hw _=>hks w');rfl;rfl;rintro v O' ⟨rfl,rfl⟩)|(refine Zac (fun w' hw=>ed w' (hG.up hw)) ?_)|(refine Zac hdc ?_)|(refine Zac (fun w' hw=>ZbV y m w') ?_)|(refine bx ?_;intro bk)))|(apply RD_Q;rfl;rfl;decide +kernel;rfl;rfl;exact ZuP)|refine walk1 ?_|(refine Ze0 ?_;intro F;(first|(apply Zar (f:=kf) (us:=[]) (cs:=[]) (vs:=[.int .i64 (Zan y m 1),.int .i64 (Zan y m 1+lenM y m - 1),.agg #[.int .i64 k,.int .i64 wk,.int .i64 dd]]) (h:=fun w' hw _=>hks w');rfl;rfl;rintro v O' ⟨rfl,rfl⟩)|(refine Zac (fun w' hw=>ed w' (hG.up hw)) ?_)|(refine Zac hdc ?_)|(refine Zac (fun w' hw=>ZbV y m w') ?_));refine⟨_,EndsA,SubO.right _ _,?_⟩)|(refine RD_Lw ?_;intro F;(first|(apply Zar (f:=kf) (us:=[]) (cs:=[]) (vs:=[.int .i64 (Zan y m 1),.int .i64 (Zan y m 1+lenM y m - 1),.agg #[.int .i64 k,.int .i64 wk,.int .i64 dd]]) (h:=fun w' hw _=>hks w');rfl;rfl;rintro v O' ⟨rfl,rfl⟩)|(refine Zac (fun w' hw=>ed w' (hG.up hw)) ?_)|(refine Zac hdc ?_)|(refine Zac (fun w' hw=>ZbV y m w') ?_)|(refine bx ?_;intro bk)|(apply Zae;first|exact Zpn|exact PuA));refine⟨_,EndsA,ZzT,?_⟩)|(refine Zaf rfl (fun hc=>?_) (fun hc=>?_)))
   ·have hr:=hc
    rw[if_pos (of_decide_eq_true hr)]
    exact rtB
   ·have hr:=hc
    rw[if_neg (of_decide_eq_false hr)]
    exact rtB
  ·have e:onD y m d=(0,2):=by simp[onD,hok,hc]
   rw[e]
   have ed:=Zdj y m 1
   rw[if_pos hok,if_pos hok]at ed
   rw[Bool.not_eq_true]at hc
   rw[hc]at hdc
   obtain⟨k,wk,dd⟩:=d
   show Does _ _ [.int .i64 y,.int .i64 m,.agg #[.int .i64 k,.int .i64 wk,.int .i64 dd]] w _
   refine Zaa Tryz.func69 rfl rfl rfl rfl ?_
   repeat' (first|(refine js ?_;(first|(refine Zac (fun w' hw=>ed w' (hG.up hw)) ?_)|(refine Zac hdc ?_)|(refine bx ?_;intro bk)))|refine walk ?_|(refine Ze0 ?_;intro F;(first|(refine Zac (fun w' hw=>ed w' (hG.up hw)) ?_)|(refine Zac hdc ?_));refine⟨_,EndsA,SubO.right _ _,?_⟩)|(refine RD_Lw ?_;intro F;(first|(refine Zac (fun w' hw=>ed w' (hG.up hw)) ?_)|(refine Zac hdc ?_)|(refine bx ?_;intro bk)|(apply Zae;exact PuA));refine⟨_,EndsA,QFA,?_⟩)|(refine Zaf rfl (fun hc=>?_) (fun hc=>?_)))
   all_goals exact clo2
 ·have e:onD y m d=(0,3):=by simp[onD,hok]
  rw[e]
  have ed:=Zdj y m 1
  rw[if_neg hok,if_neg hok]at ed
  refine Zaa Tryz.func69 rfl rfl rfl rfl ?_
  repeat' (first|(refine js ?_;(first|(refine Zac (fun w' hw=>ed w' (hG.up hw)) ?_)|(refine bx ?_;intro bk)))|refine walk ?_|(refine Ze0 ?_;intro F;(refine Zac (fun w' hw=>ed w' (hG.up hw)) ?_);refine⟨_,EndsA,SubO.right _ _,?_⟩)|(refine RD_Lw ?_;intro F;(first|(refine Zac (fun w' hw=>ed w' (hG.up hw)) ?_)|(refine bx ?_;intro bk)|(apply Zae;exact PuA));refine⟨_,EndsA,QFA,?_⟩)|(refine Zaf rfl (fun hc=>?_) (fun hc=>?_)))
  all_goals exact clo2
theorem Zpm {G:Prop}(h:G:=by(apply Pu_rem;rfl;rfl;decide)):G:=h
theorem ZuO {G:Prop}(h:G:=by first|(apply Qy_y;rfl;exact Zpm)|exact QyA):G:=h
theorem ZzS {G:Prop}(h:G:=by repeat (first|exact QF.nil|(apply QF.mk;rfl;rfl;decide +kernel;exact ZuO))):G:=h
theorem ZoZ (a b m:Int)(d:DDay)(w:World)(hG:Glob w):Does Tryz.prog 310 [.int .i64 a,.int .i64 b,.int .i64 m,.agg (DDay.enc d).toArray] w (fun v O=>v = .bool (Zf7 a b m d)/\O=[]):=by
 have hdc:=fun w' hw=>Zej d w' (Glob.up (w':=w') hG hw)
 unfold Zf7
 generalize ZbT d=c at *
 obtain⟨k,wk,dd⟩:=d
 simp only at *
 show Does _ _ [.int .i64 a,.int .i64 b,.int .i64 m,.agg #[.int .i64 k,.int .i64 wk,.int .i64 dd]] w _
 refine Zaa Tryz.func310 rfl rfl rfl rfl ?_
 repeat' (first|(apply RL_pu;rfl;exact Zpm)|(refine js ?_;(first|(refine Zac hdc ?_)|(refine Zac (fun w' hw=>ZbV 1 m w') ?_)|(refine Zac (fun w' hw=>ZbV (a.tmod 400) m w') ?_)|(refine bx ?_;intro bk)))|(apply RD_Q;rfl;rfl;decide +kernel;rfl;rfl;exact ZuO)|refine walk1 ?_|(refine Ze0 ?_;intro F;(first|(refine Zac hdc ?_)|(refine Zac (fun w' hw=>ZbV 1 m w') ?_)|(refine Zac (fun w' hw=>ZbV (a.tmod 400) m w') ?_));refine⟨_,EndsA,SubO.right _ _,?_⟩)|(refine RD_Lw ?_;intro F;(first|(refine Zac hdc ?_)|(refine Zac (fun w' hw=>ZbV 1 m w') ?_)|(refine Zac (fun w' hw=>ZbV (a.tmod 400) m w') ?_)|(refine bx ?_;intro bk)|(apply Zae;first|exact Zpm|exact PuA));refine⟨_,EndsA,ZzS,?_⟩)|refine und ?_|(refine Zat rfl rfl rfl (fun hc=>?_) (fun hc=>?_))|(refine Zas rfl rfl rfl (fun hc=>?_) (fun hc=>?_))|(refine Zaf rfl (fun hc=>?_) (fun hc=>?_)))
 all_goals exact clo1
end Go.Proofs.YtdlmhmmhdbbliaaGreatDoor
namespace Go.Wk
open Go Go.RowKit
structure ZbI where
 kind:Int
 day:Int
 month:Int
 week:Int
 sec:Int
deriving DecidableEq
def ZbI.enc (x:ZbI):List Value:=[.int .i64 x.kind,.int .i64 x.day,.int .i64 x.month,.int .i64 x.week,.int .i64 x.sec]
def dt0:ZbI:=⟨0,0,0,0,0⟩
def Zbv (n:Int):Bool:=decide (-604799<=n)&&decide (n<=604799)
def ZcM (m:Int)(d:DDay):ZbI × Bool :=
 if d.kind=1 then (⟨1,(if ZaL 2001 m d.day then Zan 2001 m d.day else 0) - Zan 2001 1 1+1,0,0,0⟩,ZaL 2001 m d.day)
 else if d.kind=2 then (⟨3,d.week,m,5,0⟩,true)
 else if d.kind=3 then (⟨3,d.week,m,d.day / 7+1,0⟩,decide (d.day % 7=1)&&decide (d.day<29))
 else (dt0,false)
def ZeJ (r:Zab):Bool := !decide (r.to=1048576)||decide (r.month<1)||decide (12<r.month)||!ZbT r.day||!ZaP r.at_
def secD (r:Zab)(off before:Int):Int:=r.at_.sec+(if r.at_.base=2 then off else 0)+(if r.at_.base=2\/r.at_.base=1 then before else 0)
def Zdk (r:Zab)(off before:Int):ZbI × Int :=
 if ZeJ r then (dt0,2)
 else if (ZcM r.month r.day).2=false then (dt0,2)
 else if Zbv off=false\/Zbv before=false then (dt0,3)
 else if Zbv (secD r off before) then ({ (ZcM r.month r.day).1 with sec:=secD r off before },0) else (dt0,3)
theorem Zt7 (y m d:Int):Zan y m d=Zan y m 1+d - 1:=by
 unfold Zan Zb3
 split <;> omega
end Go.Wk
namespace Go.Proofs.YtdlmhmmhdbbliaaGreatDoor
open Go Go.RowKit Go.Wk
attribute [local irreducible] W RL Does Zau Zak retQ Calls Pu Stp RD Qy Ay Zaj
def ZtJ:List Value:=[fnV 295,fnV 296,fnV 297,fnV 298]
def FtG (w:World):Prop:=Zal w ⟨2,1,none⟩ ZtJ
theorem FtG.up {w w':World}(h:FtG w)(hb:Bel w.heap.size w w'):FtG w':=Zal.up h hb (Nat.le_refl _)
def Znd (k:Int):FuncId:=if k=1 then 295 else if k=2 then 296 else if k=3 then 297 else 298
def dtV (x:ZbI × Bool):Value := .tuple #[.agg x.1.enc.toArray,.bool x.2]
theorem Zed (n:Int)(w:World):Does Tryz.prog 72 [.int .i64 n] w (fun v O=>v = .bool (Zbv n)/\O=[]):=by
 refine Zaa Tryz.func72 rfl rfl rfl rfl ?_
 repeat' (first|refine walk ?_|refine und ?_|(refine Zat rfl rfl rfl (fun hc=>?_) (fun hc=>?_))|(refine Zas rfl rfl rfl (fun hc=>?_) (fun hc=>?_))|(refine Zaf rfl (fun hc=>?_) (fun hc=>?_)))
 all_goals first|(refine ret_1 _ [] (.tmp rfl) .nil ⟨?_,rfl⟩;first|rfl|(simp only[*,Bool.true_and,Bool.false_and,Bool.true_or,Bool.false_or,Bool.not_true,Bool.not_false];done)|(simp_all [Zbv];done)|(simp_all [Zbv];omega)|(simp_all [Zbv];rw[Bool.eq_iff_iff];simp;omega))|(exfalso;simp_all [Zbv];done)|(exfalso;simp_all [Zbv];omega)|(exfalso;omega)
theorem ZwU (m wk dd:Int)(hd:0<=dd/\dd<=31)(w:World)(hG:Glob w) :
  Does Tryz.prog 295 [.int .i64 m,.agg #[.int .i64 1,.int .i64 wk,.int .i64 dd]] w (fun v O=>v=dtV (ZcM m ⟨1,wk,dd⟩)/\O=[]):=by
 have e1:=Zdj 2001 1 1
 rw[if_pos (by decide),if_pos (by decide)]at e1
 have e2:=Zdj 2001 m dd
 have hb:ZaL 2001 m dd=true->_:=fun h=>Zfl (y:=2001) (m:=m) (d:=dd) h
 have e:ZcM m ⟨1,wk,dd⟩=(⟨1,(if ZaL 2001 m dd then Zan 2001 m dd else 0) - Zan 2001 1 1+1,0,0,0⟩,ZaL 2001 m dd):=rfl
 rw[e]
 have ed:Zan 2001 1 1=11323:=by decide
 rw[ed]at e1 ⊢
 refine Zaa Tryz.func295 rfl rfl rfl rfl ?_
 generalize ZaL 2001 m dd=ok at *
 cases ok with
 | true =>
  have hb2:=hb rfl
  rw[if_pos rfl,if_pos rfl]at e2
  rw[if_pos rfl]
  generalize Zan 2001 m dd=n at *
  repeat (first|(refine js ?_;(first|(refine Zac (fun w' hw=>e1 w' (hG.up hw)) ?_)|(refine Zac (fun w' hw=>e2 w' (hG.up hw)) ?_)|(refine bx ?_;intro bk)))|refine walk ?_)
  exact rtC
 | false =>
  rw[if_neg (by decide),if_neg (by decide)]at e2
  rw[if_neg (by decide)]
  repeat (first|(refine js ?_;(first|(refine Zac (fun w' hw=>e1 w' (hG.up hw)) ?_)|(refine Zac (fun w' hw=>e2 w' (hG.up hw)) ?_)|(refine bx ?_;intro bk)))|refine walk ?_)
  exact rtC
theorem ZwT (m wk dd:Int)(w:World) :
  Does Tryz.prog 296 [.int .i64 m,.agg #[.int .i64 2,.int .i64 wk,.int .i64 dd]] w (fun v O=>v=dtV (ZcM m ⟨2,wk,dd⟩)/\O=[]):=by
 have e:ZcM m ⟨2,wk,dd⟩=(⟨3,wk,m,5,0⟩,true):=rfl
 rw[e]
 refine Zaa Tryz.func296 rfl rfl rfl rfl ?_
 repeat (first|(refine js ?_;(refine bx ?_;intro bk))|refine walk ?_)
 exact rtC
theorem Zvy {G:Prop}(h:G:=by(first|(apply Pu_quo64;rfl;rfl;omega;omega;omega)|(apply Pu_rem;rfl;rfl;decide))):G:=h
theorem ZxX {G:Prop}(h:G:=by first|(apply Qy_y;rfl;exact Zvy)|exact QyA):G:=h
theorem ZA3 {G:Prop}(h:G:=by repeat (first|exact QF.nil|(apply QF.mk;rfl;rfl;decide +kernel;exact ZxX))):G:=h
theorem ZwS (m wk dd:Int)(hd:0<=dd/\dd<=31)(w:World) :
  Does Tryz.prog 297 [.int .i64 m,.agg #[.int .i64 3,.int .i64 wk,.int .i64 dd]] w (fun v O=>v=dtV (ZcM m ⟨3,wk,dd⟩)/\O=[]):=by
 have e:ZcM m ⟨3,wk,dd⟩=(⟨3,wk,m,dd / 7+1,0⟩,decide (dd.tmod 7=1)&&decide (dd<29)):=by
  rw[Int.tmod_eq_emod_of_nonneg hd.1];rfl
 rw[e]
 refine Zaa Tryz.func297 rfl rfl rfl rfl ?_
 repeat' (first|(apply RL_pu;rfl;exact Zvy)|(refine js ?_;(refine bx ?_;intro bk))|(apply RD_Q;rfl;rfl;decide +kernel;rfl;rfl;exact ZxX)|refine walk1 ?_|(refine RD_Lw ?_;intro F;(first|(refine bx ?_;intro bk)|(refine stA ?_)|(apply Zae;first|exact Zvy|exact PuA));refine⟨_,EndsA,ZA3,?_⟩)|(apply RD_W;rfl;intro bk)|refine und ?_|(refine Zat rfl rfl rfl (fun hc=>?_) (fun hc=>?_))|(refine Zas rfl rfl rfl (fun hc=>?_) (fun hc=>?_))|(refine Zaf rfl (fun hc=>?_) (fun hc=>?_)))
 all_goals exact ret_2 _ _ [] (.cellB rfl (by repeat' constructor) rfl rfl) (.tmp rfl) .nil ⟨by simp[*,dtV,ZbI.enc],rfl⟩
theorem ZwR (m wk dd:Int)(w:World) :
  Does Tryz.prog 298 [.int .i64 m,.agg #[.int .i64 4,.int .i64 wk,.int .i64 dd]] w (fun v O=>v=dtV (ZcM m ⟨4,wk,dd⟩)/\O=[]):=by
 have e:ZcM m ⟨4,wk,dd⟩=(dt0,false):=rfl
 rw[e]
 refine Zaa Tryz.func298 rfl rfl rfl rfl ?_
 repeat (first|(refine js ?_;(refine bx ?_;intro bk))|refine walk ?_)
 exact rtC
theorem ZoD (m:Int)(d:DDay)(hk:1<=d.kind/\d.kind<=4)(hd:0<=d.day/\d.day<=31)(w:World)(hG:Glob w) :
  Does Tryz.prog (Znd d.kind) [.int .i64 m,.agg (DDay.enc d).toArray] w (fun v O=>v=dtV (ZcM m d)/\O=[]):=by
 obtain⟨k,wk,dd⟩:=d
 simp only at hk hd ⊢
 have h4:k=1\/k=2\/k=3\/k=4:=by omega
 rcases h4 with rfl|rfl|rfl|rfl
 ·exact ZwU m wk dd hd w hG
 ·exact ZwT m wk dd w
 ·exact ZwS m wk dd hd w
 ·exact ZwR m wk dd w
theorem ZBu {w:World}(hF:FtG w)(k:Int)(hk:1<=k/\k<=4):Zal w ((⟨2,0,none⟩:Addr).add (k.toNat*1)) [fnV (Znd k)]:=by
 intro j v hj
 have hk:=hF ((k.toNat - 1)+j) v
 have h4:k=1\/k=2\/k=3\/k=4:=by omega
 have hj3:j<1:=(List.getElem?_eq_some_iff.1 hj).1
 have h3:j=0:=by omega
 rcases h4 with rfl|rfl|rfl|rfl <;> subst h3 <;> exact hk hj
theorem ZyX {r:Zab}(hc:ZaP r.at_=true){off before:Int}(h1:Zbv off=true)(h2:Zbv before=true):(0<=r.at_.base/\r.at_.base<=2)/\-3000000<=r.at_.sec/\r.at_.sec<=3000000/\-3000000<=off/\off<=3000000/\-3000000<=before/\before<=3000000:=by
 unfold ZaP at hc
 unfold Zbv at h1 h2
 simp only[Bool.and_eq_true,decide_eq_true_eq]at hc h1 h2
 omega
def Zzq (x:ZbI × Int):Value := .tuple #[.agg x.1.enc.toArray,.int .i64 x.2]
end Go.Proofs.YtdlmhmmhdbbliaaGreatDoor
