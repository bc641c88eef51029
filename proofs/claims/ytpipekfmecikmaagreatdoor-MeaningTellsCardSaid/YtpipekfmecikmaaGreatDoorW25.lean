/- Parts of the proof. -/
import Derived.Test.YtpipekfmecikmaaGreatDoorW24
import Derived.Test.YtpipekfmecikmaaGreatDoorW09
import Derived.Test.YtpipekfmecikmaaGreatDoorW06
import Derived.Test.YtpipekfmecikmaaGreatDoorW10
import Derived.Test.YtpipekfmecikmaaGreatDoorW16
import Derived.Test.YtpipekfmecikmaaGreatDoorW18
set_option maxHeartbeats 4000000
set_option linter.unusedVariables false
set_option linter.unusedSimpArgs false
namespace Go.Wk
open Go Go.RowKit
def ZA1:List DRule->Bool
 | []=>true
 | [a,b]=>(decide (a.save=0) != decide (b.save=0))&&!decide (a.month=b.month)&&ZjQ a.month a.day&&ZjQ b.month b.day
 | _=>false
theorem ZwH (l:List DRule):Zgv l=ZA1 (l.filter fun r=>decide (r.to=1048576)):=by
 unfold Zgv
 generalize l.filter (fun r=>decide (r.to=1048576))=F
 match F with
 | []=>rfl
 | [a]=>rfl
 | [a,b]=>rfl
 | a::b::c::t=>rfl
def chkT (L:Int)(lb:Bool):List DRule->Nat->Bool->Bool->Nat × Int
 | [],_,z,s=>if z=false\/(L<0/\s=false) then (0,14) else if lb=false then (0,16) else (0,0)
 | r::l,k,z,s=>if Zbp r L=0 then chkT L lb l (k+1) (z||decide (r.save=0)) (s&&(decide (r.save=0)||decide (r.save=L))) else (k,Zbp r L)
theorem Zt8 (L:Int)(lb:Bool):∀ (l:List DRule) (k:Nat) (z s:Bool),chkT L lb l k z s =
  match ZaS L l k with
  | some x=>x
  | none=>if (z||l.any fun r=>decide (r.save=0))=false\/(L<0/\(!s||l.any fun r => !decide (r.save=0)&&!decide (r.save=L))=true) then (0,14) else if lb=false then (0,16) else (0,0)
 | [],k,z,s=>by
  rw[chkT,ZaS]
  simp only[List.any_nil,Bool.or_false,Bool.not_eq_true']
 | r::l,k,z,s=>by
  rw[chkT,ZaS]
  by_cases h:Zbp r L=0
  ·rw[if_pos h,if_pos h,Zt8 L lb l (k+1)]
   cases ZaS L l (k+1) with
   | some x=>rfl
   | none =>
    dsimp only
    rw[List.any_cons,List.any_cons,Bool.or_assoc]
    congr 3
    cases s <;> cases decide (r.save=0) <;> cases decide (r.save=L) <;> rfl
  ·rw[if_neg h,if_neg h]
theorem ZAd (l:List DRule):chkT (Zag l) (Zgv l) l 0 false true=Zcv l:=by
 rw[Zt8]
 unfold Zcv
 cases ZaS (Zag l) l 0 <;> rfl
end Go.Wk
namespace Go.Proofs.YtpipekfmecikmaaGreatDoor
open Go Go.RowKit Go.Wk
attribute [local irreducible] W RL Does Zat Zaj retQ Calls Pu Stp RD Qy Ay Zak ZbV
theorem Zcd (A:Option Addr)(c:Nat)(l:List DRule)(w:World)(f:RdSl w A c DRule.enc 11 l):Does Tryz.prog 158 [.slice A l.length c] w (fun v O=>v = .int .i64 (Zag l)/\O=[]):=by
 have s:=f.le
 have i:=f.cap
 unfold maxLen at i
 generalize hres:Zag l=res
 unfold Zag at hres
 refine Zaa Tryz.func158 rfl rfl rfl rfl ?_
 repeat (first|refine walk ?_)
 refine Zai [(0,.slice A l.length c)] [] (fun g:Nat × Int=>[(3,.int .i64 g.2),(4,.int .i64 g.1)]) (fun _=>[]) (fun g=>g.1<=l.length/\(l.drop g.1).foldl (fun m r=>min m r.save) g.2=res) (fun g=>l.length - g.1) (0,0) SFA SOA ⟨Nat.zero_le _,hres⟩ ?_
 rintro⟨k,m⟩ ⟨hk,hi⟩
 dsimp only at hk hi ⊢
 repeat (first|refine walk ?_)
 refine Zaf rfl (fun h=>?_) (fun h=>?_)
 ·have d:k<l.length:=by simpa using h
  obtain⟨hna,hca⟩:=f.rd k _ (List.getElem?_eq_getElem d)
  rw[Zah d,List.foldl_cons]at hi
  generalize l[k]=r at *
  simp only[DRule.enc]at hca
  repeat (first|(apply RL_pu;rfl;exact PuI)|refine walk1 ?_)
  refine Zaf rfl (fun e=>?_) (fun e=>?_)
  ·have q:r.save<m:=by simpa using e
   rw[show min m r.save=r.save by omega]at hi
   repeat (first|(apply RL_pu;rfl;exact PuI)|refine walk1 ?_)
   exact⟨(k+1,r.save),OA,⟨OA,hi⟩,SFA,SOA⟩
  ·have q:¬ r.save<m:=by simpa using e
   rw[show min m r.save=m by omega]at hi
   repeat (first|refine walk ?_)
   exact⟨(k+1,m),OA,⟨OA,hi⟩,SFA,SOA⟩
 ·have j:k=l.length:=by
   have:=of_decide_eq_false h
   omega
  subst j
  rw[List.drop_length]at hi
  repeat (first|refine walk ?_)
  exact ret_1 _ [] (.tmp rfl) .nil ⟨by rw[<- hi];rfl,rfl⟩
theorem Zzg {G:Prop}(h:G:=by(first|exact PuI|(apply Zan;rfl;rfl;exact b1))):G:=h
theorem Zzf {G:Prop}(h:G:=by(first|exact PuI|(apply Zan;rfl;rfl;first|exact b1|exact b2|exact b3))):G:=h
theorem ZhX (A:Option Addr)(c:Nat)(l:List DRule)(w:World)(q:RdSl w A c DRule.enc 11 l):Does Tryz.prog 192 [.slice A l.length c] w (fun v O=>v = .tuple #[.int .i64 (ZbS l).1,.bool (ZbS l).2]/\O=[]):=by
 have u:=q.le
 have s:=q.cap
 unfold maxLen at s
 generalize hres:ZbS l=res
 unfold ZbS at hres
 refine Zaa Tryz.func192 rfl rfl rfl rfl ?_
 repeat (first|refine walk ?_)
 refine Zai [(0,.slice A l.length c)] [] (fun g:Nat × Int=>[(4,.int .i64 g.2),(5,.int .i64 g.1)]) (fun _=>[]) (fun g=>g.1<=l.length/\Zce (l.drop g.1) g.2=res) (fun g=>l.length - g.1) (0,0) SFA SOA ⟨Nat.zero_le _,hres⟩ ?_
 rintro⟨k,m⟩ ⟨hk,hi⟩
 dsimp only at hk hi ⊢
 repeat (first|refine walk ?_)
 refine Zaf rfl (fun h=>?_) (fun h=>?_)
 ·have d:k<l.length:=by simpa using h
  obtain⟨hna,hca⟩:=q.rd k _ (List.getElem?_eq_getElem d)
  rw[Zah d,Zce]at hi
  generalize l[k]=r at *
  simp only[DRule.enc]at hca
  by_cases f:r.save=0
  ·rw[if_pos f]at hi
   have b1:(!decide (r.save=0))=false:=by rw[decide_eq_true f];rfl
   repeat (first|refine und ?_|(apply RL_pu;rfl;exact Zzg)|refine walk1 ?_)
   exact⟨(k+1,m),OA,⟨OA,hi⟩,SFA,SOA⟩
  rw[if_neg f]at hi
  have b1:(!decide (r.save=0))=true:=by rw[decide_eq_false f];rfl
  by_cases i:m=0
  ·have b2:(!decide (m=0))=false:=by rw[decide_eq_true i];rfl
   rw[if_neg (fun e=>e.1 i)]at hi
   repeat (first|refine und ?_|(apply RL_pu;rfl;(first|exact PuI|(apply Zan;rfl;rfl;first|exact b1|exact b2)))|refine walk1 ?_)
   exact⟨(k+1,r.save),OA,⟨OA,hi⟩,SFA,SOA⟩
  have b2:(!decide (m=0))=true:=by rw[decide_eq_false i];rfl
  by_cases j:r.save=m
  ·have b3:(!decide (r.save=m))=false:=by rw[decide_eq_true j];rfl
   rw[if_neg (fun e=>e.2 j)]at hi
   repeat (first|refine und ?_|(apply RL_pu;rfl;exact Zzf)|refine walk1 ?_)
   exact⟨(k+1,r.save),OA,⟨OA,hi⟩,SFA,SOA⟩
  ·have b3:(!decide (r.save=m))=true:=by rw[decide_eq_false j];rfl
   rw[if_pos ⟨i,j⟩]at hi
   repeat (first|refine und ?_|(apply RL_pu;rfl;exact Zzf)|refine walk1 ?_)
   exact ret_2 _ _ [] (.tmp rfl) (.tmp rfl) .nil ⟨by rw[<- hi],rfl⟩
 ·have t:k=l.length:=by
   have:=of_decide_eq_false h
   omega
  subst t
  rw[List.drop_length,Zce]at hi
  repeat (first|refine walk ?_)
  exact ret_2 _ _ [] (.tmp rfl) (.tmp rfl) .nil ⟨by rw[<- hi],rfl⟩
theorem Zze {G:Prop}(h:G:=by(first|(apply Zap;rfl;rfl;exact b1)|(apply Zan;rfl;rfl;exact b2))):G:=h
theorem Zvt {G:Prop}(h:G:=by(first|(apply ZaG;rfl;rfl;decide;(show(_:Int)<((2:Nat):Int);decide);(intro w' _ hO;first|exact(Za2 (hO.of (A := .row (.slice A1 2 c1) 68 11 2 ([x,y].flatMap DRule.enc)) (by repeat' constructor)) hg0).1|exact(Za2 (hO.of (A := .row (.slice A1 2 c1) 68 11 2 ([x,y].flatMap DRule.enc)) (by repeat' constructor)) hg1).1))|(apply Zb8;rfl;(focus repeat' constructor);(first|exact hn0|exact hn1);rfl)|(apply Zap;rfl;rfl;first|exact e1|exact e2))):G:=h
theorem Zyd {G:Prop}(h:G:=by first|(apply Qy_y;rfl;exact Zvt)|exact QyA):G:=h
theorem ZBP {G:Prop}(h:G:=by repeat (first|exact QF.nil|(apply QF.mk;rfl;rfl;decide +kernel;exact Zyd))):G:=h
theorem Zzd {G:Prop}(h:G:=by(apply Zan;rfl;rfl;exact e4)):G:=h
set_option maxHeartbeats 1000000 in
theorem Zrr (A:Option Addr)(c:Nat)(l:List DRule)(w:World)(J:RdSl w A c DRule.enc 11 l)(Q:l.length<=1000000):Does Tryz.prog 246 [.slice A l.length c] w (fun v O=>v = .bool (Zgv l)/\O=[]):=by
 rw[ZwH]
 generalize hres:l.filter (fun r=>decide (r.to=1048576))=res
 refine Zaa Tryz.func246 rfl rfl rfl rfl ?_
 repeat (first|refine walk ?_|(refine jn ?_;(try intro F);(first|(refine bx ?_;intro e)|(refine stA ?_)|(apply Zad;exact PuA));refine fin ?_)|(apply RD_W;rfl;intro e))
 refine Zdq 68 11 ?_
 refine Zai [(0,.slice A l.length c)] [] (fun g:AG DRule=>[(3,.slice g.A g.m g.c),(4,.int .i64 g.k)]) (fun g=>[.row (.slice g.A g.m g.c) 68 11 g.m g.xs]) (fun g=>g.k<=l.length/\g.m=g.acc.length/\g.xs=g.acc.flatMap DRule.enc/\g.m<=g.k/\g.acc++(l.drop g.k).filter (fun r=>decide (r.to=1048576))=res) (fun g=>l.length - g.k) ⟨0,none,0,0,[],[]⟩ SFA SOA ⟨Nat.zero_le _,rfl,rfl,Nat.le_refl _,by simpa using hres⟩ ?_
 rintro⟨k,A1,c1,m,xs,acc⟩ ⟨hk,hm,hx,hmk,hi⟩
 dsimp only at hk hm hx hmk hi ⊢
 repeat (first|refine walk ?_|(refine jn ?_;(try intro F);(first|(refine bx ?_;intro e)|(refine stA ?_)|(apply Zad;exact PuA));refine fin ?_)|(apply RD_W;rfl;intro e))
 refine Zaf rfl (fun f=>?_) (fun f=>?_)
 ·simp only[decide_eq_true_eq,Int.ofNat_lt]at f
  obtain⟨hna,hca⟩:=J.rd k _ (List.getElem?_eq_getElem f)
  rw[Zah f,List.filter_cons]at hi
  generalize l[k]=r at *
  repeat (first|(apply RL_pu;rfl;exact PuI)|(apply RD_Q;rfl;rfl;decide +kernel;rfl;rfl;exact QyI)|refine walk1 ?_|(refine jn ?_;(try intro F);(first|(refine bx ?_;intro e)|(refine stA ?_)|(apply Zad;first|exact PuI|exact PuA));first|refine⟨_,EndsA,QFI,?_⟩|refine fin ?_)|(apply RD_W;rfl;intro e))
  refine Zaf rfl (fun j=>?_) (fun j=>?_)
  ·rw[if_pos j]at hi
   repeat (first|(apply RL_pu;rfl;exact PuI)|(apply RD_Q;rfl;rfl;decide +kernel;rfl;rfl;exact QyI)|refine walk1 ?_|(refine jn ?_;(try intro F);(first|(apply ZaF;rfl;rfl;(intro A' c';(focus repeat' constructor));(intro w' _ hO;exact ZbD (hO.of (by repeat' constructor)));rfl;rfl;(simp only[maxLen];omega);omega;intro A' c' K L M)|(refine bx ?_;intro e)|(refine stA ?_)|(apply Zad;first|exact PuI|exact PuA));first|refine⟨_,EndsA,QFI,?_⟩|refine fin ?_)|(apply RD_W;rfl;intro e))
   exact⟨⟨k+1,A',c',m+1,xs++r.enc,acc++[r]⟩,OA,⟨OA,by simp[hm],by rw[hx];exact Zb0 acc r,OA,by rw[<- hi];simp⟩,SFA,SOA⟩
  rw[j]at hi
  repeat (first|refine walk ?_|(refine jn ?_;(try intro F);(first|(refine bx ?_;intro e)|(refine stA ?_)|(apply Zad;exact PuA));refine fin ?_)|(apply RD_W;rfl;intro e))
  exact⟨⟨k+1,A1,c1,m,xs,acc⟩,OA,⟨OA,hm,hx,OA,hi⟩,SFA,SOA⟩
 simp only[decide_eq_false_iff_not,Int.ofNat_lt]at f
 rw[List.drop_eq_nil_of_le (by omega),List.filter_nil,List.append_nil]at hi
 subst hi hx hm
 match acc,hmk with
 | [],_ =>
  repeat (first|refine walk ?_|(refine jn ?_;(try intro F);(first|(refine bx ?_;intro e)|(refine stA ?_)|(apply Zad;exact PuA));refine fin ?_)|(apply RD_W;rfl;intro e))
  exact ret_1 _ [] (.tmp rfl) SOA ⟨rfl,rfl⟩
 | [x],_ =>
  repeat (first|refine walk ?_|(refine jn ?_;(try intro F);(first|(refine bx ?_;intro e)|(refine stA ?_)|(apply Zad;exact PuA));refine fin ?_)|(apply RD_W;rfl;intro e))
  exact ret_1 _ [] (.tmp rfl) SOA ⟨rfl,rfl⟩
 | x::y::z::t,_ =>
  have b1:decide (((x::y::z::t).length:Int)=0)=false:=decide_eq_false (by simp only[List.length_cons];omega)
  have b2:(!decide (((x::y::z::t).length:Int)=2))=true:=by rw[decide_eq_false (by simp only[List.length_cons];omega)];rfl
  repeat (first|(apply RL_pu;rfl;exact Zze)|(apply RD_Q;rfl;rfl;decide +kernel;rfl;rfl;exact QyRfG3)|refine walk1 ?_|(refine jn ?_;(try intro F);(first|(refine bx ?_;intro e)|(refine stA ?_)|(apply Zad;first|exact Zze|exact PuA));first|refine⟨_,EndsA,QFRfG3,?_⟩|refine fin ?_)|(apply RD_W;rfl;intro e))
  exact ret_1 _ [] (.tmp rfl) SOA ⟨rfl,rfl⟩
 | [x,y],_ =>
  have hg0:=ZaC DRule.len [x,y] 0 _ 0 _ rfl rfl
  have hg1:=ZaC DRule.len [x,y] 1 _ 0 _ rfl rfl
  have hn0:∀ i v,(DRule.enc x)[i]?=some v->([x,y].flatMap DRule.enc)[0+i]?=some v:=fun i v u=>by simpa using ZaC DRule.len [x,y] 0 _ i v rfl u
  have hn1:∀ i v,(DRule.enc y)[i]?=some v->([x,y].flatMap DRule.enc)[11+i]?=some v:=fun i v u=>by simpa using ZaC DRule.len [x,y] 1 _ i v rfl u
  have q:=fun w'=>ZhW x.month x.day w'
  have s:=fun w'=>ZhW y.month y.day w'
  rw[ZA1]
  generalize ZjQ x.month x.day=p1 at *
  generalize ZjQ y.month y.day=p2 at *
  simp only[DRule.enc]at hn0 hn1
  obtain⟨N,e1⟩:∃ z,decide (x.save=0)=z:=⟨_,rfl⟩
  obtain⟨z2,e2⟩:∃ z,decide (y.save=0)=z:=⟨_,rfl⟩
  obtain⟨z3,H⟩:∃ z,decide (x.month=y.month)=z:=⟨_,rfl⟩
  have e4:(!decide (x.month=y.month)) = !z3:=by rw[H]
  rw[e1,e2,H]
  repeat (first|(apply RL_pu;rfl;exact Zvt)|(apply RD_Q;rfl;rfl;decide +kernel;rfl;rfl;exact Zyd)|refine walk1 ?_|(refine jn ?_;(try intro F);(first|(refine bx ?_;intro e)|(refine stA ?_)|(apply Zad;first|exact Zvt|exact PuA));first|refine⟨_,EndsA,ZBP,?_⟩|refine fin ?_)|(apply RD_W;rfl;intro e))
  have I:∀ b1 b2 D E:Bool,(b1&&b2&&D&&E)=(if b1 then (if b2 then (if D then E else false) else false) else false):=by decide
  rw[I]
  cases N <;> cases z2 <;> cases z3 <;> cases p1
  all_goals
   repeat (first|refine und ?_|(apply RL_pu;rfl;exact Zzd)|(apply RD_Q;rfl;rfl;decide +kernel;rfl;rfl;exact QyRfG5)|refine walk1 ?_|(refine jg ?_;(try intro F);(first|(refine Zab (fun w' _=>q w') ?_)|(refine Zab (fun w' _=>s w') ?_)|(refine bx ?_;intro e)|(refine stA ?_));first|refine⟨_,EndsA,QFRfG5,?_⟩|refine fin ?_)|(refine jn ?_;(try intro F);(first|(refine bx ?_;intro e)|(refine stA ?_)|(apply Zad;first|exact Zzd|exact PuA));first|refine⟨_,EndsA,QFRfG5,?_⟩|refine fin ?_)|(apply RD_W;rfl;intro e))
   exact rtA
set_option maxHeartbeats 1000000 in
theorem Zon (A:Option Addr)(c:Nat)(l:List DRule)(w:World)(B:RdSl w A c DRule.enc 11 l)(I:l.length<=1000000)(H:∀ r∈l,(-9223372036854775808<=r.save/\r.save<=9223372036854775807)/\(r.letter.size:Int)<=9223372036854775807) :
  Does Tryz.prog 190 [.slice A l.length c] w (fun v O=>v = .tuple #[.int .i64 (Zcv l).1,.int .i64 (Zcv l).2]/\O=[]):=by
 have u:=Zil l 0 (by omega) (by omega) fun r J=>(H r J).1
 change -9223372036854775808<=Zag l/\Zag l<=0 at u
 have e:=fun w' (E:Bel w.heap.size w w')=>Zrr A c l w' (B.up E) I
 have x:=fun w' (E:Bel w.heap.size w w')=>Zcd A c l w' (B.up E)
 obtain⟨j,d⟩:∃ j,Zcv l=j:=⟨_,rfl⟩
 rw[d]
 rw[<- ZAd]at d
 generalize Zgv l=lb at *
 generalize Zag l=L at *
 refine Zaa Tryz.func190 rfl rfl rfl rfl ?_
 repeat (first|(refine js ?_;(refine Zab x ?_))|refine walk ?_)
 refine Zai [(0,.slice A l.length c),(4,.int .i64 L)] [] (fun g:Nat × Bool × Bool=>[(5,.bool g.2.1),(6,.bool g.2.2),(7,.int .i64 g.1)]) (fun _=>[]) (fun g=>g.1<=l.length/\chkT L lb (l.drop g.1) g.1 g.2.1 g.2.2=j) (fun g=>l.length - g.1) (0,false,true) SFA SOA ⟨Nat.zero_le _,d⟩ ?_
 clear d
 rintro⟨k,z,s⟩ ⟨hk,hi⟩
 dsimp only at hk hi ⊢
 repeat (first|refine walk ?_)
 refine Zaf rfl (fun h=>?_) (fun h=>?_)
 ·have f:k<l.length:=by simpa using h
  obtain⟨hna,hca⟩:=B.rd k _ (List.getElem?_eq_getElem f)
  have C:=H l[k] (List.getElem_mem f)
  rw[Zah f,chkT]at hi
  generalize l[k]=r at *
  have i:=fun w'=>Zro r L u C.2 w'
  generalize Zbp r L=er at *
  simp only[DRule.enc]at hca i
  by_cases y:er=0
  ·rw[if_pos y]at hi
   subst y
   obtain⟨m,q⟩:∃ m,decide (r.save=0)=m:=⟨_,rfl⟩
   obtain⟨z2,F⟩:∃ z2,decide (r.save=L)=z2:=⟨_,rfl⟩
   rw[q,F]at hi
   cases z <;> cases s <;> cases m
   all_goals
    repeat (first|refine und ?_|(apply RL_pu;rfl;(first|exact PuI|(apply Zap;rfl;rfl;first|exact q|exact F)))|(refine js ?_;(refine Zab (fun w' _=>i w') ?_))|refine walk1 ?_)
    exact⟨(k+1,_,_),OA,⟨OA,hi⟩,SFA,SOA⟩
  ·rw[if_neg y]at hi
   subst hi
   have b1:(!decide (er=0))=true:=by rw[decide_eq_false y];rfl
   repeat (first|(apply RL_pu;rfl;exact Zzg)|(refine js ?_;(refine Zab (fun w' _=>i w') ?_))|refine walk1 ?_)
   exact rtB
 ·have D:k=l.length:=by
   have:=of_decide_eq_false h
   omega
  subst D
  rw[List.drop_length,chkT]at hi
  obtain⟨m,q⟩:∃ m,decide (L<0)=m:=⟨_,rfl⟩
  subst hi
  cases z <;> cases s <;> cases m
  all_goals
   first|(have t:L<0:=of_decide_eq_true q)|(have t:¬ L<0:=of_decide_eq_false q)
   cases lb
   all_goals
    simp only[t,Bool.false_eq_true,Bool.true_eq_false,or_true,or_false,true_or,false_or,and_true,and_false,if_true,if_false,reduceCtorEq]
    repeat (first|refine und ?_|(apply RL_pu;rfl;(apply Zaw;rfl;rfl;exact q))|(refine js ?_;(refine Zab e ?_))|refine walk1 ?_)
    exact rtB
end Go.Proofs.YtpipekfmecikmaaGreatDoor
namespace Go.Wk
open Go Go.RowKit
def farI (L n y:Int):List DRule->Nat->Bool
 | [],_=>true
 | r::l,i=>match onR L r i y with
  | some e=>if e.nominal<n+259200/\n - 259200<e.nominal then false else farI L n y l (i+1)
  | none=>farI L n y l (i+1)
def farY (L n:Int)(l:List DRule)(y:Int):Nat->Bool
 | 0=>true
 | k+1=>farI L n y l 0&&farY L n l (y+1) k
def farR (l:List DRule)(n:Int):Bool:=farY (Zag l) n l (ZaE n - 1) 3
end Go.Wk
namespace Go.Proofs.YtpipekfmecikmaaGreatDoor
open Go Go.RowKit Go.Wk
attribute [local irreducible] W RL Does Zat Zaj retQ Calls Pu Stp RD Qy Ay Zak
theorem ZcJ (l:List DRule):Zag l<=0:=by
 have a:∀ (l:List DRule) (m:Int),l.foldl (fun m r=>min m r.save) m<=m:=fun l=>by
  induction l with
  | nil=>intro m;exact Int.le_refl _
  | cons r l ih=>intro m;have:=ih (min m r.save);simp only[List.foldl_cons];omega
 exact a l 0
theorem Zru (A:Option Addr)(c:Nat)(l:List DRule)(w:World)(b:RdSl w A c DRule.enc 11 l):Does Tryz.prog 133 [.slice A l.length c] w (fun v O=>v = .int .i64 (max (Zag l) (-10800))/\O=[]):=by
 have a:=fun w' (e:Bel w.heap.size w w')=>Zcd A c l w' (b.up e)
 generalize Zag l=L at *
 rw[show max L (-10800)=if L < -10800 then -10800 else L by split <;> omega]
 refine Zaa Tryz.func133 rfl rfl rfl rfl ?_
 repeat' (first|(refine js ?_;(refine Zab a ?_))|refine walk ?_|(refine Zaf rfl (fun d=>?_) (fun d=>?_)))
 all_goals exact clo1
theorem ZB4 {G:Prop}(h:G:=by(first|exact PuI|(apply Zaw;rfl;rfl;first|exact bi0|exact b1|exact b3)|(apply ZbG;rfl;rfl;exact bi1)|(apply Zay;rfl;rfl;first|exact b2|exact b4)|(apply Zan;rfl;rfl;first|exact b5|exact b7)|(apply Zap;rfl;rfl;exact b8)|(apply Zdf;rfl;rfl;(constructor <;> omega)))):G:=h
theorem ZgU {G G':Prop}(k:G')(h:Hold G'->G:=by intro k9;(first|refine und ?_|(apply RL_pu;rfl;exact ZB4)|(refine js ?_;(first|(refine Zab (fun w' _=>hcc w') ?_)|(refine Zab (fun w' _=>ho w') ?_)|(refine Zab hbs ?_)))|refine walk1 ?_);exact k9.out):G:=h ⟨k⟩
set_option maxHeartbeats 4000000 in
theorem Zhq (A:Option Addr)(c:Nat)(l:List DRule)(i:Nat)(y:Int)(r:DRule)(w:World)(I:RdSl w A c DRule.enc 11 l)(B:l[i]?=some r) :
  Does Tryz.prog 89 [.slice A l.length c,.int .i64 i,.int .i64 y] w (fun v O=>v = .tuple #[evV (onR (Zag l) r i y),.bool (onR (Zag l) r i y).isSome]/\O=[]):=by
 have K:i<l.length:=(List.getElem?_eq_some_iff.1 B).1
 have hbs:=fun w' (N:Bel w.heap.size w w')=>Zru A c l w' (I.up N)
 have hcc:=fun w'=>ZjN r.at_ w'
 have hcb:ZaI r.at_=true -> -604799<=r.at_.sec/\r.at_.sec<=604799:=fun J=>by
  simp only[ZaI,Bool.and_eq_true,decide_eq_true_eq]at J
  omega
 have ho:=fun w'=>ZkQ y r.month r.day w'
 have M:=Zem y r.month r.day
 obtain⟨hna,hca⟩:=I.rd i _ B
 obtain⟨b,a⟩:∃ b,onR (Zag l) r i y=b:=⟨_,rfl⟩
 rw[a]
 unfold onR lastY at a
 clear B
 have L : -10800<=max (Zag l) (-10800)/\max (Zag l) (-10800)<=0:=by
  have:=ZcJ l
  omega
 generalize max (Zag l) (-10800)=mx at *
 generalize onD y r.month r.day=x at *
 generalize ZaI r.at_=z at *
 obtain⟨V,D⟩:=x
 obtain⟨U,fr,to,T,⟨Q,R,dd⟩,⟨cs,t⟩,sv,le⟩:=r
 simp only[DRule.enc]at *
 have bi0:decide ((i:Int)<0)=false:=decide_eq_false (by omega)
 have bi1:decide ((l.length:Int)<=(i:Int))=false:=decide_eq_false (by omega)
 refine Zaa Tryz.func89 rfl rfl rfl rfl ?_
 by_cases E:y < -2000000000
 ·have b1:decide (y < -2000000000)=true:=decide_eq_true E
  obtain rfl:none=b:=by rw[<- a,if_pos (.inl (by omega))]
  repeat (first|refine ZgU ?_|(refine js ?_;(refine bx ?_;intro d)))
  exact rtC
 have b1:decide (y < -2000000000)=false:=decide_eq_false E
 by_cases F:2000000000<y
 ·have b2:decide (2000000000<y)=true:=decide_eq_true F
  obtain rfl:none=b:=by rw[<- a,if_pos (.inr (.inl (by split <;> omega)))]
  repeat (first|refine ZgU ?_|(refine js ?_;(refine bx ?_;intro d)))
  exact rtC
 have b2:decide (2000000000<y)=false:=decide_eq_false F
 by_cases H:y<fr
 ·have b3:decide (y<fr)=true:=decide_eq_true H
  obtain rfl:none=b:=by rw[<- a,if_pos (.inl (by omega))]
  repeat (first|refine ZgU ?_|(refine js ?_;(refine bx ?_;intro d)))
  exact rtC
 have b3:decide (y<fr)=false:=decide_eq_false H
 obtain⟨m,b5⟩:∃ e,(!decide (to=1048576))=e:=⟨_,rfl⟩
 obtain⟨j,b4⟩:∃ e,decide (to<y)=e:=⟨_,rfl⟩
 by_cases g:m=true/\j=true
 ·obtain⟨rfl,rfl⟩:=g
  have p:to≠1048576:=by simpa using b5
  have u:=of_decide_eq_true b4
  obtain rfl:none=b:=by rw[<- a,if_pos (.inr (.inl (by rw[if_neg p];omega)))]
  repeat (first|refine ZgU ?_|(refine js ?_;(refine bx ?_;intro d)))
  exact rtC
 have f:¬ (if to=1048576 then 2000000000 else min to 2000000000)<y:=by
  by_cases p:to=1048576
  ·rw[if_pos p];omega
  ·rw[if_neg p]
   have u:¬ to<y:=fun u=>g ⟨by rw[<- b5,decide_eq_false p];rfl,by rw[<- b4,decide_eq_true u]⟩
   omega
 cases z with
 | false =>
  obtain rfl:none=b:=by rw[<- a,if_pos (.inr (.inr rfl))]
  cases m <;> cases j <;> first|exact absurd ⟨rfl,rfl⟩ g|skip
  all_goals
   repeat (first|refine ZgU ?_|(refine js ?_;(refine bx ?_;intro d)))
   exact rtC
 | true =>
  have S:=hcb rfl
  have C:¬ (y<max fr (-2000000000)\/(if to=1048576 then 2000000000 else min to 2000000000)<y\/true=false):=by
   rintro(h|h|h)
   ·omega
   ·exact f h
   ·cases h
  rw[if_neg C]at a
  by_cases q:D=0
  ·rw[if_neg (fun h=>h q)]at a
   have b7:(!decide (D=0))=false:=by rw[decide_eq_true q];rfl
   rw[Int.mul_comm]at a
   by_cases s:t=1
   ·rw[if_pos s]at a
    subst a
    have b8:decide (t=1)=true:=decide_eq_true s
    cases m <;> cases j <;> first|exact absurd ⟨rfl,rfl⟩ g|skip
    all_goals
     repeat (first|refine ZgU ?_|(refine js ?_;(refine bx ?_;intro d)))
     exact rtC
   ·rw[if_neg s,Int.add_zero]at a
    subst a
    have b8:decide (t=1)=false:=decide_eq_false s
    cases m <;> cases j <;> first|exact absurd ⟨rfl,rfl⟩ g|skip
    all_goals
     repeat (first|refine ZgU ?_|(refine js ?_;(refine bx ?_;intro d)))
     exact rtC
  ·rw[if_pos q]at a
   subst a
   have b7:(!decide (D=0))=true:=by rw[decide_eq_false q];rfl
   cases m <;> cases j <;> first|exact absurd ⟨rfl,rfl⟩ g|skip
   all_goals
    repeat (first|refine ZgU ?_|(refine js ?_;(refine bx ?_;intro d)))
    exact rtC
theorem Zzc {G:Prop}(h:G:=by(first|(apply Zdf;rfl;rfl;(constructor <;> omega))|(apply ZbF;rfl;rfl;exact bz))):G:=h
theorem Zvs {G:Prop}(h:G:=by(first|exact PuRfH3|(apply Zaw;rfl;rfl;first|exact b3|exact b2)|(apply Zay;rfl;rfl;first|exact b4|exact b1))):G:=h
set_option maxHeartbeats 2000000 in
theorem ZsZ (A:Option Addr)(c:Nat)(l:List DRule)(n:Int)(w:World)(C:RdSl w A c DRule.enc 11 l)(M:l.length<=1000000)(N : -1000000000000000000<=n/\n<=1000000000000000000) :
  Does Tryz.prog 256 [.slice A l.length c,.int .i64 n] w (fun v O=>v = .bool (farR l n)/\O=[]):=by
 unfold farR
 have t:=ZcJ l
 have H:=Zfw n
 have B:=fun w'=>ZjL n (by omega) w'
 have m:=fun(i:Nat) (y:Int) (r:DRule) (d:l[i]?=some r) w' (F:Bel w.heap.size w w')=>Zhq A c l i y r w' (C.up F) d
 generalize Zag l=L at *
 generalize ZaE n=y at *
 obtain⟨R,u⟩:∃ R,farY L n l (y - 1) 3=R:=⟨_,rfl⟩
 rw[u]
 have b1:decide (1152921504606846976<n)=false:=decide_eq_false (by omega)
 have b2:decide (n < -1152921504606846976)=false:=decide_eq_false (by omega)
 refine Zaa Tryz.func256 rfl rfl rfl rfl ?_
 repeat (first|(apply RL_pu;rfl;(first|(apply Zaw;rfl;rfl;exact b2)|(apply Zay;rfl;rfl;exact b1)|(apply Zdf;rfl;rfl;(constructor <;> omega))))|(refine js ?_;(first|(refine Zab (fun w' _=>B w') ?_)|(refine bx ?_;intro g)))|refine walk1 ?_)
 refine Zai [(0,.slice A l.length c),(1,.int .i64 n),(5,.int .i64 y)] [] (fun k:Nat=>[(6,.int .i64 (y - 1+(k:Int)))]) (fun _=>[]) (fun k=>k<=3/\farY L n l (y - 1+(k:Int)) (3 - k)=R) (fun k=>3 - k) 0 (by simpa using SFA) SOA ⟨by omega,by simpa using u⟩ ?_
 clear u
 rintro k ⟨K,d⟩
 obtain⟨z,I⟩:∃ z,y - 1+(k:Int)=z:=⟨_,rfl⟩
 rw[I]at d ⊢
 by_cases E:k<3
 ·have bz:decide (z<=y+1)=true:=decide_eq_true (by omega)
  rw[show 3 - k=(2 - k)+1 by omega,farY]at d
  generalize hF:farY L n l (z+1) (2 - k)=F2 at d
  repeat (first|(apply RL_pu;rfl;exact Zzc)|(refine js ?_;(refine bx ?_;intro g))|refine walk1 ?_)
  refine Zai [(0,.slice A l.length c),(1,.int .i64 n),(5,.int .i64 y),(6,.int .i64 z)] [] (fun i:Nat=>[(7,.int .i64 i)]) (fun _=>[]) (fun i=>i<=l.length/\(farI L n z (l.drop i) i&&F2)=R) (fun i=>l.length - i) 0 SFA SOA ⟨Nat.zero_le _,d⟩ ?_
  clear d
  rintro i ⟨D,d⟩
  repeat (first|(refine js ?_;(refine bx ?_;intro g))|refine walk ?_)
  refine Zaf rfl (fun j=>?_) (fun j=>?_)
  ·simp only[decide_eq_true_eq,Int.ofNat_lt]at j
   have f:=m i z l[i] (List.getElem?_eq_getElem j)
   rw[Zah j,farI]at d
   have x:EvOk (onR L l[i] i z):=ZpZ L t l[i] i z
   generalize onR L l[i] i z=o at *
   cases o with
   | none =>
    simp only[evV,Zac.enc,dEv0,Option.isSome]at f
    repeat (first|refine und ?_|(apply RL_pu;rfl;exact PuRfH3)|(refine js ?_;(first|(refine Zab f ?_)|(refine bx ?_;intro g)))|refine walk1 ?_)
    exact⟨i+1,OA,⟨OA,d⟩,SFA,SOA⟩
   | some e =>
    have J:=x e rfl
    simp only[evV,Zac.enc,Option.isSome]at f
    dsimp only at d
    by_cases q:e.nominal<n+259200
    ·have b3:decide (e.nominal<n+259200)=true:=decide_eq_true q
     by_cases s:n - 259200<e.nominal
     ·have b4:decide (n - 259200<e.nominal)=true:=decide_eq_true s
      rw[if_pos ⟨q,s⟩,Bool.false_and]at d
      subst d
      repeat (first|refine und ?_|(apply RL_pu;rfl;exact Zvs)|(refine js ?_;(first|(refine Zab f ?_)|(refine bx ?_;intro g)))|refine walk1 ?_)
      exact rtA
     ·have b4:decide (n - 259200<e.nominal)=false:=decide_eq_false s
      rw[if_neg (fun h=>s h.2)]at d
      repeat (first|refine und ?_|(apply RL_pu;rfl;exact Zvs)|(refine js ?_;(first|(refine Zab f ?_)|(refine bx ?_;intro g)))|refine walk1 ?_)
      exact⟨i+1,OA,⟨OA,d⟩,SFA,SOA⟩
    ·have b3:decide (e.nominal<n+259200)=false:=decide_eq_false q
     rw[if_neg (fun h=>q h.1)]at d
     repeat (first|refine und ?_|(apply RL_pu;rfl;exact Zvs)|(refine js ?_;(first|(refine Zab f ?_)|(refine bx ?_;intro g)))|refine walk1 ?_)
     exact⟨i+1,OA,⟨OA,d⟩,SFA,SOA⟩
  ·simp only[decide_eq_false_iff_not,Int.ofNat_lt]at j
   rw[List.drop_eq_nil_of_le (by omega),farI,Bool.true_and]at d
   subst d
   repeat (first|(apply RL_pu;rfl;exact PuRfH3)|(refine js ?_;(refine bx ?_;intro g))|refine walk1 ?_)
   exact⟨k+1,OA,⟨OA,by rw[show y - 1+((k+1:Nat):Int)=z+1 by omega,show 3 - (k+1)=2 - k by omega];exact hF⟩,by simpa[show y - 1+((k:Int)+1)=z+1 by omega] using SFA,SOA⟩
 ·obtain rfl:k=3:=by omega
  have bz:decide (z<=y+1)=false:=decide_eq_false (by omega)
  rw[show 3 - 3=0 from rfl,farY]at d
  subst d
  repeat (first|(apply RL_pu;rfl;exact Zzc)|(refine js ?_;(refine bx ?_;intro g))|refine walk1 ?_)
  exact rtA
end Go.Proofs.YtpipekfmecikmaaGreatDoor
namespace Go.Proofs.YtpipekfmecikmaaGreatDoor
open Go Go.RowKit Go.Wk
def Zct (e:Zac)(l:List Zac):Bool:=l.any fun x=>ltE x e&&decide (e.nominal - x.nominal<259200)
def Zmp (Y:Nat->List Zac)(N y:Nat)(e:Zac):Bool:=Zct e (Y y)||(decide (0<y)&&Zct e (Y (y - 1)))||(decide (y+1<N)&&Zct e (Y (y+1)))
def befE (e:Zac):Option Zac->Bool
 | none=>true
 | some b=>ltE e b
def capI (p:Zac->Bool):List Zac->Option Zac->Option Zac
 | [],o=>o
 | e::l,o=>capI p l (if p e&&befE e o then some e else o)
def capJ (Y:Nat->List Zac)(N:Nat):Nat->Nat->Option Zac->Option Zac
 | 0,_,o=>o
 | k+1,y,o=>capJ Y N k (y+1) (capI (Zmp Y N y) (Y y) o)
def Zc1 (l:List DRule)(y:Nat):List Zac:=ZcA (Zag l) (1850+y) l 0
def capD (l:List DRule):Option Zac:=capJ (Zc1 l) 701 701 0 none
def ZdG (P:Zac->Prop):Option Zac->Prop
 | none=>∀ e,¬ P e
 | some e=>P e/\∀ e',P e'->ltE e' e=false
theorem ZdG.uni {P:Zac->Prop}:∀ {o c:Option Zac},ZdG P o->ZdG P c->o=c
 | none,none,_,_=>rfl
 | none,some e,h,h'=>absurd h'.1 (h e)
 | some e,none,h,h'=>absurd h.1 (h' e)
 | some a,some b,h,h'=>by rw[totE a b (h'.2 a h.1) (h.2 b h'.1)]
theorem ZdG.iff {P Q:Zac->Prop}(b:∀ e,P e↔Q e):∀ {o:Option Zac},ZdG P o->ZdG Q o
 | none,h=>fun e c=>h e ((b e).2 c)
 | some a,h=>⟨(b a).1 h.1,fun e c=>h.2 e ((b e).2 c)⟩
theorem Zts {a b:Zac}(h:ltE a b=true):ltE b a=false:=by
 cases h2:ltE b a
 ·rfl
 ·have:=swoE.trans a b a h h2
  rw[swoE.irrefl]at this
  cases this
theorem Zko (p:Zac->Bool):∀ (l:List Zac) (P:Zac->Prop) (o:Option Zac),ZdG P o->ZdG (fun e=>P e\/(e∈l/\p e=true)) (capI p l o)
 | [],P,o,h=>h.iff fun e=>by simp
 | x::l,P,o,h=>by
  rw[capI]
  have c:ZdG (fun e=>P e\/(e=x/\p x=true)) (if p x&&befE x o then some x else o):=by
   cases hp:p x
   ·exact h.iff fun e=>by simp
   ·rw[Bool.true_and]
    cases o with
    | none=>exact⟨.inr ⟨rfl,rfl⟩,fun e a=>by
      rcases a with a|⟨rfl,_⟩
      ·exact absurd a (h e)
      ·exact swoE.irrefl _⟩
    | some b =>
     show ZdG _ (if ltE x b=true then some x else some b)
     cases hl:ltE x b
     ·exact⟨.inl h.1,fun e a=>by
       rcases a with a|⟨rfl,_⟩
       ·exact h.2 e a
       ·exact hl⟩
     ·exact⟨.inr ⟨rfl,rfl⟩,fun e a=>by
       rcases a with a|⟨rfl,_⟩
       ·exact swoE.ntrans e b x (h.2 e a) (Zts hl)
       ·exact swoE.irrefl _⟩
  refine(Zko p l _ _ c).iff fun e=>?_
  constructor
  ·rintro((h|⟨rfl,h⟩)|⟨h,h'⟩)
   ·exact .inl h
   ·exact .inr ⟨List.mem_cons_self,h⟩
   ·exact .inr ⟨List.mem_cons_of_mem _ h,h'⟩
  ·rintro(h|⟨h,h'⟩)
   ·exact .inl (.inl h)
   ·rcases List.mem_cons.1 h with rfl|h
    ·exact .inl (.inr ⟨rfl,h'⟩)
    ·exact .inr ⟨h,h'⟩
theorem Zkn (Y:Nat->List Zac)(N:Nat):∀ (k y:Nat) (P:Zac->Prop) (o:Option Zac),ZdG P o->ZdG (fun e=>P e\/∃ q,y<=q/\q<y+k/\e∈Y q/\Zmp Y N q e=true) (capJ Y N k y o)
 | 0,y,P,o,h=>h.iff fun e=>⟨.inl,fun h=>by
   rcases h with h|⟨q,h1,h2,_⟩
   ·exact h
   ·omega⟩
 | k+1,y,P,o,h=>by
  rw[capJ]
  refine(Zkn Y N k (y+1) _ _ (Zko (Zmp Y N y) (Y y) P o h)).iff fun e=>?_
  constructor
  ·rintro((h|⟨h1,h2⟩)|⟨q,h1,h2,h3⟩)
   ·exact .inl h
   ·exact .inr ⟨y,by omega,by omega,h1,h2⟩
   ·exact .inr ⟨q,by omega,by omega,h3⟩
  ·rintro(h|⟨q,h1,h2,h3⟩)
   ·exact .inl (.inl h)
   ·by_cases a:q=y
    ·subst a;exact .inl (.inr h3)
    ·exact .inr ⟨q,by omega,by omega,h3⟩
def Zpz (M:List Zac)(e:Zac):Prop:=∃ x∈M,ltE x e=true/\e.nominal - x.nominal<259200
theorem Zkk (e:Zac)(l:List Zac):Zct e l=true↔Zpz l e:=by
 unfold Zct Zpz
 simp only[List.any_eq_true,Bool.and_eq_true,decide_eq_true_eq]
theorem Zg9:∀ (M:List Zac),Zsp M->M.Nodup->ZdG (fun e=>e∈M/\Zpz M e) (Zha M)
 | [],_,_=>fun e f=>by simp at f
 | [a],_,_=>fun e f=>by
  obtain⟨i,x,k,n,_⟩:=f
  rw[List.mem_singleton]at i k
  subst i k
  rw[swoE.irrefl]at n
  cases n
 | a::b::l,hd,hn=>by
  obtain⟨p,r⟩:=List.pairwise_cons.1 hd
  obtain⟨y,z⟩:=List.nodup_cons.1 hn
  obtain⟨v,_⟩:=List.pairwise_cons.1 r
  have m:=Zg9 (b::l) r z
  have q:∀ x∈b::l,ltE x a=true:=fun x g=>by
   cases h:ltE x a
   ·have:=totE a x (p x g) h
    subst this
    exact absurd g y
   ·rfl
  have d:∀ e∈b::l,Zpz (a::b::l) e↔Zpz (b::l) e:=fun e f=>by
   constructor
   ·rintro⟨x,g,i,k⟩
    rcases List.mem_cons.1 g with rfl|g
    ·rw[p e f]at i;cases i
    ·exact⟨x,g,i,k⟩
   ·rintro⟨x,g,i,k⟩
    exact⟨x,List.mem_cons_of_mem _ g,i,k⟩
  have s:Zpz (a::b::l) a↔a.nominal - b.nominal<259200:=by
   constructor
   ·rintro⟨x,g,i,k⟩
    rcases List.mem_cons.1 g with rfl|g
    ·rw[swoE.irrefl]at i;cases i
    ·have w:x.nominal<=b.nominal:=by
      rcases List.mem_cons.1 g with rfl|g
      ·exact Int.le_refl _
      ·have n:=v x g
       simp only[ltE,Zel,decide_eq_false_iff_not]at n
       omega
     omega
   ·intro h
    exact⟨b,List.mem_cons_of_mem _ List.mem_cons_self,q b List.mem_cons_self,h⟩
  rw[Zha]
  cases hc:Zha (b::l) with
  | none =>
   rw[hc]at m
   rw[Option.none_or]
   by_cases j:a.nominal - b.nominal<259200
   ·rw[if_pos j]
    refine⟨⟨List.mem_cons_self,s.2 j⟩,fun e f=>?_⟩
    rcases List.mem_cons.1 f.1 with rfl|h
    ·exact swoE.irrefl _
    ·exact absurd ⟨h,(d e h).1 f.2⟩ (m e)
   ·rw[if_neg j]
    intro e f
    rcases List.mem_cons.1 f.1 with rfl|h
    ·exact j (s.1 f.2)
    ·exact m e ⟨h,(d e h).1 f.2⟩
  | some c =>
   rw[hc]at m
   rw[Option.some_or]
   obtain⟨⟨o,t⟩,u⟩:=m
   refine⟨⟨List.mem_cons_of_mem _ o,(d c o).2 t⟩,fun e f=>?_⟩
   rcases List.mem_cons.1 f.1 with rfl|h
   ·exact p c o
   ·exact u e ⟨h,(d e h).1 f.2⟩
theorem Zeq (L y:Int):∀ (l:List DRule) (i:Nat) (e:Zac),e∈ZcA L y l i↔∃ (j:Nat) (r:DRule),l[j]?=some r/\onR L r ((i+j:Nat):Int) y=some e
 | [],i,e=>by simp[ZcA]
 | r::l,i,e=>by
  rw[ZcA,List.mem_append,Zeq L y l (i+1) e,Option.mem_toList]
  constructor
  ·rintro(h|⟨j,r',h1,h2⟩)
   ·exact⟨0,r,rfl,h⟩
   ·exact⟨j+1,r',by simpa using h1,by rw[show i+(j+1)=i+1+j by omega];exact h2⟩
  ·rintro⟨j,r',h1,h2⟩
   cases j with
   | zero=>simp only[List.getElem?_cons_zero,Option.some.injEq]at h1;subst h1;exact .inl h2
   | succ j=>exact .inr ⟨j,r',by simpa using h1,by rw[show i+1+j=i+(j+1) by omega];exact h2⟩
theorem ZkZ (l:List DRule)(L f:Int):∀ (k:Nat) (e:Zac),e∈allC l L f k↔∃ q:Nat,q<k/\e∈ZcA L (f+q) l 0
 | 0,e=>by simp[allC]
 | k+1,e=>by
  rw[allC,List.mem_append,ZkZ l L f k e]
  constructor
  ·rintro(⟨q,h1,h2⟩|h)
   ·exact⟨q,by omega,h2⟩
   ·exact⟨k,by omega,h⟩
  ·rintro⟨q,h1,h2⟩
   by_cases a:q=k
   ·subst a;exact .inr h2
   ·exact .inl ⟨q,by omega,h2⟩
theorem ZhD (L y:Int):∀ (l:List DRule) (i:Nat),(ZcA L y l i).Nodup
 | [],_=>List.nodup_nil
 | r::l,i=>by
  rw[ZcA]
  refine List.nodup_append.2 ⟨?_,ZhD L y l (i+1),?_⟩
  ·cases onR L r i y <;> simp
  ·intro a e b f c
   subst c
   obtain⟨j,r',_,d⟩:=(Zeq L y l (i+1) a).1 f
   have g:=(ZbJ (Option.mem_toList.1 e)).2.1
   have h:=(ZbJ d).2.1
   omega
theorem Zks (l:List DRule)(L f:Int):∀ k,(allC l L f k).Nodup
 | 0=>List.nodup_nil
 | k+1=>by
  rw[allC]
  refine List.nodup_append.2 ⟨Zks l L f k,ZhD _ _ _ _,?_⟩
  intro a h b i c
  subst c
  obtain⟨q,o,d⟩:=(ZkZ l L f k a).1 h
  obtain⟨j,r,_,e⟩:=(Zeq _ _ _ _ _).1 d
  obtain⟨p,r',_,g⟩:=(Zeq _ _ _ _ _).1 i
  have m:=(ZbJ e).1
  have n:=(ZbJ g).1
  omega
theorem ZAe (l:List DRule)(N:Nat):capJ (Zc1 l) N N 0 none=Zha (ZeE l (Zag l) 1850 N):=by
 have n:=ZcJ l
 have k:=Zkn (Zc1 l) N N 0 (fun _=>False) none (fun e h=>h)
 have m:=Zg9 (ZeE l (Zag l) 1850 N) (Zfv _ _ _ _) ((ZdY l (Zag l) 1850 N).nodup_iff.2 (Zks l (Zag l) 1850 N))
 refine k.uni (m.iff fun e=>?_)
 have b:∀ x,x∈ZeE l (Zag l) 1850 N↔∃ q:Nat,q<N/\x∈Zc1 l q:=fun x=>by
  rw[(ZdY l (Zag l) 1850 N).mem_iff,ZkZ]
  rfl
 have d:∀ (q:Nat) (x:Zac),x∈Zc1 l q->jan1 (1850+q)*86400 - 1700000<=x.nominal/\x.nominal<=jan1 (1850+q+1)*86400+1700000:=fun q x a=>by
  obtain⟨j,r,_,h⟩:=(Zeq _ _ _ _ _).1 a
  exact ZpY n h
 constructor
 ·rintro⟨h3,x,h4,h5,h6⟩
  obtain⟨q,g1,g2⟩:=(b e).1 h3
  obtain⟨p,g3,g4⟩:=(b x).1 h4
  refine .inr ⟨q,by omega,by omega,g2,?_⟩
  have u:=d q e g2
  have v:=d p x g4
  have t:x.nominal<=e.nominal:=by
   simp only[ltE,Zel,decide_eq_true_eq]at h5
   omega
  have w:(1850+q:Int)<=1850+p+1:=Zdt (by omega)
  have y:(1850+p:Int)<=1850+q+1:=Zdt (by omega)
  have a:∀ M,x∈M->Zct e M=true:=fun M o=>(Zkk e M).2 ⟨x,o,h5,h6⟩
  have c:p=q\/(0<q/\p=q - 1)\/(q+1<N/\p=q+1):=by omega
  unfold Zmp
  rcases c with rfl|⟨h7,rfl⟩|⟨h7,rfl⟩
  ·rw[a _ g4];rfl
  ·rw[a _ g4,decide_eq_true h7];simp
  ·rw[a _ g4,decide_eq_true h7];simp
 ·rintro(h|⟨q,_,g1,g2,g3⟩)
  ·exact h.elim
  refine⟨(b e).2 ⟨q,by omega,g2⟩,?_⟩
  have lift:∀ p,p<N->Zct e (Zc1 l p)=true->Zpz (ZeE l (Zag l) 1850 N) e:=fun p c s=>by
   obtain⟨x,f,g,i⟩:=(Zkk e _).1 s
   exact⟨x,(b x).2 ⟨p,c,f⟩,g,i⟩
  unfold Zmp at g3
  simp only[Bool.or_eq_true,Bool.and_eq_true,decide_eq_true_eq]at g3
  rcases g3 with(g3|⟨g3,g4⟩)|⟨g3,g4⟩
  ·exact lift q (by omega) g3
  ·exact lift (q - 1) (by omega) g4
  ·exact lift (q+1) (by omega) g4
theorem ZAf (l:List DRule):capD l=ZeD l:=ZAe l 701
attribute [local irreducible] W RL Does Zat Zaj retQ Calls Pu Stp RD Qy Ay Zak
theorem ZxA (e c a f d b:Int):ltE ⟨e,c,a⟩ ⟨f,d,b⟩=if a=b then (if c=d then decide (e<f) else decide (c<d)) else decide (a<b):=by
 have h:=Zel ⟨e,c,a⟩ ⟨f,d,b⟩
 dsimp only at h
 unfold ltE
 split
 ·split
  ·exact decide_eq_decide.2 (h.trans ⟨fun _=>by omega,fun _=>by omega⟩)
  ·exact decide_eq_decide.2 (h.trans ⟨fun _=>by omega,fun _=>by omega⟩)
 ·exact decide_eq_decide.2 (h.trans ⟨fun _=>by omega,fun _=>by omega⟩)
theorem ZyV {G:Prop}(h:G:=by(apply Zan;rfl;rfl;first|exact c1|exact c2)):G:=h
theorem Zmd (a b:Zac)(w:World):Does Tryz.prog 249 [.agg a.enc.toArray,.agg b.enc.toArray] w (fun v O=>v = .bool (ltE a b)/\O=[]):=by
 obtain⟨m,g,e⟩:=a
 obtain⟨p,i,f⟩:=b
 rw[ZxA]
 simp only[Zac.enc]
 refine Zaa Tryz.func249 rfl rfl rfl rfl ?_
 by_cases c:e=f
 ·have c1:(!decide (e=f))=false:=by rw[decide_eq_true c];rfl
  rw[if_pos c]
  by_cases d:g=i
  ·have c2:(!decide (g=i))=false:=by rw[decide_eq_true d];rfl
   rw[if_pos d]
   repeat (first|(apply RL_pu;rfl;exact ZyV)|(refine js ?_;(refine bx ?_;intro j))|refine walk1 ?_)
   exact rtA
  ·have c2:(!decide (g=i))=true:=by rw[decide_eq_false d];rfl
   rw[if_neg d]
   repeat (first|(apply RL_pu;rfl;exact ZyV)|(refine js ?_;(refine bx ?_;intro j))|refine walk1 ?_)
   exact rtA
 ·have c1:(!decide (e=f))=true:=by rw[decide_eq_false c];rfl
  rw[if_neg c]
  repeat (first|(apply RL_pu;rfl;(apply Zan;rfl;rfl;exact c1))|(refine js ?_;(refine bx ?_;intro j))|refine walk1 ?_)
  exact rtA
theorem ZqM {G:Prop}(h:G:=by(first|exact PuI|(apply Pu_loadO1;rfl;exact hca 2 _ rfl))):G:=h
theorem ZxY {G:Prop}(h:G:=by first|(apply Qy_y;rfl;exact ZqM)|exact QyA):G:=h
theorem Zyo {G:Prop}(h:G:=by repeat (first|exact QF.nil|(apply QF.mk;rfl;rfl;decide +kernel;exact ZxY))):G:=h
theorem ZnC {G:Prop}(h:G:=by(first|exact ZqM|(apply Zaw;rfl;rfl;exact b1))):G:=h
theorem ZuB {G:Prop}(h:G:=by first|(apply Qy_y;rfl;exact ZnC)|exact QyA):G:=h
theorem Zqz {G:Prop}(h:G:=by repeat (first|exact QF.nil|(apply QF.mk;rfl;rfl;decide +kernel;exact ZuB))):G:=h
set_option maxHeartbeats 1000000 in
theorem Zh2 (e:Zac)(A:Option Addr)(c:Nat)(l:List Zac)(w:World)(K:RdSl w A c Zac.enc 3 l)(N:l.length<=1000000000)(E:ZlI e)(L:∀ x∈l,ZlI x) :
  Does Tryz.prog 248 [.agg e.enc.toArray,.slice A l.length c] w (fun v O=>v = .bool (Zct e l)/\O=[]):=by
 have s:=fun(x:Zac) w'=>Zmd x e w'
 obtain⟨t,f⟩:∃ t,Zct e l=t:=⟨_,rfl⟩
 rw[f]
 unfold Zct at f
 unfold ZlI at E
 generalize hP:(fun x:Zac=>ltE x e&&decide (e.nominal - x.nominal<259200))=p at f
 have hp:∀ x,p x=(ltE x e&&decide (e.nominal - x.nominal<259200)):=fun x=>by rw[<- hP]
 clear hP
 generalize hq:(fun x=>ltE x e)=q at *
 have y:∀ x,ltE x e=q x:=fun x=>by rw[<- hq]
 simp only[y]at s hp
 clear hq y
 obtain⟨J,I,z⟩:=e
 simp only[Zac.enc]at s hp E ⊢
 refine Zaa Tryz.func248 rfl rfl rfl rfl ?_
 repeat (first|refine walk ?_|(refine jn ?_;(try intro F);(first|(refine bx ?_;intro m)|(apply Zad;exact PuA));refine fin ?_))
 refine Zai [(1,.slice A l.length c),(2,.pointer (some ⟨m,0,none⟩))] [.blk m [.int .i64 J,.int .i64 I,.int .i64 z] 91] (fun k:Nat=>[(5,.int .i64 k)]) (fun _=>[]) (fun k=>k<=l.length/\(l.drop k).any p=t) (fun k=>l.length - k) 0 SFA SOA ⟨Nat.zero_le _,f⟩ ?_
 clear f
 rintro k ⟨M,j⟩
 repeat (first|refine walk ?_|(refine jn ?_;(try intro F);(first|(refine bx ?_;intro m)|(apply Zad;exact PuA));refine fin ?_))
 refine Zaf rfl (fun u=>?_) (fun u=>?_)
 ·simp only[decide_eq_true_eq,Int.ofNat_lt]at u
  rw[Zah u,List.any_cons,hp]at j
  have r:=s l[k]
  obtain⟨hna,hca⟩:=K.rd k _ (List.getElem?_eq_getElem u)
  have hx:=L l[k] (List.getElem_mem u)
  generalize q l[k]=qx at *
  generalize l[k]=x at *
  obtain⟨R,Q,D⟩:=x
  unfold ZlI at hx
  simp only[Zac.enc]at r hca hx j
  cases qx with
  | false =>
   rw[Bool.false_and,Bool.false_or]at j
   repeat (first|refine und ?_|(apply RL_pu;rfl;exact ZqM)|(apply RD_Q;rfl;rfl;decide +kernel;rfl;rfl;exact ZxY)|refine walk1 ?_|(refine jg ?_;(try intro F);(first|(refine Zab (fun w' H=>r w') ?_)|(refine bx ?_;intro m));first|refine⟨_,EndsA,Zyo,?_⟩|refine fin ?_)|(refine jn ?_;(try intro F);(first|(refine bx ?_;intro m)|(apply Zad;first|exact ZqM|exact PuA));first|refine⟨_,EndsA,Zyo,?_⟩|refine fin ?_))
   exact⟨k+1,OA,⟨OA,j⟩,SFA,SOA⟩
  | true =>
   rw[Bool.true_and]at j
   by_cases hd:z - D<259200
   ·have b1:decide (z - D<259200)=true:=decide_eq_true hd
    rw[b1,Bool.true_or]at j
    subst j
    repeat (first|(apply RL_pu;rfl;exact ZnC)|(apply RD_Q;rfl;rfl;decide +kernel;rfl;rfl;exact ZuB)|refine walk1 ?_|(refine jg ?_;(try intro F);(first|(refine Zab (fun w' H=>r w') ?_)|(refine bx ?_;intro m));first|refine⟨_,EndsA,Zqz,?_⟩|refine fin ?_)|(refine jn ?_;(try intro F);(first|(refine bx ?_;intro m)|(apply Zad;first|exact ZnC|exact PuA));first|refine⟨_,EndsA,Zqz,?_⟩|refine fin ?_))
    exact rtA
   ·have b1:decide (z - D<259200)=false:=decide_eq_false hd
    rw[b1,Bool.false_or]at j
    repeat (first|(apply RL_pu;rfl;exact ZnC)|(apply RD_Q;rfl;rfl;decide +kernel;rfl;rfl;exact ZuB)|refine walk1 ?_|(refine jg ?_;(try intro F);(first|(refine Zab (fun w' H=>r w') ?_)|(refine bx ?_;intro m));first|refine⟨_,EndsA,Zqz,?_⟩|refine fin ?_)|(refine jn ?_;(try intro F);(first|(refine bx ?_;intro m)|(apply Zad;first|exact ZnC|exact PuA));first|refine⟨_,EndsA,Zqz,?_⟩|refine fin ?_))
    exact⟨k+1,OA,⟨OA,j⟩,SFA,SOA⟩
 ·simp only[decide_eq_false_iff_not,Int.ofNat_lt]at u
  rw[List.drop_eq_nil_of_le (by omega),List.any_nil]at j
  subst j
  repeat (first|refine walk ?_|(refine jn ?_;(try intro F);(first|(refine bx ?_;intro m)|(apply Zad;exact PuA));refine fin ?_))
  exact rtA
end Go.Proofs.YtpipekfmecikmaaGreatDoor
