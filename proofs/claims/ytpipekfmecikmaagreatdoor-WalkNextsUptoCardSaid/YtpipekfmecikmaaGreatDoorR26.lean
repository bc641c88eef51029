/- Parts of the proof. -/
import Derived.Test.YtpipekfmecikmaaGreatDoorR23
set_option maxHeartbeats 4000000
set_option linter.all false
namespace Go.Proofs.YtpipekfmecikmaaGreatDoor
open Go Go.RowKit Go.Wk
attribute [local irreducible] W RL Does Zaq Zai retQ Calls Pu Stp RD Qy Ay Zaj
theorem ZhD (u:DUntil)(least:Int):ZaE u least=if least < -10800\/0<least then 2 else if u.is=false then 4 else if u.year<1850\/2149<u.year\/u.at_.base<0\/2<u.at_.base then 3 else if (onD u.year u.month u.day).2≠0 then 3 else if u.at_.sec<(if u.at_.base=1 then -86400 - least else -86400)\/(if u.at_.base=1 then 172800 - least else 172800)<u.at_.sec then 3 else 0:=by
 unfold ZaE ZaK
 dsimp only
 by_cases c:least < -10800\/0<least
 ·rw[if_pos c,if_pos c]
 rw[if_neg c,if_neg c]
 by_cases d:u.is=false
 ·rw[if_pos d,if_pos d]
 rw[if_neg d,if_neg d]
 by_cases e:u.year<1850\/2149<u.year\/u.at_.base<0\/2<u.at_.base
 ·rw[if_pos e,if_pos]
  rcases e with h|h|h
  ·exact .inl h
  ·exact .inr (.inl h)
  ·refine .inr (.inr ?_)
   simp only[Bool.and_eq_false_iff,decide_eq_false_iff_not]
   omega
 rw[if_neg e]
 by_cases a:(onD u.year u.month u.day).2≠0
 ·rw[if_pos a]
  split
  ·rfl
  ·rw[if_pos (.inl a)]
 rw[if_neg a]
 by_cases f:u.at_.base=1
 ·simp only[if_pos f]
  by_cases b:u.at_.sec < -86400 - least\/172800 - least<u.at_.sec
  ·rw[if_pos b]
   split
   ·rfl
   ·rw[if_pos (.inr (by omega))]
  ·rw[if_neg b,if_neg,if_neg (by rintro(h|h|h);exact a h;omega;omega)]
   simp only[Bool.and_eq_false_iff,decide_eq_false_iff_not]
   omega
 ·simp only[if_neg f]
  by_cases b:u.at_.sec < -86400\/172800<u.at_.sec
  ·rw[if_pos b]
   split
   ·rfl
   ·rw[if_pos (.inr (by omega))]
  ·rw[if_neg b,if_neg,if_neg (by rintro(h|h|h);exact a h;omega;omega)]
   simp only[Bool.and_eq_false_iff,decide_eq_false_iff_not]
   omega
theorem ZCS {G:Prop}(h:G:=by(first|(apply Zau;rfl;rfl;first|exact b1|exact y1|exact y3|exact l1)|(apply Zat;rfl;rfl;first|exact b2|exact y2|exact y4|exact l2)|(apply Zal;rfl;rfl;exact x0)|(apply Zao;rfl;rfl;exact u1))):G:=h
theorem Zfg {G G':Prop}(k:G')(h:Hold G'->G:=by intro k9;(first|(apply RL_pu;rfl;exact ZCS)|(refine js ?_;(refine Zac (fun w' _=>ho w') ?_))|refine walk1 ?_);exact k9.out):G:=h ⟨k⟩
set_option maxHeartbeats 4000000 in
theorem Zh1 (u:DUntil)(least:Int)(w:World):Does Tryz.prog 217 [.agg (DUntil.enc u).toArray,.int .i64 least] w (fun v O=>v = .int .i64 (ZaE u least)/\O=[]):=by
 rw[ZhD]
 have ho:=fun w'=>ZkG u.year u.month u.day w'
 generalize onD u.year u.month u.day=x at *
 obtain⟨A,r⟩:=x
 obtain⟨s,year,month,⟨t,y,dd⟩,⟨us,a⟩⟩:=u
 dsimp only at ho ⊢
 show Does _ _ [.agg #[.bool s,.int .i64 year,.int .i64 month,.int .i64 t,.int .i64 y,.int .i64 dd,.int .i64 us,.int .i64 a],.int .i64 least] w _
 refine Zaa Tryz.func217 rfl rfl rfl rfl ?_
 by_cases f:least < -10800
 ·have b1:decide (least < -10800)=true:=decide_eq_true f
  rw[if_pos (.inl f)]
  repeat (first|refine Zfg ?_|(refine js ?_;(refine bx ?_;intro b)))
  exact rtA
 have b1:decide (least < -10800)=false:=decide_eq_false f
 by_cases g:0<least
 ·have b2:decide (0<least)=true:=decide_eq_true g
  rw[if_pos (.inr g)]
  repeat (first|refine Zfg ?_|(refine js ?_;(refine bx ?_;intro b)))
  exact rtA
 have b2:decide (0<least)=false:=decide_eq_false g
 rw[if_neg (by omega)]
 cases s with
 | false =>
  rw[if_pos rfl]
  repeat (first|refine Zfg ?_|(refine js ?_;(refine bx ?_;intro b)))
  exact rtA
 | true =>
 rw[if_neg (by decide)]
 by_cases i:year<1850
 ·have y1:decide (year<1850)=true:=decide_eq_true i
  rw[if_pos (.inl i)]
  repeat (first|refine Zfg ?_|(refine js ?_;(refine bx ?_;intro b)))
  exact rtA
 have y1:decide (year<1850)=false:=decide_eq_false i
 by_cases j:2149<year
 ·have y2:decide (2149<year)=true:=decide_eq_true j
  rw[if_pos (.inr (.inl j))]
  repeat (first|refine Zfg ?_|(refine js ?_;(refine bx ?_;intro b)))
  exact rtA
 have y2:decide (2149<year)=false:=decide_eq_false j
 by_cases m:a<0
 ·have y3:decide (a<0)=true:=decide_eq_true m
  rw[if_pos (.inr (.inr (.inl m)))]
  repeat (first|refine Zfg ?_|(refine js ?_;(refine bx ?_;intro b)))
  exact rtA
 have y3:decide (a<0)=false:=decide_eq_false m
 by_cases p:2<a
 ·have y4:decide (2<a)=true:=decide_eq_true p
  rw[if_pos (.inr (.inr (.inr p)))]
  repeat (first|refine Zfg ?_|(refine js ?_;(refine bx ?_;intro b)))
  exact rtA
 have y4:decide (2<a)=false:=decide_eq_false p
 rw[if_neg (by omega)]
 by_cases d:r=0
 ·have x0:(!decide (r=0))=false:=by rw[decide_eq_true d];rfl
  rw[if_neg (fun h=>h d)]
  by_cases e:a=1
  ·have u1:decide (a=1)=true:=decide_eq_true e
   simp only[if_pos e]
   obtain⟨c,l1⟩:∃ z,decide (us < -86400 - least)=z:=⟨_,rfl⟩
   obtain⟨z2,l2⟩:∃ z,decide (172800 - least<us)=z:=⟨_,rfl⟩
   have q:(if us < -86400 - least\/172800 - least<us then (3:Int) else 0)=if c||z2 then 3 else 0:=by
    rw[<- l1,<- l2]
    by_cases h:us < -86400 - least\/172800 - least<us
    ·rw[if_pos h,if_pos (by simpa using h)]
    ·rw[if_neg h,if_neg (by simpa using h)]
   rw[q]
   cases c <;> cases z2
   all_goals
    repeat (first|refine Zfg ?_|(refine js ?_;(refine bx ?_;intro b)))
    exact rtA
  ·have u1:decide (a=1)=false:=decide_eq_false e
   simp only[if_neg e]
   obtain⟨c,l1⟩:∃ z,decide (us < -86400)=z:=⟨_,rfl⟩
   obtain⟨z2,l2⟩:∃ z,decide (172800<us)=z:=⟨_,rfl⟩
   have q:(if us < -86400\/172800<us then (3:Int) else 0)=if c||z2 then 3 else 0:=by
    rw[<- l1,<- l2]
    by_cases h:us < -86400\/172800<us
    ·rw[if_pos h,if_pos (by simpa using h)]
    ·rw[if_neg h,if_neg (by simpa using h)]
   rw[q]
   cases c <;> cases z2
   all_goals
    repeat (first|refine Zfg ?_|(refine js ?_;(refine bx ?_;intro b)))
    exact rtA
 ·have x0:(!decide (r=0))=true:=by rw[decide_eq_false d];rfl
  rw[if_pos d]
  repeat (first|refine Zfg ?_|(refine js ?_;(refine bx ?_;intro b)))
  exact rtA
theorem ZhZ (u:DUntil)(e : -604799<=u.at_.sec/\u.at_.sec<=604799)(w:World):Does Tryz.prog 160 [.agg (DUntil.enc u).toArray] w (fun v O=>v = .int .i64 (86400*(onD u.year u.month u.day).1+u.at_.sec)/\O=[]):=by
 have a:=fun w'=>ZkG u.year u.month u.day w'
 have d:=Zey u.year u.month u.day
 generalize onD u.year u.month u.day=x at *
 obtain⟨j,m⟩:=x
 obtain⟨f,year,month,⟨b,c,dd⟩,⟨us,g⟩⟩:=u
 dsimp only at a e d ⊢
 show Does _ _ [.agg #[.bool f,.int .i64 year,.int .i64 month,.int .i64 b,.int .i64 c,.int .i64 dd,.int .i64 us,.int .i64 g]] w _
 refine Zaa Tryz.func160 rfl rfl rfl rfl ?_
 repeat (first|(apply RL_pu;rfl;(apply Zei;rfl;rfl;(constructor <;> omega)))|(refine js ?_;(first|(refine Zac (fun w' _=>a w') ?_)|(refine bx ?_;intro i)))|refine walk1 ?_)
 exact rtA
theorem ZCR {G:Prop}(h:G:=by(first|(apply Zal;rfl;rfl;exact k0)|(apply Zao;rfl;rfl;exact u1))):G:=h
theorem Zsa {G G':Prop}(k:G')(h:Hold G'->G:=by intro k9;(first|(apply RL_pu;rfl;exact ZCR)|(refine js ?_;(first|(refine Zac (fun w' _=>hc w') ?_)|(refine Zac (fun w' _=>hs w') ?_)))|refine walk1 ?_);exact k9.out):G:=h ⟨k⟩
theorem Zh0 (u:DUntil)(least:Int)(w:World):Does Tryz.prog 159 [.agg (DUntil.enc u).toArray,.int .i64 least] w (fun v O=>v = .tuple #[.int .i64 (Zan u least).1,.int .i64 (Zan u least).2]/\O=[]):=by
 have hc:=fun w'=>Zh1 u least w'
 have p:=Zey u.year u.month u.day
 have b:ZaE u least=0->(-10800<=least/\least<=0)/\-604799<=u.at_.sec/\u.at_.sec<=604799:=fun h=>by
  rw[ZhD]at h
  repeat' split at h
  all_goals omega
 have d:=fun h w'=>ZhZ u h w'
 unfold Zan
 generalize ZaE u least=K at *
 generalize (onD u.year u.month u.day).1=x at *
 obtain⟨q,year,month,⟨i,j,dd⟩,⟨us,e⟩⟩:=u
 dsimp only at b ⊢
 refine Zaa Tryz.func159 rfl rfl rfl rfl ?_
 by_cases a:K=0
 ·have k0:(!decide (K=0))=false:=by rw[decide_eq_true a];rfl
  obtain⟨m,g⟩:=b a
  have hs:=d g
  dsimp only at hs
  rw[if_neg (fun h=>h a)]
  by_cases c:e=1
  ·have u1:decide (e=1)=true:=decide_eq_true c
   rw[if_pos c]
   repeat (first|refine Zsa ?_|(refine js ?_;(refine bx ?_;intro f)))
   exact rtB
  ·have u1:decide (e=1)=false:=decide_eq_false c
   rw[if_neg c,Int.add_zero]
   repeat (first|refine Zsa ?_|(refine js ?_;(refine bx ?_;intro f)))
   exact rtB
 ·have k0:(!decide (K=0))=true:=by rw[decide_eq_false a];rfl
  rw[if_pos a]
  repeat (first|refine Zsa ?_|(refine js ?_;(refine bx ?_;intro f)))
  exact rtB
end Go.Proofs.YtpipekfmecikmaaGreatDoor
