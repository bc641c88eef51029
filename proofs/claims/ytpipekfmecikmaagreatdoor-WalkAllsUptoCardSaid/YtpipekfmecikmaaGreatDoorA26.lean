/- Parts of the proof. -/
import Derived.Test.YtpipekfmecikmaaGreatDoorA23
set_option maxHeartbeats 0
set_option linter.all false
namespace Go.Proofs.YtpipekfmecikmaaGreatDoor
open Go Go.RowKit Go.Wk Tryz
attribute [local irreducible] W RL Does Zaq Zai retQ Calls Pu Stp RD Qy Ay Zaj
theorem ZhP (u:DUntil)(least:Int):ZaF u least=if least < -10800\/0<least then 2 else if u.is=false then 4 else if u.year<1850\/2149<u.year\/u.at_.base<0\/2<u.at_.base then 3 else if (onD u.year u.month u.day).2≠0 then 3 else if u.at_.sec<(if u.at_.base=1 then -86400 - least else -86400)\/(if u.at_.base=1 then 172800 - least else 172800)<u.at_.sec then 3 else 0:=by
 unfold ZaF ZaL
 dsimp only
 by_cases c:least < -10800\/0<least
 ·rw[if_pos c,if_pos c]
 rw[if_neg c,if_neg c]
 by_cases d:u.is=false
 ·rw[if_pos d,if_pos d]
 rw[if_neg d,if_neg d]
 by_cases e:u.year<1850\/2149<u.year\/u.at_.base<0\/2<u.at_.base
 ·rw[if_pos e,if_pos]
  rcases e with h|h|h
  ·exact .inl h
  ·exact .inr (.inl h)
  ·refine .inr (.inr ?_)
   simp only[Bool.and_eq_false_iff,decide_eq_false_iff_not]
   omega
 rw[if_neg e]
 by_cases a:(onD u.year u.month u.day).2≠0
 ·rw[if_pos a]
  split
  ·rfl
  ·rw[if_pos (.inl a)]
 rw[if_neg a]
 by_cases f:u.at_.base=1
 ·simp only[if_pos f]
  by_cases b:u.at_.sec < -86400 - least\/172800 - least<u.at_.sec
  ·rw[if_pos b]
   split
   ·rfl
   ·rw[if_pos (.inr (by omega))]
  ·rw[if_neg b,if_neg,if_neg (by rintro(h|h|h);exact a h;omega;omega)]
   simp only[Bool.and_eq_false_iff,decide_eq_false_iff_not]
   omega
 ·simp only[if_neg f]
  by_cases b:u.at_.sec < -86400\/172800<u.at_.sec
  ·rw[if_pos b]
   split
   ·rfl
   ·rw[if_pos (.inr (by omega))]
  ·rw[if_neg b,if_neg,if_neg (by rintro(h|h|h);exact a h;omega;omega)]
   simp only[Bool.and_eq_false_iff,decide_eq_false_iff_not]
   omega
theorem ZDx {G:Prop}(h:G:=by(first|(apply Zau;rfl;rfl;first|exact b1|exact y1|exact y3|exact l1)|(apply Zav;rfl;rfl;first|exact b2|exact y2|exact y4|exact l2)|(apply Zal;rfl;rfl;exact x0)|(apply Zap;rfl;rfl;exact u1))):G:=h
theorem Zfq {G G':Prop}(k:G')(h:Hold G'->G:=by intro k9;(first|(apply RL_pu;rfl;exact ZDx)|(refine js ?_;(refine Zab (fun w' _=>ho w') ?_))|refine walk1 ?_);exact k9.out):G:=h ⟨k⟩
set_option maxHeartbeats 0 in
theorem Zid (u:DUntil)(least:Int)(w:World):Does prog 217 [.agg (DUntil.enc u).toArray,.int .i64 least] w (fun v O=>v = .int .i64 (ZaF u least)/\O=[]):=by
 rw[ZhP]
 have ho:=fun w'=>ZkU u.year u.month u.day w'
 generalize onD u.year u.month u.day=x at *
 obtain⟨A,r⟩:=x
 obtain⟨s,year,month,⟨t,y,dd⟩,⟨us,a⟩⟩:=u
 dsimp only at ho ⊢
 show Does _ _ [.agg #[.bool s,.int .i64 year,.int .i64 month,.int .i64 t,.int .i64 y,.int .i64 dd,.int .i64 us,.int .i64 a],.int .i64 least] w _
 refine Zaa func217 rfl rfl rfl rfl ?_
 by_cases f:least < -10800
 ·have b1:decide (least < -10800)=true:=dT_ f
  rw[if_pos (.inl f)]
  repeat (first|refine Zfq ?_|(refine js ?_;(refine bx ?_;intro b)))
  exact rtA
 have b1:decide (least < -10800)=false:=dF_ f
 by_cases g:0<least
 ·have b2:decide (0<least)=true:=dT_ g
  rw[if_pos (.inr g)]
  repeat (first|refine Zfq ?_|(refine js ?_;(refine bx ?_;intro b)))
  exact rtA
 have b2:decide (0<least)=false:=dF_ g
 rw[if_neg (by omega)]
 cases s with
 | false =>
  rw[if_pos rfl]
  repeat (first|refine Zfq ?_|(refine js ?_;(refine bx ?_;intro b)))
  exact rtA
 | true =>
 rw[if_neg (by decide)]
 by_cases i:year<1850
 ·have y1:decide (year<1850)=true:=dT_ i
  rw[if_pos (.inl i)]
  repeat (first|refine Zfq ?_|(refine js ?_;(refine bx ?_;intro b)))
  exact rtA
 have y1:decide (year<1850)=false:=dF_ i
 by_cases j:2149<year
 ·have y2:decide (2149<year)=true:=dT_ j
  rw[if_pos (.inr (.inl j))]
  repeat (first|refine Zfq ?_|(refine js ?_;(refine bx ?_;intro b)))
  exact rtA
 have y2:decide (2149<year)=false:=dF_ j
 by_cases m:a<0
 ·have y3:decide (a<0)=true:=dT_ m
  rw[if_pos (.inr (.inr (.inl m)))]
  repeat (first|refine Zfq ?_|(refine js ?_;(refine bx ?_;intro b)))
  exact rtA
 have y3:decide (a<0)=false:=dF_ m
 by_cases p:2<a
 ·have y4:decide (2<a)=true:=dT_ p
  rw[if_pos (.inr (.inr (.inr p)))]
  repeat (first|refine Zfq ?_|(refine js ?_;(refine bx ?_;intro b)))
  exact rtA
 have y4:decide (2<a)=false:=dF_ p
 rw[if_neg (by omega)]
 by_cases d:r=0
 ·have x0:(!decide (r=0))=false:=by rw[dT_ d];rfl
  rw[if_neg (fun h=>h d)]
  by_cases e:a=1
  ·have u1:decide (a=1)=true:=dT_ e
   simp only[if_pos e]
   obtain⟨c,l1⟩:∃ z,decide (us < -86400 - least)=z:=⟨_,rfl⟩
   obtain⟨z2,l2⟩:∃ z,decide (172800 - least<us)=z:=⟨_,rfl⟩
   have q:(if us < -86400 - least\/172800 - least<us then (3:Int) else 0)=if c||z2 then 3 else 0:=by
    rw[<- l1,<- l2]
    by_cases h:us < -86400 - least\/172800 - least<us
    ·rw[if_pos h,if_pos (by simpa using h)]
    ·rw[if_neg h,if_neg (by simpa using h)]
   rw[q]
   cases c <;> cases z2
   all_goals
    repeat (first|refine Zfq ?_|(refine js ?_;(refine bx ?_;intro b)))
    exact rtA
  ·have u1:decide (a=1)=false:=dF_ e
   simp only[if_neg e]
   obtain⟨c,l1⟩:∃ z,decide (us < -86400)=z:=⟨_,rfl⟩
   obtain⟨z2,l2⟩:∃ z,decide (172800<us)=z:=⟨_,rfl⟩
   have q:(if us < -86400\/172800<us then (3:Int) else 0)=if c||z2 then 3 else 0:=by
    rw[<- l1,<- l2]
    by_cases h:us < -86400\/172800<us
    ·rw[if_pos h,if_pos (by simpa using h)]
    ·rw[if_neg h,if_neg (by simpa using h)]
   rw[q]
   cases c <;> cases z2
   all_goals
    repeat (first|refine Zfq ?_|(refine js ?_;(refine bx ?_;intro b)))
    exact rtA
 ·have x0:(!decide (r=0))=true:=by rw[dF_ d];rfl
  rw[if_pos d]
  repeat (first|refine Zfq ?_|(refine js ?_;(refine bx ?_;intro b)))
  exact rtA
theorem Zib (u:DUntil)(e : -604799<=u.at_.sec/\u.at_.sec<=604799)(w:World):Does prog 160 [.agg (DUntil.enc u).toArray] w (fun v O=>v = .int .i64 (86400*(onD u.year u.month u.day).1+u.at_.sec)/\O=[]):=by
 have a:=fun w'=>ZkU u.year u.month u.day w'
 have d:=ZeF u.year u.month u.day
 generalize onD u.year u.month u.day=x at *
 obtain⟨j,m⟩:=x
 obtain⟨f,year,month,⟨b,c,dd⟩,⟨us,g⟩⟩:=u
 dsimp only at a e d ⊢
 show Does _ _ [.agg #[.bool f,.int .i64 year,.int .i64 month,.int .i64 b,.int .i64 c,.int .i64 dd,.int .i64 us,.int .i64 g]] w _
 refine Zaa func160 rfl rfl rfl rfl ?_
 repeat (first|(apply RL_pu;rfl;(apply Zeo;rfl;rfl;(constructor <;> omega)))|(refine js ?_;(first|(refine Zab (fun w' _=>a w') ?_)|(refine bx ?_;intro i)))|refine walk1 ?_)
 exact rtA
theorem ZDw {G:Prop}(h:G:=by(first|(apply Zal;rfl;rfl;exact k0)|(apply Zap;rfl;rfl;exact u1))):G:=h
theorem Zss {G G':Prop}(k:G')(h:Hold G'->G:=by intro k9;(first|(apply RL_pu;rfl;exact ZDw)|(refine js ?_;(first|(refine Zab (fun w' _=>hc w') ?_)|(refine Zab (fun w' _=>hs w') ?_)))|refine walk1 ?_);exact k9.out):G:=h ⟨k⟩
theorem Zic (u:DUntil)(least:Int)(w:World):Does prog 159 [.agg (DUntil.enc u).toArray,.int .i64 least] w (fun v O=>v = .tuple #[.int .i64 (Zao u least).1,.int .i64 (Zao u least).2]/\O=[]):=by
 have hc:=fun w'=>Zid u least w'
 have p:=ZeF u.year u.month u.day
 have b:ZaF u least=0->(-10800<=least/\least<=0)/\-604799<=u.at_.sec/\u.at_.sec<=604799:=fun h=>by
  rw[ZhP]at h
  repeat' split at h
  all_goals omega
 have d:=fun h w'=>Zib u h w'
 unfold Zao
 generalize ZaF u least=K at *
 generalize (onD u.year u.month u.day).1=x at *
 obtain⟨q,year,month,⟨i,j,dd⟩,⟨us,e⟩⟩:=u
 dsimp only at b ⊢
 refine Zaa func159 rfl rfl rfl rfl ?_
 by_cases a:K=0
 ·have k0:(!decide (K=0))=false:=by rw[dT_ a];rfl
  obtain⟨m,g⟩:=b a
  have hs:=d g
  dsimp only at hs
  rw[if_neg (fun h=>h a)]
  by_cases c:e=1
  ·have u1:decide (e=1)=true:=dT_ c
   rw[if_pos c]
   repeat (first|refine Zss ?_|(refine js ?_;(refine bx ?_;intro f)))
   exact rtB
  ·have u1:decide (e=1)=false:=dF_ c
   rw[if_neg c,Int.add_zero]
   repeat (first|refine Zss ?_|(refine js ?_;(refine bx ?_;intro f)))
   exact rtB
 ·have k0:(!decide (K=0))=true:=by rw[dF_ a];rfl
  rw[if_pos a]
  repeat (first|refine Zss ?_|(refine js ?_;(refine bx ?_;intro f)))
  exact rtB
