/- Parts of the proof. -/
import Derived.Test.YtpipekfmecikmaaGreatDoorV22
import Derived.Test.YtpipekfmecikmaaGreatDoorV09
set_option maxHeartbeats 4000000
set_option linter.unusedVariables false
set_option linter.unusedSimpArgs false
namespace Go.Proofs.YtpipekfmecikmaaGreatDoor
open Go Go.RowKit Go.Wk
attribute [local irreducible] W RL Does Zat Zaj retQ Calls Pu Stp RD Qy Ay Zak
theorem Zhl (u:DUntil)(least:Int):ZaI u least=if least < -10800\/0<least then 2 else if u.is=false then 4 else if u.year<1850\/2149<u.year\/u.at_.base<0\/2<u.at_.base then 3 else if (onD u.year u.month u.day).2≠0 then 3 else if u.at_.sec<(if u.at_.base=1 then -86400 - least else -86400)\/(if u.at_.base=1 then 172800 - least else 172800)<u.at_.sec then 3 else 0:=by
 unfold ZaI ZaH
 dsimp only
 by_cases h1:least < -10800\/0<least
 ·rw[if_pos h1,if_pos h1]
 rw[if_neg h1,if_neg h1]
 by_cases h2:u.is=false
 ·rw[if_pos h2,if_pos h2]
 rw[if_neg h2,if_neg h2]
 by_cases h3:u.year<1850\/2149<u.year\/u.at_.base<0\/2<u.at_.base
 ·rw[if_pos h3,if_pos]
  rcases h3 with h|h|h
  ·exact .inl h
  ·exact .inr (.inl h)
  ·refine .inr (.inr ?_)
   simp only[Bool.and_eq_false_iff,decide_eq_false_iff_not]
   omega
 rw[if_neg h3]
 by_cases h4:(onD u.year u.month u.day).2≠0
 ·rw[if_pos h4]
  split
  ·rfl
  ·rw[if_pos (.inl h4)]
 rw[if_neg h4]
 by_cases hb:u.at_.base=1
 ·simp only[if_pos hb]
  by_cases h5:u.at_.sec < -86400 - least\/172800 - least<u.at_.sec
  ·rw[if_pos h5]
   split
   ·rfl
   ·rw[if_pos (.inr (by omega))]
  ·rw[if_neg h5,if_neg,if_neg (by rintro(h|h|h);exact h4 h;omega;omega)]
   simp only[Bool.and_eq_false_iff,decide_eq_false_iff_not]
   omega
 ·simp only[if_neg hb]
  by_cases h5:u.at_.sec < -86400\/172800<u.at_.sec
  ·rw[if_pos h5]
   split
   ·rfl
   ·rw[if_pos (.inr (by omega))]
  ·rw[if_neg h5,if_neg,if_neg (by rintro(h|h|h);exact h4 h;omega;omega)]
   simp only[Bool.and_eq_false_iff,decide_eq_false_iff_not]
   omega
theorem ZAb {G:Prop}(h:G:=by(first|(apply Zaz;rfl;rfl;first|exact b1|exact y1|exact y3|exact l1)|(apply Zaw;rfl;rfl;first|exact b2|exact y2|exact y4|exact l2)|(apply Zal;rfl;rfl;exact x0)|(apply Zan;rfl;rfl;exact u1))):G:=h
theorem Ze0 {G G':Prop}(k:G')(h:Hold G'->G:=by intro k9;(first|refine und ?_|(apply RL_pu;rfl;exact ZAb)|(refine js ?_;(refine Zab (fun w' _=>ho w') ?_))|refine walk1 ?_);exact k9.out):G:=h ⟨k⟩
set_option maxHeartbeats 4000000 in
theorem ZhH (u:DUntil)(least:Int)(w:World):Does Tryz.prog 217 [.agg (DUntil.enc u).toArray,.int .i64 least] w (fun v O=>v = .int .i64 (ZaI u least)/\O=[]):=by
 rw[Zhl]
 have ho:=fun w'=>Zka u.year u.month u.day w'
 generalize onD u.year u.month u.day=x at *
 obtain⟨x1,x2⟩:=x
 obtain⟨is,year,month,⟨dk,dw,dd⟩,⟨us,ub⟩⟩:=u
 dsimp only at ho ⊢
 show Does _ _ [.agg #[.bool is,.int .i64 year,.int .i64 month,.int .i64 dk,.int .i64 dw,.int .i64 dd,.int .i64 us,.int .i64 ub],.int .i64 least] w _
 refine Zaa Tryz.func217 rfl rfl rfl rfl ?_
 by_cases c1:least < -10800
 ·have b1:decide (least < -10800)=true:=decide_eq_true c1
  rw[if_pos (.inl c1)]
  repeat (first|refine Ze0 ?_|(refine js ?_;(refine bx ?_;intro bk)))
  exact rtA
 have b1:decide (least < -10800)=false:=decide_eq_false c1
 by_cases c2:0<least
 ·have b2:decide (0<least)=true:=decide_eq_true c2
  rw[if_pos (.inr c2)]
  repeat (first|refine Ze0 ?_|(refine js ?_;(refine bx ?_;intro bk)))
  exact rtA
 have b2:decide (0<least)=false:=decide_eq_false c2
 rw[if_neg (by omega)]
 cases is with
 | false =>
  rw[if_pos rfl]
  repeat (first|refine Ze0 ?_|(refine js ?_;(refine bx ?_;intro bk)))
  exact rtA
 | true =>
 rw[if_neg (by decide)]
 by_cases c3:year<1850
 ·have y1:decide (year<1850)=true:=decide_eq_true c3
  rw[if_pos (.inl c3)]
  repeat (first|refine Ze0 ?_|(refine js ?_;(refine bx ?_;intro bk)))
  exact rtA
 have y1:decide (year<1850)=false:=decide_eq_false c3
 by_cases c4:2149<year
 ·have y2:decide (2149<year)=true:=decide_eq_true c4
  rw[if_pos (.inr (.inl c4))]
  repeat (first|refine Ze0 ?_|(refine js ?_;(refine bx ?_;intro bk)))
  exact rtA
 have y2:decide (2149<year)=false:=decide_eq_false c4
 by_cases c5:ub<0
 ·have y3:decide (ub<0)=true:=decide_eq_true c5
  rw[if_pos (.inr (.inr (.inl c5)))]
  repeat (first|refine Ze0 ?_|(refine js ?_;(refine bx ?_;intro bk)))
  exact rtA
 have y3:decide (ub<0)=false:=decide_eq_false c5
 by_cases c6:2<ub
 ·have y4:decide (2<ub)=true:=decide_eq_true c6
  rw[if_pos (.inr (.inr (.inr c6)))]
  repeat (first|refine Ze0 ?_|(refine js ?_;(refine bx ?_;intro bk)))
  exact rtA
 have y4:decide (2<ub)=false:=decide_eq_false c6
 rw[if_neg (by omega)]
 by_cases c7:x2=0
 ·have x0:(!decide (x2=0))=false:=by rw[decide_eq_true c7];rfl
  rw[if_neg (fun h=>h c7)]
  by_cases c8:ub=1
  ·have u1:decide (ub=1)=true:=decide_eq_true c8
   simp only[if_pos c8]
   obtain⟨z1,l1⟩:∃ z,decide (us < -86400 - least)=z:=⟨_,rfl⟩
   obtain⟨z2,l2⟩:∃ z,decide (172800 - least<us)=z:=⟨_,rfl⟩
   have hz:(if us < -86400 - least\/172800 - least<us then (3:Int) else 0)=if z1||z2 then 3 else 0:=by
    rw[<- l1,<- l2]
    by_cases h:us < -86400 - least\/172800 - least<us
    ·rw[if_pos h,if_pos (by simpa using h)]
    ·rw[if_neg h,if_neg (by simpa using h)]
   rw[hz]
   cases z1 <;> cases z2
   all_goals
    repeat (first|refine Ze0 ?_|(refine js ?_;(refine bx ?_;intro bk)))
    exact rtA
  ·have u1:decide (ub=1)=false:=decide_eq_false c8
   simp only[if_neg c8]
   obtain⟨z1,l1⟩:∃ z,decide (us < -86400)=z:=⟨_,rfl⟩
   obtain⟨z2,l2⟩:∃ z,decide (172800<us)=z:=⟨_,rfl⟩
   have hz:(if us < -86400\/172800<us then (3:Int) else 0)=if z1||z2 then 3 else 0:=by
    rw[<- l1,<- l2]
    by_cases h:us < -86400\/172800<us
    ·rw[if_pos h,if_pos (by simpa using h)]
    ·rw[if_neg h,if_neg (by simpa using h)]
   rw[hz]
   cases z1 <;> cases z2
   all_goals
    repeat (first|refine Ze0 ?_|(refine js ?_;(refine bx ?_;intro bk)))
    exact rtA
 ·have x0:(!decide (x2=0))=true:=by rw[decide_eq_false c7];rfl
  rw[if_pos c7]
  repeat (first|refine Ze0 ?_|(refine js ?_;(refine bx ?_;intro bk)))
  exact rtA
theorem Znj (u:DUntil)(hs : -604799<=u.at_.sec/\u.at_.sec<=604799)(w:World):Does Tryz.prog 160 [.agg (DUntil.enc u).toArray] w (fun v O=>v = .int .i64 (86400*(onD u.year u.month u.day).1+u.at_.sec)/\O=[]):=by
 have ho:=fun w'=>Zka u.year u.month u.day w'
 have hb:=Zgz u.year u.month u.day
 generalize onD u.year u.month u.day=x at *
 obtain⟨x1,x2⟩:=x
 obtain⟨is,year,month,⟨dk,dw,dd⟩,⟨us,ub⟩⟩:=u
 dsimp only at ho hs hb ⊢
 show Does _ _ [.agg #[.bool is,.int .i64 year,.int .i64 month,.int .i64 dk,.int .i64 dw,.int .i64 dd,.int .i64 us,.int .i64 ub]] w _
 refine Zaa Tryz.func160 rfl rfl rfl rfl ?_
 repeat (first|(apply RL_pu;rfl;(apply Zc0;rfl;rfl;(constructor <;> omega)))|(refine js ?_;(first|(refine Zab (fun w' _=>ho w') ?_)|(refine bx ?_;intro bk)))|refine walk1 ?_)
 exact rtA
theorem ZAa {G:Prop}(h:G:=by(first|(apply Zal;rfl;rfl;exact k0)|(apply Zan;rfl;rfl;exact u1))):G:=h
theorem Zrk {G G':Prop}(k:G')(h:Hold G'->G:=by intro k9;(first|(apply RL_pu;rfl;exact ZAa)|(refine js ?_;(first|(refine Zab (fun w' _=>hc w') ?_)|(refine Zab (fun w' _=>hs w') ?_)))|refine walk1 ?_);exact k9.out):G:=h ⟨k⟩
theorem Znk (u:DUntil)(least:Int)(w:World):Does Tryz.prog 159 [.agg (DUntil.enc u).toArray,.int .i64 least] w (fun v O=>v = .tuple #[.int .i64 (ZaB u least).1,.int .i64 (ZaB u least).2]/\O=[]):=by
 have hc:=fun w'=>ZhH u least w'
 have hb:=Zgz u.year u.month u.day
 have hok:ZaI u least=0->(-10800<=least/\least<=0)/\-604799<=u.at_.sec/\u.at_.sec<=604799:=fun h=>by
  rw[Zhl]at h
  repeat' split at h
  all_goals first|omega|(cases h;done)
 have hse:=fun h w'=>Znj u h w'
 unfold ZaB
 generalize ZaI u least=K at *
 generalize (onD u.year u.month u.day).1=x at *
 obtain⟨is,year,month,⟨dk,dw,dd⟩,⟨us,ub⟩⟩:=u
 dsimp only at hok ⊢
 refine Zaa Tryz.func159 rfl rfl rfl rfl ?_
 by_cases hK:K=0
 ·have k0:(!decide (K=0))=false:=by rw[decide_eq_true hK];rfl
  obtain⟨h1,h2⟩:=hok hK
  have hs:=hse h2
  dsimp only at hs
  rw[if_neg (fun h=>h hK)]
  by_cases c8:ub=1
  ·have u1:decide (ub=1)=true:=decide_eq_true c8
   rw[if_pos c8]
   repeat (first|refine Zrk ?_|(refine js ?_;(refine bx ?_;intro bk)))
   exact rtB
  ·have u1:decide (ub=1)=false:=decide_eq_false c8
   rw[if_neg c8,Int.add_zero]
   repeat (first|refine Zrk ?_|(refine js ?_;(refine bx ?_;intro bk)))
   exact rtB
 ·have k0:(!decide (K=0))=true:=by rw[decide_eq_false hK];rfl
  rw[if_pos hK]
  repeat (first|refine Zrk ?_|(refine js ?_;(refine bx ?_;intro bk)))
  exact rtB
end Go.Proofs.YtpipekfmecikmaaGreatDoor
