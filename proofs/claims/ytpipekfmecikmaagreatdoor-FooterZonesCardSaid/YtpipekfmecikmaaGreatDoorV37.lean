/- Parts of the proof. -/
import Derived.Test.YtpipekfmecikmaaGreatDoorV36
import Derived.Test.YtpipekfmecikmaaGreatDoorV05
import Derived.Test.YtpipekfmecikmaaGreatDoorV20
import Derived.Test.YtpipekfmecikmaaGreatDoorV24
import Derived.Test.YtpipekfmecikmaaGreatDoorV35
import Derived.Test.YtpipekfmecikmaaGreatDoorV25
set_option maxHeartbeats 4000000
set_option linter.unusedVariables false
set_option linter.unusedSimpArgs false
namespace Go.Proofs.YtpipekfmecikmaaGreatDoor
open Go Go.RowKit Go.Wk
attribute [local irreducible] W RL Does Zat Zaj retQ Calls Pu Stp RD Qy Ay Zak
theorem Zg6 {a:DSource}(h:accD a=none){k:Nat}(hk:k<a.zones.length):ZdZ a k=0:=by
 unfold ZdZ
 rw[h]
 dsimp only
 rw[if_neg (by omega)]
theorem ZtH {G:Prop}(h:G:=by(apply Zal;rfl;rfl;exact b1)):G:=h
theorem Zlr (Ar Az Al As:Option Addr)(cr cz cl cs:Nat)(a:DSource)(zone:Int)(w:World)(h:Zb7 w Ar Az Al As cr cz cl cs a)(hne:ZdZ a zone≠0) :
  Does Tryz.prog 10 [srcV Ar Az Al As cr cz cl cs a,.int .i64 zone] w (fun v O=>v = .tuple #[.agg px0.enc.toArray,.int .i64 (ZdZ a zone)]/\O=[]):=by
 have hck:=fun w' (hw:Bel w.heap.size w w')=>Zb1 Ar Az Al As cr cz cl cs a zone w' (h.up hw)
 generalize ZdZ a zone=e at *
 have b1:(!decide (e=0))=true:=by rw[decide_eq_false hne];rfl
 refine Zaa Tryz.func10 rfl rfl rfl rfl ?_
 repeat (first|(apply RL_pu;rfl;exact ZtH)|(apply RD_Q;rfl;rfl;decide +kernel;rfl;rfl;exact QyRhG0)|refine walk1 ?_|(refine jg ?_;(try intro F);(first|(refine Zab hck ?_)|(refine bx ?_;intro bk)|(refine stA ?_));first|refine⟨_,EndsA,QFRhG0,?_⟩|refine fin ?_)|(refine jn ?_;(try intro F);(first|(refine bx ?_;intro bk)|(refine stA ?_)|(apply Zac;first|exact ZtH|exact PuA));first|refine⟨_,EndsA,QFRhG0,?_⟩|refine fin ?_)|(apply RD_W;rfl;intro bk))
 exact rtC
theorem ZhF (Ar Az Al As:Option Addr)(cr cz cl cs:Nat)(a:DSource)(zone:Int)(w:World)(h:Zb7 w Ar Az Al As cr cz cl cs a)(hne:ZdZ a zone≠0) :
  Does Tryz.prog 12 [srcV Ar Az Al As cr cz cl cs a,.int .i64 zone] w (fun v O=>v = .tuple #[.int .i64 0,.int .i64 (ZdZ a zone)]/\O=[]):=by
 have hck:=fun w' (hw:Bel w.heap.size w w')=>Zb1 Ar Az Al As cr cz cl cs a zone w' (h.up hw)
 generalize ZdZ a zone=e at *
 have b1:(!decide (e=0))=true:=by rw[decide_eq_false hne];rfl
 refine Zaa Tryz.func12 rfl rfl rfl rfl ?_
 repeat (first|(apply RL_pu;rfl;exact ZtH)|(refine js ?_;(first|(refine Zab hck ?_)|(refine bx ?_;intro bk)))|refine walk1 ?_)
 exact rtB
theorem Zxd {G:Prop}(h:G:=by(apply Zal;rfl;rfl;rfl)):G:=h
theorem Zxc {G:Prop}(h:G:=by(first|(apply Zap;rfl;rfl;omega;omega;(intro w' _ hO;exact(ZaD (hO.of (A := .row (.slice B R.length d) 68 11 R.length (R.flatMap DRule.enc)) (by repeat' constructor)) hg1).1))|(apply Zbt;rfl;(focus repeat' constructor);first|exact hgn 1 _ rfl|exact hgn 2 _ rfl|exact hgn 9 _ rfl)|(apply Zfj;rfl;rfl;first|exact m1|exact m2)|(apply Zal;rfl;rfl;exact b2))):G:=h
theorem Zxb {G:Prop}(h:G:=by(apply Zan;rfl;rfl;exact b3)):G:=h
theorem Zqq (Ar Az Al As:Option Addr)(cr cz cl cs:Nat)(a:DSource)(k:Nat)(z:DZone)(w:World)(h:Zb7 w Ar Az Al As cr cz cl cs a)(hf:accD a=none)(hk:a.zones[k]?=some z) :
  Does Tryz.prog 12 [srcV Ar Az Al As cr cz cl cs a,.int .i64 k] w (fun v O=>v = .tuple #[.int .i64 (Zhf a z.eras),.int .i64 0]/\O=[]):=by
 have hz:=List.mem_of_getElem? hk
 obtain⟨e,he,hle,hE,hne⟩:=Zix hf hz
 have hck:=fun w' (hw:Bel w.heap.size w w')=>Zb1 Ar Az Al As cr cz cl cs a k w' (h.up hw)
 rw[Zg6 hf (List.getElem?_eq_some_iff.1 hk).1]at hck
 have hla:=fun w' (hw:Bel w.heap.size w w')=>ZcS Ar Az Al As cr cz cl cs a k z e w' (h.A.up hw) h.S.nr hk he
 obtain⟨⟨q0,q1⟩,hR⟩:=Zs2 hf hz
 have hRl:=Zb0 h.S.nr z.eras
 have hl:0<z.eras.length:=List.length_pos_iff.2 hne
 unfold Zhf
 have hy0:(yr00 z.eras=yr0 z.eras/\1850<=yr0 z.eras)\/(yr00 z.eras=0/\yr0 z.eras=1849/\ZaJ a z.eras=[]):=by
  unfold yr0 yr00
  by_cases h1:1<z.eras.length
  ·rw[if_pos h1,if_pos h1]
   refine .inl ⟨rfl,?_⟩
   obtain⟨b,hb,e2⟩:=ZnI (l:=z.eras) (k:=z.eras.length - 2) (d:=dE0) (by omega)
   rw[e2]
   have hB:=Zn7 hf hz hb
   obtain⟨_,h2,_⟩:=hB.til (by omega)
   have hl:=hB.least
   unfold ZaI at h2
   rw[if_neg (by omega)]at h2
   by_cases c1:b.til.is=false
   ·rw[if_pos c1]at h2;omega
   rw[if_neg c1]at h2
   by_cases c2:b.til.year<1850\/2149<b.til.year\/ZaH b.til.at_=false
   ·rw[if_pos c2]at h2;omega
   ·omega
  ·rw[if_neg h1,if_neg h1]
   refine .inr ⟨rfl,rfl,?_⟩
   unfold ZaJ
   rw[hle,if_neg (hE.first (by omega))]
 unfold ZuD at hla
 generalize ZaJ a z.eras=R at *
 obtain⟨y0,hyy⟩:∃ y0,yr00 z.eras=y0:=⟨_,rfl⟩
 rw[hyy]at hla hy0
 -- the sum at the end: the greatest of the years, or none
 obtain⟨res,hres⟩:∃ res,yrR R y0=res:=⟨_,rfl⟩
 have hfin:(res=0/\yrR R (yr0 z.eras)+1=1850)\/(1850<=res/\res<=2149/\yrR R (yr0 z.eras)+1=res+1):=by
  rcases hy0 with⟨p1,p2⟩|⟨p1,p2,p3⟩
  ·refine .inr ?_
   rw[<- p1]at p2 q0 q1 ⊢
   have h3:=(ZvT R y0).1
   have h2:=Zrd R y0 hR (by omega)
   omega
  ·refine .inl ?_
   subst p3
   rw[p2,<- hres,p1]
   exact⟨rfl,rfl⟩
 clear hyy hy0 q0 q1
 generalize yrR R (yr0 z.eras)+1=fin_ at *
 have hyb:∀ r∈R,1850<=r.from_/\r.from_<=2149/\(r.to<=2149\/r.to=1048576):=fun r hr=>⟨(hR r hr).f0,(hR r hr).f1,(hR r hr).t1⟩
 clear hR
 obtain⟨off,kd,esv,st,fm,⟨ui,uy,um,⟨ud1,ud2,ud3⟩,⟨uc1,uc2⟩⟩⟩:=e
 simp only[DEra.enc]at hla
 refine Zaa Tryz.func12 rfl rfl rfl rfl ?_
 repeat (first|(apply RL_pu;rfl;exact Zxd)|(refine js ?_;(first|(refine Zab hck ?_)|(apply Zae (h:=fun w' hw _=>hla w' hw);rfl;rintro v O' ⟨B,d,rfl,rfl⟩)|(refine bx ?_;intro bk)))|refine walk1 ?_)
 refine Zai [(8,.slice B R.length d)] [.row (.slice B R.length d) 68 11 R.length (R.flatMap DRule.enc)] (fun g:YrG=>[(10,.int .i64 g.k),(9,.int .i64 g.y)]) (fun _=>[]) (fun g=>g.k<=R.length/\yrR (R.drop g.k) g.y=res) (fun g=>R.length - g.k) ⟨0,y0⟩ SFA SOA ⟨Nat.zero_le _,hres⟩ ?_
 clear hres
 rintro⟨j,y⟩ ⟨hkl,hi⟩
 dsimp only at hkl hi ⊢
 repeat (first|(refine js ?_;(refine bx ?_;intro bk))|refine walk ?_)
 refine Zaf rfl (fun hc=>?_) (fun hc=>?_)
 ·simp only[decide_eq_true_eq,Int.ofNat_lt]at hc
  rw[Zag hc,yrR]at hi
  have hg1:=Zao DRule.len R j _ 0 _ (List.getElem?_eq_getElem hc) rfl
  have hgn:∀ i v,(DRule.enc R[j])[i]?=some v->(R.flatMap DRule.enc)[j*11+i]?=some v:=fun i v hj=>Zao DRule.len R j _ i v (List.getElem?_eq_getElem hc) hj
  generalize R[j]=r at *
  obtain⟨nm,fr,to,mo,⟨dk,dw,dd⟩,⟨cs',cb⟩,sv,le⟩:=r
  simp only[DRule.enc]at hgn hg1
  dsimp only at hi
  have m1:(if y<fr then fr else y)=max y fr:=by split <;> omega
  have m2:(if max y fr<to then to else max y fr)=max (max y fr) to:=by split <;> omega
  by_cases hto:to=1048576
  ·have b2:(!decide (to=1048576))=false:=by rw[decide_eq_true hto];rfl
   rw[if_pos hto]at hi
   repeat (first|(apply RL_pu;rfl;exact Zxc)|(refine js ?_;(refine bx ?_;intro bk))|refine walk1 ?_)
   exact⟨⟨j+1,max y fr⟩,OA,⟨OA,hi⟩,SFA,SOA⟩
  ·have b2:(!decide (to=1048576))=true:=by rw[decide_eq_false hto];rfl
   rw[if_neg hto]at hi
   repeat (first|(apply RL_pu;rfl;exact Zxc)|(refine js ?_;(refine bx ?_;intro bk))|refine walk1 ?_)
   exact⟨⟨j+1,max (max y fr) to⟩,OA,⟨OA,hi⟩,SFA,SOA⟩
 ·simp only[decide_eq_false_iff_not,Int.ofNat_lt]at hc
  rw[List.drop_eq_nil_of_le (by omega),yrR]at hi
  subst hi
  rcases hfin with⟨p1,p2⟩|⟨p1,p2,p3⟩
  ·subst p1
   rw[p2]
   have b3:decide ((0:Int)=0)=true:=rfl
   repeat (first|(apply RL_pu;rfl;exact Zxb)|(refine js ?_;(refine bx ?_;intro bk))|refine walk1 ?_)
   exact rtB
  ·rw[p3]
   have b3:decide (y=0)=false:=decide_eq_false (by omega)
   repeat (first|(apply RL_pu;rfl;exact Zxb)|(refine js ?_;(refine bx ?_;intro bk))|refine walk1 ?_)
   exact rtB
theorem ZjY {G:Prop}(h:G:=by(first|exact Zxd|(apply Zan;rfl;rfl;rfl))):G:=h
theorem ZrP (Ar Az Al As:Option Addr)(cr cz cl cs:Nat)(a:DSource)(k:Nat)(z:DZone)(e:DEra)(w:World)(h:Zb7 w Ar Az Al As cr cz cl cs a)(hf:accD a=none)(hk:a.zones[k]?=some z)(he:z.eras[z.eras.length - 1]?=some e)
  (hkd:(e.kind=0/\e.save=0)\/e.kind=1) (hE1:FtE e) (hsv : -1000000<=e.save/\e.save<=1000000) :
  Does Tryz.prog 10 [srcV Ar Az Al As cr cz cl cs a,.int .i64 k] w (fun v O=>v = .tuple #[.agg (Zbi e e.save ByteArray.empty).enc.toArray,.int .i64 0]/\O=[]):=by
 have hck:=fun w' (hw:Bel w.heap.size w w')=>Zb1 Ar Az Al As cr cz cl cs a k w' (h.up hw)
 rw[Zg6 hf (List.getElem?_eq_some_iff.1 hk).1]at hck
 have hla:=fun w' (hw:Bel w.heap.size w w')=>ZcS Ar Az Al As cr cz cl cs a k z e w' (h.A.up hw) h.S.nr hk he
 have hon:=fun w'=>ZhG e e.save ByteArray.empty w' hE1 (Nat.zero_le _) hsv
 unfold ZuD at hla
 generalize Zbi e e.save ByteArray.empty=p at *
 generalize ZaJ a z.eras=R at *
 generalize yr00 z.eras=y at *
 clear he hE1 hsv
 obtain⟨off,kd,esv,st,fm,⟨ui,uy,um,⟨ud1,ud2,ud3⟩,⟨uc1,uc2⟩⟩⟩:=e
 obtain⟨p1,p2,p3,p4,⟨p5,p6,p7,p8,p9⟩,⟨q1,q2,q3,q4,q5⟩⟩:=p
 simp only[DEra.enc]at hla hon
 simp only[Zbx.enc]at hon ⊢
 dsimp only at hkd
 refine Zaa Tryz.func10 rfl rfl rfl rfl ?_
 rcases hkd with⟨rfl,rfl⟩|rfl
 ·repeat (first|(apply RL_pu;rfl;exact ZjY)|(apply RD_Q;rfl;rfl;decide +kernel;rfl;rfl;exact QyRhG4)|refine walk1 ?_|(refine jg ?_;(try intro F);(first|(refine Zab hck ?_)|(apply Zae (h:=fun w' hw _=>hla w' hw);rfl;rintro v O' ⟨B,d,rfl,rfl⟩)|(refine Zab (fun w' _=>hon w') ?_)|(refine bx ?_;intro bk)|(refine stA ?_));first|refine⟨_,EndsA,QFRhG4,?_⟩|refine fin ?_)|(refine jn ?_;(try intro F);(first|(refine bx ?_;intro bk)|(refine stA ?_)|(apply Zac;first|exact ZjY|exact PuA));first|refine⟨_,EndsA,QFRhG4,?_⟩|refine fin ?_)|(apply RD_W;rfl;intro bk))
  exact rtC
 ·repeat (first|(apply RL_pu;rfl;exact ZjY)|(apply RD_Q;rfl;rfl;decide +kernel;rfl;rfl;exact QyRhG4)|refine walk1 ?_|(refine jg ?_;(try intro F);(first|(refine Zab hck ?_)|(apply Zae (h:=fun w' hw _=>hla w' hw);rfl;rintro v O' ⟨B,d,rfl,rfl⟩)|(refine Zab (fun w' _=>hon w') ?_)|(refine bx ?_;intro bk)|(refine stA ?_));first|refine⟨_,EndsA,QFRhG4,?_⟩|refine fin ?_)|(refine jn ?_;(try intro F);(first|(refine bx ?_;intro bk)|(refine stA ?_)|(apply Zac;first|exact ZjY|exact PuA));first|refine⟨_,EndsA,QFRhG4,?_⟩|refine fin ?_)|(apply RD_W;rfl;intro bk))
  exact rtC
theorem ZpG {G:Prop}(h:G:=by(first|(apply Zap;rfl;rfl;omega;omega;(intro w' _ hO;exact(ZaD (hO.of (A := .row (.slice B R.length d) 68 11 R.length (R.flatMap DRule.enc)) (by repeat' constructor)) hg1).1))|(apply Zbt;rfl;(focus repeat' constructor);first|exact hgn 1 _ rfl|exact hgn 2 _ rfl|exact hgn 9 _ rfl)|(apply Zal;rfl;rfl;exact b5)|(apply Zan;rfl;rfl;first|exact b2|exact b4))):G:=h
theorem Zxa {G:Prop}(h:G:=by(first|(apply Zap;rfl;rfl;omega;omega;(intro w' _ hO;exact(ZaD (hO.of (A := .row (.slice B R.length d) 68 11 R.length (R.flatMap DRule.enc)) (by repeat' constructor)) hg1).1))|(apply Zbt;rfl;(focus repeat' constructor);first|exact hgn 1 _ rfl|exact hgn 2 _ rfl|exact hgn 9 _ rfl)|(apply Zan;rfl;rfl;exact b2))):G:=h
theorem ZtG {G:Prop}(h:G:=by(first|(apply Zap;rfl;rfl;omega;omega;(intro w' _ hO;exact(ZaD (hO.of (A := .row (.slice B R.length d) 68 11 R.length (R.flatMap DRule.enc)) (by repeat' constructor)) hgx1).1))|(apply Zbt;rfl;(focus repeat' constructor);first|exact hgx 9 _ rfl|exact hgx 10 _ rfl)|(apply Zaz;rfl;rfl;rfl))):G:=h
theorem Zwk {G:Prop}(h:G:=by first|(apply Qy_y;rfl;exact ZtG)|exact QyA):G:=h
theorem ZwO {G:Prop}(h:G:=by repeat (first|exact QF.nil|(apply QF.mk;rfl;rfl;decide +kernel;exact Zwk))):G:=h
set_option maxHeartbeats 4000000 in
theorem Znh (Ar Az Al As:Option Addr)(cr cz cl cs:Nat)(a:DSource)(k:Nat)(z:DZone)(e:DEra)(x:Zad)(r:DRule)(w:World)(h:Zb7 w Ar Az Al As cr cz cl cs a)(hf:accD a=none)(hk:a.zones[k]?=some z)(he:z.eras[z.eras.length - 1]?=some e)
  (hkd:e.kind=2) (hE1:FtE e) (hS:Zdq (ZaJ a z.eras)) (hse:seF (ZaJ a z.eras) 0 (none,none)=(none,none)) (hbx:befD (ZaJ a z.eras) 1152921504606846976=some x) (hx:0<=x.rule) (hrx:(ZaJ a z.eras)[x.rule.toNat]?=some r) (hr:FtRu r) :
  Does Tryz.prog 10 [srcV Ar Az Al As cr cz cl cs a,.int .i64 k] w (fun v O=>v = .tuple #[.agg (Zbi e r.save r.letter).enc.toArray,.int .i64 0]/\O=[]):=by
 have hck:=fun w' (hw:Bel w.heap.size w w')=>Zb1 Ar Az Al As cr cz cl cs a k w' (h.up hw)
 rw[Zg6 hf (List.getElem?_eq_some_iff.1 hk).1]at hck
 have hla:=fun w' (hw:Bel w.heap.size w w')=>ZcS Ar Az Al As cr cz cl cs a k z e w' (h.A.up hw) h.S.nr hk he
 have hon:=fun w'=>ZhG e r.save r.letter w' hE1 hr.l hr.v
 have hRl:=Zb0 h.S.nr z.eras
 have hbf:=fun B d w' (hA:RdSl w' B d DRule.enc 11 (ZaJ a z.eras))=>ZrN B d (ZaJ a z.eras) 1152921504606846976 w' hA hRl hS (by decide)
 rw[hbx]at hbf
 unfold ZuD at hla
 generalize Zbi e r.save r.letter=p at *
 generalize ZaJ a z.eras=R at *
 generalize yr00 z.eras=y at *
 have hxl:x.rule.toNat<R.length:=(List.getElem?_eq_some_iff.1 hrx).1
 have hgx1:=Zao DRule.len R x.rule.toNat _ 0 _ hrx rfl
 have hgx:∀ m v,(DRule.enc r)[m]?=some v->(R.flatMap DRule.enc)[x.rule.toNat*11+m]?=some v:=fun m v hm=>Zao DRule.len R _ _ m v hrx hm
 clear h hf hk he hE1 hrx hr hbx hS
 obtain⟨off,kd,esv,st,fm,⟨ui,uy,um,⟨ud1,ud2,ud3⟩,⟨uc1,uc2⟩⟩⟩:=e
 obtain⟨p1,p2,p3,p4,⟨p5,p6,p7,p8,p9⟩,⟨q1,q2,q3,q4,q5⟩⟩:=p
 obtain⟨xy,xr,xn⟩:=x
 obtain⟨rn,rf,rt,rm,⟨rd1,rd2,rd3⟩,⟨rc1,rc2⟩,rs,rl⟩:=r
 simp only[DEra.enc]at hla hon
 simp only[Zbx.enc]at hon ⊢
 dsimp only at hkd hx hxl hgx1 hgx hon
 simp only[DRule.enc]at hgx
 subst hkd
 change ∀ B d w',RdSl w' B d DRule.enc 11 R->Does _ _ _ w' (fun v O=>v = .tuple #[.agg #[.int .i64 xy,.int .i64 xr,.int .i64 xn],.bool true]/\O=[]) at hbf
 refine Zaa Tryz.func10 rfl rfl rfl rfl ?_
 repeat (first|(apply RL_pu;rfl;exact ZjY)|(apply RD_Q;rfl;rfl;decide +kernel;rfl;rfl;exact QyRhG4)|refine walk1 ?_|(refine jg ?_;(try intro F);(first|(refine Zab hck ?_)|(apply Zae (h:=fun w' hw _=>hla w' hw);rfl;rintro v O' ⟨B,d,rfl,rfl⟩)|(refine bx ?_;intro bk)|(refine stA ?_));first|refine⟨_,EndsA,QFRhG4,?_⟩|refine fin ?_)|(refine jn ?_;(try intro F);(first|(refine bx ?_;intro bk)|(refine stA ?_)|(apply Zac;first|exact ZjY|exact PuA));first|refine⟨_,EndsA,QFRhG4,?_⟩|refine fin ?_)|(apply RD_W;rfl;intro bk))
 rename_i b2 b4
 generalize bk=b7
 refine Zai [(4,.pointer (some ⟨b4,0,none⟩)),(7,.pointer (some ⟨b7,0,none⟩)),(8,.slice B R.length d)] [.row (.slice B R.length d) 68 11 R.length (R.flatMap DRule.enc),.blk b7 [.int .i64 off,.int .i64 2,.int .i64 esv,.string st,.string fm,.bool ui,.int .i64 uy,.int .i64 um,.int .i64 ud1,.int .i64 ud2,.int .i64 ud3,.int .i64 uc1,.int .i64 uc2] 75,.blk b4 [.string ByteArray.empty,.int .i64 0,.string ByteArray.empty,.int .i64 0,.int .i64 0,.int .i64 0,.int .i64 0,.int .i64 0,.int .i64 0,.int .i64 0,.int .i64 0,.int .i64 0,.int .i64 0,.int .i64 0] 33]
  (fun g:OfG=>[(12,.int .i64 g.k),(10,.int .i64 (ixN g.s)),(11,.int .i64 (ixN g.e))]) (fun _=>[]) (fun g=>g.k<=R.length/\seF (R.drop g.k) g.k (g.s,g.e)=(none,none)) (fun g=>R.length - g.k) ⟨0,none,none⟩ SFA SOA ⟨Nat.zero_le _,hse⟩ ?_
 clear hse
 rintro⟨k,s,t⟩ ⟨hkl,hi⟩
 dsimp only at hkl hi ⊢
 repeat (first|refine walk ?_|(refine jn ?_;(try intro F);(first|(refine bx ?_;intro bk)|(refine stA ?_)|(apply Zac;exact PuA));refine fin ?_)|(apply RD_W;rfl;intro bk))
 refine Zaf rfl (fun hc=>?_) (fun hc=>?_)
 ·simp only[decide_eq_true_eq,Int.ofNat_lt]at hc
  rw[Zag hc,seF]at hi
  have hg1:=Zao DRule.len R k _ 0 _ (List.getElem?_eq_getElem hc) rfl
  have hgn:∀ j v,(DRule.enc R[k])[j]?=some v->(R.flatMap DRule.enc)[k*11+j]?=some v:=fun j v hj=>Zao DRule.len R k _ j v (List.getElem?_eq_getElem hc) hj
  generalize R[k]=r1 at *
  obtain⟨nm,fr,to,mo,⟨dk,dw,dd⟩,⟨cs',cb⟩,sv,le⟩:=r1
  simp only[DRule.enc]at hgn hg1
  dsimp only at hi
  by_cases hto:to=1048576
  ·have b2:decide (to=1048576)=true:=decide_eq_true hto
   rw[if_pos hto]at hi
   by_cases hsv:sv=0
   ·have b4:decide (sv=0)=true:=decide_eq_true hsv
    have b5:(!decide (sv=0))=false:=by rw[b4];rfl
    rw[if_pos hsv]at hi
    repeat (first|refine und ?_|(apply RL_pu;rfl;exact ZpG)|(apply RD_Q;rfl;rfl;decide +kernel;rfl;rfl;exact QyRhG5)|refine walk1 ?_|(refine jn ?_;(try intro F);(first|(refine bx ?_;intro bk)|(refine stA ?_)|(apply Zac;first|exact ZpG|exact PuA));first|refine⟨_,EndsA,QFRhG5,?_⟩|refine fin ?_)|(apply RD_W;rfl;intro bk))
    exact⟨⟨k+1,s,some k⟩,OA,⟨OA,hi⟩,SFA,SOA⟩
   ·have b4:decide (sv=0)=false:=decide_eq_false hsv
    have b5:(!decide (sv=0))=true:=by rw[b4];rfl
    rw[if_neg hsv]at hi
    repeat (first|refine und ?_|(apply RL_pu;rfl;exact ZpG)|(apply RD_Q;rfl;rfl;decide +kernel;rfl;rfl;exact QyRhG5)|refine walk1 ?_|(refine jn ?_;(try intro F);(first|(refine bx ?_;intro bk)|(refine stA ?_)|(apply Zac;first|exact ZpG|exact PuA));first|refine⟨_,EndsA,QFRhG5,?_⟩|refine fin ?_)|(apply RD_W;rfl;intro bk))
    exact⟨⟨k+1,some k,t⟩,OA,⟨OA,hi⟩,SFA,SOA⟩
  ·have b2:decide (to=1048576)=false:=decide_eq_false hto
   rw[if_neg hto]at hi
   repeat (first|refine und ?_|(apply RL_pu;rfl;exact Zxa)|(apply RD_Q;rfl;rfl;decide +kernel;rfl;rfl;exact QyRhG6)|refine walk1 ?_|(refine jn ?_;(try intro F);(first|(refine bx ?_;intro bk)|(refine stA ?_)|(apply Zac;first|exact Zxa|exact PuA));first|refine⟨_,EndsA,QFRhG6,?_⟩|refine fin ?_)|(apply RD_W;rfl;intro bk))
   exact⟨⟨k+1,s,t⟩,OA,⟨OA,hi⟩,SFA,SOA⟩
 ·simp only[decide_eq_false_iff_not,Int.ofNat_lt]at hc
  rw[List.drop_eq_nil_of_le (by omega),seF]at hi
  obtain⟨rfl,rfl⟩:=Prod.mk.inj hi
  simp only[ixN]
  repeat (first|refine und ?_|(apply RL_pu;rfl;exact ZtG)|(apply RD_Q;rfl;rfl;decide +kernel;rfl;rfl;exact Zwk)|refine walk1 ?_|(refine jg ?_;(try intro F);(first|(refine ZaM (fun w' hw hO=>hbf B d w' (ZaX DRule.len (hO.of (A := .row (.slice B R.length d) 68 11 R.length (R.flatMap DRule.enc)) (by repeat' constructor)))) ?_)|(refine Zab (fun w' _=>hon w') ?_)|(refine bx ?_;intro bk)|(refine stA ?_));first|refine⟨_,EndsA,ZwO,?_⟩|refine fin ?_)|(refine jn ?_;(try intro F);(first|(refine bx ?_;intro bk)|(refine stA ?_)|(apply Zac;first|exact ZtG|exact PuA));first|refine⟨_,EndsA,ZwO,?_⟩|refine fin ?_)|(apply RD_W;rfl;intro bk))
  exact rtC
theorem Zw9 {G:Prop}(h:G:=by(first|(apply Zal;rfl;rfl;rfl)|(apply Zan;rfl;rfl;rfl))):G:=h
theorem ZpF {G:Prop}(h:G:=by(first|(apply Zap;rfl;rfl;omega;omega;(intro w' _ hO;exact(ZaD (hO.of (A := .row (.slice B R.length d) 68 11 R.length (R.flatMap DRule.enc)) (by repeat' constructor)) hg1).1))|(apply Zbt;rfl;(focus repeat' constructor);first|exact hgn 2 _ rfl|exact hgn 9 _ rfl)|(apply Zal;rfl;rfl;exact b5)|(apply Zan;rfl;rfl;first|exact b2|exact b4))):G:=h
theorem Zw8 {G:Prop}(h:G:=by(first|(apply Zap;rfl;rfl;omega;omega;(intro w' _ hO;exact(ZaD (hO.of (A := .row (.slice B R.length d) 68 11 R.length (R.flatMap DRule.enc)) (by repeat' constructor)) hg1).1))|(apply Zbt;rfl;(focus repeat' constructor);first|exact hgn 2 _ rfl|exact hgn 9 _ rfl)|(apply Zan;rfl;rfl;exact b2))):G:=h
theorem ZtF {G:Prop}(h:G:=by(first|(apply Zap;rfl;rfl;omega;omega;(intro w' _ hO;exact(ZaD (hO.of (A := .row (.slice B R.length d) 68 11 R.length (R.flatMap DRule.enc)) (by repeat' constructor)) hgi1).1))|(apply Zap;rfl;rfl;omega;omega;(intro w' _ hO;exact(ZaD (hO.of (A := .row (.slice B R.length d) 68 11 R.length (R.flatMap DRule.enc)) (by repeat' constructor)) hgj1).1))|(apply ZaS;rfl;(focus repeat' constructor);exact hgi;rfl)|(apply ZaS;rfl;(focus repeat' constructor);exact hgj;rfl)|(apply Zaz;rfl;rfl;exact b9))):G:=h
theorem Zwj {G:Prop}(h:G:=by first|(apply Qy_y;rfl;exact ZtF)|exact QyA):G:=h
theorem ZwN {G:Prop}(h:G:=by repeat (first|exact QF.nil|(apply QF.mk;rfl;rfl;decide +kernel;exact Zwj))):G:=h
set_option maxHeartbeats 8000000 in
theorem ZrO (Ar Az Al As:Option Addr)(cr cz cl cs:Nat)(a:DSource)(k:Nat)(z:DZone)(e:DEra)(i j:Nat)(r q:DRule)(w:World)(h:Zb7 w Ar Az Al As cr cz cl cs a)(hf:accD a=none)(hk:a.zones[k]?=some z)(he:z.eras[z.eras.length - 1]?=some e)
  (hkd:e.kind=2) (hE1:FtE e) (hse:seF (ZaJ a z.eras) 0 (none,none)=(some i,some j)) (hri:(ZaJ a z.eras)[i]?=some r) (hrj:(ZaJ a z.eras)[j]?=some q) (hr:FtRu r) (hq:FtRu q) (hq0:q.save=0) :
  Does Tryz.prog 10 [srcV Ar Az Al As cr cz cl cs a,.int .i64 k] w (fun v O=>v = .tuple #[.agg (Zgv e r q).enc.toArray,.int .i64 0]/\O=[]):=by
 have hck:=fun w' (hw:Bel w.heap.size w w')=>Zb1 Ar Az Al As cr cz cl cs a k w' (h.up hw)
 rw[Zg6 hf (List.getElem?_eq_some_iff.1 hk).1]at hck
 have hla:=fun w' (hw:Bel w.heap.size w w')=>ZcS Ar Az Al As cr cz cl cs a k z e w' (h.A.up hw) h.S.nr hk he
 have ha1:=fun w'=>Zeb e 0 q.letter w' hE1 hq.l (by decide)
 have ha2:=fun w'=>Zeb e r.save r.letter w' hE1 hr.l hr.v
 have hd1:=fun w'=>Zi6 r e.off 0 w'
 have hd2:=fun w'=>Zi6 q e.off r.save w'
 have hRl:=Zb0 h.S.nr z.eras
 have ho:=hE1.o
 have hv:=hr.v
 unfold Zgv
 rw[hq0]
 unfold ZqQ at hd1 hd2
 unfold ZuD at hla
 generalize ZaJ a z.eras=R at *
 generalize yr00 z.eras=y at *
 have hil:i<R.length:=(List.getElem?_eq_some_iff.1 hri).1
 have hjl:j<R.length:=(List.getElem?_eq_some_iff.1 hrj).1
 have hgi1:=Zao DRule.len R i _ 0 _ hri rfl
 have hgi:∀ m v,(DRule.enc r)[m]?=some v->(R.flatMap DRule.enc)[i*11+m]?=some v:=fun m v hm=>Zao DRule.len R _ _ m v hri hm
 have hgj1:=Zao DRule.len R j _ 0 _ hrj rfl
 have hgj:∀ m v,(DRule.enc q)[m]?=some v->(R.flatMap DRule.enc)[j*11+m]?=some v:=fun m v hm=>Zao DRule.len R _ _ m v hrj hm
 generalize ZeX e 0 q.letter=s1 at *
 generalize ZeX e r.save r.letter=s2 at *
 generalize ZdK r e.off 0=x1 at *
 generalize ZdK q e.off r.save=x2 at *
 clear h hf hk he hE1 hri hrj hr hq hq0
 obtain⟨off,kd,esv,st,fm,⟨ui,uy,um,⟨ud1,ud2,ud3⟩,⟨uc1,uc2⟩⟩⟩:=e
 obtain⟨⟨p5,p6,p7,p8,p9⟩,pe⟩:=x1
 obtain⟨⟨q1,q2,q3,q4,q5⟩,qe⟩:=x2
 obtain⟨rn,rf,rt,rm,⟨rd1,rd2,rd3⟩,⟨rc1,rc2⟩,rs,rl⟩:=r
 obtain⟨qn,qf,qt,qm,⟨qd1,qd2,qd3⟩,⟨qc1,qc2⟩,qs,ql⟩:=q
 dsimp only at hkd ho hv ha1 ha2 hd1 hd2
 subst hkd
 simp only[DEra.enc]at hla ha1 ha2
 simp only[DRule.enc]at hd1 hd2 hgi hgj hgi1 hgj1
 simp only[ZcP.enc]at hd1 hd2
 simp only[Zbx.enc]
 refine Zaa Tryz.func10 rfl rfl rfl rfl ?_
 repeat (first|(apply RL_pu;rfl;exact Zw9)|(apply RD_Q;rfl;rfl;decide +kernel;rfl;rfl;exact QyRhH0)|refine walk1 ?_|(refine jg ?_;(try intro F);(first|(refine Zab hck ?_)|(apply Zae (h:=fun w' hw _=>hla w' hw);rfl;rintro v O' ⟨B,d,rfl,rfl⟩)|(refine bx ?_;intro bk)|(refine stA ?_));first|refine⟨_,EndsA,QFRhH0,?_⟩|refine fin ?_)|(refine jn ?_;(try intro F);(first|(refine bx ?_;intro bk)|(refine stA ?_)|(apply Zac;first|exact Zw9|exact PuA));first|refine⟨_,EndsA,QFRhH0,?_⟩|refine fin ?_)|(apply RD_W;rfl;intro bk))
 rename_i b2 b4
 generalize bk=b7
 refine Zai [(4,.pointer (some ⟨b4,0,none⟩)),(7,.pointer (some ⟨b7,0,none⟩)),(8,.slice B R.length d)] [.row (.slice B R.length d) 68 11 R.length (R.flatMap DRule.enc),.blk b7 [.int .i64 off,.int .i64 2,.int .i64 esv,.string st,.string fm,.bool ui,.int .i64 uy,.int .i64 um,.int .i64 ud1,.int .i64 ud2,.int .i64 ud3,.int .i64 uc1,.int .i64 uc2] 75,.blk b4 [.string ByteArray.empty,.int .i64 0,.string ByteArray.empty,.int .i64 0,.int .i64 0,.int .i64 0,.int .i64 0,.int .i64 0,.int .i64 0,.int .i64 0,.int .i64 0,.int .i64 0,.int .i64 0,.int .i64 0] 33]
  (fun g:OfG=>[(12,.int .i64 g.k),(10,.int .i64 (ixN g.s)),(11,.int .i64 (ixN g.e))]) (fun _=>[]) (fun g=>g.k<=R.length/\seF (R.drop g.k) g.k (g.s,g.e)=(some i,some j)) (fun g=>R.length - g.k) ⟨0,none,none⟩ SFA SOA ⟨Nat.zero_le _,hse⟩ ?_
 clear hse
 rintro⟨k,s,t⟩ ⟨hkl,hi⟩
 dsimp only at hkl hi ⊢
 repeat (first|refine walk ?_|(refine jn ?_;(try intro F);(first|(refine bx ?_;intro bk)|(refine stA ?_)|(apply Zac;exact PuA));refine fin ?_)|(apply RD_W;rfl;intro bk))
 refine Zaf rfl (fun hc=>?_) (fun hc=>?_)
 ·simp only[decide_eq_true_eq,Int.ofNat_lt]at hc
  rw[Zag hc,seF]at hi
  have hg1:=Zao DRule.len R k _ 0 _ (List.getElem?_eq_getElem hc) rfl
  have hgn:∀ j v,(DRule.enc R[k])[j]?=some v->(R.flatMap DRule.enc)[k*11+j]?=some v:=fun j v hj=>Zao DRule.len R k _ j v (List.getElem?_eq_getElem hc) hj
  generalize R[k]=r1 at *
  obtain⟨nm,fr,to,mo,⟨dk,dw,dd⟩,⟨cs',cb⟩,sv,le⟩:=r1
  simp only[DRule.enc]at hgn hg1
  dsimp only at hi
  clear hgi hgj hgi1 hgj1
  by_cases hto:to=1048576
  ·have b2:decide (to=1048576)=true:=decide_eq_true hto
   rw[if_pos hto]at hi
   by_cases hsv:sv=0
   ·have b4:decide (sv=0)=true:=decide_eq_true hsv
    have b5:(!decide (sv=0))=false:=by rw[b4];rfl
    rw[if_pos hsv]at hi
    repeat (first|refine und ?_|(apply RL_pu;rfl;exact ZpF)|(apply RD_Q;rfl;rfl;decide +kernel;rfl;rfl;exact QyRhH1)|refine walk1 ?_|(refine jn ?_;(try intro F);(first|(refine bx ?_;intro bk)|(refine stA ?_)|(apply Zac;first|exact ZpF|exact PuA));first|refine⟨_,EndsA,QFRhH1,?_⟩|refine fin ?_)|(apply RD_W;rfl;intro bk))
    exact⟨⟨k+1,s,some k⟩,OA,⟨OA,hi⟩,SFA,SOA⟩
   ·have b4:decide (sv=0)=false:=decide_eq_false hsv
    have b5:(!decide (sv=0))=true:=by rw[b4];rfl
    rw[if_neg hsv]at hi
    repeat (first|refine und ?_|(apply RL_pu;rfl;exact ZpF)|(apply RD_Q;rfl;rfl;decide +kernel;rfl;rfl;exact QyRhH1)|refine walk1 ?_|(refine jn ?_;(try intro F);(first|(refine bx ?_;intro bk)|(refine stA ?_)|(apply Zac;first|exact ZpF|exact PuA));first|refine⟨_,EndsA,QFRhH1,?_⟩|refine fin ?_)|(apply RD_W;rfl;intro bk))
    exact⟨⟨k+1,some k,t⟩,OA,⟨OA,hi⟩,SFA,SOA⟩
  ·have b2:decide (to=1048576)=false:=decide_eq_false hto
   rw[if_neg hto]at hi
   repeat (first|refine und ?_|(apply RL_pu;rfl;exact Zw8)|(apply RD_Q;rfl;rfl;decide +kernel;rfl;rfl;exact QyRhH2)|refine walk1 ?_|(refine jn ?_;(try intro F);(first|(refine bx ?_;intro bk)|(refine stA ?_)|(apply Zac;first|exact Zw8|exact PuA));first|refine⟨_,EndsA,QFRhH2,?_⟩|refine fin ?_)|(apply RD_W;rfl;intro bk))
   exact⟨⟨k+1,s,t⟩,OA,⟨OA,hi⟩,SFA,SOA⟩
 ·simp only[decide_eq_false_iff_not,Int.ofNat_lt]at hc
  rw[List.drop_eq_nil_of_le (by omega),seF]at hi
  obtain⟨rfl,rfl⟩:=Prod.mk.inj hi
  simp only[ixN]
  have b9:decide ((i:Int)<0)=false:=decide_eq_false (by omega)
  repeat (first|refine und ?_|(apply RL_pu;rfl;exact ZtF)|(apply RD_Q;rfl;rfl;decide +kernel;rfl;rfl;exact Zwj)|refine walk1 ?_|(refine jg ?_;(try intro F);(first|(refine Zab (fun w' _=>ha1 w') ?_)|(refine Zab (fun w' _=>ha2 w') ?_)|(refine Zab (fun w' _=>hd1 w') ?_)|(refine Zab (fun w' _=>hd2 w') ?_)|(refine bx ?_;intro bk)|(refine stA ?_));first|refine⟨_,EndsA,ZwN,?_⟩|refine fin ?_)|(refine jn ?_;(try intro F);(first|(refine bx ?_;intro bk)|(refine stA ?_)|(apply Zac;first|exact ZtF|exact PuA));first|refine⟨_,EndsA,ZwN,?_⟩|refine fin ?_)|(apply RD_W;rfl;intro bk))
  exact rtC
theorem ZrQ (Ar Az Al As:Option Addr)(cr cz cl cs:Nat)(a:DSource)(zone:Int)(w:World)(h:Zb7 w Ar Az Al As cr cz cl cs a) :
  Does Tryz.prog 10 [srcV Ar Az Al As cr cz cl cs a,.int .i64 zone] w (fun v O=>v = .tuple #[.agg (ofR a zone).1.enc.toArray,.int .i64 (ofR a zone).2]/\O=[]):=by
 unfold ofR
 cases ha:accD a with
 | some x =>
  obtain⟨p,e⟩:=x
  have hc:ZdZ a zone=e:=by unfold ZdZ;rw[ha]
  have:=Zlr Ar Az Al As cr cz cl cs a zone w h (by rw[hc];exact Zfi ha)
  rwa[hc]at this
 | none =>
  dsimp only
  by_cases hz:zone<0\/(a.zones.length:Int)<=zone
  ·rw[if_pos hz]
   have hc:ZdZ a zone=3:=by unfold ZdZ;rw[ha];dsimp only;rw[if_pos hz]
   have:=Zlr Ar Az Al As cr cz cl cs a zone w h (by rw[hc];decide)
   rwa[hc]at this
  rw[if_neg hz]
  obtain⟨k,rfl⟩:∃ k:Nat,(k:Int)=zone:=⟨zone.toNat,by omega⟩
  have hk:=List.getElem?_eq_getElem (l:=a.zones) (i:=k) (by omega)
  rw[Int.toNat_natCast,hk]
  have hzm:=List.mem_of_getElem? hk
  obtain⟨e,he,hle,hE,_⟩:=Zix ha hzm
  have ho:=hE.off
  have hE1:FtE e:=⟨((h.S.zs _ hzm).2.2 e (List.mem_of_getElem? he)).2,by omega⟩
  simp only[Option.map_some,Option.getD_some]
  unfold ofF
  rw[hle]
  by_cases h2:e.kind=2
  ·have hru:ZaJ a a.zones[k].eras=ofB a.rules e.set:=by unfold ZaJ;rw[hle,if_pos h2]
   rw[if_pos h2]
   have hS:=hE.set h2
   rw[<- hru]at hS ⊢
   have hfr:∀ r∈ZaJ a a.zones[k].eras,FtRu r:=fun r hr=>by
    obtain⟨q1,q2⟩:=hS.sv (List.mem_map.2 ⟨r,hr,rfl⟩)
    exact⟨by dsimp only at q2;omega,by dsimp only at q1;omega⟩
   rcases Zjl hS.last with⟨c1,c2⟩|⟨i,j,r,q,c1,c2,c3,c4,c5,c6,c7,c8,c9⟩
   ·rw[c1]
    dsimp only
    obtain⟨x,n,r,y,x1,hn,hy⟩:=hS.bef_some (n:=1152921504606846976) (by decide)
    have hxr:=(ZbO hy).2.1
    have hru2:ruE (ZaJ a a.zones[k].eras) x=r:=by
     unfold ruE
     rw[hxr,List.getD_eq_getElem?_getD,Int.toNat_natCast,hn]
     rfl
    rw[x1]
    dsimp only
    rw[hru2]
    exact Znh Ar Az Al As cr cz cl cs a k _ e x r w h ha hk he h2 hE1 hS c1 x1 (by omega) (by rw[hxr,Int.toNat_natCast];exact hn) (hfr r (List.mem_of_getElem? hn))
   ·rw[c8]
    dsimp only
    rw[List.getD_eq_getElem?_getD,List.getD_eq_getElem?_getD,c2,c3]
    exact ZrO Ar Az Al As cr cz cl cs a k _ e i j r q w h ha hk he h2 hE1 c8 c2 c3 (hfr r (List.mem_of_getElem? c2)) (hfr q (List.mem_of_getElem? c3)) c7
  ·rw[if_neg h2]
   have hs:=hE.save
   have hk2:=hE.kind
   exact ZrP Ar Az Al As cr cz cl cs a k _ e w h ha hk he (by omega) hE1 (by omega)
theorem Zng (Ar Az Al As:Option Addr)(cr cz cl cs:Nat)(a:DSource)(zone:Int)(w:World)(h:Zb7 w Ar Az Al As cr cz cl cs a) :
  Does Tryz.prog 12 [srcV Ar Az Al As cr cz cl cs a,.int .i64 zone] w (fun v O=>v = .tuple #[.int .i64 (yrD a zone).1,.int .i64 (yrD a zone).2]/\O=[]):=by
 unfold yrD
 cases ha:accD a with
 | some x =>
  obtain⟨p,e⟩:=x
  have hc:ZdZ a zone=e:=by unfold ZdZ;rw[ha]
  have:=ZhF Ar Az Al As cr cz cl cs a zone w h (by rw[hc];exact Zfi ha)
  rwa[hc]at this
 | none =>
  dsimp only
  by_cases hz:zone<0\/(a.zones.length:Int)<=zone
  ·rw[if_pos hz]
   have hc:ZdZ a zone=3:=by unfold ZdZ;rw[ha];dsimp only;rw[if_pos hz]
   have:=ZhF Ar Az Al As cr cz cl cs a zone w h (by rw[hc];decide)
   rwa[hc]at this
  rw[if_neg hz]
  obtain⟨k,rfl⟩:∃ k:Nat,(k:Int)=zone:=⟨zone.toNat,by omega⟩
  have hk:=List.getElem?_eq_getElem (l:=a.zones) (i:=k) (by omega)
  rw[Int.toNat_natCast,hk]
  exact Zqq Ar Az Al As cr cz cl cs a k _ w h ha hk
end Go.Proofs.YtpipekfmecikmaaGreatDoor
namespace Go.Wk
open Go Go.RowKit
theorem Zok {P:Program}{n:Nat}{wr:World}{fr:Fr}{O:List It}{ty t t':TypeId}{α:Type}[DecidableEq α]{enc:α->List Value}{x y:Operand}{i j:α}{b:Bool}[hE:EqE P t α enc](hx:ev fr x=some (.agg (enc i).toArray))(hy:ev fr y=some (.agg (enc j).toArray))(h:decide (i=j)=b) :
  Pu P n wr fr O (.binOp .eql t x y t') ty (.bool b):=h▸Pu_eqlE hx hy
theorem ZtA {P:Program}{n:Nat}{wr:World}{fr:Fr}{O:List It}{ty t t':TypeId}{α:Type}[DecidableEq α]{enc:α->List Value}{x y:Operand}{i j:α}{b:Bool}[hE:EqE P t α enc](hx:ev fr x=some (.agg (enc i).toArray))(hy:ev fr y=some (.agg (enc j).toArray))(h:(!decide (i=j))=b) :
  Pu P n wr fr O (.binOp .neq t x y t') ty (.bool b):=h▸Pu_neqE hx hy
end Go.Wk
namespace Go.Proofs.YtpipekfmecikmaaGreatDoor
open Go Go.RowKit Go.Wk
instance : EqE Tryz.prog 31 ZcP ZcP.enc where
 h r s w:=by
  unfold ZcP.enc
  simp[go_sem,Zc9]
  rcases r with⟨_,_,_,_,_⟩
  rcases s with⟨_,_,_,_,_⟩
  simp only[Zlu,Result.ok.injEq,and_true]
  rw[Bool.eq_iff_iff]
  simp[and_assoc]
 g:=by kernel_rfl
instance : EqE Tryz.prog 33 Zbx Zbx.enc where
 h r s w:=by
  unfold Zbx.enc
  simp[go_sem,Zc9]
  rcases r with⟨_,_,_,_,⟨_,_,_,_,_⟩,⟨_,_,_,_,_⟩⟩
  rcases s with⟨_,_,_,_,⟨_,_,_,_,_⟩,⟨_,_,_,_,_⟩⟩
  simp only[Zlu,Result.ok.injEq,and_true]
  rw[Bool.eq_iff_iff]
  simp[and_assoc]
 g:=by kernel_rfl
attribute [local irreducible] W RL Does Zat Zaj retQ Calls Pu Stp RD Qy Ay Zak
theorem Zbu (n:Int)(w:World):Does Tryz.prog 34 [.int .i64 n] w (fun v O=>v = .agg #[.int .i64 3,.int .i64 0,.int .i64 n]/\O=[]):=by
 refine Zaa Tryz.func34 rfl rfl rfl rfl ?_
 repeat (first|(refine js ?_;(refine bx ?_;intro bk))|refine walk ?_)
 exact ret_1 _ [] (.cellB rfl (by repeat' constructor) rfl rfl) .nil ⟨rfl,rfl⟩
theorem ZaF (n:Int)(w:World):Does Tryz.prog 35 [.int .i64 n] w (fun v O=>v = .agg #[.int .i64 1,.int .i64 0,.int .i64 n]/\O=[]):=by
 refine Zaa Tryz.func35 rfl rfl rfl rfl ?_
 repeat (first|(refine js ?_;(refine bx ?_;intro bk))|refine walk ?_)
 exact ret_1 _ [] (.cellB rfl (by repeat' constructor) rfl rfl) .nil ⟨rfl,rfl⟩
theorem Zax (m k wk dd sec save:Int)(w:World):Does Tryz.prog 33 [.int .i64 m,.agg #[.int .i64 k,.int .i64 wk,.int .i64 dd],.int .i64 sec,.int .i64 save] w (fun v O=>v = .agg #[.string Zyq,.int .i64 1972,.int .i64 1048576,.int .i64 m,.int .i64 k,.int .i64 wk,.int .i64 dd,.int .i64 sec,.int .i64 2,.int .i64 save,.string ByteArray.empty]/\O=[]):=by
 refine Zaa Tryz.func33 rfl rfl rfl rfl ?_
 repeat (first|(refine js ?_;(refine bx ?_;intro bk))|refine walk ?_)
 exact ret_1 _ [] (.cellB rfl (by repeat' constructor) rfl rfl) .nil ⟨rfl,rfl⟩
theorem Zsy (r:DRule)(off before:Int)(x:ZcP)(e:Int)(w:World)(hG:Glob w)(hF:FtG w)(h:ZdK r off before=(x,e)):Does Tryz.prog 32 [.agg r.enc.toArray,.int .i64 off,.int .i64 before] w (fun v O=>v = .tuple #[.agg x.enc.toArray,.int .i64 e]/\O=[]):=by
 have:=Zf9 r off before w hG hF
 rwa[h]at this
theorem Zsz (r:DRule)(w:World)(hG:Glob w)(hF:FtG w)(h:ZdK r 0 0=(dt0,2)):Does Tryz.prog 36 [.agg r.enc.toArray] w (fun v O=>v = .bool true/\O=[]):=by
 have hd:∀ w',Bel w.heap.size w w'->Does Tryz.prog 32 [.agg r.enc.toArray,.int .i64 0,.int .i64 0] w' (fun v O=>v = .tuple #[.agg #[.int .i64 0,.int .i64 0,.int .i64 0,.int .i64 0,.int .i64 0],.int .i64 2]/\O=[]):=fun w' hw=>Zsy r 0 0 dt0 2 w' (hG.up hw) (hF.up hw) h
 clear h
 obtain⟨nm,fr,to,mo,⟨dk,dw,dd⟩,⟨cs,cb⟩,sv,le⟩:=r
 show Does _ _ [.agg #[.string nm,.int .i64 fr,.int .i64 to,.int .i64 mo,.int .i64 dk,.int .i64 dw,.int .i64 dd,.int .i64 cs,.int .i64 cb,.int .i64 sv,.string le]] w _
 refine Zaa Tryz.func36 rfl rfl rfl rfl ?_
 repeat (first|(apply RL_pu;rfl;(apply Zok (i:=dt0) (j:=dt0) (enc:=ZcP.enc);rfl;rfl;exact decide_eq_true rfl))|(refine js ?_;(first|(refine Zab hd ?_)|(refine bx ?_;intro bk)))|refine walk1 ?_)
 exact rtA
theorem Zx2 (Ar Az Al As:Option Addr)(cr cz cl cs:Nat)(a:DSource)(p:Zbx)(y:Int)(w:World)(h1:∀ w',Bel w.heap.size w w'->Does Tryz.prog 9 [srcV Ar Az Al As cr cz cl cs a,.int .i64 0] w' (fun v O=>v = .tuple #[.agg p.enc.toArray,.int .i64 0]/\O=[]))
  (h2:∀ w',Bel w.heap.size w w'->Does Tryz.prog 11 [srcV Ar Az Al As cr cz cl cs a,.int .i64 0] w' (fun v O=>v = .tuple #[.int .i64 y,.int .i64 0]/\O=[])) :
  Does Tryz.prog 37 [srcV Ar Az Al As cr cz cl cs a,.agg p.enc.toArray,.int .i64 y] w (fun v O=>v = .bool true/\O=[]):=by
 obtain⟨p1,p2,p3,p4,⟨p5,p6,p7,p8,p9⟩,⟨q1,q2,q3,q4,q5⟩⟩:=p
 have e1:decide (y=y)=true:=decide_eq_true rfl
 change ∀ w',Bel w.heap.size w w'->Does _ _ _ w' (fun v O=>v = .tuple #[.agg #[.string p1,.int .i64 p2,.string p3,.int .i64 p4,.int .i64 p5,.int .i64 p6,.int .i64 p7,.int .i64 p8,.int .i64 p9,.int .i64 q1,.int .i64 q2,.int .i64 q3,.int .i64 q4,.int .i64 q5],.int .i64 0]/\O=[]) at h1
 show Does _ _ [_,.agg #[.string p1,.int .i64 p2,.string p3,.int .i64 p4,.int .i64 p5,.int .i64 p6,.int .i64 p7,.int .i64 p8,.int .i64 p9,.int .i64 q1,.int .i64 q2,.int .i64 q3,.int .i64 q4,.int .i64 q5],.int .i64 y] w _
 refine Zaa Tryz.func37 rfl rfl rfl rfl ?_
 repeat (first|(apply RL_pu;rfl;(first|(apply Zok (i:=(⟨p1,p2,p3,p4,⟨p5,p6,p7,p8,p9⟩,⟨q1,q2,q3,q4,q5⟩⟩:Zbx)) (j:=⟨p1,p2,p3,p4,⟨p5,p6,p7,p8,p9⟩,⟨q1,q2,q3,q4,q5⟩⟩) (enc:=Zbx.enc);rfl;rfl;exact decide_eq_true rfl)|(apply Zan;rfl;rfl;exact e1)))|(refine js ?_;(first|(refine Zab h1 ?_)|(refine Zab h2 ?_)|(refine bx ?_;intro bk)))|refine walk1 ?_)
 exact rtA
theorem ZxX {w:World}{Ar Ae:Option Addr}{cr ce bz:Nat}{rs:List DRule}{nm:ByteArray}{es:List DEra}(hr:RdSl w Ar cr DRule.enc 11 rs)(hz:(It.blk bz [.string nm,.slice Ae es.length ce] 71).sat w)(he:RdSl w Ae ce DEra.enc 13 es):Zar w Ar (some ⟨bz,0,none⟩) none none cr 1 0 0 ⟨rs,[⟨nm,es⟩],[],[]⟩ :=
 ⟨hr,Nat.le_refl 1,by decide,ZuF (Zsd (c:=1) (l:=[(⟨⟨nm,es⟩,Ae,ce⟩:ZE)]) ZE.len (Nat.le_refl 1) (by decide) hz) (fun q hq=>by rw[List.mem_singleton.1 hq];exact he),Zva _ _ _,Zva _ _ _⟩
def ZAH (v:Value)(O:List It):Prop:=∃ br be bz,v = .agg #[.slice (some ⟨br,0,none⟩) 3 3,.slice (some ⟨bz,0,none⟩) 1 1,.slice none 0 0,.slice none 0 0] /\
 O=[.blk bz [.string dubN,.slice (some ⟨be,0,none⟩) 2 2] 71,.blk be (Ze9.enc++Zdv.enc) 75,.blk br (ZoI.enc++(Zd3.enc++ZiZ.enc)) 68]
theorem ZsD (w:World):Does Tryz.prog 38 [] w ZAH:=by
 refine Zaa Tryz.func38 rfl rfl rfl rfl ?_
 repeat' (first|(refine js ?_;(first|(refine Zab (fun w' _=>Zbu 15 w') ?_)|(refine Zab (fun w' _=>ZaF 31 w') ?_)|(refine Zab (fun w' _=>ZaF 27 w') ?_)|(refine Zab (fun w' _=>Zax 10 1 0 31 7200 (-3600) w') ?_)|(refine Zab (fun w' _=>Zax 3 3 0 15 7200 0 w') ?_)|(refine Zab (fun w' _=>Zax 10 2 0 0 3600 (-3600) w') ?_)|(refine bx ?_;intro bk)))|refine walk ?_|(refine Zdo ?_;intro F;(first|(refine Zab (fun w' _=>Zbu 15 w') ?_)|(refine Zab (fun w' _=>ZaF 31 w') ?_)|(refine Zab (fun w' _=>ZaF 27 w') ?_)|(refine Zab (fun w' _=>Zax 10 1 0 31 7200 (-3600) w') ?_)|(refine Zab (fun w' _=>Zax 3 3 0 15 7200 0 w') ?_)|(refine Zab (fun w' _=>Zax 10 2 0 0 3600 (-3600) w') ?_));refine⟨_,EndsA,SubO.right _ _,?_⟩)|(refine ZzV (fun bk=>?_) ?_;rotate_left;intro F;(first|(refine Zab (fun w' _=>Zbu 15 w') ?_)|(refine Zab (fun w' _=>ZaF 31 w') ?_)|(refine Zab (fun w' _=>ZaF 27 w') ?_)|(refine Zab (fun w' _=>Zax 10 1 0 31 7200 (-3600) w') ?_)|(refine Zab (fun w' _=>Zax 3 3 0 15 7200 0 w') ?_)|(refine Zab (fun w' _=>Zax 10 2 0 0 3600 (-3600) w') ?_));refine⟨_,EndsA,SubO.right _ _,?_⟩)|(refine ZzU (fun bk=>?_) (fun bk=>?_) ?_;rotate_left 2;intro F;(first|(refine Zab (fun w' _=>Zbu 15 w') ?_)|(refine Zab (fun w' _=>ZaF 31 w') ?_)|(refine Zab (fun w' _=>ZaF 27 w') ?_)|(refine Zab (fun w' _=>Zax 10 1 0 31 7200 (-3600) w') ?_)|(refine Zab (fun w' _=>Zax 3 3 0 15 7200 0 w') ?_)|(refine Zab (fun w' _=>Zax 10 2 0 0 3600 (-3600) w') ?_));refine⟨_,EndsA,SubO.right _ _,?_⟩)|(refine RD_Lw ?_;intro F;(first|(refine Zab (fun w' _=>Zbu 15 w') ?_)|(refine Zab (fun w' _=>ZaF 31 w') ?_)|(refine Zab (fun w' _=>ZaF 27 w') ?_)|(refine Zab (fun w' _=>Zax 10 1 0 31 7200 (-3600) w') ?_)|(refine Zab (fun w' _=>Zax 3 3 0 15 7200 0 w') ?_)|(refine Zab (fun w' _=>Zax 10 2 0 0 3600 (-3600) w') ?_)|(refine bx ?_;intro bk)|(refine stA ?_)|(apply Zac;exact PuA));refine⟨_,EndsA,QFA,?_⟩)|(refine ZzT (fun bk=>?_) ?_;rotate_left;intro F;(first|(refine Zab (fun w' _=>Zbu 15 w') ?_)|(refine Zab (fun w' _=>ZaF 31 w') ?_)|(refine Zab (fun w' _=>ZaF 27 w') ?_)|(refine Zab (fun w' _=>Zax 10 1 0 31 7200 (-3600) w') ?_)|(refine Zab (fun w' _=>Zax 3 3 0 15 7200 0 w') ?_)|(refine Zab (fun w' _=>Zax 10 2 0 0 3600 (-3600) w') ?_)|(refine bx ?_;intro bk)|(refine stA ?_)|(apply Zac;exact PuA));refine⟨_,EndsA,QFA,?_⟩)|(refine ZzS (fun bk=>?_) (fun bk=>?_) ?_;rotate_left 2;intro F;(first|(refine Zab (fun w' _=>Zbu 15 w') ?_)|(refine Zab (fun w' _=>ZaF 31 w') ?_)|(refine Zab (fun w' _=>ZaF 27 w') ?_)|(refine Zab (fun w' _=>Zax 10 1 0 31 7200 (-3600) w') ?_)|(refine Zab (fun w' _=>Zax 3 3 0 15 7200 0 w') ?_)|(refine Zab (fun w' _=>Zax 10 2 0 0 3600 (-3600) w') ?_)|(refine bx ?_;intro bk)|(refine stA ?_)|(apply Zac;exact PuA));refine⟨_,EndsA,QFA,?_⟩)|(apply RD_W;rfl;intro bk)|(refine ZAD rfl rfl rfl (fun bk=>?_) (fun bk=>?_))|(refine Zaf rfl (fun hc=>?_) (fun hc=>?_)))
 all_goals exact ret_1 _ [.blk _ [.string dubN,.slice (some ⟨_,0,none⟩) 2 2] 71,.blk _ (Ze9.enc++Zdv.enc) 75,.blk _ (ZoI.enc++(Zd3.enc++ZiZ.enc)) 68] (.cellB rfl (by repeat' constructor) rfl rfl) SOA ⟨_,_,_,rfl,rfl⟩
theorem ZnY (w:World):Bel w.heap.size w w:=⟨Below.refl _ _⟩
theorem ZsE (br bz:Nat)(w:World)(hL:LibW w)(hG:Glob w)(hF:FtG w)(hA:Zar w (some ⟨br,0,none⟩) (some ⟨bz,0,none⟩) none none 3 1 0 0 Zl0) :
  Does Tryz.prog 37 [srcV (some ⟨br,0,none⟩) (some ⟨bz,0,none⟩) none none 3 1 0 0 Zl0,.agg istP.enc.toArray,.int .i64 1973] w (fun v O=>v = .bool true/\O=[]):=by
 have h:=ZyI hL hG (ZnY w) (show okD Zl0=true by decide +kernel) hA
 refine Zx2 _ _ _ _ _ _ _ _ Zl0 istP 1973 w (fun w' hw=>?_) (fun w' hw=>?_)
 ·have:=Zv3 _ _ _ _ _ _ _ _ Zl0 0 ⟨dubN,[Ze9,Zdv]⟩ Zdv 2 1 ZiZ Zd3 w' (h.up hw) (hF.up hw) Zo9 rfl rfl rfl ⟨by decide,by decide⟩ (by decide +kernel) (by decide +kernel) (by decide +kernel) ⟨by decide,by decide⟩ ⟨by decide,by decide⟩
  rwa[Zyp]at this
 ·have:=Zj2 _ _ _ _ _ _ _ _ Zl0 0 ⟨dubN,[Ze9,Zdv]⟩ w' (h.up hw) Zo9 rfl (by decide) (by rw[ZsC];decide)
  rwa[ZsC]at this
theorem Zu6 (bz:Nat)(w:World)(hL:LibW w)(hG:Glob w)(hA:Zar w none (some ⟨bz,0,none⟩) none none 0 1 0 0 oneS) :
  Does Tryz.prog 37 [srcV none (some ⟨bz,0,none⟩) none none 0 1 0 0 oneS,.agg Zvn.enc.toArray,.int .i64 1850] w (fun v O=>v = .bool true/\O=[]):=by
 have h:=ZyI hL hG (ZnY w) (show okD oneS=true by decide +kernel) hA
 refine Zx2 _ _ _ _ _ _ _ _ oneS Zvn 1850 w (fun w' hw=>?_) (fun w' hw=>?_)
 ·have:=Zr5 _ _ _ _ _ _ _ _ oneS 0 ⟨zoA,[Zdu]⟩ Zdu w' (h.up hw) Zr0 rfl rfl (by decide) ⟨by decide,by decide⟩ (by decide)
  rwa[show Zbi Zdu Zdu.save ByteArray.empty=Zvn from Zzi]at this
 ·have:=Zj2 _ _ _ _ _ _ _ _ oneS 0 ⟨zoA,[Zdu]⟩ w' (h.up hw) Zr0 rfl (by decide) (by rw[Zv2];decide)
  rwa[Zv2]at this
theorem ZuK (bz:Nat)(w:World)(hL:LibW w)(hG:Glob w)(hA:Zar w none (some ⟨bz,0,none⟩) none none 0 1 0 0 twoS) :
  Does Tryz.prog 37 [srcV none (some ⟨bz,0,none⟩) none none 0 1 0 0 twoS,.agg mstP.enc.toArray,.int .i64 1951] w (fun v O=>v = .bool true/\O=[]):=by
 have h:=ZyI hL hG (ZnY w) (show okD twoS=true by decide +kernel) hA
 refine Zx2 _ _ _ _ _ _ _ _ twoS mstP 1951 w (fun w' hw=>?_) (fun w' hw=>?_)
 ·have:=Zr5 _ _ _ _ _ _ _ _ twoS 0 ⟨zoA,[Zhk,Zdt]⟩ Zdt w' (h.up hw) Zrr rfl rfl (by decide) ⟨by decide,by decide⟩ (by decide)
  rwa[show Zbi Zdt Zdt.save ByteArray.empty=mstP from Zrq]at this
 ·have:=Zj2 _ _ _ _ _ _ _ _ twoS 0 ⟨zoA,[Zhk,Zdt]⟩ w' (h.up hw) Zrr rfl (by decide) (by rw[ZvZ];decide)
  rwa[ZvZ]at this
theorem ZxN {G:Prop}(h:G:=by(first|(apply ZtA (i:=(⟨3,0,3,3,7200⟩:ZcP)) (j:=⟨3,0,3,3,7200⟩) (enc:=ZcP.enc);rfl;rfl;rfl)|(apply ZtA (i:=(⟨1,304,0,0,10800⟩:ZcP)) (j:=⟨1,304,0,0,10800⟩) (enc:=ZcP.enc);rfl;rfl;rfl))):G:=h
set_option maxHeartbeats 4000000 in
theorem ZkZ (w:World)(hL:LibW w)(hG:Glob w)(hF:FtG w):Does Tryz.prog 8 [] w (fun v O=>v = .bool true/\O=[]):=by
 have d1:∀ w',Bel w.heap.size w w'->Does Tryz.prog 32 [.agg Zd3.enc.toArray,.int .i64 3600,.int .i64 (-3600)] w' (fun v O=>v = .tuple #[.agg #[.int .i64 3,.int .i64 0,.int .i64 3,.int .i64 3,.int .i64 7200],.int .i64 0]/\O=[]):=fun w' hw=>Zsy Zd3 3600 (-3600) _ 0 w' (hG.up hw) (hF.up hw) Zy8
 have d2:∀ w',Bel w.heap.size w w'->Does Tryz.prog 32 [.agg Zro.enc.toArray,.int .i64 0,.int .i64 3600] w' (fun v O=>v = .tuple #[.agg #[.int .i64 1,.int .i64 304,.int .i64 0,.int .i64 0,.int .i64 10800],.int .i64 0]/\O=[]):=fun w' hw=>Zsy Zro 0 3600 _ 0 w' (hG.up hw) (hF.up hw) Zy7
 have f1:=fun w' (hw:Bel w.heap.size w w')=>Zsz (Zla 2 ⟨1,0,29⟩ 0 0) w' (hG.up hw) (hF.up hw) Zy6
 have f2:=fun w' (hw:Bel w.heap.size w w')=>Zsz (Zla 3 (sunD 9) 0 0) w' (hG.up hw) (hF.up hw) Zy5
 have f3:=fun w' (hw:Bel w.heap.size w w')=>Zsz { Zd3 with to:=2010 } w' (hG.up hw) (hF.up hw) Zy4
 refine Zaa Tryz.func8 rfl rfl rfl rfl ?_
 repeat (first|refine und ?_|(apply RL_pu;rfl;exact ZxN)|(apply RD_Q;rfl;rfl;decide +kernel;rfl;rfl;exact QyFtW0)|refine ZuI ?_|(refine jg ?_;(try intro F);(first|(refine Zab (fun w' _=>Zbu 15 w') ?_)|(refine Zab (fun w' _=>Zbu 9 w') ?_)|(refine Zab (fun w' _=>ZaF 31 w') ?_)|(refine Zab (fun w' _=>ZaF 29 w') ?_)|(refine Zab (fun w' _=>ZaF 1 w') ?_)|(refine Zab (fun w' _=>Zax 3 3 0 15 7200 0 w') ?_)|(refine Zab (fun w' _=>Zax 10 1 0 31 7200 0 w') ?_)|(refine Zab (fun w' _=>Zax 2 1 0 29 0 0 w') ?_)|(refine Zab (fun w' _=>Zax 3 3 0 9 0 0 w') ?_)|(refine Zab d1 ?_)|(refine Zab d2 ?_)|(refine Zab f1 ?_)|(refine Zab f2 ?_)|(refine Zab f3 ?_)|(refine bx ?_;intro bk)|(refine stA ?_));first|refine⟨_,EndsA,QFFtW0,?_⟩|refine fin ?_)|(refine jn ?_;(try intro F);(first|(refine bx ?_;intro bk)|(refine stA ?_)|(apply Zac;first|exact ZxN|exact PuA));first|refine⟨_,EndsA,QFFtW0,?_⟩|refine fin ?_)|(apply RD_W;rfl;intro bk))
 rename_i x1 x2 x3 x4 x5 be1 bz1 x8 be2 bz2 x11
 clear d1 d2 f1 f2 f3
 repeat (first|refine walk ?_|(refine jg ?_;(try intro F);(first|(apply Zae (h:=fun w' _ _=>ZsD w');rfl;rintro v O' ⟨br,be,bz,rfl,rfl⟩)|(refine ZaM (fun w' hw hO=>ZsE br bz w' (hL.up hw) (hG.up hw) (hF.up hw) (ZxX (Zsd (l:=[ZoI,Zd3,ZiZ]) DRule.len (Nat.le_refl 3) (by decide) (hO.of (A := .blk br _ _) (by repeat' constructor))) (hO.of (A := .blk bz _ _) (by repeat' constructor)) (Zsd (l:=[Ze9,Zdv]) DEra.len (Nat.le_refl 2) (by decide) (hO.of (A := .blk be _ _) (by repeat' constructor))))) ?_)|(refine ZaM (fun w' hw hO=>Zu6 bz1 w' (hL.up hw) (hG.up hw) (ZxX (Zva _ _ _) (hO.of (A := .blk bz1 _ _) (by repeat' constructor)) (Zsd (l:=[Zdu]) DEra.len (Nat.le_refl 1) (by decide) (hO.of (A := .blk be1 _ _) (by repeat' constructor))))) ?_)|(refine ZaM (fun w' hw hO=>ZuK bz2 w' (hL.up hw) (hG.up hw) (ZxX (Zva _ _ _) (hO.of (A := .blk bz2 _ _) (by repeat' constructor)) (Zsd (l:=[Zhk,Zdt]) DEra.len (Nat.le_refl 2) (by decide) (hO.of (A := .blk be2 _ _) (by repeat' constructor))))) ?_)|(refine bx ?_;intro bk)|(refine stA ?_));refine fin ?_)|(refine jn ?_;(try intro F);(first|(refine bx ?_;intro bk)|(refine stA ?_)|(apply Zac;exact PuA));refine fin ?_)|(apply RD_W;rfl;intro bk))
 exact rtA
end Go.Proofs.YtpipekfmecikmaaGreatDoor
