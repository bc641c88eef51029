/- Parts of the proof. -/
import Derived.Test.YtpipekfmecikmaaGreatDoorA19
set_option maxHeartbeats 0
set_option linter.all false
namespace Go.Wk
open Go Go.RowKit
theorem ZfO {P:Program}{n:Nat}{wr:World}{fr:Fr}{O:List It}{ty t t':TypeId}{x y:Operand}{i j m:Int}(b:ev fr x=some (.int .i64 i))(c:ev fr y=some (.int .i64 j))(a:i - j=m)(h : -9223372036854775808<=m/\m<=9223372036854775807):Pu P n wr fr O (.binOp .sub t x y t') ty (.int .i64 m):=a▸Pu_sub' b c (a▸h)
end Go.Wk
namespace Go.Proofs.YtpipekfmecikmaaGreatDoor
open Go Go.RowKit Go.Wk Tryz
attribute [local irreducible] W RL Does Zaq Zai retQ Calls Pu Stp RD Qy Ay Zaj
theorem Ztk (u:DUntil)(least:Int) : -200000000000000000<=(Zao u least).1/\(Zao u least).1<=200000000000000000:=by
 unfold Zao
 split
 ·exact⟨by dsimp only;omega,by dsimp only;omega⟩
 ·rename_i h
  have a:ZaF u least=0:=Decidable.not_not.1 h
  have b:=ZeF u.year u.month u.day
  unfold ZaF at a
  dsimp only at a ⊢
  repeat' split at a
  all_goals first|(exfalso;omega)|(split <;> omega)
theorem ZxR {u:DUntil}{least:Int}(h:ZaF u least=0):(Zao u least).2=0:=by
 unfold Zao
 rw[if_neg (fun a=>a h)]
theorem Zwg {w:World}{ad:Addr}{e:DEra}(h:Zat w ad e.enc):Zat w (ad.add 5) (DUntil.enc e.til):=fun j v a=>by
 rw[ZbK]
 refine h (5+j) v ?_
 rw[show DEra.enc e=[.int .i64 e.off,.int .i64 e.kind,.int .i64 e.save,.string e.set,.string e.format]++DUntil.enc e.til from rfl,List.getElem?_append_right (by simp)]
 simpa using a
theorem Zg4.rs {s:DSource}(h:Zg4 s)(e:DEra):RsOk (ZaA s.rules e):=fun r a=>h r (ZdD a)
theorem ZfR {G:Prop}(h:G:=by(first|exact PuI|(apply Pu_loadON;rfl;exact hcu;rfl)|(apply ZfO;rfl;rfl;exact hln;omega)|(apply ZfO;rfl;rfl;exact hkj;omega)|(apply Zau;rfl;rfl;exact hdl))):G:=h
theorem ZuY {G:Prop}(h:G:=by first|(apply Qy_y;rfl;exact ZfR)|exact QyA):G:=h
theorem ZlG {G:Prop}(h:G:=by repeat (first|exact QF.nil|(apply QF.mk;rfl;rfl;decide +kernel;exact ZuY))):G:=h
theorem ZnV {G G':Prop}(k:G')(h:Hold G'->G:=by intro k9;(first|(apply RL_pu;rfl;exact ZfR)|refine walk1 ?_);exact k9.out):G:=h ⟨k⟩
theorem Zsu {G G':Prop}(k:G')(h:Hold G'->G:=by intro k9;(first|(apply RL_pu;rfl;exact ZfR)|(apply RD_Q;rfl;rfl;decide +kernel;rfl;rfl;exact ZuY)|refine walk1 ?_|(refine jg ?_;(try intro F);(first|(refine ZaH (fun w' hw hO=>hle A3 c3 w' (ZaJ DRule.len (hO.of (A := .row (.slice A3 R.length c3) 68 11 R.length (R.flatMap DRule.enc)) cS_))) ?_)|(refine Zab huc ?_)|(refine Zab hno ?_)|(refine ZaH (fun w' hw hO=>hfa A3 c3 w' hw (ZaJ DRule.len (hO.of (A := .row (.slice A3 R.length c3) 68 11 R.length (R.flatMap DRule.enc)) cS_))) ?_));first|refine⟨_,EndsA,ZlG,?_⟩|refine fin ?_)|(refine jn ?_;(try intro F);(first|(refine stA ?_)|(apply Zan;exact PuA));first|refine⟨_,EndsA,ZlG,?_⟩|refine fin ?_));exact k9.out):G:=h ⟨k⟩
theorem Zv3 {G:Prop}(h:G:=by(first|exact ZfR|(apply Zap;rfl;rfl;exact bk2))):G:=h
theorem ZuX {G:Prop}(h:G:=by first|(apply Qy_y;rfl;exact Zv3)|exact QyA):G:=h
theorem Zu7 {G:Prop}(h:G:=by repeat (first|exact QF.nil|(apply QF.mk;rfl;rfl;decide +kernel;exact ZuX))):G:=h
theorem Zpu {G:Prop}(h:G:=by(first|exact ZfR|(apply Zav;rfl;rfl;exact bj)|(apply ZfO;rfl;rfl;exact hdf;omega)|(apply Zau;rfl;rfl;exact b3))):G:=h
theorem ZuW {G:Prop}(h:G:=by first|(apply Qy_y;rfl;exact Zpu)|exact QyA):G:=h
theorem Zjf {G:Prop}(h:G:=by repeat (first|exact QF.nil|(apply QF.mk;rfl;rfl;decide +kernel;exact ZuW))):G:=h
theorem ZnU {G G':Prop}(k:G')(h:Hold G'->G:=by intro k9;(first|(apply RL_pu;rfl;exact Zpu)|(apply RD_Q;rfl;rfl;decide +kernel;rfl;rfl;exact ZuW)|refine walk1 ?_|(refine jg ?_;(try intro F);(first|(refine ZaH (fun w' hw hO=>hle A3 c3 w' (ZaJ DRule.len (hO.of (A := .row (.slice A3 R.length c3) 68 11 R.length (R.flatMap DRule.enc)) cS_))) ?_)|(refine Zab huc ?_)|(refine Zab hno ?_)|(refine ZaH (fun w' hw hO=>hfa A3 c3 w' hw (ZaJ DRule.len (hO.of (A := .row (.slice A3 R.length c3) 68 11 R.length (R.flatMap DRule.enc)) cS_))) ?_)|(refine ZaH (fun w' hw hO=>hle2 A4 c4 w' (ZaJ DRule.len (hO.of (A := .row (.slice A4 R2.length c4) 68 11 R2.length (R2.flatMap DRule.enc)) cS_))) ?_)|(refine Zab hno2 ?_));first|refine⟨_,EndsA,Zjf,?_⟩|refine fin ?_)|(refine jn ?_;(try intro F);(first|(refine stA ?_)|(apply Zan;exact PuA));first|refine⟨_,EndsA,Zjf,?_⟩|refine fin ?_));exact k9.out):G:=h ⟨k⟩
theorem Zv2 {G:Prop}(h:G:=by(first|exact Zpu|(apply Zap;rfl;rfl;exact bk2))):G:=h
theorem ZuV {G:Prop}(h:G:=by first|(apply Qy_y;rfl;exact Zv2)|exact QyA):G:=h
theorem Zu6 {G:Prop}(h:G:=by repeat (first|exact QF.nil|(apply QF.mk;rfl;rfl;decide +kernel;exact ZuV))):G:=h
theorem Zv1 {G:Prop}(h:G:=by(first|exact ZfR|(apply Zav;rfl;rfl;exact bj)|(apply Zal;rfl;rfl;exact b2))):G:=h
theorem ZuU {G:Prop}(h:G:=by first|(apply Qy_y;rfl;exact Zv1)|exact QyA):G:=h
theorem Zu5 {G:Prop}(h:G:=by repeat (first|exact QF.nil|(apply QF.mk;rfl;rfl;decide +kernel;exact ZuU))):G:=h
theorem Zv0 {G:Prop}(h:G:=by(first|exact ZfR|(apply Zal;rfl;rfl;exact bu))):G:=h
theorem ZuT {G:Prop}(h:G:=by first|(apply Qy_y;rfl;exact Zv0)|exact QyA):G:=h
theorem Zu4 {G:Prop}(h:G:=by repeat (first|exact QF.nil|(apply QF.mk;rfl;rfl;decide +kernel;exact ZuT))):G:=h
set_option maxHeartbeats 0 in
theorem ZtA (Ar Az Al As:Option Addr)(z D y cs:Nat)(a:DSource)(Ae:Option Addr)(X:Nat)(c:List DEra)(k:Nat)(w:World)(I:Glob w)(Y:Zam w Ar Az Al As z D y cs a)(hS:ZcH a)(hV:Zg4 a)
  (Z:RdSl w Ae X DEra.enc 13 c) (aj:c.length<=1000000) (hk:k<c.length) :
  Does prog 183 [srcV Ar Az Al As z D y cs a,.slice Ae c.length X,.int .i64 k] w (fun v O=>v = .int .i64 (Zc9 a.rules c k)/\O=[]):=by
 have hn:=hS.nr
 obtain⟨hna,hca⟩:=Z.rd k _ (List.getElem?_eq_getElem hk)
 have M:c.getD k dE0=c[k]:=by rw[List.getD_eq_getElem?_getD,List.getElem?_eq_getElem hk];rfl
 unfold Zc9
 rw[M]
 dsimp only
 generalize c[k]=e at *
 have d:=fun w' (hw:Bel w.heap.size w w')=>Zgf Ar Az Al As z D y cs a e w' (Y.up hw) hn
 have hle:=fun A3 c3 w' h=>ZcX A3 c3 (ZaA a.rules e) w' h
 have ai:=Zez a.rules e
 have L:=hV.rs e
 have huc:=fun w' (hw:Bel w.heap.size w w')=>ZhR e.til (Zae (ZaA a.rules e)) w' (I.up hw)
 have hno:=fun w' (hw:Bel w.heap.size w w')=>ZeG e.til (Zae (ZaA a.rules e)) w' (I.up hw)
 have hnb:=Ztk e.til (Zae (ZaA a.rules e))
 have s := @ZxR e.til (Zae (ZaA a.rules e))
 have hfa:=fun A3 c3 w' (hw:Bel w.heap.size w w') h=>Zw0 A3 c3 (ZaA a.rules e) (Zao e.til (Zae (ZaA a.rules e))).1 w' (I.up hw) h (by omega) L (by omega)
 generalize ZaA a.rules e=R at *
 generalize hLT:Zae R=least at *
 generalize ZaF e.til least=uc at *
 generalize farD R (Zao e.til least).1=fr at *
 generalize Zao e.til least=nm at *
 obtain⟨n,ne⟩:=nm
 dsimp only at hno hnb s hfa ⊢
 obtain⟨al,p,ac,set,E,til⟩:=e
 dsimp only at huc hno d ⊢
 simp only[DEra.enc]at d hca
 obtain⟨is,ae,T,⟨dk,dw,dd⟩,⟨us,ub⟩⟩:=til
 dsimp only at d hca ⊢
 simp only[DUntil.enc]at huc hno
 obtain⟨S,hln⟩:∃ S:Int,(c.length:Int) - 1=S:=⟨_,rfl⟩
 have hdl:decide ((k:Int)<S)=decide (k+1<c.length):=by rw[decide_eq_decide];omega
 generalize hlt:decide (k+1<c.length)=lt at *
 refine Zaa func183 rfl rfl rfl rfl ?_
 have hcb:=hca
 have hcu:=hca
 have hkj:(k:Int) - 0=k:=by omega
 cases is with
 | false =>
  cases lt with
  | true =>
   rw[if_pos (by decide)]
   repeat (first|refine ZnV ?_|(refine jn ?_;(try intro F);(refine bx ?_;intro g);refine fin ?_))
   exact rtA
  | false =>
   rw[if_neg (by decide),if_pos rfl]
   repeat (first|refine ZnV ?_|(refine jn ?_;(try intro F);(refine bx ?_;intro g);refine fin ?_))
   exact rtA
 | true =>
 cases lt with
 | false =>
  rw[if_pos (by decide)]
  repeat (first|refine ZnV ?_|(refine jn ?_;(try intro F);(refine bx ?_;intro g);refine fin ?_))
  exact rtA
 | true =>
 rw[if_neg (by decide),if_neg (by decide)]
 by_cases u:uc=0
 ·rw[if_neg (fun h=>h u)]
  have Q:ne=0:=s u
  subst u Q
  cases k with
  | zero =>
   rw[if_neg (by rintro⟨h,_⟩;omega)]
   clear hcb hcu
   by_cases m:p=2
   ·subst m
    cases fr with
    | false =>
     rw[if_pos ⟨rfl,rfl⟩]
     repeat (first|refine Zsu ?_|(refine jg ?_;(try intro F);(first|(apply Zad (h:=fun w' hw _=>d w' hw);rfl;rintro v O' ⟨A3,c3,rfl,rfl⟩)|(refine bx ?_;intro g));first|refine⟨_,EndsA,ZlG,?_⟩|refine fin ?_))
     exact rtA
    | true =>
     rw[if_neg (by rintro⟨_,h⟩;cases h)]
     repeat (first|refine Zsu ?_|(refine jg ?_;(try intro F);(first|(apply Zad (h:=fun w' hw _=>d w' hw);rfl;rintro v O' ⟨A3,c3,rfl,rfl⟩)|(refine bx ?_;intro g));first|refine⟨_,EndsA,ZlG,?_⟩|refine fin ?_))
     exact rtA
   ·have bk2:decide (p=2)=false:=dF_ m
    rw[if_neg (fun h=>m h.1)]
    repeat (first|(apply RL_pu;rfl;exact Zv3)|(apply RD_Q;rfl;rfl;decide +kernel;rfl;rfl;exact ZuX)|refine walk1 ?_|(refine jg ?_;(try intro F);(first|(apply Zad (h:=fun w' hw _=>d w' hw);rfl;rintro v O' ⟨A3,c3,rfl,rfl⟩)|(refine ZaH (fun w' hw hO=>hle A3 c3 w' (ZaJ DRule.len (hO.of (A := .row (.slice A3 R.length c3) 68 11 R.length (R.flatMap DRule.enc)) cS_))) ?_)|(refine Zab huc ?_)|(refine Zab hno ?_)|(refine bx ?_;intro g));first|refine⟨_,EndsA,Zu7,?_⟩|refine fin ?_)|(refine jn ?_;(try intro F);(first|(refine bx ?_;intro g)|(apply Zan;exact PuA));refine⟨_,EndsA,Zu7,?_⟩))
    exact rtA
  | succ j =>
   have bj:decide ((0:Int)<((j+1:Nat):Int))=true:=dT_ (by omega)
   clear hcb hcu hkj
   have hj:j<c.length:=by omega
   obtain⟨aa,hcb⟩:=Z.rd j _ (List.getElem?_eq_getElem hj)
   have N:c.getD (j+1 - 1) dE0=c[j]:=by rw[Nat.add_sub_cancel,List.getD_eq_getElem?_getD,List.getElem?_eq_getElem hj];rfl
   rw[N]
   generalize c[j]=b at *
   have hcu:=Zwg hcb
   have hkj:((j+1:Nat):Int) - 1=(j:Int):=by omega
   have f:=fun w' (hw:Bel w.heap.size w w')=>Zgf Ar Az Al As z D y cs a b w' (Y.up hw) hn
   have hle2:=fun A3 c3 w' h=>ZcX A3 c3 (ZaA a.rules b) w' h
   have hno2:=fun w' (hw:Bel w.heap.size w w')=>ZeG b.til (Zae (ZaA a.rules b)) w' (I.up hw)
   have t:=Ztk b.til (Zae (ZaA a.rules b))
   generalize ZaA a.rules b=R2 at *
   generalize Zae R2=least2 at *
   generalize Zao b.til least2=nm2 at *
   obtain⟨n2,x⟩:=nm2
   obtain⟨ab,ZAy,U,ad,r,⟨ak,W,J,⟨ag,ah,af⟩,⟨an,am⟩⟩⟩:=b
   dsimp only at hno2 t f hcu ⊢
   simp only[DEra.enc]at f hcb
   simp only[DUntil.enc]at hno2 hcu
   by_cases K:x=0
   ·subst K
    obtain⟨q,hdf⟩:∃ q,n - n2=q:=⟨_,rfl⟩
    rw[hdf]
    by_cases H:q<259200
    ·have b3:decide (q<259200)=true:=dT_ H
     rw[if_pos ⟨by omega,.inr H⟩]
     repeat (first|refine ZnU ?_|(refine jg ?_;(try intro F);(first|(apply Zad (h:=fun w' hw _=>d w' hw);rfl;rintro v O' ⟨A3,c3,rfl,rfl⟩)|(apply Zad (h:=fun w' hw _=>f w' hw);rfl;rintro v O' ⟨A4,c4,rfl,rfl⟩)|(refine bx ?_;intro g));first|refine⟨_,EndsA,Zjf,?_⟩|refine fin ?_))
     exact rtA
    ·have b3:decide (q<259200)=false:=dF_ H
     rw[if_neg (by rintro⟨_,h|h⟩;exact h rfl;exact H h)]
     by_cases m:p=2
     ·subst m
      cases fr with
      | false =>
       rw[if_pos ⟨rfl,rfl⟩]
       repeat (first|refine ZnU ?_|(refine jg ?_;(try intro F);(first|(apply Zad (h:=fun w' hw _=>d w' hw);rfl;rintro v O' ⟨A3,c3,rfl,rfl⟩)|(apply Zad (h:=fun w' hw _=>f w' hw);rfl;rintro v O' ⟨A4,c4,rfl,rfl⟩)|(refine bx ?_;intro g));first|refine⟨_,EndsA,Zjf,?_⟩|refine fin ?_))
       exact rtA
      | true =>
       rw[if_neg (by rintro⟨_,h⟩;cases h)]
       repeat (first|refine ZnU ?_|(refine jg ?_;(try intro F);(first|(apply Zad (h:=fun w' hw _=>d w' hw);rfl;rintro v O' ⟨A3,c3,rfl,rfl⟩)|(apply Zad (h:=fun w' hw _=>f w' hw);rfl;rintro v O' ⟨A4,c4,rfl,rfl⟩)|(refine bx ?_;intro g));first|refine⟨_,EndsA,Zjf,?_⟩|refine fin ?_))
       exact rtA
     ·have bk2:decide (p=2)=false:=dF_ m
      rw[if_neg (fun h=>m h.1)]
      repeat (first|(apply RL_pu;rfl;exact Zv2)|(apply RD_Q;rfl;rfl;decide +kernel;rfl;rfl;exact ZuV)|refine walk1 ?_|(refine jg ?_;(try intro F);(first|(apply Zad (h:=fun w' hw _=>d w' hw);rfl;rintro v O' ⟨A3,c3,rfl,rfl⟩)|(refine ZaH (fun w' hw hO=>hle A3 c3 w' (ZaJ DRule.len (hO.of (A := .row (.slice A3 R.length c3) 68 11 R.length (R.flatMap DRule.enc)) cS_))) ?_)|(refine Zab huc ?_)|(refine Zab hno ?_)|(apply Zad (h:=fun w' hw _=>f w' hw);rfl;rintro v O' ⟨A4,c4,rfl,rfl⟩)|(refine ZaH (fun w' hw hO=>hle2 A4 c4 w' (ZaJ DRule.len (hO.of (A := .row (.slice A4 R2.length c4) 68 11 R2.length (R2.flatMap DRule.enc)) cS_))) ?_)|(refine Zab hno2 ?_)|(refine bx ?_;intro g));first|refine⟨_,EndsA,Zu6,?_⟩|refine fin ?_)|(refine jn ?_;(try intro F);(first|(refine bx ?_;intro g)|(apply Zan;exact PuA));refine⟨_,EndsA,Zu6,?_⟩))
      exact rtA
   ·have b2:(!decide (x=0))=true:=by rw[dF_ K];rfl
    rw[if_pos ⟨by omega,.inl K⟩]
    repeat (first|(apply RL_pu;rfl;exact Zv1)|(apply RD_Q;rfl;rfl;decide +kernel;rfl;rfl;exact ZuU)|refine walk1 ?_|(refine jg ?_;(try intro F);(first|(apply Zad (h:=fun w' hw _=>d w' hw);rfl;rintro v O' ⟨A3,c3,rfl,rfl⟩)|(refine ZaH (fun w' hw hO=>hle A3 c3 w' (ZaJ DRule.len (hO.of (A := .row (.slice A3 R.length c3) 68 11 R.length (R.flatMap DRule.enc)) cS_))) ?_)|(refine Zab huc ?_)|(refine Zab hno ?_)|(apply Zad (h:=fun w' hw _=>f w' hw);rfl;rintro v O' ⟨A4,c4,rfl,rfl⟩)|(refine ZaH (fun w' hw hO=>hle2 A4 c4 w' (ZaJ DRule.len (hO.of (A := .row (.slice A4 R2.length c4) 68 11 R2.length (R2.flatMap DRule.enc)) cS_))) ?_)|(refine Zab hno2 ?_)|(refine bx ?_;intro g));first|refine⟨_,EndsA,Zu5,?_⟩|refine fin ?_)|(refine jn ?_;(try intro F);(first|(refine bx ?_;intro g)|(apply Zan;exact PuA));refine⟨_,EndsA,Zu5,?_⟩))
    exact rtA
 ·rw[if_pos u]
  have bu:(!decide (uc=0))=true:=by rw[dF_ u];rfl
  repeat (first|(apply RL_pu;rfl;exact Zv0)|(apply RD_Q;rfl;rfl;decide +kernel;rfl;rfl;exact ZuT)|refine walk1 ?_|(refine jg ?_;(try intro F);(first|(apply Zad (h:=fun w' hw _=>d w' hw);rfl;rintro v O' ⟨A3,c3,rfl,rfl⟩)|(refine ZaH (fun w' hw hO=>hle A3 c3 w' (ZaJ DRule.len (hO.of (A := .row (.slice A3 R.length c3) 68 11 R.length (R.flatMap DRule.enc)) cS_))) ?_)|(refine Zab huc ?_)|(refine bx ?_;intro g));first|refine⟨_,EndsA,Zu4,?_⟩|refine fin ?_)|(refine jn ?_;(try intro F);(first|(refine bx ?_;intro g)|(apply Zan;exact PuA));refine⟨_,EndsA,Zu4,?_⟩))
  exact rtA
