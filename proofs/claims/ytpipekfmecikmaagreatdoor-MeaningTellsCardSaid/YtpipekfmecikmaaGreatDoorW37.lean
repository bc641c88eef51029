/- Parts of the proof. -/
import Derived.Test.YtpipekfmecikmaaGreatDoorW35
set_option maxHeartbeats 4000000
set_option linter.unusedVariables false
set_option linter.unusedSimpArgs false
namespace Go.Proofs.YtpipekfmecikmaaGreatDoor
open Go Go.RowKit Go.Wk
attribute [local irreducible] W RL Does Zat Zaj retQ Calls Pu Stp RD Qy Ay Zak
theorem ZqR {G:Prop}(h:G:=by(first|exact PuI|(apply ZgK;rfl;rfl;exact hln;omega)|(apply Zap;rfl;rfl;exact hdl)|(apply Zan;rfl;rfl;exact bu))):G:=h
theorem Zx5 {G:Prop}(h:G:=by first|(apply Qy_y;rfl;exact ZqR)|exact QyA):G:=h
theorem Zfi {G:Prop}(h:G:=by repeat (first|exact QF.nil|(apply QF.mk;rfl;rfl;decide +kernel;exact Zx5))):G:=h
theorem ZpG {G G':Prop}(k:G')(h:Hold G'->G:=by intro k9;(first|refine und ?_|(apply RL_pu;rfl;exact ZqR)|(apply RD_Q;rfl;rfl;decide +kernel;rfl;rfl;exact Zx5)|refine walk1 ?_|(refine jg ?_;(try intro F);(first|(refine ZaH (fun w' hw hO=>hle A3 c3 w' (ZaP DRule.len (hO.of (A := .row (.slice A3 R.length c3) 68 11 R.length (R.flatMap DRule.enc)) (by repeat' constructor)))) ?_)|(refine Zab (fun w' _=>huc w') ?_)|(refine stA ?_));first|refine⟨_,EndsA,Zfi,?_⟩|refine fin ?_)|(refine jn ?_;(try intro F);(first|(refine stA ?_)|(apply Zad;first|exact ZqR|exact PuA));first|refine⟨_,EndsA,Zfi,?_⟩|refine fin ?_));exact k9.out):G:=h ⟨k⟩
theorem ZnF {G:Prop}(h:G:=by(first|exact ZqR|(apply Zay;rfl;rfl;exact bj))):G:=h
theorem Zx4 {G:Prop}(h:G:=by first|(apply Qy_y;rfl;exact ZnF)|exact QyA):G:=h
theorem Zky {G:Prop}(h:G:=by repeat (first|exact QF.nil|(apply QF.mk;rfl;rfl;decide +kernel;exact Zx4))):G:=h
theorem Zxm {G G':Prop}(k:G')(h:Hold G'->G:=by intro k9;(first|refine und ?_|(apply RL_pu;rfl;exact ZnF)|(apply RD_Q;rfl;rfl;decide +kernel;rfl;rfl;exact Zx4)|refine walk1 ?_|(refine jg ?_;(try intro F);(first|(refine ZaH (fun w' hw hO=>hle A3 c3 w' (ZaP DRule.len (hO.of (A := .row (.slice A3 R.length c3) 68 11 R.length (R.flatMap DRule.enc)) (by repeat' constructor)))) ?_)|(refine Zab (fun w' _=>huc w') ?_)|(refine Zab hno ?_)|(refine ZaH (fun w' hw hO=>hfa A3 c3 w' hw (ZaP DRule.len (hO.of (A := .row (.slice A3 R.length c3) 68 11 R.length (R.flatMap DRule.enc)) (by repeat' constructor)))) ?_)|(refine stA ?_));first|refine⟨_,EndsA,Zky,?_⟩|refine fin ?_)|(refine jn ?_;(try intro F);(first|(refine stA ?_)|(apply Zad;first|exact ZnF|exact PuA));first|refine⟨_,EndsA,Zky,?_⟩|refine fin ?_));exact k9.out):G:=h ⟨k⟩
theorem Zvh {G:Prop}(h:G:=by(first|exact ZnF|(apply Zap;rfl;rfl;exact bk2))):G:=h
theorem Zx3 {G:Prop}(h:G:=by first|(apply Qy_y;rfl;exact Zvh)|exact QyA):G:=h
theorem Zyr {G:Prop}(h:G:=by repeat (first|exact QF.nil|(apply QF.mk;rfl;rfl;decide +kernel;exact Zx3))):G:=h
theorem ZqQ {G:Prop}(h:G:=by(first|exact ZnF|(apply ZgK;rfl;rfl;exact hkj;omega)|(apply ZgK;rfl;rfl;exact hdf;omega)|(apply Pu_indexAddr;rfl;rfl;omega;omega;exact hnb')|(apply Zaw;rfl;rfl;exact b3))):G:=h
theorem Zx2 {G:Prop}(h:G:=by first|(apply Qy_y;rfl;exact ZqQ)|exact QyA):G:=h
theorem Zhg {G:Prop}(h:G:=by repeat (first|exact QF.nil|(apply QF.mk;rfl;rfl;decide +kernel;exact Zx2))):G:=h
theorem Zsz {G G':Prop}(k:G')(h:Hold G'->G:=by intro k9;(first|refine und ?_|(apply RL_pu;rfl;exact ZqQ)|(apply RD_Q;rfl;rfl;decide +kernel;rfl;rfl;exact Zx2)|refine walk1 ?_|(refine jg ?_;(try intro F);(first|(refine ZaH (fun w' hw hO=>hle A3 c3 w' (ZaP DRule.len (hO.of (A := .row (.slice A3 R.length c3) 68 11 R.length (R.flatMap DRule.enc)) (by repeat' constructor)))) ?_)|(refine Zab (fun w' _=>huc w') ?_)|(refine Zab hno ?_)|(refine ZaH (fun w' hw hO=>hfa A3 c3 w' hw (ZaP DRule.len (hO.of (A := .row (.slice A3 R.length c3) 68 11 R.length (R.flatMap DRule.enc)) (by repeat' constructor)))) ?_)|(refine Zab hno2 ?_)|(refine stA ?_));first|refine⟨_,EndsA,Zhg,?_⟩|refine fin ?_)|(refine jn ?_;(try intro F);(first|(refine stA ?_)|(apply Zad;first|exact ZqQ|exact PuA));first|refine⟨_,EndsA,Zhg,?_⟩|refine fin ?_));exact k9.out):G:=h ⟨k⟩
theorem Zvg {G:Prop}(h:G:=by(first|exact ZqQ|(apply Zap;rfl;rfl;exact bk2))):G:=h
theorem Zx1 {G:Prop}(h:G:=by first|(apply Qy_y;rfl;exact Zvg)|exact QyA):G:=h
theorem Zyq {G:Prop}(h:G:=by repeat (first|exact QF.nil|(apply QF.mk;rfl;rfl;decide +kernel;exact Zx1))):G:=h
set_option maxHeartbeats 4000000 in
theorem Zoi (Ar Az Al As:Option Addr)(t u s cs:Nat)(a:DSource)(Ae:Option Addr)(W:Nat)(c:List DEra)(k:Nat)(w:World)(hF:FarS)(L:Zal w Ar Az Al As t u s cs a)(hS:ZcX a)
  (X:RdSl w Ae W DEra.enc 13 c) (hel:c.length<=1000000) (Z:k<c.length) (hp:∀ j,k=j+1->(Zao (c.getD j dE0).til (Zag (ZaA a.rules (c.getD j dE0)))).2=0) :
  Does Tryz.prog 196 [srcV Ar Az Al As t u s cs a,.slice Ae c.length W,.int .i64 k] w (fun v O=>v = .int .i64 (ZcS a.rules c k)/\O=[]):=by
 have N:=hS.nr
 obtain⟨hna,hca⟩:=X.rd k _ (List.getElem?_eq_getElem Z)
 have M:c.getD k dE0=c[k]:=by rw[List.getD_eq_getElem?_getD,List.getElem?_eq_getElem Z];rfl
 unfold ZcS
 rw[M]
 dsimp only
 generalize c[k]=e at *
 have m:=fun w' (hw:Bel w.heap.size w w')=>ZdO Ar Az Al As t u s cs a e w' (L.up hw) N
 have hle:=fun A3 c3 w' h=>Zcd A3 c3 (ZaA a.rules e) w' h
 have hRl:=Zeh a.rules e
 have huc:=fun w'=>Zh6 e.til (Zag (ZaA a.rules e)) w'
 have hno:=fun w' (hw:Bel w.heap.size w w')=>ZhY Ar Az Al As t u s cs a e w' (L.up hw) N
 have hnb:=ZjX e.til (Zag (ZaA a.rules e))
 have hfa:=fun A3 c3 w' (hw:Bel w.heap.size w w') h=>ZsZ A3 c3 (ZaA a.rules e) (Zao e.til (Zag (ZaA a.rules e))).1 w' h (by omega) (by omega)
 rw[hF (ZaA a.rules e) (Zao e.til (Zag (ZaA a.rules e))).1 hnb]
 generalize ZaA a.rules e=R at *
 generalize Zag R=least at *
 generalize ZaD e.til least=uc at *
 generalize farR R (Zao e.til least).1=fr at *
 generalize Zao e.til least=nm at *
 obtain⟨n,ne⟩:=nm
 dsimp only at hno hnb hfa ⊢
 obtain⟨off,q,save,set,H,til⟩:=e
 dsimp only at huc hno m ⊢
 simp only[DEra.enc]at m hca hno
 obtain⟨is,year,S,⟨dk,dw,dd⟩,⟨us,ub⟩⟩:=til
 dsimp only at m hca hno ⊢
 simp only[DUntil.enc]at huc
 obtain⟨Q,hln⟩:∃ Q:Int,(c.length:Int) - 1=Q:=⟨_,rfl⟩
 have hdl:decide ((k:Int)=Q) = !decide (k+1<c.length):=by
  by_cases h:k+1<c.length
  ·rw[decide_eq_true h];exact decide_eq_false (by omega)
  ·rw[decide_eq_false h];exact decide_eq_true (by omega)
 generalize hlt:decide (k+1<c.length)=lt at *
 refine Zaa Tryz.func196 rfl rfl rfl rfl ?_
 cases is with
 | false =>
  cases lt with
  | true =>
   rw[if_pos (by decide)]
   repeat (first|refine ZpG ?_|(refine jg ?_;(try intro F);(first|(apply Zae (h:=fun w' hw _=>m w' hw);rfl;rintro v O' ⟨A3,c3,rfl,rfl⟩)|(refine bx ?_;intro f));first|refine⟨_,EndsA,Zfi,?_⟩|refine fin ?_)|(refine jn ?_;(try intro F);(refine bx ?_;intro f);first|refine⟨_,EndsA,Zfi,?_⟩|refine fin ?_)|(apply RD_W;rfl;intro f))
   exact rtA
  | false =>
   rw[if_neg (by decide),if_pos rfl]
   repeat (first|refine ZpG ?_|(refine jg ?_;(try intro F);(first|(apply Zae (h:=fun w' hw _=>m w' hw);rfl;rintro v O' ⟨A3,c3,rfl,rfl⟩)|(refine bx ?_;intro f));first|refine⟨_,EndsA,Zfi,?_⟩|refine fin ?_)|(refine jn ?_;(try intro F);(refine bx ?_;intro f);first|refine⟨_,EndsA,Zfi,?_⟩|refine fin ?_)|(apply RD_W;rfl;intro f))
   exact rtA
 | true =>
 cases lt with
 | false =>
  rw[if_pos (by decide)]
  repeat (first|refine ZpG ?_|(refine jg ?_;(try intro F);(first|(apply Zae (h:=fun w' hw _=>m w' hw);rfl;rintro v O' ⟨A3,c3,rfl,rfl⟩)|(refine bx ?_;intro f));first|refine⟨_,EndsA,Zfi,?_⟩|refine fin ?_)|(refine jn ?_;(try intro F);(refine bx ?_;intro f);first|refine⟨_,EndsA,Zfi,?_⟩|refine fin ?_)|(apply RD_W;rfl;intro f))
  exact rtA
 | true =>
 rw[if_neg (by decide),if_neg (by decide)]
 by_cases J:uc=0
 ·rw[if_neg (fun h=>h J)]
  have bu:(!decide (uc=0))=false:=by rw[decide_eq_true J];rfl
  cases k with
  | zero =>
   have bj:decide ((0:Int)<((0:Nat):Int))=false:=rfl
   rw[if_neg (by rintro⟨h,_⟩;omega)]
   by_cases p:q=2
   ·subst p
    cases fr with
    | false =>
     rw[if_pos ⟨rfl,rfl⟩]
     repeat (first|refine Zxm ?_|(refine jg ?_;(try intro F);(first|(apply Zae (h:=fun w' hw _=>m w' hw);rfl;rintro v O' ⟨A3,c3,rfl,rfl⟩)|(refine bx ?_;intro f));first|refine⟨_,EndsA,Zky,?_⟩|refine fin ?_)|(refine jn ?_;(try intro F);(refine bx ?_;intro f);first|refine⟨_,EndsA,Zky,?_⟩|refine fin ?_)|(apply RD_W;rfl;intro f))
     exact rtA
    | true =>
     rw[if_neg (by rintro⟨_,h⟩;cases h)]
     repeat (first|refine Zxm ?_|(refine jg ?_;(try intro F);(first|(apply Zae (h:=fun w' hw _=>m w' hw);rfl;rintro v O' ⟨A3,c3,rfl,rfl⟩)|(refine bx ?_;intro f));first|refine⟨_,EndsA,Zky,?_⟩|refine fin ?_)|(refine jn ?_;(try intro F);(refine bx ?_;intro f);first|refine⟨_,EndsA,Zky,?_⟩|refine fin ?_)|(apply RD_W;rfl;intro f))
     exact rtA
   ·have bk2:decide (q=2)=false:=decide_eq_false p
    rw[if_neg (fun h=>p h.1)]
    repeat (first|refine und ?_|(apply RL_pu;rfl;exact Zvh)|(apply RD_Q;rfl;rfl;decide +kernel;rfl;rfl;exact Zx3)|refine walk1 ?_|(refine jg ?_;(try intro F);(first|(apply Zae (h:=fun w' hw _=>m w' hw);rfl;rintro v O' ⟨A3,c3,rfl,rfl⟩)|(refine ZaH (fun w' hw hO=>hle A3 c3 w' (ZaP DRule.len (hO.of (A := .row (.slice A3 R.length c3) 68 11 R.length (R.flatMap DRule.enc)) (by repeat' constructor)))) ?_)|(refine Zab (fun w' _=>huc w') ?_)|(refine Zab hno ?_)|(refine ZaH (fun w' hw hO=>hfa A3 c3 w' hw (ZaP DRule.len (hO.of (A := .row (.slice A3 R.length c3) 68 11 R.length (R.flatMap DRule.enc)) (by repeat' constructor)))) ?_)|(refine bx ?_;intro f)|(refine stA ?_));first|refine⟨_,EndsA,Zyr,?_⟩|refine fin ?_)|(refine jn ?_;(try intro F);(first|(refine bx ?_;intro f)|(refine stA ?_)|(apply Zad;first|exact Zvh|exact PuA));first|refine⟨_,EndsA,Zyr,?_⟩|refine fin ?_)|(apply RD_W;rfl;intro f))
    exact rtA
  | succ j =>
   have bj:decide ((0:Int)<((j+1:Nat):Int))=true:=decide_eq_true (by omega)
   have Y:j<c.length:=by omega
   obtain⟨hnb',hcb⟩:=X.rd j _ (List.getElem?_eq_getElem Y)
   have z:c.getD (j+1 - 1) dE0=c[j]:=by rw[Nat.add_sub_cancel,List.getD_eq_getElem?_getD,List.getElem?_eq_getElem Y];rfl
   have D:c.getD j dE0=c[j]:=z
   have r:=hp j rfl
   rw[D]at r
   rw[z]
   generalize c[j]=b at *
   have hkj:((j+1:Nat):Int) - 1=(j:Int):=by omega
   have hno2:=fun w' (hw:Bel w.heap.size w w')=>ZhY Ar Az Al As t u s cs a b w' (L.up hw) N
   have E:=ZjX b.til (Zag (ZaA a.rules b))
   generalize Zao b.til (Zag (ZaA a.rules b))=nm2 at *
   obtain⟨n2,ne2⟩:=nm2
   dsimp only at hno2 E r ⊢
   subst r
   obtain⟨off2,ZzZ,T,set2,y,⟨is2,U,K,⟨dk2,dw2,dd2⟩,⟨us2,ub2⟩⟩⟩:=b
   simp only[DEra.enc]at hno2 hcb
   obtain⟨x,hdf⟩:∃ x,n - n2=x:=⟨_,rfl⟩
   rw[hdf]
   by_cases I:x<259200
   ·have b3:decide (x<259200)=true:=decide_eq_true I
    rw[if_pos ⟨by omega,.inr I⟩]
    repeat (first|refine Zsz ?_|(refine jg ?_;(try intro F);(first|(apply Zae (h:=fun w' hw _=>m w' hw);rfl;rintro v O' ⟨A3,c3,rfl,rfl⟩)|(refine bx ?_;intro f));first|refine⟨_,EndsA,Zhg,?_⟩|refine fin ?_)|(refine jn ?_;(try intro F);(refine bx ?_;intro f);first|refine⟨_,EndsA,Zhg,?_⟩|refine fin ?_)|(apply RD_W;rfl;intro f))
    exact rtA
   ·have b3:decide (x<259200)=false:=decide_eq_false I
    rw[if_neg (by rintro⟨_,h|h⟩;exact h rfl;exact I h)]
    by_cases p:q=2
    ·subst p
     cases fr with
     | false =>
      rw[if_pos ⟨rfl,rfl⟩]
      repeat (first|refine Zsz ?_|(refine jg ?_;(try intro F);(first|(apply Zae (h:=fun w' hw _=>m w' hw);rfl;rintro v O' ⟨A3,c3,rfl,rfl⟩)|(refine bx ?_;intro f));first|refine⟨_,EndsA,Zhg,?_⟩|refine fin ?_)|(refine jn ?_;(try intro F);(refine bx ?_;intro f);first|refine⟨_,EndsA,Zhg,?_⟩|refine fin ?_)|(apply RD_W;rfl;intro f))
      exact rtA
     | true =>
      rw[if_neg (by rintro⟨_,h⟩;cases h)]
      repeat (first|refine Zsz ?_|(refine jg ?_;(try intro F);(first|(apply Zae (h:=fun w' hw _=>m w' hw);rfl;rintro v O' ⟨A3,c3,rfl,rfl⟩)|(refine bx ?_;intro f));first|refine⟨_,EndsA,Zhg,?_⟩|refine fin ?_)|(refine jn ?_;(try intro F);(refine bx ?_;intro f);first|refine⟨_,EndsA,Zhg,?_⟩|refine fin ?_)|(apply RD_W;rfl;intro f))
      exact rtA
    ·have bk2:decide (q=2)=false:=decide_eq_false p
     rw[if_neg (fun h=>p h.1)]
     repeat (first|refine und ?_|(apply RL_pu;rfl;exact Zvg)|(apply RD_Q;rfl;rfl;decide +kernel;rfl;rfl;exact Zx1)|refine walk1 ?_|(refine jg ?_;(try intro F);(first|(apply Zae (h:=fun w' hw _=>m w' hw);rfl;rintro v O' ⟨A3,c3,rfl,rfl⟩)|(refine ZaH (fun w' hw hO=>hle A3 c3 w' (ZaP DRule.len (hO.of (A := .row (.slice A3 R.length c3) 68 11 R.length (R.flatMap DRule.enc)) (by repeat' constructor)))) ?_)|(refine Zab (fun w' _=>huc w') ?_)|(refine Zab hno ?_)|(refine ZaH (fun w' hw hO=>hfa A3 c3 w' hw (ZaP DRule.len (hO.of (A := .row (.slice A3 R.length c3) 68 11 R.length (R.flatMap DRule.enc)) (by repeat' constructor)))) ?_)|(refine Zab hno2 ?_)|(refine bx ?_;intro f)|(refine stA ?_));first|refine⟨_,EndsA,Zyq,?_⟩|refine fin ?_)|(refine jn ?_;(try intro F);(first|(refine bx ?_;intro f)|(refine stA ?_)|(apply Zad;first|exact Zvg|exact PuA));first|refine⟨_,EndsA,Zyq,?_⟩|refine fin ?_)|(apply RD_W;rfl;intro f))
     exact rtA
 ·rw[if_pos J]
  have bu:(!decide (uc=0))=true:=by rw[decide_eq_false J];rfl
  repeat (first|refine ZpG ?_|(refine jg ?_;(try intro F);(first|(apply Zae (h:=fun w' hw _=>m w' hw);rfl;rintro v O' ⟨A3,c3,rfl,rfl⟩)|(refine bx ?_;intro f));first|refine⟨_,EndsA,Zfi,?_⟩|refine fin ?_)|(refine jn ?_;(try intro F);(refine bx ?_;intro f);first|refine⟨_,EndsA,Zfi,?_⟩|refine fin ?_)|(apply RD_W;rfl;intro f))
  exact rtA
end Go.Proofs.YtpipekfmecikmaaGreatDoor
