/- Parts of the proof. -/
import Derived.Test.YtdlmhmmhdbbliaaGreatDoorV25
set_option maxHeartbeats 4000000
set_option linter.unusedVariables false
set_option linter.unusedSimpArgs false
namespace Go.Wk
open Go Go.RowKit
theorem Zpb {P:Program}{n:Nat}{wr:World}{fr:Fr}{O:List It}{ty t t':TypeId}{x y:Operand}{i j m:Int}(hx:ev fr x=some (.int .i64 i))(hy:ev fr y=some (.int .i64 j))(hm:i - j=m)(h : -9223372036854775808<=m/\m<=9223372036854775807):Pu P n wr fr O (.binOp .sub t x y t') ty (.int .i64 m):=hm▸Pu_sub' hx hy (hm▸h)
end Go.Wk
namespace Go.Proofs.YtdlmhmmhdbbliaaGreatDoor
open Go Go.RowKit Go.Wk
attribute [local irreducible] W RL Does Zau Zak retQ Calls Pu Stp RD Qy Ay Zaj
theorem Zte (u:ZaY)(least:Int) : -200000000000000000<=(ZaH u least).1/\(ZaH u least).1<=200000000000000000:=by
 unfold ZaH
 split
 ·exact⟨by dsimp only;omega,by dsimp only;omega⟩
 ·rename_i h
  have h0:ZaW u least=0:=Decidable.not_not.1 h
  have hb:=ZhC u.year u.month u.day
  unfold ZaW at h0
  dsimp only at h0 ⊢
  repeat' split at h0
  all_goals first|(exfalso;omega)|(split <;> omega)
theorem ZAp {u:ZaY}{least:Int}(h:ZaW u least=0):(ZaH u least).2=0:=by
 unfold ZaH
 rw[if_neg (fun hh=>hh h)]
theorem Zv3 {w:World}{ad:Addr}{e:DEra}(h:Zal w ad e.enc):Zal w (ad.add 5) (ZaY.enc e.til):=fun j v hj=>by
 rw[Za6]
 refine h (5+j) v ?_
 rw[show DEra.enc e=[.int .i64 e.off,.int .i64 e.kind,.int .i64 e.save,.string e.set,.string e.format]++ZaY.enc e.til from rfl,List.getElem?_append_right (by simp)]
 simpa using hj
theorem ZlA.rs {s:Zai}(h:ZlA s)(e:DEra):RsOk (Zbb s.rules e):=fun r hr=>h r (Zge hr)
theorem Zer {G:Prop}(h:G:=by(first|exact PuI|(apply Pu_loadON;rfl;exact hcu;rfl)|(apply Zpb;rfl;rfl;exact hln;omega)|(apply Zpb;rfl;rfl;exact hkj;omega)|(apply ZaS;rfl;rfl;exact hdl))):G:=h
theorem Zo7 {G:Prop}(h:G:=by first|(apply Qy_y;rfl;exact Zer)|exact QyA):G:=h
theorem ZdF {G:Prop}(h:G:=by repeat (first|exact QF.nil|(apply QF.mk;rfl;rfl;decide +kernel;exact Zo7))):G:=h
theorem ZnX {G G':Prop}(k:G')(h:Hold G'->G:=by intro k9;(first|refine und ?_|(apply RL_pu;rfl;exact Zer)|(apply RD_Q;rfl;rfl;decide +kernel;rfl;rfl;exact Zo7)|refine walk1 ?_|(refine jn ?_;(try intro F);(first|(refine stA ?_)|(apply Zae;first|exact Zer|exact PuA));first|refine⟨_,EndsA,ZdF,?_⟩|refine fin ?_));exact k9.out):G:=h ⟨k⟩
theorem Zsl {G G':Prop}(k:G')(h:Hold G'->G:=by intro k9;(first|refine und ?_|(apply RL_pu;rfl;exact Zer)|(apply RD_Q;rfl;rfl;decide +kernel;rfl;rfl;exact Zo7)|refine walk1 ?_|(refine jg ?_;(try intro F);(first|(refine Za1 (fun w' hw hO=>hle A3 c3 w' (Zbn Zab.len (hO.of (A := .row (.slice A3 R.length c3) 82 11 R.length (R.flatMap Zab.enc)) (by repeat' constructor)))) ?_)|(refine Zac huc ?_)|(refine Zac hno ?_)|(refine Za1 (fun w' hw hO=>hfa A3 c3 w' hw (Zbn Zab.len (hO.of (A := .row (.slice A3 R.length c3) 82 11 R.length (R.flatMap Zab.enc)) (by repeat' constructor)))) ?_)|(refine stA ?_));first|refine⟨_,EndsA,ZdF,?_⟩|refine fin ?_)|(refine jn ?_;(try intro F);(first|(refine stA ?_)|(apply Zae;first|exact Zer|exact PuA));first|refine⟨_,EndsA,ZdF,?_⟩|refine fin ?_));exact k9.out):G:=h ⟨k⟩
theorem Zpr {G:Prop}(h:G:=by(first|exact Zer|(apply Zaw;rfl;rfl;exact bk2))):G:=h
theorem ZuU {G:Prop}(h:G:=by first|(apply Qy_y;rfl;exact Zpr)|exact QyA):G:=h
theorem Zu2 {G:Prop}(h:G:=by repeat (first|exact QF.nil|(apply QF.mk;rfl;rfl;decide +kernel;exact ZuU))):G:=h
theorem ZlP {G:Prop}(h:G:=by(first|exact Zer|(apply ZaC;rfl;rfl;exact bj)|(apply Zpb;rfl;rfl;exact hdf;omega)|(apply ZaS;rfl;rfl;exact b3))):G:=h
theorem ZuT {G:Prop}(h:G:=by first|(apply Qy_y;rfl;exact ZlP)|exact QyA):G:=h
theorem Ze1 {G:Prop}(h:G:=by repeat (first|exact QF.nil|(apply QF.mk;rfl;rfl;decide +kernel;exact ZuT))):G:=h
theorem ZnW {G G':Prop}(k:G')(h:Hold G'->G:=by intro k9;(first|refine und ?_|(apply RL_pu;rfl;exact ZlP)|(apply RD_Q;rfl;rfl;decide +kernel;rfl;rfl;exact ZuT)|refine walk1 ?_|(refine jg ?_;(try intro F);(first|(refine Za1 (fun w' hw hO=>hle A3 c3 w' (Zbn Zab.len (hO.of (A := .row (.slice A3 R.length c3) 82 11 R.length (R.flatMap Zab.enc)) (by repeat' constructor)))) ?_)|(refine Zac huc ?_)|(refine Zac hno ?_)|(refine Za1 (fun w' hw hO=>hfa A3 c3 w' hw (Zbn Zab.len (hO.of (A := .row (.slice A3 R.length c3) 82 11 R.length (R.flatMap Zab.enc)) (by repeat' constructor)))) ?_)|(refine Za1 (fun w' hw hO=>hle2 A4 c4 w' (Zbn Zab.len (hO.of (A := .row (.slice A4 R2.length c4) 82 11 R2.length (R2.flatMap Zab.enc)) (by repeat' constructor)))) ?_)|(refine Zac hno2 ?_)|(refine stA ?_));first|refine⟨_,EndsA,Ze1,?_⟩|refine fin ?_)|(refine jn ?_;(try intro F);(first|(refine stA ?_)|(apply Zae;first|exact ZlP|exact PuA));first|refine⟨_,EndsA,Ze1,?_⟩|refine fin ?_));exact k9.out):G:=h ⟨k⟩
theorem Zpq {G:Prop}(h:G:=by(first|exact ZlP|(apply Zaw;rfl;rfl;exact bk2))):G:=h
theorem ZuS {G:Prop}(h:G:=by first|(apply Qy_y;rfl;exact Zpq)|exact QyA):G:=h
theorem Zu1 {G:Prop}(h:G:=by repeat (first|exact QF.nil|(apply QF.mk;rfl;rfl;decide +kernel;exact ZuS))):G:=h
theorem Zpp {G:Prop}(h:G:=by(first|exact Zer|(apply ZaC;rfl;rfl;exact bj)|(apply Zaz;rfl;rfl;exact b2))):G:=h
theorem ZuR {G:Prop}(h:G:=by first|(apply Qy_y;rfl;exact Zpp)|exact QyA):G:=h
theorem Zu0 {G:Prop}(h:G:=by repeat (first|exact QF.nil|(apply QF.mk;rfl;rfl;decide +kernel;exact ZuR))):G:=h
theorem Zpo {G:Prop}(h:G:=by(first|exact Zer|(apply Zaz;rfl;rfl;exact bu))):G:=h
theorem ZuQ {G:Prop}(h:G:=by first|(apply Qy_y;rfl;exact Zpo)|exact QyA):G:=h
theorem ZuZ {G:Prop}(h:G:=by repeat (first|exact QF.nil|(apply QF.mk;rfl;rfl;decide +kernel;exact ZuQ))):G:=h
set_option maxHeartbeats 2000000 in
theorem Ztu (Ar Az Al As:Option Addr)(cr cz cl cs:Nat)(a:Zai)(Ae:Option Addr)(ce:Nat)(eras:List DEra)(k:Nat)(w:World)(hG:Glob w)(hA:Zav w Ar Az Al As cr cz cl cs a)(hS:ZhV a)(hV:ZlA a)
  (hE:RdSl w Ae ce DEra.enc 13 eras) (hel:eras.length<=1000000) (hk:k<eras.length) :
  Does Tryz.prog 141 [srcV Ar Az Al As cr cz cl cs a,.slice Ae eras.length ce,.int .i64 k] w (fun v O=>v = .int .i64 (Zi6 a.rules eras k)/\O=[]):=by
 have hn:=hS.nr
 obtain⟨hna,hca⟩:=hE.rd k _ (List.getElem?_eq_getElem hk)
 have hgd:eras.getD k dE0=eras[k]:=by rw[List.getD_eq_getElem?_getD,List.getElem?_eq_getElem hk];rfl
 unfold Zi6
 rw[hgd]
 dsimp only
 generalize eras[k]=e at *
 have hst:=fun w' (hw:Bel w.heap.size w w')=>Zgo Ar Az Al As cr cz cl cs a e w' (hA.up hw) hn
 have hle:=fun A3 c3 w' h=>Zc1 A3 c3 (Zbb a.rules e) w' h
 have hRl:=Zip a.rules e
 have hRs:=hV.rs e
 have huc:=fun w' (hw:Bel w.heap.size w w')=>Zib e.til (Zah (Zbb a.rules e)) w' (hG.up hw)
 have hno:=fun w' (hw:Bel w.heap.size w w')=>ZeI e.til (Zah (Zbb a.rules e)) w' (hG.up hw)
 have hnb:=Zte e.til (Zah (Zbb a.rules e))
 have hn0 := @ZAp e.til (Zah (Zbb a.rules e))
 have hfa:=fun A3 c3 w' (hw:Bel w.heap.size w w') h=>ZwY A3 c3 (Zbb a.rules e) (ZaH e.til (Zah (Zbb a.rules e))).1 w' (hG.up hw) h (by omega) hRs (by omega)
 generalize Zbb a.rules e=R at *
 generalize hLT:Zah R=least at *
 generalize ZaW e.til least=uc at *
 generalize farD R (ZaH e.til least).1=fr at *
 generalize ZaH e.til least=nm at *
 obtain⟨n,ne⟩:=nm
 dsimp only at hno hnb hn0 hfa ⊢
 obtain⟨off,kind,save,set,format,til⟩:=e
 dsimp only at huc hno hst ⊢
 simp only[DEra.enc]at hst hca
 obtain⟨is,year,month,⟨dk,dw,dd⟩,⟨us,ub⟩⟩:=til
 dsimp only at hst hca ⊢
 simp only[ZaY.enc]at huc hno
 obtain⟨ln,hln⟩:∃ ln:Int,(eras.length:Int) - 1=ln:=⟨_,rfl⟩
 have hdl:decide ((k:Int)<ln)=decide (k+1<eras.length):=by rw[decide_eq_decide];omega
 generalize hlt:decide (k+1<eras.length)=lt at *
 refine Zaa Tryz.func141 rfl rfl rfl rfl ?_
 have hcb:=hca
 have hcu:=hca
 have hkj:(k:Int) - 0=k:=by omega
 cases is with
 | false =>
  cases lt with
  | true =>
   rw[if_pos (by decide)]
   repeat (first|refine ZnX ?_|(refine jn ?_;(try intro F);(refine bx ?_;intro bk);first|refine⟨_,EndsA,ZdF,?_⟩|refine fin ?_)|(apply RD_W;rfl;intro bk))
   exact rtA
  | false =>
   rw[if_neg (by decide),if_pos rfl]
   repeat (first|refine ZnX ?_|(refine jn ?_;(try intro F);(refine bx ?_;intro bk);first|refine⟨_,EndsA,ZdF,?_⟩|refine fin ?_)|(apply RD_W;rfl;intro bk))
   exact rtA
 | true =>
 cases lt with
 | false =>
  rw[if_pos (by decide)]
  repeat (first|refine ZnX ?_|(refine jn ?_;(try intro F);(refine bx ?_;intro bk);first|refine⟨_,EndsA,ZdF,?_⟩|refine fin ?_)|(apply RD_W;rfl;intro bk))
  exact rtA
 | true =>
 rw[if_neg (by decide),if_neg (by decide)]
 by_cases hu:uc=0
 ·rw[if_neg (fun h=>h hu)]
  have hne:ne=0:=hn0 hu
  subst hu hne
  cases k with
  | zero =>
   rw[if_neg (by rintro⟨h,_⟩;omega)]
   clear hcb hcu
   by_cases hk2:kind=2
   ·subst hk2
    cases fr with
    | false =>
     rw[if_pos ⟨rfl,rfl⟩]
     repeat (first|refine Zsl ?_|(refine jg ?_;(try intro F);(first|(apply Zag (h:=fun w' hw _=>hst w' hw);rfl;rintro v O' ⟨A3,c3,rfl,rfl⟩)|(refine bx ?_;intro bk));first|refine⟨_,EndsA,ZdF,?_⟩|refine fin ?_)|(refine jn ?_;(try intro F);(refine bx ?_;intro bk);first|refine⟨_,EndsA,ZdF,?_⟩|refine fin ?_)|(apply RD_W;rfl;intro bk))
     exact rtA
    | true =>
     rw[if_neg (by rintro⟨_,h⟩;cases h)]
     repeat (first|refine Zsl ?_|(refine jg ?_;(try intro F);(first|(apply Zag (h:=fun w' hw _=>hst w' hw);rfl;rintro v O' ⟨A3,c3,rfl,rfl⟩)|(refine bx ?_;intro bk));first|refine⟨_,EndsA,ZdF,?_⟩|refine fin ?_)|(refine jn ?_;(try intro F);(refine bx ?_;intro bk);first|refine⟨_,EndsA,ZdF,?_⟩|refine fin ?_)|(apply RD_W;rfl;intro bk))
     exact rtA
   ·have bk2:decide (kind=2)=false:=decide_eq_false hk2
    rw[if_neg (fun h=>hk2 h.1)]
    repeat (first|refine und ?_|(apply RL_pu;rfl;exact Zpr)|(apply RD_Q;rfl;rfl;decide +kernel;rfl;rfl;exact ZuU)|refine walk1 ?_|(refine jg ?_;(try intro F);(first|(apply Zag (h:=fun w' hw _=>hst w' hw);rfl;rintro v O' ⟨A3,c3,rfl,rfl⟩)|(refine Za1 (fun w' hw hO=>hle A3 c3 w' (Zbn Zab.len (hO.of (A := .row (.slice A3 R.length c3) 82 11 R.length (R.flatMap Zab.enc)) (by repeat' constructor)))) ?_)|(refine Zac huc ?_)|(refine Zac hno ?_)|(refine Za1 (fun w' hw hO=>hfa A3 c3 w' hw (Zbn Zab.len (hO.of (A := .row (.slice A3 R.length c3) 82 11 R.length (R.flatMap Zab.enc)) (by repeat' constructor)))) ?_)|(refine bx ?_;intro bk)|(refine stA ?_));first|refine⟨_,EndsA,Zu2,?_⟩|refine fin ?_)|(refine jn ?_;(try intro F);(first|(refine bx ?_;intro bk)|(refine stA ?_)|(apply Zae;first|exact Zpr|exact PuA));first|refine⟨_,EndsA,Zu2,?_⟩|refine fin ?_)|(apply RD_W;rfl;intro bk))
    exact rtA
  | succ j =>
   have bj:decide ((0:Int)<((j+1:Nat):Int))=true:=decide_eq_true (by omega)
   clear hcb hcu hkj
   have hj:j<eras.length:=by omega
   obtain⟨hnb',hcb⟩:=hE.rd j _ (List.getElem?_eq_getElem hj)
   have hgj:eras.getD (j+1 - 1) dE0=eras[j]:=by rw[Nat.add_sub_cancel,List.getD_eq_getElem?_getD,List.getElem?_eq_getElem hj];rfl
   rw[hgj]
   generalize eras[j]=b at *
   have hcu:=Zv3 hcb
   have hkj:((j+1:Nat):Int) - 1=(j:Int):=by omega
   have hst2:=fun w' (hw:Bel w.heap.size w w')=>Zgo Ar Az Al As cr cz cl cs a b w' (hA.up hw) hn
   have hle2:=fun A3 c3 w' h=>Zc1 A3 c3 (Zbb a.rules b) w' h
   have hno2:=fun w' (hw:Bel w.heap.size w w')=>ZeI b.til (Zah (Zbb a.rules b)) w' (hG.up hw)
   have hnb2:=Zte b.til (Zah (Zbb a.rules b))
   generalize Zbb a.rules b=R2 at *
   generalize Zah R2=least2 at *
   generalize ZaH b.til least2=nm2 at *
   obtain⟨n2,ne2⟩:=nm2
   obtain⟨off2,ZAw,save2,set2,format2,⟨is2,year2,month2,⟨dk2,dw2,dd2⟩,⟨us2,ub2⟩⟩⟩:=b
   dsimp only at hno2 hnb2 hst2 hcu ⊢
   simp only[DEra.enc]at hst2 hcb
   simp only[ZaY.enc]at hno2 hcu
   by_cases h2:ne2=0
   ·subst h2
    obtain⟨df,hdf⟩:∃ df,n - n2=df:=⟨_,rfl⟩
    rw[hdf]
    by_cases h3:df<259200
    ·have b3:decide (df<259200)=true:=decide_eq_true h3
     rw[if_pos ⟨by omega,.inr h3⟩]
     repeat (first|refine ZnW ?_|(refine jg ?_;(try intro F);(first|(apply Zag (h:=fun w' hw _=>hst w' hw);rfl;rintro v O' ⟨A3,c3,rfl,rfl⟩)|(apply Zag (h:=fun w' hw _=>hst2 w' hw);rfl;rintro v O' ⟨A4,c4,rfl,rfl⟩)|(refine bx ?_;intro bk));first|refine⟨_,EndsA,Ze1,?_⟩|refine fin ?_)|(refine jn ?_;(try intro F);(refine bx ?_;intro bk);first|refine⟨_,EndsA,Ze1,?_⟩|refine fin ?_)|(apply RD_W;rfl;intro bk))
     exact rtA
    ·have b3:decide (df<259200)=false:=decide_eq_false h3
     rw[if_neg (by rintro⟨_,h|h⟩;exact h rfl;exact h3 h)]
     by_cases hk2:kind=2
     ·subst hk2
      cases fr with
      | false =>
       rw[if_pos ⟨rfl,rfl⟩]
       repeat (first|refine ZnW ?_|(refine jg ?_;(try intro F);(first|(apply Zag (h:=fun w' hw _=>hst w' hw);rfl;rintro v O' ⟨A3,c3,rfl,rfl⟩)|(apply Zag (h:=fun w' hw _=>hst2 w' hw);rfl;rintro v O' ⟨A4,c4,rfl,rfl⟩)|(refine bx ?_;intro bk));first|refine⟨_,EndsA,Ze1,?_⟩|refine fin ?_)|(refine jn ?_;(try intro F);(refine bx ?_;intro bk);first|refine⟨_,EndsA,Ze1,?_⟩|refine fin ?_)|(apply RD_W;rfl;intro bk))
       exact rtA
      | true =>
       rw[if_neg (by rintro⟨_,h⟩;cases h)]
       repeat (first|refine ZnW ?_|(refine jg ?_;(try intro F);(first|(apply Zag (h:=fun w' hw _=>hst w' hw);rfl;rintro v O' ⟨A3,c3,rfl,rfl⟩)|(apply Zag (h:=fun w' hw _=>hst2 w' hw);rfl;rintro v O' ⟨A4,c4,rfl,rfl⟩)|(refine bx ?_;intro bk));first|refine⟨_,EndsA,Ze1,?_⟩|refine fin ?_)|(refine jn ?_;(try intro F);(refine bx ?_;intro bk);first|refine⟨_,EndsA,Ze1,?_⟩|refine fin ?_)|(apply RD_W;rfl;intro bk))
       exact rtA
     ·have bk2:decide (kind=2)=false:=decide_eq_false hk2
      rw[if_neg (fun h=>hk2 h.1)]
      repeat (first|refine und ?_|(apply RL_pu;rfl;exact Zpq)|(apply RD_Q;rfl;rfl;decide +kernel;rfl;rfl;exact ZuS)|refine walk1 ?_|(refine jg ?_;(try intro F);(first|(apply Zag (h:=fun w' hw _=>hst w' hw);rfl;rintro v O' ⟨A3,c3,rfl,rfl⟩)|(refine Za1 (fun w' hw hO=>hle A3 c3 w' (Zbn Zab.len (hO.of (A := .row (.slice A3 R.length c3) 82 11 R.length (R.flatMap Zab.enc)) (by repeat' constructor)))) ?_)|(refine Zac huc ?_)|(refine Zac hno ?_)|(refine Za1 (fun w' hw hO=>hfa A3 c3 w' hw (Zbn Zab.len (hO.of (A := .row (.slice A3 R.length c3) 82 11 R.length (R.flatMap Zab.enc)) (by repeat' constructor)))) ?_)|(apply Zag (h:=fun w' hw _=>hst2 w' hw);rfl;rintro v O' ⟨A4,c4,rfl,rfl⟩)|(refine Za1 (fun w' hw hO=>hle2 A4 c4 w' (Zbn Zab.len (hO.of (A := .row (.slice A4 R2.length c4) 82 11 R2.length (R2.flatMap Zab.enc)) (by repeat' constructor)))) ?_)|(refine Zac hno2 ?_)|(refine bx ?_;intro bk)|(refine stA ?_));first|refine⟨_,EndsA,Zu1,?_⟩|refine fin ?_)|(refine jn ?_;(try intro F);(first|(refine bx ?_;intro bk)|(refine stA ?_)|(apply Zae;first|exact Zpq|exact PuA));first|refine⟨_,EndsA,Zu1,?_⟩|refine fin ?_)|(apply RD_W;rfl;intro bk))
      exact rtA
   ·have b2:(!decide (ne2=0))=true:=by rw[decide_eq_false h2];rfl
    rw[if_pos ⟨by omega,.inl h2⟩]
    repeat (first|refine und ?_|(apply RL_pu;rfl;exact Zpp)|(apply RD_Q;rfl;rfl;decide +kernel;rfl;rfl;exact ZuR)|refine walk1 ?_|(refine jg ?_;(try intro F);(first|(apply Zag (h:=fun w' hw _=>hst w' hw);rfl;rintro v O' ⟨A3,c3,rfl,rfl⟩)|(refine Za1 (fun w' hw hO=>hle A3 c3 w' (Zbn Zab.len (hO.of (A := .row (.slice A3 R.length c3) 82 11 R.length (R.flatMap Zab.enc)) (by repeat' constructor)))) ?_)|(refine Zac huc ?_)|(refine Zac hno ?_)|(refine Za1 (fun w' hw hO=>hfa A3 c3 w' hw (Zbn Zab.len (hO.of (A := .row (.slice A3 R.length c3) 82 11 R.length (R.flatMap Zab.enc)) (by repeat' constructor)))) ?_)|(apply Zag (h:=fun w' hw _=>hst2 w' hw);rfl;rintro v O' ⟨A4,c4,rfl,rfl⟩)|(refine Za1 (fun w' hw hO=>hle2 A4 c4 w' (Zbn Zab.len (hO.of (A := .row (.slice A4 R2.length c4) 82 11 R2.length (R2.flatMap Zab.enc)) (by repeat' constructor)))) ?_)|(refine Zac hno2 ?_)|(refine bx ?_;intro bk)|(refine stA ?_));first|refine⟨_,EndsA,Zu0,?_⟩|refine fin ?_)|(refine jn ?_;(try intro F);(first|(refine bx ?_;intro bk)|(refine stA ?_)|(apply Zae;first|exact Zpp|exact PuA));first|refine⟨_,EndsA,Zu0,?_⟩|refine fin ?_)|(apply RD_W;rfl;intro bk))
    exact rtA
 ·rw[if_pos hu]
  have bu:(!decide (uc=0))=true:=by rw[decide_eq_false hu];rfl
  repeat (first|refine und ?_|(apply RL_pu;rfl;exact Zpo)|(apply RD_Q;rfl;rfl;decide +kernel;rfl;rfl;exact ZuQ)|refine walk1 ?_|(refine jg ?_;(try intro F);(first|(apply Zag (h:=fun w' hw _=>hst w' hw);rfl;rintro v O' ⟨A3,c3,rfl,rfl⟩)|(refine Za1 (fun w' hw hO=>hle A3 c3 w' (Zbn Zab.len (hO.of (A := .row (.slice A3 R.length c3) 82 11 R.length (R.flatMap Zab.enc)) (by repeat' constructor)))) ?_)|(refine Zac huc ?_)|(refine bx ?_;intro bk)|(refine stA ?_));first|refine⟨_,EndsA,ZuZ,?_⟩|refine fin ?_)|(refine jn ?_;(try intro F);(first|(refine bx ?_;intro bk)|(refine stA ?_)|(apply Zae;first|exact Zpo|exact PuA));first|refine⟨_,EndsA,ZuZ,?_⟩|refine fin ?_)|(apply RD_W;rfl;intro bk))
  exact rtA
end Go.Proofs.YtdlmhmmhdbbliaaGreatDoor
