/- Parts of the proof. -/
import Derived.Test.YtpipekfmecikmaaGreatDoorV31
set_option maxHeartbeats 4000000
set_option linter.unusedVariables false
set_option linter.unusedSimpArgs false
namespace Go.Proofs.YtpipekfmecikmaaGreatDoor
open Go Go.RowKit Go.Wk
attribute [local irreducible] W RL Does Zat Zaj retQ Calls Pu Stp RD Qy Ay Zak
theorem ZpN {G:Prop}(h:G:=by(first|exact PuI|(apply Zgm;rfl;rfl;exact hln;omega)|(apply Zan;rfl;rfl;exact hdl)|(apply Zal;rfl;rfl;exact bu))):G:=h
theorem Zwu {G:Prop}(h:G:=by first|(apply Qy_y;rfl;exact ZpN)|exact QyA):G:=h
theorem Ze5 {G:Prop}(h:G:=by repeat (first|exact QF.nil|(apply QF.mk;rfl;rfl;decide +kernel;exact Zwu))):G:=h
theorem ZoE {G G':Prop}(k:G')(h:Hold G'->G:=by intro k9;(first|refine und ?_|(apply RL_pu;rfl;exact ZpN)|(apply RD_Q;rfl;rfl;decide +kernel;rfl;rfl;exact Zwu)|refine walk1 ?_|(refine jg ?_;(try intro F);(first|(refine ZaM (fun w' hw hO=>hle A3 c3 w' (ZaX DRule.len (hO.of (A := .row (.slice A3 R.length c3) 68 11 R.length (R.flatMap DRule.enc)) (by repeat' constructor)))) ?_)|(refine Zab (fun w' _=>huc w') ?_)|(refine stA ?_));first|refine⟨_,EndsA,Ze5,?_⟩|refine fin ?_)|(refine jn ?_;(try intro F);(first|(refine stA ?_)|(apply Zac;first|exact ZpN|exact PuA));first|refine⟨_,EndsA,Ze5,?_⟩|refine fin ?_));exact k9.out):G:=h ⟨k⟩
theorem ZmC {G:Prop}(h:G:=by(first|exact ZpN|(apply Zaw;rfl;rfl;exact bj))):G:=h
theorem Zwt {G:Prop}(h:G:=by first|(apply Qy_y;rfl;exact ZmC)|exact QyA):G:=h
theorem ZjU {G:Prop}(h:G:=by repeat (first|exact QF.nil|(apply QF.mk;rfl;rfl;decide +kernel;exact Zwt))):G:=h
theorem ZvV {G G':Prop}(k:G')(h:Hold G'->G:=by intro k9;(first|refine und ?_|(apply RL_pu;rfl;exact ZmC)|(apply RD_Q;rfl;rfl;decide +kernel;rfl;rfl;exact Zwt)|refine walk1 ?_|(refine jg ?_;(try intro F);(first|(refine ZaM (fun w' hw hO=>hle A3 c3 w' (ZaX DRule.len (hO.of (A := .row (.slice A3 R.length c3) 68 11 R.length (R.flatMap DRule.enc)) (by repeat' constructor)))) ?_)|(refine Zab (fun w' _=>huc w') ?_)|(refine Zab hno ?_)|(refine ZaM (fun w' hw hO=>hfa A3 c3 w' hw (ZaX DRule.len (hO.of (A := .row (.slice A3 R.length c3) 68 11 R.length (R.flatMap DRule.enc)) (by repeat' constructor)))) ?_)|(refine stA ?_));first|refine⟨_,EndsA,ZjU,?_⟩|refine fin ?_)|(refine jn ?_;(try intro F);(first|(refine stA ?_)|(apply Zac;first|exact ZmC|exact PuA));first|refine⟨_,EndsA,ZjU,?_⟩|refine fin ?_));exact k9.out):G:=h ⟨k⟩
theorem ZtO {G:Prop}(h:G:=by(first|exact ZmC|(apply Zan;rfl;rfl;exact bk2))):G:=h
theorem Zws {G:Prop}(h:G:=by first|(apply Qy_y;rfl;exact ZtO)|exact QyA):G:=h
theorem ZwS {G:Prop}(h:G:=by repeat (first|exact QF.nil|(apply QF.mk;rfl;rfl;decide +kernel;exact Zws))):G:=h
theorem ZpM {G:Prop}(h:G:=by(first|exact ZmC|(apply Zgm;rfl;rfl;exact hkj;omega)|(apply Zgm;rfl;rfl;exact hdf;omega)|(apply Pu_indexAddr;rfl;rfl;omega;omega;exact hnb')|(apply Zaz;rfl;rfl;exact b3))):G:=h
theorem Zwr {G:Prop}(h:G:=by first|(apply Qy_y;rfl;exact ZpM)|exact QyA):G:=h
theorem ZgM {G:Prop}(h:G:=by repeat (first|exact QF.nil|(apply QF.mk;rfl;rfl;decide +kernel;exact Zwr))):G:=h
theorem Zri {G G':Prop}(k:G')(h:Hold G'->G:=by intro k9;(first|refine und ?_|(apply RL_pu;rfl;exact ZpM)|(apply RD_Q;rfl;rfl;decide +kernel;rfl;rfl;exact Zwr)|refine walk1 ?_|(refine jg ?_;(try intro F);(first|(refine ZaM (fun w' hw hO=>hle A3 c3 w' (ZaX DRule.len (hO.of (A := .row (.slice A3 R.length c3) 68 11 R.length (R.flatMap DRule.enc)) (by repeat' constructor)))) ?_)|(refine Zab (fun w' _=>huc w') ?_)|(refine Zab hno ?_)|(refine ZaM (fun w' hw hO=>hfa A3 c3 w' hw (ZaX DRule.len (hO.of (A := .row (.slice A3 R.length c3) 68 11 R.length (R.flatMap DRule.enc)) (by repeat' constructor)))) ?_)|(refine Zab hno2 ?_)|(refine stA ?_));first|refine⟨_,EndsA,ZgM,?_⟩|refine fin ?_)|(refine jn ?_;(try intro F);(first|(refine stA ?_)|(apply Zac;first|exact ZpM|exact PuA));first|refine⟨_,EndsA,ZgM,?_⟩|refine fin ?_));exact k9.out):G:=h ⟨k⟩
theorem ZtN {G:Prop}(h:G:=by(first|exact ZpM|(apply Zan;rfl;rfl;exact bk2))):G:=h
theorem Zwq {G:Prop}(h:G:=by first|(apply Qy_y;rfl;exact ZtN)|exact QyA):G:=h
theorem ZwR {G:Prop}(h:G:=by repeat (first|exact QF.nil|(apply QF.mk;rfl;rfl;decide +kernel;exact Zwq))):G:=h
set_option maxHeartbeats 4000000 in
theorem Znd (Ar Az Al As:Option Addr)(cr cz cl cs:Nat)(a:DSource)(Ae:Option Addr)(ce:Nat)(eras:List DEra)(k:Nat)(w:World)(hF:FarS)(hA:Zar w Ar Az Al As cr cz cl cs a)(hS:ZcK a)
  (hE:RdSl w Ae ce DEra.enc 13 eras) (hel:eras.length<=1000000) (hk:k<eras.length) (hp:∀ j,k=j+1->(ZaB (eras.getD j dE0).til (Zah (ZaE a.rules (eras.getD j dE0)))).2=0) :
  Does Tryz.prog 196 [srcV Ar Az Al As cr cz cl cs a,.slice Ae eras.length ce,.int .i64 k] w (fun v O=>v = .int .i64 (ZcI a.rules eras k)/\O=[]):=by
 have hn:=hS.nr
 obtain⟨hna,hca⟩:=hE.rd k _ (List.getElem?_eq_getElem hk)
 have hgd:eras.getD k dE0=eras[k]:=by rw[List.getD_eq_getElem?_getD,List.getElem?_eq_getElem hk];rfl
 unfold ZcI
 rw[hgd]
 dsimp only
 generalize eras[k]=e at *
 have hst:=fun w' (hw:Bel w.heap.size w w')=>Zdz Ar Az Al As cr cz cl cs a e w' (hA.up hw) hn
 have hle:=fun A3 c3 w' h=>ZcF A3 c3 (ZaE a.rules e) w' h
 have hRl:=Zd7 a.rules e
 have huc:=fun w'=>ZhH e.til (Zah (ZaE a.rules e)) w'
 have hno:=fun w' (hw:Bel w.heap.size w w')=>ZhA Ar Az Al As cr cz cl cs a e w' (hA.up hw) hn
 have hnb:=Zjh e.til (Zah (ZaE a.rules e))
 have hfa:=fun A3 c3 w' (hw:Bel w.heap.size w w') h=>ZrE A3 c3 (ZaE a.rules e) (ZaB e.til (Zah (ZaE a.rules e))).1 w' h (by omega) (by omega)
 rw[hF (ZaE a.rules e) (ZaB e.til (Zah (ZaE a.rules e))).1 hnb]
 generalize ZaE a.rules e=R at *
 generalize Zah R=least at *
 generalize ZaI e.til least=uc at *
 generalize farR R (ZaB e.til least).1=fr at *
 generalize ZaB e.til least=nm at *
 obtain⟨n,ne⟩:=nm
 dsimp only at hno hnb hfa ⊢
 obtain⟨off,kind,save,set,format,til⟩:=e
 dsimp only at huc hno hst ⊢
 simp only[DEra.enc]at hst hca hno
 obtain⟨is,year,month,⟨dk,dw,dd⟩,⟨us,ub⟩⟩:=til
 dsimp only at hst hca hno ⊢
 simp only[DUntil.enc]at huc
 obtain⟨ln,hln⟩:∃ ln:Int,(eras.length:Int) - 1=ln:=⟨_,rfl⟩
 have hdl:decide ((k:Int)=ln) = !decide (k+1<eras.length):=by
  by_cases h:k+1<eras.length
  ·rw[decide_eq_true h];exact decide_eq_false (by omega)
  ·rw[decide_eq_false h];exact decide_eq_true (by omega)
 generalize hlt:decide (k+1<eras.length)=lt at *
 refine Zaa Tryz.func196 rfl rfl rfl rfl ?_
 cases is with
 | false =>
  cases lt with
  | true =>
   rw[if_pos (by decide)]
   repeat (first|refine ZoE ?_|(refine jg ?_;(try intro F);(first|(apply Zae (h:=fun w' hw _=>hst w' hw);rfl;rintro v O' ⟨A3,c3,rfl,rfl⟩)|(refine bx ?_;intro bk));first|refine⟨_,EndsA,Ze5,?_⟩|refine fin ?_)|(refine jn ?_;(try intro F);(refine bx ?_;intro bk);first|refine⟨_,EndsA,Ze5,?_⟩|refine fin ?_)|(apply RD_W;rfl;intro bk))
   exact rtA
  | false =>
   rw[if_neg (by decide),if_pos rfl]
   repeat (first|refine ZoE ?_|(refine jg ?_;(try intro F);(first|(apply Zae (h:=fun w' hw _=>hst w' hw);rfl;rintro v O' ⟨A3,c3,rfl,rfl⟩)|(refine bx ?_;intro bk));first|refine⟨_,EndsA,Ze5,?_⟩|refine fin ?_)|(refine jn ?_;(try intro F);(refine bx ?_;intro bk);first|refine⟨_,EndsA,Ze5,?_⟩|refine fin ?_)|(apply RD_W;rfl;intro bk))
   exact rtA
 | true =>
 cases lt with
 | false =>
  rw[if_pos (by decide)]
  repeat (first|refine ZoE ?_|(refine jg ?_;(try intro F);(first|(apply Zae (h:=fun w' hw _=>hst w' hw);rfl;rintro v O' ⟨A3,c3,rfl,rfl⟩)|(refine bx ?_;intro bk));first|refine⟨_,EndsA,Ze5,?_⟩|refine fin ?_)|(refine jn ?_;(try intro F);(refine bx ?_;intro bk);first|refine⟨_,EndsA,Ze5,?_⟩|refine fin ?_)|(apply RD_W;rfl;intro bk))
  exact rtA
 | true =>
 rw[if_neg (by decide),if_neg (by decide)]
 by_cases hu:uc=0
 ·rw[if_neg (fun h=>h hu)]
  have bu:(!decide (uc=0))=false:=by rw[decide_eq_true hu];rfl
  cases k with
  | zero =>
   have bj:decide ((0:Int)<((0:Nat):Int))=false:=rfl
   rw[if_neg (by rintro⟨h,_⟩;omega)]
   by_cases hk2:kind=2
   ·subst hk2
    cases fr with
    | false =>
     rw[if_pos ⟨rfl,rfl⟩]
     repeat (first|refine ZvV ?_|(refine jg ?_;(try intro F);(first|(apply Zae (h:=fun w' hw _=>hst w' hw);rfl;rintro v O' ⟨A3,c3,rfl,rfl⟩)|(refine bx ?_;intro bk));first|refine⟨_,EndsA,ZjU,?_⟩|refine fin ?_)|(refine jn ?_;(try intro F);(refine bx ?_;intro bk);first|refine⟨_,EndsA,ZjU,?_⟩|refine fin ?_)|(apply RD_W;rfl;intro bk))
     exact rtA
    | true =>
     rw[if_neg (by rintro⟨_,h⟩;cases h)]
     repeat (first|refine ZvV ?_|(refine jg ?_;(try intro F);(first|(apply Zae (h:=fun w' hw _=>hst w' hw);rfl;rintro v O' ⟨A3,c3,rfl,rfl⟩)|(refine bx ?_;intro bk));first|refine⟨_,EndsA,ZjU,?_⟩|refine fin ?_)|(refine jn ?_;(try intro F);(refine bx ?_;intro bk);first|refine⟨_,EndsA,ZjU,?_⟩|refine fin ?_)|(apply RD_W;rfl;intro bk))
     exact rtA
   ·have bk2:decide (kind=2)=false:=decide_eq_false hk2
    rw[if_neg (fun h=>hk2 h.1)]
    repeat (first|refine und ?_|(apply RL_pu;rfl;exact ZtO)|(apply RD_Q;rfl;rfl;decide +kernel;rfl;rfl;exact Zws)|refine walk1 ?_|(refine jg ?_;(try intro F);(first|(apply Zae (h:=fun w' hw _=>hst w' hw);rfl;rintro v O' ⟨A3,c3,rfl,rfl⟩)|(refine ZaM (fun w' hw hO=>hle A3 c3 w' (ZaX DRule.len (hO.of (A := .row (.slice A3 R.length c3) 68 11 R.length (R.flatMap DRule.enc)) (by repeat' constructor)))) ?_)|(refine Zab (fun w' _=>huc w') ?_)|(refine Zab hno ?_)|(refine ZaM (fun w' hw hO=>hfa A3 c3 w' hw (ZaX DRule.len (hO.of (A := .row (.slice A3 R.length c3) 68 11 R.length (R.flatMap DRule.enc)) (by repeat' constructor)))) ?_)|(refine bx ?_;intro bk)|(refine stA ?_));first|refine⟨_,EndsA,ZwS,?_⟩|refine fin ?_)|(refine jn ?_;(try intro F);(first|(refine bx ?_;intro bk)|(refine stA ?_)|(apply Zac;first|exact ZtO|exact PuA));first|refine⟨_,EndsA,ZwS,?_⟩|refine fin ?_)|(apply RD_W;rfl;intro bk))
    exact rtA
  | succ j =>
   have bj:decide ((0:Int)<((j+1:Nat):Int))=true:=decide_eq_true (by omega)
   have hj:j<eras.length:=by omega
   obtain⟨hnb',hcb⟩:=hE.rd j _ (List.getElem?_eq_getElem hj)
   have hgj:eras.getD (j+1 - 1) dE0=eras[j]:=by rw[Nat.add_sub_cancel,List.getD_eq_getElem?_getD,List.getElem?_eq_getElem hj];rfl
   have hgj2:eras.getD j dE0=eras[j]:=hgj
   have hp1:=hp j rfl
   rw[hgj2]at hp1
   rw[hgj]
   generalize eras[j]=b at *
   have hkj:((j+1:Nat):Int) - 1=(j:Int):=by omega
   have hno2:=fun w' (hw:Bel w.heap.size w w')=>ZhA Ar Az Al As cr cz cl cs a b w' (hA.up hw) hn
   have hnb2:=Zjh b.til (Zah (ZaE a.rules b))
   generalize ZaB b.til (Zah (ZaE a.rules b))=nm2 at *
   obtain⟨n2,ne2⟩:=nm2
   dsimp only at hno2 hnb2 hp1 ⊢
   subst hp1
   obtain⟨off2,Zyi,save2,set2,format2,⟨is2,year2,month2,⟨dk2,dw2,dd2⟩,⟨us2,ub2⟩⟩⟩:=b
   simp only[DEra.enc]at hno2 hcb
   obtain⟨df,hdf⟩:∃ df,n - n2=df:=⟨_,rfl⟩
   rw[hdf]
   by_cases h3:df<259200
   ·have b3:decide (df<259200)=true:=decide_eq_true h3
    rw[if_pos ⟨by omega,.inr h3⟩]
    repeat (first|refine Zri ?_|(refine jg ?_;(try intro F);(first|(apply Zae (h:=fun w' hw _=>hst w' hw);rfl;rintro v O' ⟨A3,c3,rfl,rfl⟩)|(refine bx ?_;intro bk));first|refine⟨_,EndsA,ZgM,?_⟩|refine fin ?_)|(refine jn ?_;(try intro F);(refine bx ?_;intro bk);first|refine⟨_,EndsA,ZgM,?_⟩|refine fin ?_)|(apply RD_W;rfl;intro bk))
    exact rtA
   ·have b3:decide (df<259200)=false:=decide_eq_false h3
    rw[if_neg (by rintro⟨_,h|h⟩;exact h rfl;exact h3 h)]
    by_cases hk2:kind=2
    ·subst hk2
     cases fr with
     | false =>
      rw[if_pos ⟨rfl,rfl⟩]
      repeat (first|refine Zri ?_|(refine jg ?_;(try intro F);(first|(apply Zae (h:=fun w' hw _=>hst w' hw);rfl;rintro v O' ⟨A3,c3,rfl,rfl⟩)|(refine bx ?_;intro bk));first|refine⟨_,EndsA,ZgM,?_⟩|refine fin ?_)|(refine jn ?_;(try intro F);(refine bx ?_;intro bk);first|refine⟨_,EndsA,ZgM,?_⟩|refine fin ?_)|(apply RD_W;rfl;intro bk))
      exact rtA
     | true =>
      rw[if_neg (by rintro⟨_,h⟩;cases h)]
      repeat (first|refine Zri ?_|(refine jg ?_;(try intro F);(first|(apply Zae (h:=fun w' hw _=>hst w' hw);rfl;rintro v O' ⟨A3,c3,rfl,rfl⟩)|(refine bx ?_;intro bk));first|refine⟨_,EndsA,ZgM,?_⟩|refine fin ?_)|(refine jn ?_;(try intro F);(refine bx ?_;intro bk);first|refine⟨_,EndsA,ZgM,?_⟩|refine fin ?_)|(apply RD_W;rfl;intro bk))
      exact rtA
    ·have bk2:decide (kind=2)=false:=decide_eq_false hk2
     rw[if_neg (fun h=>hk2 h.1)]
     repeat (first|refine und ?_|(apply RL_pu;rfl;exact ZtN)|(apply RD_Q;rfl;rfl;decide +kernel;rfl;rfl;exact Zwq)|refine walk1 ?_|(refine jg ?_;(try intro F);(first|(apply Zae (h:=fun w' hw _=>hst w' hw);rfl;rintro v O' ⟨A3,c3,rfl,rfl⟩)|(refine ZaM (fun w' hw hO=>hle A3 c3 w' (ZaX DRule.len (hO.of (A := .row (.slice A3 R.length c3) 68 11 R.length (R.flatMap DRule.enc)) (by repeat' constructor)))) ?_)|(refine Zab (fun w' _=>huc w') ?_)|(refine Zab hno ?_)|(refine ZaM (fun w' hw hO=>hfa A3 c3 w' hw (ZaX DRule.len (hO.of (A := .row (.slice A3 R.length c3) 68 11 R.length (R.flatMap DRule.enc)) (by repeat' constructor)))) ?_)|(refine Zab hno2 ?_)|(refine bx ?_;intro bk)|(refine stA ?_));first|refine⟨_,EndsA,ZwR,?_⟩|refine fin ?_)|(refine jn ?_;(try intro F);(first|(refine bx ?_;intro bk)|(refine stA ?_)|(apply Zac;first|exact ZtN|exact PuA));first|refine⟨_,EndsA,ZwR,?_⟩|refine fin ?_)|(apply RD_W;rfl;intro bk))
     exact rtA
 ·rw[if_pos hu]
  have bu:(!decide (uc=0))=true:=by rw[decide_eq_false hu];rfl
  repeat (first|refine ZoE ?_|(refine jg ?_;(try intro F);(first|(apply Zae (h:=fun w' hw _=>hst w' hw);rfl;rintro v O' ⟨A3,c3,rfl,rfl⟩)|(refine bx ?_;intro bk));first|refine⟨_,EndsA,Ze5,?_⟩|refine fin ?_)|(refine jn ?_;(try intro F);(refine bx ?_;intro bk);first|refine⟨_,EndsA,Ze5,?_⟩|refine fin ?_)|(apply RD_W;rfl;intro bk))
  exact rtA
end Go.Proofs.YtpipekfmecikmaaGreatDoor
