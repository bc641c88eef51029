/- Parts of the proof. -/
import Derived.Test.YtpipekfmecikmaaGreatDoorV18
set_option maxHeartbeats 4000000
set_option linter.unusedVariables false
set_option linter.unusedSimpArgs false
namespace Go.Wk
open Go Go.RowKit
theorem Zgm {P:Program}{n:Nat}{wr:World}{fr:Fr}{O:List It}{ty t t':TypeId}{x y:Operand}{i j m:Int}(hx:ev fr x=some (.int .i64 i))(hy:ev fr y=some (.int .i64 j))(hm:i - j=m)(h : -9223372036854775808<=m/\m<=9223372036854775807):Pu P n wr fr O (.binOp .sub t x y t') ty (.int .i64 m):=hm▸Pu_sub' hx hy (hm▸h)
end Go.Wk
namespace Go.Proofs.YtpipekfmecikmaaGreatDoor
open Go Go.RowKit Go.Wk
attribute [local irreducible] W RL Does Zat Zaj retQ Calls Pu Stp RD Qy Ay Zak
theorem Zr6 (u:DUntil)(least:Int) : -200000000000000000<=(ZaB u least).1/\(ZaB u least).1<=200000000000000000:=by
 unfold ZaB
 split
 ·exact⟨by dsimp only;omega,by dsimp only;omega⟩
 ·rename_i h
  have h0:ZaI u least=0:=Decidable.not_not.1 h
  have hb:=Zgz u.year u.month u.day
  unfold ZaI at h0
  dsimp only at h0 ⊢
  repeat' split at h0
  all_goals first|(exfalso;omega)|(split <;> omega)
theorem Zv5 {u:DUntil}{least:Int}(h:ZaI u least=0):(ZaB u least).2=0:=by
 unfold ZaB
 rw[if_neg (fun hh=>hh h)]
theorem ZuJ {w:World}{ad:Addr}{e:DEra}(h:Zau w ad e.enc):Zau w (ad.add 5) (DUntil.enc e.til):=fun j v hj=>by
 rw[Zbo]
 refine h (5+j) v ?_
 rw[show DEra.enc e=[.int .i64 e.off,.int .i64 e.kind,.int .i64 e.save,.string e.set,.string e.format]++DUntil.enc e.til from rfl,List.getElem?_append_right (by simp)]
 simpa using hj
theorem Zgl.rs {s:DSource}(h:Zgl s)(e:DEra):RsOk (ZaE s.rules e):=fun r hr=>h r (Zdb hr)
theorem ZdP {G:Prop}(h:G:=by(first|exact PuI|(apply Pu_loadON;rfl;exact hcu;rfl)|(apply Zgm;rfl;rfl;exact hln;omega)|(apply Zgm;rfl;rfl;exact hkj;omega)|(apply Zaz;rfl;rfl;exact hdl))):G:=h
theorem Zoc {G:Prop}(h:G:=by first|(apply Qy_y;rfl;exact ZdP)|exact QyA):G:=h
theorem Zc7 {G:Prop}(h:G:=by repeat (first|exact QF.nil|(apply QF.mk;rfl;rfl;decide +kernel;exact Zoc))):G:=h
theorem ZmQ {G G':Prop}(k:G')(h:Hold G'->G:=by intro k9;(first|refine und ?_|(apply RL_pu;rfl;exact ZdP)|(apply RD_Q;rfl;rfl;decide +kernel;rfl;rfl;exact Zoc)|refine walk1 ?_|(refine jn ?_;(try intro F);(first|(refine stA ?_)|(apply Zac;first|exact ZdP|exact PuA));first|refine⟨_,EndsA,Zc7,?_⟩|refine fin ?_));exact k9.out):G:=h ⟨k⟩
theorem Zrm {G G':Prop}(k:G')(h:Hold G'->G:=by intro k9;(first|refine und ?_|(apply RL_pu;rfl;exact ZdP)|(apply RD_Q;rfl;rfl;decide +kernel;rfl;rfl;exact Zoc)|refine walk1 ?_|(refine jg ?_;(try intro F);(first|(refine ZaM (fun w' hw hO=>hle A3 c3 w' (ZaX DRule.len (hO.of (A := .row (.slice A3 R.length c3) 68 11 R.length (R.flatMap DRule.enc)) (by repeat' constructor)))) ?_)|(refine Zab huc ?_)|(refine Zab hno ?_)|(refine ZaM (fun w' hw hO=>hfa A3 c3 w' hw (ZaX DRule.len (hO.of (A := .row (.slice A3 R.length c3) 68 11 R.length (R.flatMap DRule.enc)) (by repeat' constructor)))) ?_)|(refine stA ?_));first|refine⟨_,EndsA,Zc7,?_⟩|refine fin ?_)|(refine jn ?_;(try intro F);(first|(refine stA ?_)|(apply Zac;first|exact ZdP|exact PuA));first|refine⟨_,EndsA,Zc7,?_⟩|refine fin ?_));exact k9.out):G:=h ⟨k⟩
theorem Zot {G:Prop}(h:G:=by(first|exact ZdP|(apply Zan;rfl;rfl;exact bk2))):G:=h
theorem Ztr {G:Prop}(h:G:=by first|(apply Qy_y;rfl;exact Zot)|exact QyA):G:=h
theorem Ztw {G:Prop}(h:G:=by repeat (first|exact QF.nil|(apply QF.mk;rfl;rfl;decide +kernel;exact Ztr))):G:=h
theorem ZkT {G:Prop}(h:G:=by(first|exact ZdP|(apply Zaw;rfl;rfl;exact bj)|(apply Zgm;rfl;rfl;exact hdf;omega)|(apply Zaz;rfl;rfl;exact b3))):G:=h
theorem Ztq {G:Prop}(h:G:=by first|(apply Qy_y;rfl;exact ZkT)|exact QyA):G:=h
theorem Zev {G:Prop}(h:G:=by repeat (first|exact QF.nil|(apply QF.mk;rfl;rfl;decide +kernel;exact Ztq))):G:=h
theorem ZmP {G G':Prop}(k:G')(h:Hold G'->G:=by intro k9;(first|refine und ?_|(apply RL_pu;rfl;exact ZkT)|(apply RD_Q;rfl;rfl;decide +kernel;rfl;rfl;exact Ztq)|refine walk1 ?_|(refine jg ?_;(try intro F);(first|(refine ZaM (fun w' hw hO=>hle A3 c3 w' (ZaX DRule.len (hO.of (A := .row (.slice A3 R.length c3) 68 11 R.length (R.flatMap DRule.enc)) (by repeat' constructor)))) ?_)|(refine Zab huc ?_)|(refine Zab hno ?_)|(refine ZaM (fun w' hw hO=>hfa A3 c3 w' hw (ZaX DRule.len (hO.of (A := .row (.slice A3 R.length c3) 68 11 R.length (R.flatMap DRule.enc)) (by repeat' constructor)))) ?_)|(refine ZaM (fun w' hw hO=>hle2 A4 c4 w' (ZaX DRule.len (hO.of (A := .row (.slice A4 R2.length c4) 68 11 R2.length (R2.flatMap DRule.enc)) (by repeat' constructor)))) ?_)|(refine Zab hno2 ?_)|(refine stA ?_));first|refine⟨_,EndsA,Zev,?_⟩|refine fin ?_)|(refine jn ?_;(try intro F);(first|(refine stA ?_)|(apply Zac;first|exact ZkT|exact PuA));first|refine⟨_,EndsA,Zev,?_⟩|refine fin ?_));exact k9.out):G:=h ⟨k⟩
theorem Zos {G:Prop}(h:G:=by(first|exact ZkT|(apply Zan;rfl;rfl;exact bk2))):G:=h
theorem Ztp {G:Prop}(h:G:=by first|(apply Qy_y;rfl;exact Zos)|exact QyA):G:=h
theorem Ztv {G:Prop}(h:G:=by repeat (first|exact QF.nil|(apply QF.mk;rfl;rfl;decide +kernel;exact Ztp))):G:=h
theorem Zor {G:Prop}(h:G:=by(first|exact ZdP|(apply Zaw;rfl;rfl;exact bj)|(apply Zal;rfl;rfl;exact b2))):G:=h
theorem Zto {G:Prop}(h:G:=by first|(apply Qy_y;rfl;exact Zor)|exact QyA):G:=h
theorem Ztu {G:Prop}(h:G:=by repeat (first|exact QF.nil|(apply QF.mk;rfl;rfl;decide +kernel;exact Zto))):G:=h
theorem Zoq {G:Prop}(h:G:=by(first|exact ZdP|(apply Zal;rfl;rfl;exact bu))):G:=h
theorem Ztn {G:Prop}(h:G:=by first|(apply Qy_y;rfl;exact Zoq)|exact QyA):G:=h
theorem Ztt {G:Prop}(h:G:=by repeat (first|exact QF.nil|(apply QF.mk;rfl;rfl;decide +kernel;exact Ztn))):G:=h
set_option maxHeartbeats 2000000 in
theorem Zsg (Ar Az Al As:Option Addr)(cr cz cl cs:Nat)(a:DSource)(Ae:Option Addr)(ce:Nat)(eras:List DEra)(k:Nat)(w:World)(hG:Glob w)(hA:Zar w Ar Az Al As cr cz cl cs a)(hS:ZcK a)(hV:Zgl a)
  (hE:RdSl w Ae ce DEra.enc 13 eras) (hel:eras.length<=1000000) (hk:k<eras.length) :
  Does Tryz.prog 183 [srcV Ar Az Al As cr cz cl cs a,.slice Ae eras.length ce,.int .i64 k] w (fun v O=>v = .int .i64 (ZcI a.rules eras k)/\O=[]):=by
 have hn:=hS.nr
 obtain⟨hna,hca⟩:=hE.rd k _ (List.getElem?_eq_getElem hk)
 have hgd:eras.getD k dE0=eras[k]:=by rw[List.getD_eq_getElem?_getD,List.getElem?_eq_getElem hk];rfl
 unfold ZcI
 rw[hgd]
 dsimp only
 generalize eras[k]=e at *
 have hst:=fun w' (hw:Bel w.heap.size w w')=>Zfz Ar Az Al As cr cz cl cs a e w' (hA.up hw) hn
 have hle:=fun A3 c3 w' h=>Zdh A3 c3 (ZaE a.rules e) w' h
 have hRl:=Zd7 a.rules e
 have hRs:=hV.rs e
 have huc:=fun w' (hw:Bel w.heap.size w w')=>Zhn e.til (Zah (ZaE a.rules e)) w' (hG.up hw)
 have hno:=fun w' (hw:Bel w.heap.size w w')=>ZgA e.til (Zah (ZaE a.rules e)) w' (hG.up hw)
 have hnb:=Zr6 e.til (Zah (ZaE a.rules e))
 have hn0 := @Zv5 e.til (Zah (ZaE a.rules e))
 have hfa:=fun A3 c3 w' (hw:Bel w.heap.size w w') h=>Zvw A3 c3 (ZaE a.rules e) (ZaB e.til (Zah (ZaE a.rules e))).1 w' (hG.up hw) h (by omega) hRs (by omega)
 generalize ZaE a.rules e=R at *
 generalize hLT:Zah R=least at *
 generalize ZaI e.til least=uc at *
 generalize farD R (ZaB e.til least).1=fr at *
 generalize ZaB e.til least=nm at *
 obtain⟨n,ne⟩:=nm
 dsimp only at hno hnb hn0 hfa ⊢
 obtain⟨off,kind,save,set,format,til⟩:=e
 dsimp only at huc hno hst ⊢
 simp only[DEra.enc]at hst hca
 obtain⟨is,year,month,⟨dk,dw,dd⟩,⟨us,ub⟩⟩:=til
 dsimp only at hst hca ⊢
 simp only[DUntil.enc]at huc hno
 obtain⟨ln,hln⟩:∃ ln:Int,(eras.length:Int) - 1=ln:=⟨_,rfl⟩
 have hdl:decide ((k:Int)<ln)=decide (k+1<eras.length):=by rw[decide_eq_decide];omega
 generalize hlt:decide (k+1<eras.length)=lt at *
 refine Zaa Tryz.func183 rfl rfl rfl rfl ?_
 have hcb:=hca
 have hcu:=hca
 have hkj:(k:Int) - 0=k:=by omega
 cases is with
 | false =>
  cases lt with
  | true =>
   rw[if_pos (by decide)]
   repeat (first|refine ZmQ ?_|(refine jn ?_;(try intro F);(refine bx ?_;intro bk);first|refine⟨_,EndsA,Zc7,?_⟩|refine fin ?_)|(apply RD_W;rfl;intro bk))
   exact rtA
  | false =>
   rw[if_neg (by decide),if_pos rfl]
   repeat (first|refine ZmQ ?_|(refine jn ?_;(try intro F);(refine bx ?_;intro bk);first|refine⟨_,EndsA,Zc7,?_⟩|refine fin ?_)|(apply RD_W;rfl;intro bk))
   exact rtA
 | true =>
 cases lt with
 | false =>
  rw[if_pos (by decide)]
  repeat (first|refine ZmQ ?_|(refine jn ?_;(try intro F);(refine bx ?_;intro bk);first|refine⟨_,EndsA,Zc7,?_⟩|refine fin ?_)|(apply RD_W;rfl;intro bk))
  exact rtA
 | true =>
 rw[if_neg (by decide),if_neg (by decide)]
 by_cases hu:uc=0
 ·rw[if_neg (fun h=>h hu)]
  have hne:ne=0:=hn0 hu
  subst hu hne
  cases k with
  | zero =>
   rw[if_neg (by rintro⟨h,_⟩;omega)]
   clear hcb hcu
   by_cases hk2:kind=2
   ·subst hk2
    cases fr with
    | false =>
     rw[if_pos ⟨rfl,rfl⟩]
     repeat (first|refine Zrm ?_|(refine jg ?_;(try intro F);(first|(apply Zae (h:=fun w' hw _=>hst w' hw);rfl;rintro v O' ⟨A3,c3,rfl,rfl⟩)|(refine bx ?_;intro bk));first|refine⟨_,EndsA,Zc7,?_⟩|refine fin ?_)|(refine jn ?_;(try intro F);(refine bx ?_;intro bk);first|refine⟨_,EndsA,Zc7,?_⟩|refine fin ?_)|(apply RD_W;rfl;intro bk))
     exact rtA
    | true =>
     rw[if_neg (by rintro⟨_,h⟩;cases h)]
     repeat (first|refine Zrm ?_|(refine jg ?_;(try intro F);(first|(apply Zae (h:=fun w' hw _=>hst w' hw);rfl;rintro v O' ⟨A3,c3,rfl,rfl⟩)|(refine bx ?_;intro bk));first|refine⟨_,EndsA,Zc7,?_⟩|refine fin ?_)|(refine jn ?_;(try intro F);(refine bx ?_;intro bk);first|refine⟨_,EndsA,Zc7,?_⟩|refine fin ?_)|(apply RD_W;rfl;intro bk))
     exact rtA
   ·have bk2:decide (kind=2)=false:=decide_eq_false hk2
    rw[if_neg (fun h=>hk2 h.1)]
    repeat (first|refine und ?_|(apply RL_pu;rfl;exact Zot)|(apply RD_Q;rfl;rfl;decide +kernel;rfl;rfl;exact Ztr)|refine walk1 ?_|(refine jg ?_;(try intro F);(first|(apply Zae (h:=fun w' hw _=>hst w' hw);rfl;rintro v O' ⟨A3,c3,rfl,rfl⟩)|(refine ZaM (fun w' hw hO=>hle A3 c3 w' (ZaX DRule.len (hO.of (A := .row (.slice A3 R.length c3) 68 11 R.length (R.flatMap DRule.enc)) (by repeat' constructor)))) ?_)|(refine Zab huc ?_)|(refine Zab hno ?_)|(refine ZaM (fun w' hw hO=>hfa A3 c3 w' hw (ZaX DRule.len (hO.of (A := .row (.slice A3 R.length c3) 68 11 R.length (R.flatMap DRule.enc)) (by repeat' constructor)))) ?_)|(refine bx ?_;intro bk)|(refine stA ?_));first|refine⟨_,EndsA,Ztw,?_⟩|refine fin ?_)|(refine jn ?_;(try intro F);(first|(refine bx ?_;intro bk)|(refine stA ?_)|(apply Zac;first|exact Zot|exact PuA));first|refine⟨_,EndsA,Ztw,?_⟩|refine fin ?_)|(apply RD_W;rfl;intro bk))
    exact rtA
  | succ j =>
   have bj:decide ((0:Int)<((j+1:Nat):Int))=true:=decide_eq_true (by omega)
   clear hcb hcu hkj
   have hj:j<eras.length:=by omega
   obtain⟨hnb',hcb⟩:=hE.rd j _ (List.getElem?_eq_getElem hj)
   have hgj:eras.getD (j+1 - 1) dE0=eras[j]:=by rw[Nat.add_sub_cancel,List.getD_eq_getElem?_getD,List.getElem?_eq_getElem hj];rfl
   rw[hgj]
   generalize eras[j]=b at *
   have hcu:=ZuJ hcb
   have hkj:((j+1:Nat):Int) - 1=(j:Int):=by omega
   have hst2:=fun w' (hw:Bel w.heap.size w w')=>Zfz Ar Az Al As cr cz cl cs a b w' (hA.up hw) hn
   have hle2:=fun A3 c3 w' h=>Zdh A3 c3 (ZaE a.rules b) w' h
   have hno2:=fun w' (hw:Bel w.heap.size w w')=>ZgA b.til (Zah (ZaE a.rules b)) w' (hG.up hw)
   have hnb2:=Zr6 b.til (Zah (ZaE a.rules b))
   generalize ZaE a.rules b=R2 at *
   generalize Zah R2=least2 at *
   generalize ZaB b.til least2=nm2 at *
   obtain⟨n2,ne2⟩:=nm2
   obtain⟨off2,Zyi,save2,set2,format2,⟨is2,year2,month2,⟨dk2,dw2,dd2⟩,⟨us2,ub2⟩⟩⟩:=b
   dsimp only at hno2 hnb2 hst2 hcu ⊢
   simp only[DEra.enc]at hst2 hcb
   simp only[DUntil.enc]at hno2 hcu
   by_cases h2:ne2=0
   ·subst h2
    obtain⟨df,hdf⟩:∃ df,n - n2=df:=⟨_,rfl⟩
    rw[hdf]
    by_cases h3:df<259200
    ·have b3:decide (df<259200)=true:=decide_eq_true h3
     rw[if_pos ⟨by omega,.inr h3⟩]
     repeat (first|refine ZmP ?_|(refine jg ?_;(try intro F);(first|(apply Zae (h:=fun w' hw _=>hst w' hw);rfl;rintro v O' ⟨A3,c3,rfl,rfl⟩)|(apply Zae (h:=fun w' hw _=>hst2 w' hw);rfl;rintro v O' ⟨A4,c4,rfl,rfl⟩)|(refine bx ?_;intro bk));first|refine⟨_,EndsA,Zev,?_⟩|refine fin ?_)|(refine jn ?_;(try intro F);(refine bx ?_;intro bk);first|refine⟨_,EndsA,Zev,?_⟩|refine fin ?_)|(apply RD_W;rfl;intro bk))
     exact rtA
    ·have b3:decide (df<259200)=false:=decide_eq_false h3
     rw[if_neg (by rintro⟨_,h|h⟩;exact h rfl;exact h3 h)]
     by_cases hk2:kind=2
     ·subst hk2
      cases fr with
      | false =>
       rw[if_pos ⟨rfl,rfl⟩]
       repeat (first|refine ZmP ?_|(refine jg ?_;(try intro F);(first|(apply Zae (h:=fun w' hw _=>hst w' hw);rfl;rintro v O' ⟨A3,c3,rfl,rfl⟩)|(apply Zae (h:=fun w' hw _=>hst2 w' hw);rfl;rintro v O' ⟨A4,c4,rfl,rfl⟩)|(refine bx ?_;intro bk));first|refine⟨_,EndsA,Zev,?_⟩|refine fin ?_)|(refine jn ?_;(try intro F);(refine bx ?_;intro bk);first|refine⟨_,EndsA,Zev,?_⟩|refine fin ?_)|(apply RD_W;rfl;intro bk))
       exact rtA
      | true =>
       rw[if_neg (by rintro⟨_,h⟩;cases h)]
       repeat (first|refine ZmP ?_|(refine jg ?_;(try intro F);(first|(apply Zae (h:=fun w' hw _=>hst w' hw);rfl;rintro v O' ⟨A3,c3,rfl,rfl⟩)|(apply Zae (h:=fun w' hw _=>hst2 w' hw);rfl;rintro v O' ⟨A4,c4,rfl,rfl⟩)|(refine bx ?_;intro bk));first|refine⟨_,EndsA,Zev,?_⟩|refine fin ?_)|(refine jn ?_;(try intro F);(refine bx ?_;intro bk);first|refine⟨_,EndsA,Zev,?_⟩|refine fin ?_)|(apply RD_W;rfl;intro bk))
       exact rtA
     ·have bk2:decide (kind=2)=false:=decide_eq_false hk2
      rw[if_neg (fun h=>hk2 h.1)]
      repeat (first|refine und ?_|(apply RL_pu;rfl;exact Zos)|(apply RD_Q;rfl;rfl;decide +kernel;rfl;rfl;exact Ztp)|refine walk1 ?_|(refine jg ?_;(try intro F);(first|(apply Zae (h:=fun w' hw _=>hst w' hw);rfl;rintro v O' ⟨A3,c3,rfl,rfl⟩)|(refine ZaM (fun w' hw hO=>hle A3 c3 w' (ZaX DRule.len (hO.of (A := .row (.slice A3 R.length c3) 68 11 R.length (R.flatMap DRule.enc)) (by repeat' constructor)))) ?_)|(refine Zab huc ?_)|(refine Zab hno ?_)|(refine ZaM (fun w' hw hO=>hfa A3 c3 w' hw (ZaX DRule.len (hO.of (A := .row (.slice A3 R.length c3) 68 11 R.length (R.flatMap DRule.enc)) (by repeat' constructor)))) ?_)|(apply Zae (h:=fun w' hw _=>hst2 w' hw);rfl;rintro v O' ⟨A4,c4,rfl,rfl⟩)|(refine ZaM (fun w' hw hO=>hle2 A4 c4 w' (ZaX DRule.len (hO.of (A := .row (.slice A4 R2.length c4) 68 11 R2.length (R2.flatMap DRule.enc)) (by repeat' constructor)))) ?_)|(refine Zab hno2 ?_)|(refine bx ?_;intro bk)|(refine stA ?_));first|refine⟨_,EndsA,Ztv,?_⟩|refine fin ?_)|(refine jn ?_;(try intro F);(first|(refine bx ?_;intro bk)|(refine stA ?_)|(apply Zac;first|exact Zos|exact PuA));first|refine⟨_,EndsA,Ztv,?_⟩|refine fin ?_)|(apply RD_W;rfl;intro bk))
      exact rtA
   ·have b2:(!decide (ne2=0))=true:=by rw[decide_eq_false h2];rfl
    rw[if_pos ⟨by omega,.inl h2⟩]
    repeat (first|refine und ?_|(apply RL_pu;rfl;exact Zor)|(apply RD_Q;rfl;rfl;decide +kernel;rfl;rfl;exact Zto)|refine walk1 ?_|(refine jg ?_;(try intro F);(first|(apply Zae (h:=fun w' hw _=>hst w' hw);rfl;rintro v O' ⟨A3,c3,rfl,rfl⟩)|(refine ZaM (fun w' hw hO=>hle A3 c3 w' (ZaX DRule.len (hO.of (A := .row (.slice A3 R.length c3) 68 11 R.length (R.flatMap DRule.enc)) (by repeat' constructor)))) ?_)|(refine Zab huc ?_)|(refine Zab hno ?_)|(refine ZaM (fun w' hw hO=>hfa A3 c3 w' hw (ZaX DRule.len (hO.of (A := .row (.slice A3 R.length c3) 68 11 R.length (R.flatMap DRule.enc)) (by repeat' constructor)))) ?_)|(apply Zae (h:=fun w' hw _=>hst2 w' hw);rfl;rintro v O' ⟨A4,c4,rfl,rfl⟩)|(refine ZaM (fun w' hw hO=>hle2 A4 c4 w' (ZaX DRule.len (hO.of (A := .row (.slice A4 R2.length c4) 68 11 R2.length (R2.flatMap DRule.enc)) (by repeat' constructor)))) ?_)|(refine Zab hno2 ?_)|(refine bx ?_;intro bk)|(refine stA ?_));first|refine⟨_,EndsA,Ztu,?_⟩|refine fin ?_)|(refine jn ?_;(try intro F);(first|(refine bx ?_;intro bk)|(refine stA ?_)|(apply Zac;first|exact Zor|exact PuA));first|refine⟨_,EndsA,Ztu,?_⟩|refine fin ?_)|(apply RD_W;rfl;intro bk))
    exact rtA
 ·rw[if_pos hu]
  have bu:(!decide (uc=0))=true:=by rw[decide_eq_false hu];rfl
  repeat (first|refine und ?_|(apply RL_pu;rfl;exact Zoq)|(apply RD_Q;rfl;rfl;decide +kernel;rfl;rfl;exact Ztn)|refine walk1 ?_|(refine jg ?_;(try intro F);(first|(apply Zae (h:=fun w' hw _=>hst w' hw);rfl;rintro v O' ⟨A3,c3,rfl,rfl⟩)|(refine ZaM (fun w' hw hO=>hle A3 c3 w' (ZaX DRule.len (hO.of (A := .row (.slice A3 R.length c3) 68 11 R.length (R.flatMap DRule.enc)) (by repeat' constructor)))) ?_)|(refine Zab huc ?_)|(refine bx ?_;intro bk)|(refine stA ?_));first|refine⟨_,EndsA,Ztt,?_⟩|refine fin ?_)|(refine jn ?_;(try intro F);(first|(refine bx ?_;intro bk)|(refine stA ?_)|(apply Zac;first|exact Zoq|exact PuA));first|refine⟨_,EndsA,Ztt,?_⟩|refine fin ?_)|(apply RD_W;rfl;intro bk))
  exact rtA
end Go.Proofs.YtpipekfmecikmaaGreatDoor
