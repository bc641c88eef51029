/- Parts of the proof. -/
import Derived.Test.YtpipekfmecikmaaGreatDoorW20
set_option maxHeartbeats 4000000
set_option linter.unusedVariables false
set_option linter.unusedSimpArgs false
namespace Go.Wk
open Go Go.RowKit
theorem ZgK {P:Program}{n:Nat}{wr:World}{fr:Fr}{O:List It}{ty t t':TypeId}{x y:Operand}{i j m:Int}(b:ev fr x=some (.int .i64 i))(c:ev fr y=some (.int .i64 j))(a:i - j=m)(h : -9223372036854775808<=m/\m<=9223372036854775807):Pu P n wr fr O (.binOp .sub t x y t') ty (.int .i64 m):=a▸Pu_sub' b c (a▸h)
end Go.Wk
namespace Go.Proofs.YtpipekfmecikmaaGreatDoor
open Go Go.RowKit Go.Wk
attribute [local irreducible] W RL Does Zat Zaj retQ Calls Pu Stp RD Qy Ay Zak
theorem Ztk (u:DUntil)(least:Int) : -200000000000000000<=(Zao u least).1/\(Zao u least).1<=200000000000000000:=by
 unfold Zao
 split
 ·exact⟨by dsimp only;omega,by dsimp only;omega⟩
 ·rename_i h
  have a:ZaD u least=0:=Decidable.not_not.1 h
  have b:=Zem u.year u.month u.day
  unfold ZaD at a
  dsimp only at a ⊢
  repeat' split at a
  all_goals first|(exfalso;omega)|(split <;> omega)
theorem Zxw {u:DUntil}{least:Int}(h:ZaD u least=0):(Zao u least).2=0:=by
 unfold Zao
 rw[if_neg (fun a=>a h)]
theorem Zwb {w:World}{ad:Addr}{e:DEra}(h:Zau w ad e.enc):Zau w (ad.add 5) (DUntil.enc e.til):=fun j v a=>by
 rw[ZbB]
 refine h (5+j) v ?_
 rw[show DEra.enc e=[.int .i64 e.off,.int .i64 e.kind,.int .i64 e.save,.string e.set,.string e.format]++DUntil.enc e.til from rfl,List.getElem?_append_right (by simp)]
 simpa using a
theorem ZgJ.rs {s:DSource}(h:ZgJ s)(e:DEra):RsOk (ZaA s.rules e):=fun r a=>h r (Zdv a)
theorem Zd1 {G:Prop}(h:G:=by(first|exact PuI|(apply Pu_loadON;rfl;exact hcu;rfl)|(apply ZgK;rfl;rfl;exact hln;omega)|(apply ZgK;rfl;rfl;exact hkj;omega)|(apply Zaw;rfl;rfl;exact hdl))):G:=h
theorem Zpc {G:Prop}(h:G:=by first|(apply Qy_y;rfl;exact Zd1)|exact QyA):G:=h
theorem Zdr {G:Prop}(h:G:=by repeat (first|exact QF.nil|(apply QF.mk;rfl;rfl;decide +kernel;exact Zpc))):G:=h
theorem ZnW {G G':Prop}(k:G')(h:Hold G'->G:=by intro k9;(first|refine und ?_|(apply RL_pu;rfl;exact Zd1)|(apply RD_Q;rfl;rfl;decide +kernel;rfl;rfl;exact Zpc)|refine walk1 ?_|(refine jn ?_;(try intro F);(first|(refine stA ?_)|(apply Zad;first|exact Zd1|exact PuA));first|refine⟨_,EndsA,Zdr,?_⟩|refine fin ?_));exact k9.out):G:=h ⟨k⟩
theorem ZsD {G G':Prop}(k:G')(h:Hold G'->G:=by intro k9;(first|refine und ?_|(apply RL_pu;rfl;exact Zd1)|(apply RD_Q;rfl;rfl;decide +kernel;rfl;rfl;exact Zpc)|refine walk1 ?_|(refine jg ?_;(try intro F);(first|(refine ZaH (fun w' hw hO=>hle A3 c3 w' (ZaP DRule.len (hO.of (A := .row (.slice A3 R.length c3) 68 11 R.length (R.flatMap DRule.enc)) (by repeat' constructor)))) ?_)|(refine Zab huc ?_)|(refine Zab hno ?_)|(refine ZaH (fun w' hw hO=>hfa A3 c3 w' hw (ZaP DRule.len (hO.of (A := .row (.slice A3 R.length c3) 68 11 R.length (R.flatMap DRule.enc)) (by repeat' constructor)))) ?_)|(refine stA ?_));first|refine⟨_,EndsA,Zdr,?_⟩|refine fin ?_)|(refine jn ?_;(try intro F);(first|(refine stA ?_)|(apply Zad;first|exact Zd1|exact PuA));first|refine⟨_,EndsA,Zdr,?_⟩|refine fin ?_));exact k9.out):G:=h ⟨k⟩
theorem Zpt {G:Prop}(h:G:=by(first|exact Zd1|(apply Zap;rfl;rfl;exact bk2))):G:=h
theorem ZuQ {G:Prop}(h:G:=by first|(apply Qy_y;rfl;exact Zpt)|exact QyA):G:=h
theorem ZuV {G:Prop}(h:G:=by repeat (first|exact QF.nil|(apply QF.mk;rfl;rfl;decide +kernel;exact ZuQ))):G:=h
theorem ZlG {G:Prop}(h:G:=by(first|exact Zd1|(apply Zay;rfl;rfl;exact bj)|(apply ZgK;rfl;rfl;exact hdf;omega)|(apply Zaw;rfl;rfl;exact b3))):G:=h
theorem ZuP {G:Prop}(h:G:=by first|(apply Qy_y;rfl;exact ZlG)|exact QyA):G:=h
theorem ZeH {G:Prop}(h:G:=by repeat (first|exact QF.nil|(apply QF.mk;rfl;rfl;decide +kernel;exact ZuP))):G:=h
theorem ZnV {G G':Prop}(k:G')(h:Hold G'->G:=by intro k9;(first|refine und ?_|(apply RL_pu;rfl;exact ZlG)|(apply RD_Q;rfl;rfl;decide +kernel;rfl;rfl;exact ZuP)|refine walk1 ?_|(refine jg ?_;(try intro F);(first|(refine ZaH (fun w' hw hO=>hle A3 c3 w' (ZaP DRule.len (hO.of (A := .row (.slice A3 R.length c3) 68 11 R.length (R.flatMap DRule.enc)) (by repeat' constructor)))) ?_)|(refine Zab huc ?_)|(refine Zab hno ?_)|(refine ZaH (fun w' hw hO=>hfa A3 c3 w' hw (ZaP DRule.len (hO.of (A := .row (.slice A3 R.length c3) 68 11 R.length (R.flatMap DRule.enc)) (by repeat' constructor)))) ?_)|(refine ZaH (fun w' hw hO=>hle2 A4 c4 w' (ZaP DRule.len (hO.of (A := .row (.slice A4 R2.length c4) 68 11 R2.length (R2.flatMap DRule.enc)) (by repeat' constructor)))) ?_)|(refine Zab hno2 ?_)|(refine stA ?_));first|refine⟨_,EndsA,ZeH,?_⟩|refine fin ?_)|(refine jn ?_;(try intro F);(first|(refine stA ?_)|(apply Zad;first|exact ZlG|exact PuA));first|refine⟨_,EndsA,ZeH,?_⟩|refine fin ?_));exact k9.out):G:=h ⟨k⟩
theorem Zps {G:Prop}(h:G:=by(first|exact ZlG|(apply Zap;rfl;rfl;exact bk2))):G:=h
theorem ZuO {G:Prop}(h:G:=by first|(apply Qy_y;rfl;exact Zps)|exact QyA):G:=h
theorem ZuU {G:Prop}(h:G:=by repeat (first|exact QF.nil|(apply QF.mk;rfl;rfl;decide +kernel;exact ZuO))):G:=h
theorem Zpr {G:Prop}(h:G:=by(first|exact Zd1|(apply Zay;rfl;rfl;exact bj)|(apply Zan;rfl;rfl;exact b2))):G:=h
theorem ZuN {G:Prop}(h:G:=by first|(apply Qy_y;rfl;exact Zpr)|exact QyA):G:=h
theorem ZuT {G:Prop}(h:G:=by repeat (first|exact QF.nil|(apply QF.mk;rfl;rfl;decide +kernel;exact ZuN))):G:=h
theorem Zpq {G:Prop}(h:G:=by(first|exact Zd1|(apply Zan;rfl;rfl;exact bu))):G:=h
theorem ZuM {G:Prop}(h:G:=by first|(apply Qy_y;rfl;exact Zpq)|exact QyA):G:=h
theorem ZuS {G:Prop}(h:G:=by repeat (first|exact QF.nil|(apply QF.mk;rfl;rfl;decide +kernel;exact ZuM))):G:=h
set_option maxHeartbeats 2000000 in
theorem Ztw (Ar Az Al As:Option Addr)(E H D cs:Nat)(a:DSource)(Ae:Option Addr)(Z:Nat)(c:List DEra)(k:Nat)(w:World)(K:Glob w)(hA:Zal w Ar Az Al As E H D cs a)(hS:ZcX a)(hV:ZgJ a)
  (hE:RdSl w Ae Z DEra.enc 13 c) (hel:c.length<=1000000) (hk:k<c.length) :
  Does Tryz.prog 183 [srcV Ar Az Al As E H D cs a,.slice Ae c.length Z,.int .i64 k] w (fun v O=>v = .int .i64 (ZcS a.rules c k)/\O=[]):=by
 have hn:=hS.nr
 obtain⟨hna,hca⟩:=hE.rd k _ (List.getElem?_eq_getElem hk)
 have Q:c.getD k dE0=c[k]:=by rw[List.getD_eq_getElem?_getD,List.getElem?_eq_getElem hk];rfl
 unfold ZcS
 rw[Q]
 dsimp only
 generalize c[k]=e at *
 have m:=fun w' (hw:Bel w.heap.size w w')=>ZfO Ar Az Al As E H D cs a e w' (hA.up hw) hn
 have hle:=fun A3 c3 w' h=>ZcI A3 c3 (ZaA a.rules e) w' h
 have hRl:=Zeh a.rules e
 have N:=hV.rs e
 have huc:=fun w' (hw:Bel w.heap.size w w')=>ZhL e.til (Zag (ZaA a.rules e)) w' (K.up hw)
 have hno:=fun w' (hw:Bel w.heap.size w w')=>Zen e.til (Zag (ZaA a.rules e)) w' (K.up hw)
 have hnb:=Ztk e.til (Zag (ZaA a.rules e))
 have u := @Zxw e.til (Zag (ZaA a.rules e))
 have hfa:=fun A3 c3 w' (hw:Bel w.heap.size w w') h=>ZwT A3 c3 (ZaA a.rules e) (Zao e.til (Zag (ZaA a.rules e))).1 w' (K.up hw) h (by omega) N (by omega)
 generalize ZaA a.rules e=R at *
 generalize hLT:Zag R=least at *
 generalize ZaD e.til least=uc at *
 generalize farD R (Zao e.til least).1=fr at *
 generalize Zao e.til least=nm at *
 obtain⟨n,ne⟩:=nm
 dsimp only at hno hnb u hfa ⊢
 obtain⟨off,r,save,set,I,til⟩:=e
 dsimp only at huc hno m ⊢
 simp only[DEra.enc]at m hca
 obtain⟨is,year,W,⟨dk,dw,dd⟩,⟨us,ub⟩⟩:=til
 dsimp only at m hca ⊢
 simp only[DUntil.enc]at huc hno
 obtain⟨U,hln⟩:∃ U:Int,(c.length:Int) - 1=U:=⟨_,rfl⟩
 have hdl:decide ((k:Int)<U)=decide (k+1<c.length):=by rw[decide_eq_decide];omega
 generalize hlt:decide (k+1<c.length)=lt at *
 refine Zaa Tryz.func183 rfl rfl rfl rfl ?_
 have hcb:=hca
 have hcu:=hca
 have hkj:(k:Int) - 0=k:=by omega
 cases is with
 | false =>
  cases lt with
  | true =>
   rw[if_pos (by decide)]
   repeat (first|refine ZnW ?_|(refine jn ?_;(try intro F);(refine bx ?_;intro f);first|refine⟨_,EndsA,Zdr,?_⟩|refine fin ?_)|(apply RD_W;rfl;intro f))
   exact rtA
  | false =>
   rw[if_neg (by decide),if_pos rfl]
   repeat (first|refine ZnW ?_|(refine jn ?_;(try intro F);(refine bx ?_;intro f);first|refine⟨_,EndsA,Zdr,?_⟩|refine fin ?_)|(apply RD_W;rfl;intro f))
   exact rtA
 | true =>
 cases lt with
 | false =>
  rw[if_pos (by decide)]
  repeat (first|refine ZnW ?_|(refine jn ?_;(try intro F);(refine bx ?_;intro f);first|refine⟨_,EndsA,Zdr,?_⟩|refine fin ?_)|(apply RD_W;rfl;intro f))
  exact rtA
 | true =>
 rw[if_neg (by decide),if_neg (by decide)]
 by_cases y:uc=0
 ·rw[if_neg (fun h=>h y)]
  have T:ne=0:=u y
  subst y T
  cases k with
  | zero =>
   rw[if_neg (by rintro⟨h,_⟩;omega)]
   clear hcb hcu
   by_cases q:r=2
   ·subst q
    cases fr with
    | false =>
     rw[if_pos ⟨rfl,rfl⟩]
     repeat (first|refine ZsD ?_|(refine jg ?_;(try intro F);(first|(apply Zae (h:=fun w' hw _=>m w' hw);rfl;rintro v O' ⟨A3,c3,rfl,rfl⟩)|(refine bx ?_;intro f));first|refine⟨_,EndsA,Zdr,?_⟩|refine fin ?_)|(refine jn ?_;(try intro F);(refine bx ?_;intro f);first|refine⟨_,EndsA,Zdr,?_⟩|refine fin ?_)|(apply RD_W;rfl;intro f))
     exact rtA
    | true =>
     rw[if_neg (by rintro⟨_,h⟩;cases h)]
     repeat (first|refine ZsD ?_|(refine jg ?_;(try intro F);(first|(apply Zae (h:=fun w' hw _=>m w' hw);rfl;rintro v O' ⟨A3,c3,rfl,rfl⟩)|(refine bx ?_;intro f));first|refine⟨_,EndsA,Zdr,?_⟩|refine fin ?_)|(refine jn ?_;(try intro F);(refine bx ?_;intro f);first|refine⟨_,EndsA,Zdr,?_⟩|refine fin ?_)|(apply RD_W;rfl;intro f))
     exact rtA
   ·have bk2:decide (r=2)=false:=decide_eq_false q
    rw[if_neg (fun h=>q h.1)]
    repeat (first|refine und ?_|(apply RL_pu;rfl;exact Zpt)|(apply RD_Q;rfl;rfl;decide +kernel;rfl;rfl;exact ZuQ)|refine walk1 ?_|(refine jg ?_;(try intro F);(first|(apply Zae (h:=fun w' hw _=>m w' hw);rfl;rintro v O' ⟨A3,c3,rfl,rfl⟩)|(refine ZaH (fun w' hw hO=>hle A3 c3 w' (ZaP DRule.len (hO.of (A := .row (.slice A3 R.length c3) 68 11 R.length (R.flatMap DRule.enc)) (by repeat' constructor)))) ?_)|(refine Zab huc ?_)|(refine Zab hno ?_)|(refine ZaH (fun w' hw hO=>hfa A3 c3 w' hw (ZaP DRule.len (hO.of (A := .row (.slice A3 R.length c3) 68 11 R.length (R.flatMap DRule.enc)) (by repeat' constructor)))) ?_)|(refine bx ?_;intro f)|(refine stA ?_));first|refine⟨_,EndsA,ZuV,?_⟩|refine fin ?_)|(refine jn ?_;(try intro F);(first|(refine bx ?_;intro f)|(refine stA ?_)|(apply Zad;first|exact Zpt|exact PuA));first|refine⟨_,EndsA,ZuV,?_⟩|refine fin ?_)|(apply RD_W;rfl;intro f))
    exact rtA
  | succ j =>
   have bj:decide ((0:Int)<((j+1:Nat):Int))=true:=decide_eq_true (by omega)
   clear hcb hcu hkj
   have hj:j<c.length:=by omega
   obtain⟨hnb',hcb⟩:=hE.rd j _ (List.getElem?_eq_getElem hj)
   have S:c.getD (j+1 - 1) dE0=c[j]:=by rw[Nat.add_sub_cancel,List.getD_eq_getElem?_getD,List.getElem?_eq_getElem hj];rfl
   rw[S]
   generalize c[j]=b at *
   have hcu:=Zwb hcb
   have hkj:((j+1:Nat):Int) - 1=(j:Int):=by omega
   have p:=fun w' (hw:Bel w.heap.size w w')=>ZfO Ar Az Al As E H D cs a b w' (hA.up hw) hn
   have hle2:=fun A3 c3 w' h=>ZcI A3 c3 (ZaA a.rules b) w' h
   have hno2:=fun w' (hw:Bel w.heap.size w w')=>Zen b.til (Zag (ZaA a.rules b)) w' (K.up hw)
   have x:=Ztk b.til (Zag (ZaA a.rules b))
   generalize ZaA a.rules b=R2 at *
   generalize Zag R2=least2 at *
   generalize Zao b.til least2=nm2 at *
   obtain⟨n2,z⟩:=nm2
   obtain⟨off2,ZzZ,X,set2,t,⟨is2,Y,L,⟨dk2,dw2,dd2⟩,⟨us2,ub2⟩⟩⟩:=b
   dsimp only at hno2 x p hcu ⊢
   simp only[DEra.enc]at p hcb
   simp only[DUntil.enc]at hno2 hcu
   by_cases M:z=0
   ·subst M
    obtain⟨s,hdf⟩:∃ s,n - n2=s:=⟨_,rfl⟩
    rw[hdf]
    by_cases J:s<259200
    ·have b3:decide (s<259200)=true:=decide_eq_true J
     rw[if_pos ⟨by omega,.inr J⟩]
     repeat (first|refine ZnV ?_|(refine jg ?_;(try intro F);(first|(apply Zae (h:=fun w' hw _=>m w' hw);rfl;rintro v O' ⟨A3,c3,rfl,rfl⟩)|(apply Zae (h:=fun w' hw _=>p w' hw);rfl;rintro v O' ⟨A4,c4,rfl,rfl⟩)|(refine bx ?_;intro f));first|refine⟨_,EndsA,ZeH,?_⟩|refine fin ?_)|(refine jn ?_;(try intro F);(refine bx ?_;intro f);first|refine⟨_,EndsA,ZeH,?_⟩|refine fin ?_)|(apply RD_W;rfl;intro f))
     exact rtA
    ·have b3:decide (s<259200)=false:=decide_eq_false J
     rw[if_neg (by rintro⟨_,h|h⟩;exact h rfl;exact J h)]
     by_cases q:r=2
     ·subst q
      cases fr with
      | false =>
       rw[if_pos ⟨rfl,rfl⟩]
       repeat (first|refine ZnV ?_|(refine jg ?_;(try intro F);(first|(apply Zae (h:=fun w' hw _=>m w' hw);rfl;rintro v O' ⟨A3,c3,rfl,rfl⟩)|(apply Zae (h:=fun w' hw _=>p w' hw);rfl;rintro v O' ⟨A4,c4,rfl,rfl⟩)|(refine bx ?_;intro f));first|refine⟨_,EndsA,ZeH,?_⟩|refine fin ?_)|(refine jn ?_;(try intro F);(refine bx ?_;intro f);first|refine⟨_,EndsA,ZeH,?_⟩|refine fin ?_)|(apply RD_W;rfl;intro f))
       exact rtA
      | true =>
       rw[if_neg (by rintro⟨_,h⟩;cases h)]
       repeat (first|refine ZnV ?_|(refine jg ?_;(try intro F);(first|(apply Zae (h:=fun w' hw _=>m w' hw);rfl;rintro v O' ⟨A3,c3,rfl,rfl⟩)|(apply Zae (h:=fun w' hw _=>p w' hw);rfl;rintro v O' ⟨A4,c4,rfl,rfl⟩)|(refine bx ?_;intro f));first|refine⟨_,EndsA,ZeH,?_⟩|refine fin ?_)|(refine jn ?_;(try intro F);(refine bx ?_;intro f);first|refine⟨_,EndsA,ZeH,?_⟩|refine fin ?_)|(apply RD_W;rfl;intro f))
       exact rtA
     ·have bk2:decide (r=2)=false:=decide_eq_false q
      rw[if_neg (fun h=>q h.1)]
      repeat (first|refine und ?_|(apply RL_pu;rfl;exact Zps)|(apply RD_Q;rfl;rfl;decide +kernel;rfl;rfl;exact ZuO)|refine walk1 ?_|(refine jg ?_;(try intro F);(first|(apply Zae (h:=fun w' hw _=>m w' hw);rfl;rintro v O' ⟨A3,c3,rfl,rfl⟩)|(refine ZaH (fun w' hw hO=>hle A3 c3 w' (ZaP DRule.len (hO.of (A := .row (.slice A3 R.length c3) 68 11 R.length (R.flatMap DRule.enc)) (by repeat' constructor)))) ?_)|(refine Zab huc ?_)|(refine Zab hno ?_)|(refine ZaH (fun w' hw hO=>hfa A3 c3 w' hw (ZaP DRule.len (hO.of (A := .row (.slice A3 R.length c3) 68 11 R.length (R.flatMap DRule.enc)) (by repeat' constructor)))) ?_)|(apply Zae (h:=fun w' hw _=>p w' hw);rfl;rintro v O' ⟨A4,c4,rfl,rfl⟩)|(refine ZaH (fun w' hw hO=>hle2 A4 c4 w' (ZaP DRule.len (hO.of (A := .row (.slice A4 R2.length c4) 68 11 R2.length (R2.flatMap DRule.enc)) (by repeat' constructor)))) ?_)|(refine Zab hno2 ?_)|(refine bx ?_;intro f)|(refine stA ?_));first|refine⟨_,EndsA,ZuU,?_⟩|refine fin ?_)|(refine jn ?_;(try intro F);(first|(refine bx ?_;intro f)|(refine stA ?_)|(apply Zad;first|exact Zps|exact PuA));first|refine⟨_,EndsA,ZuU,?_⟩|refine fin ?_)|(apply RD_W;rfl;intro f))
      exact rtA
   ·have b2:(!decide (z=0))=true:=by rw[decide_eq_false M];rfl
    rw[if_pos ⟨by omega,.inl M⟩]
    repeat (first|refine und ?_|(apply RL_pu;rfl;exact Zpr)|(apply RD_Q;rfl;rfl;decide +kernel;rfl;rfl;exact ZuN)|refine walk1 ?_|(refine jg ?_;(try intro F);(first|(apply Zae (h:=fun w' hw _=>m w' hw);rfl;rintro v O' ⟨A3,c3,rfl,rfl⟩)|(refine ZaH (fun w' hw hO=>hle A3 c3 w' (ZaP DRule.len (hO.of (A := .row (.slice A3 R.length c3) 68 11 R.length (R.flatMap DRule.enc)) (by repeat' constructor)))) ?_)|(refine Zab huc ?_)|(refine Zab hno ?_)|(refine ZaH (fun w' hw hO=>hfa A3 c3 w' hw (ZaP DRule.len (hO.of (A := .row (.slice A3 R.length c3) 68 11 R.length (R.flatMap DRule.enc)) (by repeat' constructor)))) ?_)|(apply Zae (h:=fun w' hw _=>p w' hw);rfl;rintro v O' ⟨A4,c4,rfl,rfl⟩)|(refine ZaH (fun w' hw hO=>hle2 A4 c4 w' (ZaP DRule.len (hO.of (A := .row (.slice A4 R2.length c4) 68 11 R2.length (R2.flatMap DRule.enc)) (by repeat' constructor)))) ?_)|(refine Zab hno2 ?_)|(refine bx ?_;intro f)|(refine stA ?_));first|refine⟨_,EndsA,ZuT,?_⟩|refine fin ?_)|(refine jn ?_;(try intro F);(first|(refine bx ?_;intro f)|(refine stA ?_)|(apply Zad;first|exact Zpr|exact PuA));first|refine⟨_,EndsA,ZuT,?_⟩|refine fin ?_)|(apply RD_W;rfl;intro f))
    exact rtA
 ·rw[if_pos y]
  have bu:(!decide (uc=0))=true:=by rw[decide_eq_false y];rfl
  repeat (first|refine und ?_|(apply RL_pu;rfl;exact Zpq)|(apply RD_Q;rfl;rfl;decide +kernel;rfl;rfl;exact ZuM)|refine walk1 ?_|(refine jg ?_;(try intro F);(first|(apply Zae (h:=fun w' hw _=>m w' hw);rfl;rintro v O' ⟨A3,c3,rfl,rfl⟩)|(refine ZaH (fun w' hw hO=>hle A3 c3 w' (ZaP DRule.len (hO.of (A := .row (.slice A3 R.length c3) 68 11 R.length (R.flatMap DRule.enc)) (by repeat' constructor)))) ?_)|(refine Zab huc ?_)|(refine bx ?_;intro f)|(refine stA ?_));first|refine⟨_,EndsA,ZuS,?_⟩|refine fin ?_)|(refine jn ?_;(try intro F);(first|(refine bx ?_;intro f)|(refine stA ?_)|(apply Zad;first|exact Zpq|exact PuA));first|refine⟨_,EndsA,ZuS,?_⟩|refine fin ?_)|(apply RD_W;rfl;intro f))
  exact rtA
end Go.Proofs.YtpipekfmecikmaaGreatDoor
