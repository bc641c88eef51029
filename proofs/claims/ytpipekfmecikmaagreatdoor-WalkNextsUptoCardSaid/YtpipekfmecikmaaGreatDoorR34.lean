/- Parts of the proof. -/
import Derived.Test.YtpipekfmecikmaaGreatDoorR32
set_option maxHeartbeats 4000000
set_option linter.all false
namespace Go.Proofs.YtpipekfmecikmaaGreatDoor
open Go Go.RowKit Go.Wk
attribute [local irreducible] W RL Does Zaq Zai retQ Calls Pu Stp RD Qy Ay Zaj
theorem Zu0 {G:Prop}(h:G:=by(first|exact PuI|(apply ZgT;rfl;rfl;exact hln;omega)|(apply Zao;rfl;rfl;exact hdl)|(apply Zal;rfl;rfl;exact bu))):G:=h
theorem ZxS {G:Prop}(h:G:=by first|(apply Qy_y;rfl;exact Zu0)|exact QyA):G:=h
theorem Zkp {G:Prop}(h:G:=by repeat (first|exact QF.nil|(apply QF.mk;rfl;rfl;decide +kernel;exact ZxS))):G:=h
theorem Zpx {G G':Prop}(k:G')(h:Hold G'->G:=by intro k9;(first|(apply RL_pu;rfl;exact Zu0)|(apply RD_Q;rfl;rfl;decide +kernel;rfl;rfl;exact ZxS)|refine walk1 ?_|(refine jg ?_;(try intro F);(first|(refine ZaJ (fun w' hw hO=>hle A3 c3 w' (ZaO DRule.len (hO.of (A := .row (.slice A3 R.length c3) 68 11 R.length (R.flatMap DRule.enc)) (by repeat' constructor)))) ?_)|(refine Zac (fun w' _=>huc w') ?_));first|refine⟨_,EndsA,Zkp,?_⟩|refine fin ?_)|(refine jn ?_;(try intro F);(first|(refine stA ?_)|(apply Zam;exact PuA));first|refine⟨_,EndsA,Zkp,?_⟩|refine fin ?_));exact k9.out):G:=h ⟨k⟩
theorem ZqB {G:Prop}(h:G:=by(first|exact Zu0|(apply Zat;rfl;rfl;exact bj))):G:=h
theorem ZxR {G:Prop}(h:G:=by first|(apply Qy_y;rfl;exact ZqB)|exact QyA):G:=h
theorem Zqr {G:Prop}(h:G:=by repeat (first|exact QF.nil|(apply QF.mk;rfl;rfl;decide +kernel;exact ZxR))):G:=h
theorem Zw8 {G G':Prop}(k:G')(h:Hold G'->G:=by intro k9;(first|(apply RL_pu;rfl;exact ZqB)|(apply RD_Q;rfl;rfl;decide +kernel;rfl;rfl;exact ZxR)|refine walk1 ?_|(refine jg ?_;(try intro F);(first|(refine ZaJ (fun w' hw hO=>hle A3 c3 w' (ZaO DRule.len (hO.of (A := .row (.slice A3 R.length c3) 68 11 R.length (R.flatMap DRule.enc)) (by repeat' constructor)))) ?_)|(refine Zac (fun w' _=>huc w') ?_)|(refine Zac hno ?_)|(refine ZaJ (fun w' hw hO=>hfa A3 c3 w' hw (ZaO DRule.len (hO.of (A := .row (.slice A3 R.length c3) 68 11 R.length (R.flatMap DRule.enc)) (by repeat' constructor)))) ?_));first|refine⟨_,EndsA,Zqr,?_⟩|refine fin ?_)|(refine jn ?_;(try intro F);(first|(refine stA ?_)|(apply Zam;exact PuA));first|refine⟨_,EndsA,Zqr,?_⟩|refine fin ?_));exact k9.out):G:=h ⟨k⟩
theorem ZyV {G:Prop}(h:G:=by(first|exact ZqB|(apply Zao;rfl;rfl;exact bk2))):G:=h
theorem ZxQ {G:Prop}(h:G:=by first|(apply Qy_y;rfl;exact ZyV)|exact QyA):G:=h
theorem Zyg {G:Prop}(h:G:=by repeat (first|exact QF.nil|(apply QF.mk;rfl;rfl;decide +kernel;exact ZxQ))):G:=h
theorem ZuZ {G:Prop}(h:G:=by(first|exact ZqB|(apply ZgT;rfl;rfl;exact hkj;omega)|(apply ZgT;rfl;rfl;exact hdf;omega)|(apply Zau;rfl;rfl;exact b3))):G:=h
theorem ZxP {G:Prop}(h:G:=by first|(apply Qy_y;rfl;exact ZuZ)|exact QyA):G:=h
theorem Znr {G:Prop}(h:G:=by repeat (first|exact QF.nil|(apply QF.mk;rfl;rfl;decide +kernel;exact ZxP))):G:=h
theorem Zr8 {G G':Prop}(k:G')(h:Hold G'->G:=by intro k9;(first|(apply RL_pu;rfl;exact ZuZ)|(apply RD_Q;rfl;rfl;decide +kernel;rfl;rfl;exact ZxP)|refine walk1 ?_|(refine jg ?_;(try intro F);(first|(refine ZaJ (fun w' hw hO=>hle A3 c3 w' (ZaO DRule.len (hO.of (A := .row (.slice A3 R.length c3) 68 11 R.length (R.flatMap DRule.enc)) (by repeat' constructor)))) ?_)|(refine Zac (fun w' _=>huc w') ?_)|(refine Zac hno ?_)|(refine ZaJ (fun w' hw hO=>hfa A3 c3 w' hw (ZaO DRule.len (hO.of (A := .row (.slice A3 R.length c3) 68 11 R.length (R.flatMap DRule.enc)) (by repeat' constructor)))) ?_)|(refine Zac hno2 ?_));first|refine⟨_,EndsA,Znr,?_⟩|refine fin ?_)|(refine jn ?_;(try intro F);(first|(refine stA ?_)|(apply Zam;exact PuA));first|refine⟨_,EndsA,Znr,?_⟩|refine fin ?_));exact k9.out):G:=h ⟨k⟩
theorem ZyU {G:Prop}(h:G:=by(first|exact ZuZ|(apply Zao;rfl;rfl;exact bk2))):G:=h
theorem ZxO {G:Prop}(h:G:=by first|(apply Qy_y;rfl;exact ZyU)|exact QyA):G:=h
theorem Zyf {G:Prop}(h:G:=by repeat (first|exact QF.nil|(apply QF.mk;rfl;rfl;decide +kernel;exact ZxO))):G:=h
set_option maxHeartbeats 4000000 in
theorem Zn9 (Ar Az Al As:Option Addr)(r s q cs:Nat)(a:DSource)(Ae:Option Addr)(T:Nat)(c:List DEra)(k:Nat)(w:World)(hF:FarS)(J:Zak w Ar Az Al As r s q cs a)(hS:ZcA a)
  (U:RdSl w Ae T DEra.enc 13 c) (ah:c.length<=1000000) (X:k<c.length) (hp:∀ j,k=j+1->(Zan (c.getD j dE0).til (Zae (ZaA a.rules (c.getD j dE0)))).2=0) :
  Does Tryz.prog 196 [srcV Ar Az Al As r s q cs a,.slice Ae c.length T,.int .i64 k] w (fun v O=>v = .int .i64 (Zc1 a.rules c k)/\O=[]):=by
 have L:=hS.nr
 obtain⟨hna,hca⟩:=U.rd k _ (List.getElem?_eq_getElem X)
 have K:c.getD k dE0=c[k]:=by rw[List.getD_eq_getElem?_getD,List.getElem?_eq_getElem X];rfl
 unfold Zc1
 rw[K]
 dsimp only
 generalize c[k]=e at *
 have d:=fun w' (hw:Bel w.heap.size w w')=>ZdV Ar Az Al As r s q cs a e w' (J.up hw) L
 have hle:=fun A3 c3 w' h=>Zch A3 c3 (ZaA a.rules e) w' h
 have ag:=Zes a.rules e
 have huc:=fun w'=>Zh1 e.til (Zae (ZaA a.rules e)) w'
 have hno:=fun w' (hw:Bel w.heap.size w w')=>ZhS Ar Az Al As r s q cs a e w' (J.up hw) L
 have hnb:=ZjJ e.til (Zae (ZaA a.rules e))
 have hfa:=fun A3 c3 w' (hw:Bel w.heap.size w w') h=>Zsz A3 c3 (ZaA a.rules e) (Zan e.til (Zae (ZaA a.rules e))).1 w' h (by omega) (by omega)
 rw[hF (ZaA a.rules e) (Zan e.til (Zae (ZaA a.rules e))).1 hnb]
 generalize ZaA a.rules e=R at *
 generalize Zae R=least at *
 generalize ZaE e.til least=uc at *
 generalize farR R (Zan e.til least).1=fr at *
 generalize Zan e.til least=nm at *
 obtain⟨n,ne⟩:=nm
 dsimp only at hno hnb hfa ⊢
 obtain⟨ak,g,aa,set,D,til⟩:=e
 dsimp only at huc hno d ⊢
 simp only[DEra.enc]at d hca hno
 obtain⟨is,ac,N,⟨dk,dw,dd⟩,⟨us,ub⟩⟩:=til
 dsimp only at d hca hno ⊢
 simp only[DUntil.enc]at huc
 obtain⟨M,hln⟩:∃ M:Int,(c.length:Int) - 1=M:=⟨_,rfl⟩
 have hdl:decide ((k:Int)=M) = !decide (k+1<c.length):=by
  by_cases h:k+1<c.length
  ·rw[decide_eq_true h];exact decide_eq_false (by omega)
  ·rw[decide_eq_false h];exact decide_eq_true (by omega)
 generalize hlt:decide (k+1<c.length)=lt at *
 refine Zaa Tryz.func196 rfl rfl rfl rfl ?_
 cases is with
 | false =>
  cases lt with
  | true =>
   rw[if_pos (by decide)]
   repeat (first|refine Zpx ?_|(refine jg ?_;(try intro F);(first|(apply Zad (h:=fun w' hw _=>d w' hw);rfl;rintro v O' ⟨A3,c3,rfl,rfl⟩)|(refine bx ?_;intro m));first|refine⟨_,EndsA,Zkp,?_⟩|refine fin ?_))
   exact rtA
  | false =>
   rw[if_neg (by decide),if_pos rfl]
   repeat (first|refine Zpx ?_|(refine jg ?_;(try intro F);(first|(apply Zad (h:=fun w' hw _=>d w' hw);rfl;rintro v O' ⟨A3,c3,rfl,rfl⟩)|(refine bx ?_;intro m));first|refine⟨_,EndsA,Zkp,?_⟩|refine fin ?_))
   exact rtA
 | true =>
 cases lt with
 | false =>
  rw[if_pos (by decide)]
  repeat (first|refine Zpx ?_|(refine jg ?_;(try intro F);(first|(apply Zad (h:=fun w' hw _=>d w' hw);rfl;rintro v O' ⟨A3,c3,rfl,rfl⟩)|(refine bx ?_;intro m));first|refine⟨_,EndsA,Zkp,?_⟩|refine fin ?_))
  exact rtA
 | true =>
 rw[if_neg (by decide),if_neg (by decide)]
 by_cases H:uc=0
 ·rw[if_neg (fun h=>h H)]
  have bu:(!decide (uc=0))=false:=by rw[decide_eq_true H];rfl
  cases k with
  | zero =>
   have bj:decide ((0:Int)<((0:Nat):Int))=false:=rfl
   rw[if_neg (by rintro⟨h,_⟩;omega)]
   by_cases f:g=2
   ·subst f
    cases fr with
    | false =>
     rw[if_pos ⟨rfl,rfl⟩]
     repeat (first|refine Zw8 ?_|(refine jg ?_;(try intro F);(first|(apply Zad (h:=fun w' hw _=>d w' hw);rfl;rintro v O' ⟨A3,c3,rfl,rfl⟩)|(refine bx ?_;intro m));first|refine⟨_,EndsA,Zqr,?_⟩|refine fin ?_))
     exact rtA
    | true =>
     rw[if_neg (by rintro⟨_,h⟩;cases h)]
     repeat (first|refine Zw8 ?_|(refine jg ?_;(try intro F);(first|(apply Zad (h:=fun w' hw _=>d w' hw);rfl;rintro v O' ⟨A3,c3,rfl,rfl⟩)|(refine bx ?_;intro m));first|refine⟨_,EndsA,Zqr,?_⟩|refine fin ?_))
     exact rtA
   ·have bk2:decide (g=2)=false:=decide_eq_false f
    rw[if_neg (fun h=>f h.1)]
    repeat (first|(apply RL_pu;rfl;exact ZyV)|(apply RD_Q;rfl;rfl;decide +kernel;rfl;rfl;exact ZxQ)|refine walk1 ?_|(refine jg ?_;(try intro F);(first|(apply Zad (h:=fun w' hw _=>d w' hw);rfl;rintro v O' ⟨A3,c3,rfl,rfl⟩)|(refine ZaJ (fun w' hw hO=>hle A3 c3 w' (ZaO DRule.len (hO.of (A := .row (.slice A3 R.length c3) 68 11 R.length (R.flatMap DRule.enc)) (by repeat' constructor)))) ?_)|(refine Zac (fun w' _=>huc w') ?_)|(refine bx ?_;intro m));first|refine⟨_,EndsA,Zyg,?_⟩|refine fin ?_)|(refine jn ?_;(try intro F);(first|(refine bx ?_;intro m)|(apply Zam;exact PuA));refine⟨_,EndsA,Zyg,?_⟩))
    exact rtA
  | succ j =>
   have bj:decide ((0:Int)<((j+1:Nat):Int))=true:=decide_eq_true (by omega)
   have W:j<c.length:=by omega
   obtain⟨Y,hcb⟩:=U.rd j _ (List.getElem?_eq_getElem W)
   have x:c.getD (j+1 - 1) dE0=c[j]:=by rw[Nat.add_sub_cancel,List.getD_eq_getElem?_getD,List.getElem?_eq_getElem W];rfl
   have y:c.getD j dE0=c[j]:=x
   have p:=hp j rfl
   rw[y]at p
   rw[x]
   generalize c[j]=b at *
   have hkj:((j+1:Nat):Int) - 1=(j:Int):=by omega
   have hno2:=fun w' (hw:Bel w.heap.size w w')=>ZhS Ar Az Al As r s q cs a b w' (J.up hw) L
   have z:=ZjJ b.til (Zae (ZaA a.rules b))
   generalize Zan b.til (Zae (ZaA a.rules b))=nm2 at *
   obtain⟨n2,aj⟩:=nm2
   dsimp only at hno2 z p ⊢
   subst p
   obtain⟨Z,ZzT,Q,ab,u,⟨ai,S,I,⟨ae,af,ad⟩,⟨am,al⟩⟩⟩:=b
   simp only[DEra.enc]at hno2 hcb
   obtain⟨t,hdf⟩:∃ t,n - n2=t:=⟨_,rfl⟩
   rw[hdf]
   by_cases E:t<259200
   ·have b3:decide (t<259200)=true:=decide_eq_true E
    rw[if_pos ⟨by omega,.inr E⟩]
    repeat (first|refine Zr8 ?_|(refine jg ?_;(try intro F);(first|(apply Zad (h:=fun w' hw _=>d w' hw);rfl;rintro v O' ⟨A3,c3,rfl,rfl⟩)|(refine bx ?_;intro m));first|refine⟨_,EndsA,Znr,?_⟩|refine fin ?_))
    exact rtA
   ·have b3:decide (t<259200)=false:=decide_eq_false E
    rw[if_neg (by rintro⟨_,h|h⟩;exact h rfl;exact E h)]
    by_cases f:g=2
    ·subst f
     cases fr with
     | false =>
      rw[if_pos ⟨rfl,rfl⟩]
      repeat (first|refine Zr8 ?_|(refine jg ?_;(try intro F);(first|(apply Zad (h:=fun w' hw _=>d w' hw);rfl;rintro v O' ⟨A3,c3,rfl,rfl⟩)|(refine bx ?_;intro m));first|refine⟨_,EndsA,Znr,?_⟩|refine fin ?_))
      exact rtA
     | true =>
      rw[if_neg (by rintro⟨_,h⟩;cases h)]
      repeat (first|refine Zr8 ?_|(refine jg ?_;(try intro F);(first|(apply Zad (h:=fun w' hw _=>d w' hw);rfl;rintro v O' ⟨A3,c3,rfl,rfl⟩)|(refine bx ?_;intro m));first|refine⟨_,EndsA,Znr,?_⟩|refine fin ?_))
      exact rtA
    ·have bk2:decide (g=2)=false:=decide_eq_false f
     rw[if_neg (fun h=>f h.1)]
     repeat (first|(apply RL_pu;rfl;exact ZyU)|(apply RD_Q;rfl;rfl;decide +kernel;rfl;rfl;exact ZxO)|refine walk1 ?_|(refine jg ?_;(try intro F);(first|(apply Zad (h:=fun w' hw _=>d w' hw);rfl;rintro v O' ⟨A3,c3,rfl,rfl⟩)|(refine ZaJ (fun w' hw hO=>hle A3 c3 w' (ZaO DRule.len (hO.of (A := .row (.slice A3 R.length c3) 68 11 R.length (R.flatMap DRule.enc)) (by repeat' constructor)))) ?_)|(refine Zac (fun w' _=>huc w') ?_)|(refine Zac hno ?_)|(refine Zac hno2 ?_)|(refine bx ?_;intro m));first|refine⟨_,EndsA,Zyf,?_⟩|refine fin ?_)|(refine jn ?_;(try intro F);(first|(refine bx ?_;intro m)|(apply Zam;exact PuA));refine⟨_,EndsA,Zyf,?_⟩))
     exact rtA
 ·rw[if_pos H]
  have bu:(!decide (uc=0))=true:=by rw[decide_eq_false H];rfl
  repeat (first|refine Zpx ?_|(refine jg ?_;(try intro F);(first|(apply Zad (h:=fun w' hw _=>d w' hw);rfl;rintro v O' ⟨A3,c3,rfl,rfl⟩)|(refine bx ?_;intro m));first|refine⟨_,EndsA,Zkp,?_⟩|refine fin ?_))
  exact rtA
end Go.Proofs.YtpipekfmecikmaaGreatDoor
