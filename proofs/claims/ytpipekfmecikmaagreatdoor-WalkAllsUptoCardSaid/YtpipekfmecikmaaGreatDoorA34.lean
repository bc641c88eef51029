/- Parts of the proof. -/
import Derived.Test.YtpipekfmecikmaaGreatDoorA32
set_option maxHeartbeats 0
set_option linter.all false
namespace Go.Proofs.YtpipekfmecikmaaGreatDoor
open Go Go.RowKit Go.Wk Tryz
attribute [local irreducible] W RL Does Zaq Zai retQ Calls Pu Stp RD Qy Ay Zaj
theorem Zvu {G:Prop}(h:G:=by(first|exact PuI|(apply ZfO;rfl;rfl;exact hln;omega)|(apply Zap;rfl;rfl;exact hdl)|(apply Zal;rfl;rfl;exact bu))):G:=h
theorem Zyt {G:Prop}(h:G:=by first|(apply Qy_y;rfl;exact Zvu)|exact QyA):G:=h
theorem ZkB {G:Prop}(h:G:=by repeat (first|exact QF.nil|(apply QF.mk;rfl;rfl;decide +kernel;exact Zyt))):G:=h
theorem ZpJ {G G':Prop}(k:G')(h:Hold G'->G:=by intro k9;(first|(apply RL_pu;rfl;exact Zvu)|(apply RD_Q;rfl;rfl;decide +kernel;rfl;rfl;exact Zyt)|refine walk1 ?_|(refine jg ?_;(try intro F);(first|(refine ZaH (fun w' hw hO=>hle A3 c3 w' (ZaJ DRule.len (hO.of (A := .row (.slice A3 R.length c3) 68 11 R.length (R.flatMap DRule.enc)) cS_))) ?_)|(refine Zab (fun w' _=>huc w') ?_));first|refine⟨_,EndsA,ZkB,?_⟩|refine fin ?_)|(refine jn ?_;(try intro F);(first|(refine stA ?_)|(apply Zan;exact PuA));first|refine⟨_,EndsA,ZkB,?_⟩|refine fin ?_));exact k9.out):G:=h ⟨k⟩
theorem ZqQ {G:Prop}(h:G:=by(first|exact Zvu|(apply Zav;rfl;rfl;exact bj))):G:=h
theorem Zys {G:Prop}(h:G:=by first|(apply Qy_y;rfl;exact ZqQ)|exact QyA):G:=h
theorem ZqE {G:Prop}(h:G:=by repeat (first|exact QF.nil|(apply QF.mk;rfl;rfl;decide +kernel;exact Zys))):G:=h
theorem ZxE {G G':Prop}(k:G')(h:Hold G'->G:=by intro k9;(first|(apply RL_pu;rfl;exact ZqQ)|(apply RD_Q;rfl;rfl;decide +kernel;rfl;rfl;exact Zys)|refine walk1 ?_|(refine jg ?_;(try intro F);(first|(refine ZaH (fun w' hw hO=>hle A3 c3 w' (ZaJ DRule.len (hO.of (A := .row (.slice A3 R.length c3) 68 11 R.length (R.flatMap DRule.enc)) cS_))) ?_)|(refine Zab (fun w' _=>huc w') ?_)|(refine Zab hno ?_)|(refine ZaH (fun w' hw hO=>hfa A3 c3 w' hw (ZaJ DRule.len (hO.of (A := .row (.slice A3 R.length c3) 68 11 R.length (R.flatMap DRule.enc)) cS_))) ?_));first|refine⟨_,EndsA,ZqE,?_⟩|refine fin ?_)|(refine jn ?_;(try intro F);(first|(refine stA ?_)|(apply Zan;exact PuA));first|refine⟨_,EndsA,ZqE,?_⟩|refine fin ?_));exact k9.out):G:=h ⟨k⟩
theorem Zzy {G:Prop}(h:G:=by(first|exact ZqQ|(apply Zap;rfl;rfl;exact bk2))):G:=h
theorem Zyr {G:Prop}(h:G:=by first|(apply Qy_y;rfl;exact Zzy)|exact QyA):G:=h
theorem ZyS {G:Prop}(h:G:=by repeat (first|exact QF.nil|(apply QF.mk;rfl;rfl;decide +kernel;exact Zyr))):G:=h
theorem Zvt {G:Prop}(h:G:=by(first|exact ZqQ|(apply ZfO;rfl;rfl;exact hkj;omega)|(apply ZfO;rfl;rfl;exact hdf;omega)|(apply Zau;rfl;rfl;exact b3))):G:=h
theorem Zyq {G:Prop}(h:G:=by first|(apply Qy_y;rfl;exact Zvt)|exact QyA):G:=h
theorem ZnD {G:Prop}(h:G:=by repeat (first|exact QF.nil|(apply QF.mk;rfl;rfl;decide +kernel;exact Zyq))):G:=h
theorem Zsq {G G':Prop}(k:G')(h:Hold G'->G:=by intro k9;(first|(apply RL_pu;rfl;exact Zvt)|(apply RD_Q;rfl;rfl;decide +kernel;rfl;rfl;exact Zyq)|refine walk1 ?_|(refine jg ?_;(try intro F);(first|(refine ZaH (fun w' hw hO=>hle A3 c3 w' (ZaJ DRule.len (hO.of (A := .row (.slice A3 R.length c3) 68 11 R.length (R.flatMap DRule.enc)) cS_))) ?_)|(refine Zab (fun w' _=>huc w') ?_)|(refine Zab hno ?_)|(refine ZaH (fun w' hw hO=>hfa A3 c3 w' hw (ZaJ DRule.len (hO.of (A := .row (.slice A3 R.length c3) 68 11 R.length (R.flatMap DRule.enc)) cS_))) ?_)|(refine Zab hno2 ?_));first|refine⟨_,EndsA,ZnD,?_⟩|refine fin ?_)|(refine jn ?_;(try intro F);(first|(refine stA ?_)|(apply Zan;exact PuA));first|refine⟨_,EndsA,ZnD,?_⟩|refine fin ?_));exact k9.out):G:=h ⟨k⟩
theorem Zzx {G:Prop}(h:G:=by(first|exact Zvt|(apply Zap;rfl;rfl;exact bk2))):G:=h
theorem Zyp {G:Prop}(h:G:=by first|(apply Qy_y;rfl;exact Zzx)|exact QyA):G:=h
theorem ZyR {G:Prop}(h:G:=by repeat (first|exact QF.nil|(apply QF.mk;rfl;rfl;decide +kernel;exact Zyp))):G:=h
set_option maxHeartbeats 0 in
theorem Zok (Ar Az Al As:Option Addr)(r s q cs:Nat)(a:DSource)(Ae:Option Addr)(T:Nat)(c:List DEra)(k:Nat)(w:World)(hF:FarS)(J:Zam w Ar Az Al As r s q cs a)(hS:ZcH a)
  (U:RdSl w Ae T DEra.enc 13 c) (ah:c.length<=1000000) (X:k<c.length) (hp:∀ j,k=j+1->(Zao (c.getD j dE0).til (Zae (ZaA a.rules (c.getD j dE0)))).2=0) :
  Does prog 196 [srcV Ar Az Al As r s q cs a,.slice Ae c.length T,.int .i64 k] w (fun v O=>v = .int .i64 (Zc9 a.rules c k)/\O=[]):=by
 have L:=hS.nr
 obtain⟨hna,hca⟩:=U.rd k _ (List.getElem?_eq_getElem X)
 have K:c.getD k dE0=c[k]:=by rw[List.getD_eq_getElem?_getD,List.getElem?_eq_getElem X];rfl
 unfold Zc9
 rw[K]
 dsimp only
 generalize c[k]=e at *
 have d:=fun w' (hw:Bel w.heap.size w w')=>Zd1 Ar Az Al As r s q cs a e w' (J.up hw) L
 have hle:=fun A3 c3 w' h=>Zco A3 c3 (ZaA a.rules e) w' h
 have ag:=Zez a.rules e
 have huc:=fun w'=>Zid e.til (Zae (ZaA a.rules e)) w'
 have hno:=fun w' (hw:Bel w.heap.size w w')=>Zh4 Ar Az Al As r s q cs a e w' (J.up hw) L
 have hnb:=ZjV e.til (Zae (ZaA a.rules e))
 have hfa:=fun A3 c3 w' (hw:Bel w.heap.size w w') h=>ZsR A3 c3 (ZaA a.rules e) (Zao e.til (Zae (ZaA a.rules e))).1 w' h (by omega) (by omega)
 rw[hF (ZaA a.rules e) (Zao e.til (Zae (ZaA a.rules e))).1 hnb]
 generalize ZaA a.rules e=R at *
 generalize Zae R=least at *
 generalize ZaF e.til least=uc at *
 generalize farR R (Zao e.til least).1=fr at *
 generalize Zao e.til least=nm at *
 obtain⟨n,ne⟩:=nm
 dsimp only at hno hnb hfa ⊢
 obtain⟨ak,g,aa,set,D,til⟩:=e
 dsimp only at huc hno d ⊢
 simp only[DEra.enc]at d hca hno
 obtain⟨is,ac,N,⟨dk,dw,dd⟩,⟨us,ub⟩⟩:=til
 dsimp only at d hca hno ⊢
 simp only[DUntil.enc]at huc
 obtain⟨M,hln⟩:∃ M:Int,(c.length:Int) - 1=M:=⟨_,rfl⟩
 have hdl:decide ((k:Int)=M) = !decide (k+1<c.length):=by
  by_cases h:k+1<c.length
  ·rw[dT_ h];exact dF_ (by omega)
  ·rw[dF_ h];exact dT_ (by omega)
 generalize hlt:decide (k+1<c.length)=lt at *
 refine Zaa func196 rfl rfl rfl rfl ?_
 cases is with
 | false =>
  cases lt with
  | true =>
   rw[if_pos (by decide)]
   repeat (first|refine ZpJ ?_|(refine jg ?_;(try intro F);(first|(apply Zad (h:=fun w' hw _=>d w' hw);rfl;rintro v O' ⟨A3,c3,rfl,rfl⟩)|(refine bx ?_;intro m));first|refine⟨_,EndsA,ZkB,?_⟩|refine fin ?_))
   exact rtA
  | false =>
   rw[if_neg (by decide),if_pos rfl]
   repeat (first|refine ZpJ ?_|(refine jg ?_;(try intro F);(first|(apply Zad (h:=fun w' hw _=>d w' hw);rfl;rintro v O' ⟨A3,c3,rfl,rfl⟩)|(refine bx ?_;intro m));first|refine⟨_,EndsA,ZkB,?_⟩|refine fin ?_))
   exact rtA
 | true =>
 cases lt with
 | false =>
  rw[if_pos (by decide)]
  repeat (first|refine ZpJ ?_|(refine jg ?_;(try intro F);(first|(apply Zad (h:=fun w' hw _=>d w' hw);rfl;rintro v O' ⟨A3,c3,rfl,rfl⟩)|(refine bx ?_;intro m));first|refine⟨_,EndsA,ZkB,?_⟩|refine fin ?_))
  exact rtA
 | true =>
 rw[if_neg (by decide),if_neg (by decide)]
 by_cases H:uc=0
 ·rw[if_neg (fun h=>h H)]
  have bu:(!decide (uc=0))=false:=by rw[dT_ H];rfl
  cases k with
  | zero =>
   have bj:decide ((0:Int)<((0:Nat):Int))=false:=rfl
   rw[if_neg (by rintro⟨h,_⟩;omega)]
   by_cases f:g=2
   ·subst f
    cases fr with
    | false =>
     rw[if_pos ⟨rfl,rfl⟩]
     repeat (first|refine ZxE ?_|(refine jg ?_;(try intro F);(first|(apply Zad (h:=fun w' hw _=>d w' hw);rfl;rintro v O' ⟨A3,c3,rfl,rfl⟩)|(refine bx ?_;intro m));first|refine⟨_,EndsA,ZqE,?_⟩|refine fin ?_))
     exact rtA
    | true =>
     rw[if_neg (by rintro⟨_,h⟩;cases h)]
     repeat (first|refine ZxE ?_|(refine jg ?_;(try intro F);(first|(apply Zad (h:=fun w' hw _=>d w' hw);rfl;rintro v O' ⟨A3,c3,rfl,rfl⟩)|(refine bx ?_;intro m));first|refine⟨_,EndsA,ZqE,?_⟩|refine fin ?_))
     exact rtA
   ·have bk2:decide (g=2)=false:=dF_ f
    rw[if_neg (fun h=>f h.1)]
    repeat (first|(apply RL_pu;rfl;exact Zzy)|(apply RD_Q;rfl;rfl;decide +kernel;rfl;rfl;exact Zyr)|refine walk1 ?_|(refine jg ?_;(try intro F);(first|(apply Zad (h:=fun w' hw _=>d w' hw);rfl;rintro v O' ⟨A3,c3,rfl,rfl⟩)|(refine ZaH (fun w' hw hO=>hle A3 c3 w' (ZaJ DRule.len (hO.of (A := .row (.slice A3 R.length c3) 68 11 R.length (R.flatMap DRule.enc)) cS_))) ?_)|(refine Zab (fun w' _=>huc w') ?_)|(refine bx ?_;intro m));first|refine⟨_,EndsA,ZyS,?_⟩|refine fin ?_)|(refine jn ?_;(try intro F);(first|(refine bx ?_;intro m)|(apply Zan;exact PuA));refine⟨_,EndsA,ZyS,?_⟩))
    exact rtA
  | succ j =>
   have bj:decide ((0:Int)<((j+1:Nat):Int))=true:=dT_ (by omega)
   have W:j<c.length:=by omega
   obtain⟨Y,hcb⟩:=U.rd j _ (List.getElem?_eq_getElem W)
   have x:c.getD (j+1 - 1) dE0=c[j]:=by rw[Nat.add_sub_cancel,List.getD_eq_getElem?_getD,List.getElem?_eq_getElem W];rfl
   have y:c.getD j dE0=c[j]:=x
   have p:=hp j rfl
   rw[y]at p
   rw[x]
   generalize c[j]=b at *
   have hkj:((j+1:Nat):Int) - 1=(j:Int):=by omega
   have hno2:=fun w' (hw:Bel w.heap.size w w')=>Zh4 Ar Az Al As r s q cs a b w' (J.up hw) L
   have z:=ZjV b.til (Zae (ZaA a.rules b))
   generalize Zao b.til (Zae (ZaA a.rules b))=nm2 at *
   obtain⟨n2,aj⟩:=nm2
   dsimp only at hno2 z p ⊢
   subst p
   obtain⟨Z,ZAy,Q,ab,u,⟨ai,S,I,⟨ae,af,ad⟩,⟨am,al⟩⟩⟩:=b
   simp only[DEra.enc]at hno2 hcb
   obtain⟨t,hdf⟩:∃ t,n - n2=t:=⟨_,rfl⟩
   rw[hdf]
   by_cases E:t<259200
   ·have b3:decide (t<259200)=true:=dT_ E
    rw[if_pos ⟨by omega,.inr E⟩]
    repeat (first|refine Zsq ?_|(refine jg ?_;(try intro F);(first|(apply Zad (h:=fun w' hw _=>d w' hw);rfl;rintro v O' ⟨A3,c3,rfl,rfl⟩)|(refine bx ?_;intro m));first|refine⟨_,EndsA,ZnD,?_⟩|refine fin ?_))
    exact rtA
   ·have b3:decide (t<259200)=false:=dF_ E
    rw[if_neg (by rintro⟨_,h|h⟩;exact h rfl;exact E h)]
    by_cases f:g=2
    ·subst f
     cases fr with
     | false =>
      rw[if_pos ⟨rfl,rfl⟩]
      repeat (first|refine Zsq ?_|(refine jg ?_;(try intro F);(first|(apply Zad (h:=fun w' hw _=>d w' hw);rfl;rintro v O' ⟨A3,c3,rfl,rfl⟩)|(refine bx ?_;intro m));first|refine⟨_,EndsA,ZnD,?_⟩|refine fin ?_))
      exact rtA
     | true =>
      rw[if_neg (by rintro⟨_,h⟩;cases h)]
      repeat (first|refine Zsq ?_|(refine jg ?_;(try intro F);(first|(apply Zad (h:=fun w' hw _=>d w' hw);rfl;rintro v O' ⟨A3,c3,rfl,rfl⟩)|(refine bx ?_;intro m));first|refine⟨_,EndsA,ZnD,?_⟩|refine fin ?_))
      exact rtA
    ·have bk2:decide (g=2)=false:=dF_ f
     rw[if_neg (fun h=>f h.1)]
     repeat (first|(apply RL_pu;rfl;exact Zzx)|(apply RD_Q;rfl;rfl;decide +kernel;rfl;rfl;exact Zyp)|refine walk1 ?_|(refine jg ?_;(try intro F);(first|(apply Zad (h:=fun w' hw _=>d w' hw);rfl;rintro v O' ⟨A3,c3,rfl,rfl⟩)|(refine ZaH (fun w' hw hO=>hle A3 c3 w' (ZaJ DRule.len (hO.of (A := .row (.slice A3 R.length c3) 68 11 R.length (R.flatMap DRule.enc)) cS_))) ?_)|(refine Zab (fun w' _=>huc w') ?_)|(refine Zab hno ?_)|(refine Zab hno2 ?_)|(refine bx ?_;intro m));first|refine⟨_,EndsA,ZyR,?_⟩|refine fin ?_)|(refine jn ?_;(try intro F);(first|(refine bx ?_;intro m)|(apply Zan;exact PuA));refine⟨_,EndsA,ZyR,?_⟩))
     exact rtA
 ·rw[if_pos H]
  have bu:(!decide (uc=0))=true:=by rw[dF_ H];rfl
  repeat (first|refine ZpJ ?_|(refine jg ?_;(try intro F);(first|(apply Zad (h:=fun w' hw _=>d w' hw);rfl;rintro v O' ⟨A3,c3,rfl,rfl⟩)|(refine bx ?_;intro m));first|refine⟨_,EndsA,ZkB,?_⟩|refine fin ?_))
  exact rtA
