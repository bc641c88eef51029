/- Parts of the proof. -/
import Derived.Test.YtpipekfmecikmaaGreatDoorR19
set_option maxHeartbeats 4000000
set_option linter.all false
namespace Go.Wk
open Go Go.RowKit
theorem ZgT {P:Program}{n:Nat}{wr:World}{fr:Fr}{O:List It}{ty t t':TypeId}{x y:Operand}{i j m:Int}(b:ev fr x=some (.int .i64 i))(c:ev fr y=some (.int .i64 j))(a:i - j=m)(h : -9223372036854775808<=m/\m<=9223372036854775807):Pu P n wr fr O (.binOp .sub t x y t') ty (.int .i64 m):=a▸Pu_sub' b c (a▸h)
end Go.Wk
namespace Go.Proofs.YtpipekfmecikmaaGreatDoor
open Go Go.RowKit Go.Wk
attribute [local irreducible] W RL Does Zaq Zai retQ Calls Pu Stp RD Qy Ay Zaj
theorem Zs1 (u:DUntil)(least:Int) : -200000000000000000<=(Zan u least).1/\(Zan u least).1<=200000000000000000:=by
 unfold Zan
 split
 ·exact⟨by dsimp only;omega,by dsimp only;omega⟩
 ·rename_i h
  have a:ZaE u least=0:=Decidable.not_not.1 h
  have b:=Zey u.year u.month u.day
  unfold ZaE at a
  dsimp only at a ⊢
  repeat' split at a
  all_goals first|(exfalso;omega)|(split <;> omega)
theorem Zxk {u:DUntil}{least:Int}(h:ZaE u least=0):(Zan u least).2=0:=by
 unfold Zan
 rw[if_neg (fun a=>a h)]
theorem ZvL {w:World}{ad:Addr}{e:DEra}(h:Zas w ad e.enc):Zas w (ad.add 5) (DUntil.enc e.til):=fun j v a=>by
 rw[ZbG]
 refine h (5+j) v ?_
 rw[show DEra.enc e=[.int .i64 e.off,.int .i64 e.kind,.int .i64 e.save,.string e.set,.string e.format]++DUntil.enc e.til from rfl,List.getElem?_append_right (by simp)]
 simpa using a
theorem ZgS.rs {s:DSource}(h:ZgS s)(e:DEra):RsOk (ZaA s.rules e):=fun r a=>h r (Zdx a)
theorem ZfD {G:Prop}(h:G:=by(first|exact PuI|(apply Pu_loadON;rfl;exact hcu;rfl)|(apply ZgT;rfl;rfl;exact hln;omega)|(apply ZgT;rfl;rfl;exact hkj;omega)|(apply Zau;rfl;rfl;exact hdl))):G:=h
theorem Zuz {G:Prop}(h:G:=by first|(apply Qy_y;rfl;exact ZfD)|exact QyA):G:=h
theorem Zlp {G:Prop}(h:G:=by repeat (first|exact QF.nil|(apply QF.mk;rfl;rfl;decide +kernel;exact Zuz))):G:=h
theorem ZnJ {G G':Prop}(k:G')(h:Hold G'->G:=by intro k9;(first|(apply RL_pu;rfl;exact ZfD)|refine walk1 ?_);exact k9.out):G:=h ⟨k⟩
theorem Zsc {G G':Prop}(k:G')(h:Hold G'->G:=by intro k9;(first|(apply RL_pu;rfl;exact ZfD)|(apply RD_Q;rfl;rfl;decide +kernel;rfl;rfl;exact Zuz)|refine walk1 ?_|(refine jg ?_;(try intro F);(first|(refine ZaJ (fun w' hw hO=>hle A3 c3 w' (ZaO DRule.len (hO.of (A := .row (.slice A3 R.length c3) 68 11 R.length (R.flatMap DRule.enc)) (by repeat' constructor)))) ?_)|(refine Zac huc ?_)|(refine Zac hno ?_)|(refine ZaJ (fun w' hw hO=>hfa A3 c3 w' hw (ZaO DRule.len (hO.of (A := .row (.slice A3 R.length c3) 68 11 R.length (R.flatMap DRule.enc)) (by repeat' constructor)))) ?_));first|refine⟨_,EndsA,Zlp,?_⟩|refine fin ?_)|(refine jn ?_;(try intro F);(first|(refine stA ?_)|(apply Zam;exact PuA));first|refine⟨_,EndsA,Zlp,?_⟩|refine fin ?_));exact k9.out):G:=h ⟨k⟩
theorem Zvz {G:Prop}(h:G:=by(first|exact ZfD|(apply Zao;rfl;rfl;exact bk2))):G:=h
theorem Zuy {G:Prop}(h:G:=by first|(apply Qy_y;rfl;exact Zvz)|exact QyA):G:=h
theorem ZuH {G:Prop}(h:G:=by repeat (first|exact QF.nil|(apply QF.mk;rfl;rfl;decide +kernel;exact Zuy))):G:=h
theorem Zph {G:Prop}(h:G:=by(first|exact ZfD|(apply Zat;rfl;rfl;exact bj)|(apply ZgT;rfl;rfl;exact hdf;omega)|(apply Zau;rfl;rfl;exact b3))):G:=h
theorem Zux {G:Prop}(h:G:=by first|(apply Qy_y;rfl;exact Zph)|exact QyA):G:=h
theorem Zi3 {G:Prop}(h:G:=by repeat (first|exact QF.nil|(apply QF.mk;rfl;rfl;decide +kernel;exact Zux))):G:=h
theorem ZnI {G G':Prop}(k:G')(h:Hold G'->G:=by intro k9;(first|(apply RL_pu;rfl;exact Zph)|(apply RD_Q;rfl;rfl;decide +kernel;rfl;rfl;exact Zux)|refine walk1 ?_|(refine jg ?_;(try intro F);(first|(refine ZaJ (fun w' hw hO=>hle A3 c3 w' (ZaO DRule.len (hO.of (A := .row (.slice A3 R.length c3) 68 11 R.length (R.flatMap DRule.enc)) (by repeat' constructor)))) ?_)|(refine Zac huc ?_)|(refine Zac hno ?_)|(refine ZaJ (fun w' hw hO=>hfa A3 c3 w' hw (ZaO DRule.len (hO.of (A := .row (.slice A3 R.length c3) 68 11 R.length (R.flatMap DRule.enc)) (by repeat' constructor)))) ?_)|(refine ZaJ (fun w' hw hO=>hle2 A4 c4 w' (ZaO DRule.len (hO.of (A := .row (.slice A4 R2.length c4) 68 11 R2.length (R2.flatMap DRule.enc)) (by repeat' constructor)))) ?_)|(refine Zac hno2 ?_));first|refine⟨_,EndsA,Zi3,?_⟩|refine fin ?_)|(refine jn ?_;(try intro F);(first|(refine stA ?_)|(apply Zam;exact PuA));first|refine⟨_,EndsA,Zi3,?_⟩|refine fin ?_));exact k9.out):G:=h ⟨k⟩
theorem Zvy {G:Prop}(h:G:=by(first|exact Zph|(apply Zao;rfl;rfl;exact bk2))):G:=h
theorem Zuw {G:Prop}(h:G:=by first|(apply Qy_y;rfl;exact Zvy)|exact QyA):G:=h
theorem ZuG {G:Prop}(h:G:=by repeat (first|exact QF.nil|(apply QF.mk;rfl;rfl;decide +kernel;exact Zuw))):G:=h
theorem Zvx {G:Prop}(h:G:=by(first|exact ZfD|(apply Zat;rfl;rfl;exact bj)|(apply Zal;rfl;rfl;exact b2))):G:=h
theorem Zuv {G:Prop}(h:G:=by first|(apply Qy_y;rfl;exact Zvx)|exact QyA):G:=h
theorem ZuF {G:Prop}(h:G:=by repeat (first|exact QF.nil|(apply QF.mk;rfl;rfl;decide +kernel;exact Zuv))):G:=h
theorem Zvw {G:Prop}(h:G:=by(first|exact ZfD|(apply Zal;rfl;rfl;exact bu))):G:=h
theorem Zuu {G:Prop}(h:G:=by first|(apply Qy_y;rfl;exact Zvw)|exact QyA):G:=h
theorem ZuE {G:Prop}(h:G:=by repeat (first|exact QF.nil|(apply QF.mk;rfl;rfl;decide +kernel;exact Zuu))):G:=h
set_option maxHeartbeats 2000000 in
theorem Ztd (Ar Az Al As:Option Addr)(z D y cs:Nat)(a:DSource)(Ae:Option Addr)(X:Nat)(c:List DEra)(k:Nat)(w:World)(I:Glob w)(Y:Zak w Ar Az Al As z D y cs a)(hS:ZcA a)(hV:ZgS a)
  (Z:RdSl w Ae X DEra.enc 13 c) (aj:c.length<=1000000) (hk:k<c.length) :
  Does Tryz.prog 183 [srcV Ar Az Al As z D y cs a,.slice Ae c.length X,.int .i64 k] w (fun v O=>v = .int .i64 (Zc1 a.rules c k)/\O=[]):=by
 have hn:=hS.nr
 obtain⟨hna,hca⟩:=Z.rd k _ (List.getElem?_eq_getElem hk)
 have M:c.getD k dE0=c[k]:=by rw[List.getD_eq_getElem?_getD,List.getElem?_eq_getElem hk];rfl
 unfold Zc1
 rw[M]
 dsimp only
 generalize c[k]=e at *
 have d:=fun w' (hw:Bel w.heap.size w w')=>Zf0 Ar Az Al As z D y cs a e w' (Y.up hw) hn
 have hle:=fun A3 c3 w' h=>ZcP A3 c3 (ZaA a.rules e) w' h
 have ai:=Zes a.rules e
 have L:=hV.rs e
 have huc:=fun w' (hw:Bel w.heap.size w w')=>ZhF e.til (Zae (ZaA a.rules e)) w' (I.up hw)
 have hno:=fun w' (hw:Bel w.heap.size w w')=>Zez e.til (Zae (ZaA a.rules e)) w' (I.up hw)
 have hnb:=Zs1 e.til (Zae (ZaA a.rules e))
 have s := @Zxk e.til (Zae (ZaA a.rules e))
 have hfa:=fun A3 c3 w' (hw:Bel w.heap.size w w') h=>Zww A3 c3 (ZaA a.rules e) (Zan e.til (Zae (ZaA a.rules e))).1 w' (I.up hw) h (by omega) L (by omega)
 generalize ZaA a.rules e=R at *
 generalize hLT:Zae R=least at *
 generalize ZaE e.til least=uc at *
 generalize farD R (Zan e.til least).1=fr at *
 generalize Zan e.til least=nm at *
 obtain⟨n,ne⟩:=nm
 dsimp only at hno hnb s hfa ⊢
 obtain⟨al,p,ac,set,E,til⟩:=e
 dsimp only at huc hno d ⊢
 simp only[DEra.enc]at d hca
 obtain⟨is,ae,T,⟨dk,dw,dd⟩,⟨us,ub⟩⟩:=til
 dsimp only at d hca ⊢
 simp only[DUntil.enc]at huc hno
 obtain⟨S,hln⟩:∃ S:Int,(c.length:Int) - 1=S:=⟨_,rfl⟩
 have hdl:decide ((k:Int)<S)=decide (k+1<c.length):=by rw[decide_eq_decide];omega
 generalize hlt:decide (k+1<c.length)=lt at *
 refine Zaa Tryz.func183 rfl rfl rfl rfl ?_
 have hcb:=hca
 have hcu:=hca
 have hkj:(k:Int) - 0=k:=by omega
 cases is with
 | false =>
  cases lt with
  | true =>
   rw[if_pos (by decide)]
   repeat (first|refine ZnJ ?_|(refine jn ?_;(try intro F);(refine bx ?_;intro g);refine fin ?_))
   exact rtA
  | false =>
   rw[if_neg (by decide),if_pos rfl]
   repeat (first|refine ZnJ ?_|(refine jn ?_;(try intro F);(refine bx ?_;intro g);refine fin ?_))
   exact rtA
 | true =>
 cases lt with
 | false =>
  rw[if_pos (by decide)]
  repeat (first|refine ZnJ ?_|(refine jn ?_;(try intro F);(refine bx ?_;intro g);refine fin ?_))
  exact rtA
 | true =>
 rw[if_neg (by decide),if_neg (by decide)]
 by_cases u:uc=0
 ·rw[if_neg (fun h=>h u)]
  have Q:ne=0:=s u
  subst u Q
  cases k with
  | zero =>
   rw[if_neg (by rintro⟨h,_⟩;omega)]
   clear hcb hcu
   by_cases m:p=2
   ·subst m
    cases fr with
    | false =>
     rw[if_pos ⟨rfl,rfl⟩]
     repeat (first|refine Zsc ?_|(refine jg ?_;(try intro F);(first|(apply Zad (h:=fun w' hw _=>d w' hw);rfl;rintro v O' ⟨A3,c3,rfl,rfl⟩)|(refine bx ?_;intro g));first|refine⟨_,EndsA,Zlp,?_⟩|refine fin ?_))
     exact rtA
    | true =>
     rw[if_neg (by rintro⟨_,h⟩;cases h)]
     repeat (first|refine Zsc ?_|(refine jg ?_;(try intro F);(first|(apply Zad (h:=fun w' hw _=>d w' hw);rfl;rintro v O' ⟨A3,c3,rfl,rfl⟩)|(refine bx ?_;intro g));first|refine⟨_,EndsA,Zlp,?_⟩|refine fin ?_))
     exact rtA
   ·have bk2:decide (p=2)=false:=decide_eq_false m
    rw[if_neg (fun h=>m h.1)]
    repeat (first|(apply RL_pu;rfl;exact Zvz)|(apply RD_Q;rfl;rfl;decide +kernel;rfl;rfl;exact Zuy)|refine walk1 ?_|(refine jg ?_;(try intro F);(first|(apply Zad (h:=fun w' hw _=>d w' hw);rfl;rintro v O' ⟨A3,c3,rfl,rfl⟩)|(refine ZaJ (fun w' hw hO=>hle A3 c3 w' (ZaO DRule.len (hO.of (A := .row (.slice A3 R.length c3) 68 11 R.length (R.flatMap DRule.enc)) (by repeat' constructor)))) ?_)|(refine Zac huc ?_)|(refine Zac hno ?_)|(refine bx ?_;intro g));first|refine⟨_,EndsA,ZuH,?_⟩|refine fin ?_)|(refine jn ?_;(try intro F);(first|(refine bx ?_;intro g)|(apply Zam;exact PuA));refine⟨_,EndsA,ZuH,?_⟩))
    exact rtA
  | succ j =>
   have bj:decide ((0:Int)<((j+1:Nat):Int))=true:=decide_eq_true (by omega)
   clear hcb hcu hkj
   have hj:j<c.length:=by omega
   obtain⟨aa,hcb⟩:=Z.rd j _ (List.getElem?_eq_getElem hj)
   have N:c.getD (j+1 - 1) dE0=c[j]:=by rw[Nat.add_sub_cancel,List.getD_eq_getElem?_getD,List.getElem?_eq_getElem hj];rfl
   rw[N]
   generalize c[j]=b at *
   have hcu:=ZvL hcb
   have hkj:((j+1:Nat):Int) - 1=(j:Int):=by omega
   have f:=fun w' (hw:Bel w.heap.size w w')=>Zf0 Ar Az Al As z D y cs a b w' (Y.up hw) hn
   have hle2:=fun A3 c3 w' h=>ZcP A3 c3 (ZaA a.rules b) w' h
   have hno2:=fun w' (hw:Bel w.heap.size w w')=>Zez b.til (Zae (ZaA a.rules b)) w' (I.up hw)
   have t:=Zs1 b.til (Zae (ZaA a.rules b))
   generalize ZaA a.rules b=R2 at *
   generalize Zae R2=least2 at *
   generalize Zan b.til least2=nm2 at *
   obtain⟨n2,x⟩:=nm2
   obtain⟨ab,ZzT,U,ad,r,⟨ak,W,J,⟨ag,ah,af⟩,⟨an,am⟩⟩⟩:=b
   dsimp only at hno2 t f hcu ⊢
   simp only[DEra.enc]at f hcb
   simp only[DUntil.enc]at hno2 hcu
   by_cases K:x=0
   ·subst K
    obtain⟨q,hdf⟩:∃ q,n - n2=q:=⟨_,rfl⟩
    rw[hdf]
    by_cases H:q<259200
    ·have b3:decide (q<259200)=true:=decide_eq_true H
     rw[if_pos ⟨by omega,.inr H⟩]
     repeat (first|refine ZnI ?_|(refine jg ?_;(try intro F);(first|(apply Zad (h:=fun w' hw _=>d w' hw);rfl;rintro v O' ⟨A3,c3,rfl,rfl⟩)|(apply Zad (h:=fun w' hw _=>f w' hw);rfl;rintro v O' ⟨A4,c4,rfl,rfl⟩)|(refine bx ?_;intro g));first|refine⟨_,EndsA,Zi3,?_⟩|refine fin ?_))
     exact rtA
    ·have b3:decide (q<259200)=false:=decide_eq_false H
     rw[if_neg (by rintro⟨_,h|h⟩;exact h rfl;exact H h)]
     by_cases m:p=2
     ·subst m
      cases fr with
      | false =>
       rw[if_pos ⟨rfl,rfl⟩]
       repeat (first|refine ZnI ?_|(refine jg ?_;(try intro F);(first|(apply Zad (h:=fun w' hw _=>d w' hw);rfl;rintro v O' ⟨A3,c3,rfl,rfl⟩)|(apply Zad (h:=fun w' hw _=>f w' hw);rfl;rintro v O' ⟨A4,c4,rfl,rfl⟩)|(refine bx ?_;intro g));first|refine⟨_,EndsA,Zi3,?_⟩|refine fin ?_))
       exact rtA
      | true =>
       rw[if_neg (by rintro⟨_,h⟩;cases h)]
       repeat (first|refine ZnI ?_|(refine jg ?_;(try intro F);(first|(apply Zad (h:=fun w' hw _=>d w' hw);rfl;rintro v O' ⟨A3,c3,rfl,rfl⟩)|(apply Zad (h:=fun w' hw _=>f w' hw);rfl;rintro v O' ⟨A4,c4,rfl,rfl⟩)|(refine bx ?_;intro g));first|refine⟨_,EndsA,Zi3,?_⟩|refine fin ?_))
       exact rtA
     ·have bk2:decide (p=2)=false:=decide_eq_false m
      rw[if_neg (fun h=>m h.1)]
      repeat (first|(apply RL_pu;rfl;exact Zvy)|(apply RD_Q;rfl;rfl;decide +kernel;rfl;rfl;exact Zuw)|refine walk1 ?_|(refine jg ?_;(try intro F);(first|(apply Zad (h:=fun w' hw _=>d w' hw);rfl;rintro v O' ⟨A3,c3,rfl,rfl⟩)|(refine ZaJ (fun w' hw hO=>hle A3 c3 w' (ZaO DRule.len (hO.of (A := .row (.slice A3 R.length c3) 68 11 R.length (R.flatMap DRule.enc)) (by repeat' constructor)))) ?_)|(refine Zac huc ?_)|(refine Zac hno ?_)|(apply Zad (h:=fun w' hw _=>f w' hw);rfl;rintro v O' ⟨A4,c4,rfl,rfl⟩)|(refine ZaJ (fun w' hw hO=>hle2 A4 c4 w' (ZaO DRule.len (hO.of (A := .row (.slice A4 R2.length c4) 68 11 R2.length (R2.flatMap DRule.enc)) (by repeat' constructor)))) ?_)|(refine Zac hno2 ?_)|(refine bx ?_;intro g));first|refine⟨_,EndsA,ZuG,?_⟩|refine fin ?_)|(refine jn ?_;(try intro F);(first|(refine bx ?_;intro g)|(apply Zam;exact PuA));refine⟨_,EndsA,ZuG,?_⟩))
      exact rtA
   ·have b2:(!decide (x=0))=true:=by rw[decide_eq_false K];rfl
    rw[if_pos ⟨by omega,.inl K⟩]
    repeat (first|(apply RL_pu;rfl;exact Zvx)|(apply RD_Q;rfl;rfl;decide +kernel;rfl;rfl;exact Zuv)|refine walk1 ?_|(refine jg ?_;(try intro F);(first|(apply Zad (h:=fun w' hw _=>d w' hw);rfl;rintro v O' ⟨A3,c3,rfl,rfl⟩)|(refine ZaJ (fun w' hw hO=>hle A3 c3 w' (ZaO DRule.len (hO.of (A := .row (.slice A3 R.length c3) 68 11 R.length (R.flatMap DRule.enc)) (by repeat' constructor)))) ?_)|(refine Zac huc ?_)|(refine Zac hno ?_)|(apply Zad (h:=fun w' hw _=>f w' hw);rfl;rintro v O' ⟨A4,c4,rfl,rfl⟩)|(refine ZaJ (fun w' hw hO=>hle2 A4 c4 w' (ZaO DRule.len (hO.of (A := .row (.slice A4 R2.length c4) 68 11 R2.length (R2.flatMap DRule.enc)) (by repeat' constructor)))) ?_)|(refine Zac hno2 ?_)|(refine bx ?_;intro g));first|refine⟨_,EndsA,ZuF,?_⟩|refine fin ?_)|(refine jn ?_;(try intro F);(first|(refine bx ?_;intro g)|(apply Zam;exact PuA));refine⟨_,EndsA,ZuF,?_⟩))
    exact rtA
 ·rw[if_pos u]
  have bu:(!decide (uc=0))=true:=by rw[decide_eq_false u];rfl
  repeat (first|(apply RL_pu;rfl;exact Zvw)|(apply RD_Q;rfl;rfl;decide +kernel;rfl;rfl;exact Zuu)|refine walk1 ?_|(refine jg ?_;(try intro F);(first|(apply Zad (h:=fun w' hw _=>d w' hw);rfl;rintro v O' ⟨A3,c3,rfl,rfl⟩)|(refine ZaJ (fun w' hw hO=>hle A3 c3 w' (ZaO DRule.len (hO.of (A := .row (.slice A3 R.length c3) 68 11 R.length (R.flatMap DRule.enc)) (by repeat' constructor)))) ?_)|(refine Zac huc ?_)|(refine bx ?_;intro g));first|refine⟨_,EndsA,ZuE,?_⟩|refine fin ?_)|(refine jn ?_;(try intro F);(first|(refine bx ?_;intro g)|(apply Zam;exact PuA));refine⟨_,EndsA,ZuE,?_⟩))
  exact rtA
end Go.Proofs.YtpipekfmecikmaaGreatDoor
