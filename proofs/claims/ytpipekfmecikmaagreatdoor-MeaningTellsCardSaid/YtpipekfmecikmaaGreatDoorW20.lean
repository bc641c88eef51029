/- Parts of the proof. -/
import Derived.Test.YtpipekfmecikmaaGreatDoorW19
set_option maxHeartbeats 4000000
set_option linter.unusedVariables false
set_option linter.unusedSimpArgs false
namespace Go.Proofs.YtpipekfmecikmaaGreatDoor
open Go Go.RowKit Go.Wk
attribute [local irreducible] W RL Does Zat Zaj retQ Calls Pu Stp RD Qy Ay Zak
theorem ZgJ.i64 {s:DSource}(h:ZgJ s):∀ r∈s.rules,I64 r.save:=fun r a=>by have:=(h r a).1;unfold I64;omega
theorem Zdv {rs:List DRule}{e:DEra}{r:DRule}(h:r∈ZaA rs e):r∈rs:=by
 unfold ZaA at h
 split at h
 ·exact Zov h
 ·cases h
theorem Zeh (rs:List DRule)(e:DEra):(ZaA rs e).length<=rs.length:=by
 unfold ZaA
 split
 ·exact Zic _ _
 ·exact Nat.zero_le _
theorem Zfm {rs:List DRule}{e:DEra}(b:∀ r∈rs,I64 r.save)(c:I64 e.save):∀ x∈ZaB rs e,I64 x.1:=by
 intro x a
 unfold ZaB at a
 split at a
 ·simp only[List.mem_singleton]at a;subst a;exact c
 ·split at a
  ·obtain⟨r,h,rfl⟩:=List.mem_map.1 a
   exact b r (Zdv h)
  ·simp only[List.mem_singleton]at a;subst a;exact⟨by decide,by decide⟩
def offB (off:Int)(x:Int × ByteArray):Bool := !ZaW off x.1
structure Zjs (e:DEra):Prop where
 off:I64 e.off
 save:I64 e.save
 kind:I64 e.kind
 fmt:e.format.size<=1000000000
theorem Zpv {G:Prop}(h:G:=by(apply Zaw;rfl;rfl;exact b1)):G:=h
theorem ZvZ {G:Prop}(h:G:=by(first|exact Zpv|(apply Zay;rfl;rfl;exact b2))):G:=h
theorem Zpu {G:Prop}(h:G:=by(apply Zaw;rfl;rfl;exact s1)):G:=h
theorem Zjr {G:Prop}(h:G:=by(first|exact Zpu|(apply Zay;rfl;rfl;exact s2))):G:=h
theorem Zpe {G:Prop}(h:G:=by first|(apply Qy_y;rfl;exact Zjr)|exact QyA):G:=h
theorem Zpf {G:Prop}(h:G:=by repeat (first|exact QF.nil|(apply QF.mk;rfl;rfl;decide +kernel;exact Zpe))):G:=h
theorem Zjq {G:Prop}(h:G:=by(apply Zap;rfl;rfl;exact r0)):G:=h
theorem Zpd {G:Prop}(h:G:=by first|(apply Qy_y;rfl;exact Zjq)|exact QyA):G:=h
theorem Zlx {G:Prop}(h:G:=by repeat (first|exact QF.nil|(apply QF.mk;rfl;rfl;decide +kernel;exact Zpd))):G:=h
set_option maxHeartbeats 4000000 in
theorem Ztv (Ar Az Al As:Option Addr)(U W T cs:Nat)(a:DSource)(e:DEra)(first:Bool)(w:World)(hL:LibW w)(hA:Zal w Ar Az Al As U W T cs a)(hS:ZcX a)(hV:ZgJ a)(z:Zjs e) :
  Does Tryz.prog 182 [srcV Ar Az Al As U W T cs a,.agg e.enc.toArray,.bool first] w (fun v O=>v = .int .i64 (Zda a.rules e first)/\O=[]):=by
 have hn:=hS.nr
 have m:=fun w' (b:Bel w.heap.size w w')=>ZfO Ar Az Al As U W T cs a e w' (hA.up b) hn
 have y:=fun w'=>Zj3 e.off 0 z.off ⟨by decide,by decide⟩ w'
 have t:=fun w' (b:Bel w.heap.size w w')=>ZhQ Ar Az Al As U W T cs a e w' (hA.up b) hn
 have u:=fun w'=>ZnX e w'
 have L:∀ r∈ZaA a.rules e,r∈a.rules:=fun r h=>Zdv h
 have hRl:=Zeh a.rules e
 have D:=Zfm (fun r h=>hV.i64 r h) z.save
 have s:=fun A3 q w' (b:Bel w.heap.size w w') h=>ZoM e A3 q (ZaA a.rules e) w' (hL.up b) h z.off z.save (fun r hr=>hV.i64 r (L r hr)) (by omega) z.fmt (fun r hr=>(hS.rs r (L r hr)).2)
 unfold Zda
 rw[show(fun x:Int × ByteArray => !ZaW e.off x.1)=offB e.off from rfl]
 generalize ZaA a.rules e=R at *
 generalize ZaB a.rules e=S at *
 generalize Zdj e=un at *
 generalize Zd6 e R=fc at *
 obtain⟨off,kind,save,set,X,til⟩:=e
 have ho:=z.off
 have hki:=z.kind
 have j:=fun A5 f (J:Nat) (cells:List Value) w' (h:RdSl w' A5 f Za1 2 S) (Z:Zau w' ⟨J,0,none⟩ (.int .i64 off::cells))=>ZiY A5 f S 234 [] [.pointer (some ⟨J,0,none⟩)] (offB off) w' h (fun x hx w2 hw2=>by
  have N:w'.cell? ⟨J,0,none⟩=some (.int .i64 off):=by
   have:=Z 0 _ rfl
   rwa[Zb5]at this
  exact ZtT x ⟨J,0,none⟩ off w2 ((hw2.cell (World.block_lt_of_cell? w' _ N)).trans N) ho (D x hx))
 replace j:=fun A5 f w' h {J cells} Z=>j A5 f J cells w' h Z
 dsimp only at m y t u s ho hki ⊢
 simp only[DEra.enc]at m t u s ⊢
 obtain⟨K,M⟩:∃ K,S.any (offB off)=K:=⟨_,rfl⟩
 rw[M]at j ⊢
 generalize ZaW off 0=h0 at *
 clear D M z
 refine Zaa Tryz.func182 rfl rfl rfl rfl ?_
 by_cases E:kind<0
 ·have b1:decide (kind<0)=true:=decide_eq_true E
  rw[if_pos (.inl E)]
  repeat (first|refine und ?_|(apply RL_pu;rfl;exact Zpv)|(apply RD_Q;rfl;rfl;decide +kernel;rfl;rfl;exact QyAccG0)|refine walk1 ?_|(refine jn ?_;(try intro F);(first|(refine bx ?_;intro p)|(apply Zad;first|exact Zpv|exact PuA));first|refine⟨_,EndsA,QFAccG0,?_⟩|refine fin ?_))
  exact rtA
 by_cases Q:2<kind
 ·have b1:decide (kind<0)=false:=decide_eq_false E
  have b2:decide (2<kind)=true:=decide_eq_true Q
  rw[if_pos (.inr Q)]
  repeat (first|refine und ?_|(apply RL_pu;rfl;exact ZvZ)|(apply RD_Q;rfl;rfl;decide +kernel;rfl;rfl;exact QyAccG1)|refine walk1 ?_|(refine jn ?_;(try intro F);(first|(refine bx ?_;intro p)|(apply Zad;first|exact ZvZ|exact PuA));first|refine⟨_,EndsA,QFAccG1,?_⟩|refine fin ?_))
  exact rtA
 rw[if_neg (by omega)]
 obtain rfl|rfl|rfl:kind=0\/kind=1\/kind=2:=by omega
 ·cases first
  all_goals
   rw[if_neg (by rintro⟨h1,h2⟩;first|(cases h1;done)|(cases h2;done)),if_neg (by rintro⟨h,_⟩;cases h),if_neg (by rintro⟨h,_⟩;cases h)]
  all_goals
   cases h0 <;> first|rw[if_pos (Or.inl rfl)]|(cases K <;> first|rw[if_pos (Or.inr rfl)]|(rw[if_neg (by rintro(h|h) <;> cases h)];cases un <;> first|rw[if_pos rfl]|rw[if_neg (by decide)]))
  all_goals
   repeat (first|refine und ?_|refine walk ?_|(refine jg ?_;(try intro F);(first|(apply Zae (h:=fun w' b _=>m w' b);rfl;rintro v O' ⟨A3,q,rfl,rfl⟩)|(refine Zab (fun w' b=>y w') ?_)|(apply Zae (h:=fun w' b _=>t w' b);rfl;rintro v O' ⟨A5,f,rfl,rfl⟩)|(refine ZaH (fun w' b c=>j A5 f w' (ZaP Za1.len (c.of (A := .row (.slice A5 S.length f) 155 2 S.length (S.flatMap Za1)) (by repeat' constructor))) (c.cells (by repeat' constructor))) ?_)|(refine Zab (fun w' b=>u w') ?_)|(refine ZaH (fun w' b c=>s A3 q w' b (ZaP DRule.len (c.of (A := .row (.slice A3 R.length q) 68 11 R.length (R.flatMap DRule.enc)) (by repeat' constructor)))) ?_)|(refine bx ?_;intro p));refine fin ?_)|(refine jn ?_;(try intro F);(first|(refine bx ?_;intro p)|(apply Zad;exact PuA));refine fin ?_))
   exact rtA
 ·rw[if_neg (by rintro⟨_,h⟩;cases h),if_neg (by rintro⟨h,_⟩;cases h)]
  by_cases H:save<1
  ·have s1:decide (save<1)=true:=decide_eq_true H
   rw[if_pos ⟨rfl,.inl H⟩]
   cases first
   all_goals
    repeat (first|refine und ?_|(apply RL_pu;rfl;exact Zpu)|(apply RD_Q;rfl;rfl;decide +kernel;rfl;rfl;exact QyAccG2)|refine walk1 ?_|(refine jn ?_;(try intro F);(first|(refine bx ?_;intro p)|(apply Zad;first|exact Zpu|exact PuA));first|refine⟨_,EndsA,QFAccG2,?_⟩|refine fin ?_))
    exact rtA
  have s1:decide (save<1)=false:=decide_eq_false H
  by_cases I:10800<save
  ·have s2:decide (10800<save)=true:=decide_eq_true I
   rw[if_pos ⟨rfl,.inr I⟩]
   cases first
   all_goals
    repeat (first|refine und ?_|(apply RL_pu;rfl;exact Zjr)|(apply RD_Q;rfl;rfl;decide +kernel;rfl;rfl;exact Zpe)|refine walk1 ?_|(refine jn ?_;(try intro F);(first|(refine bx ?_;intro p)|(apply Zad;first|exact Zjr|exact PuA));first|refine⟨_,EndsA,Zpf,?_⟩|refine fin ?_))
    exact rtA
  have s2:decide (10800<save)=false:=decide_eq_false I
  rw[if_neg (by omega)]
  cases first
  all_goals
   cases h0 <;> first|rw[if_pos (Or.inl rfl)]|(cases K <;> first|rw[if_pos (Or.inr rfl)]|(rw[if_neg (by rintro(h|h) <;> cases h)];cases un <;> first|rw[if_pos rfl]|rw[if_neg (by decide)]))
  all_goals
   repeat (first|refine und ?_|(apply RL_pu;rfl;exact Zjr)|(apply RD_Q;rfl;rfl;decide +kernel;rfl;rfl;exact Zpe)|refine walk1 ?_|(refine jg ?_;(try intro F);(first|(apply Zae (h:=fun w' b _=>m w' b);rfl;rintro v O' ⟨A3,q,rfl,rfl⟩)|(refine Zab (fun w' b=>y w') ?_)|(apply Zae (h:=fun w' b _=>t w' b);rfl;rintro v O' ⟨A5,f,rfl,rfl⟩)|(refine ZaH (fun w' b c=>j A5 f w' (ZaP Za1.len (c.of (A := .row (.slice A5 S.length f) 155 2 S.length (S.flatMap Za1)) (by repeat' constructor))) (c.cells (by repeat' constructor))) ?_)|(refine Zab (fun w' b=>u w') ?_)|(refine ZaH (fun w' b c=>s A3 q w' b (ZaP DRule.len (c.of (A := .row (.slice A3 R.length q) 68 11 R.length (R.flatMap DRule.enc)) (by repeat' constructor)))) ?_)|(refine bx ?_;intro p));first|refine⟨_,EndsA,Zpf,?_⟩|refine fin ?_)|(refine jn ?_;(try intro F);(first|(refine bx ?_;intro p)|(apply Zad;first|exact Zjr|exact PuA));first|refine⟨_,EndsA,Zpf,?_⟩|refine fin ?_))
   exact rtA
 ·cases first with
  | true =>
   rw[if_pos ⟨rfl,rfl⟩]
   repeat (first|refine und ?_|refine walk ?_|(refine jn ?_;(try intro F);(first|(refine bx ?_;intro p)|(apply Zad;exact PuA));refine fin ?_))
   exact rtA
  | false =>
   rw[if_neg (by rintro⟨h,_⟩;cases h)]
   by_cases Y:R=[]
   ·have r0:decide ((R.length:Int)=0)=true:=by rw[Y];rfl
    rw[if_pos ⟨rfl,Y⟩]
    repeat (first|refine und ?_|(apply RL_pu;rfl;exact Zjq)|(apply RD_Q;rfl;rfl;decide +kernel;rfl;rfl;exact Zpd)|refine walk1 ?_|(refine jg ?_;(try intro F);(first|(apply Zae (h:=fun w' b _=>m w' b);rfl;rintro v O' ⟨A3,q,rfl,rfl⟩)|(refine bx ?_;intro p));first|refine⟨_,EndsA,Zlx,?_⟩|refine fin ?_)|(refine jn ?_;(try intro F);(first|(refine bx ?_;intro p)|(apply Zad;first|exact Zjq|exact PuA));first|refine⟨_,EndsA,Zlx,?_⟩|refine fin ?_))
    exact rtA
   have r0:decide ((R.length:Int)=0)=false:=decide_eq_false (fun h=>Y (List.eq_nil_of_length_eq_zero (by omega)))
   rw[if_neg (fun h=>Y h.2),if_neg (by rintro⟨h,_⟩;cases h)]
   cases h0 <;> first|rw[if_pos (Or.inl rfl)]|(cases K <;> first|rw[if_pos (Or.inr rfl)]|(rw[if_neg (by rintro(h|h) <;> cases h)];cases un <;> first|rw[if_pos rfl]|rw[if_neg (by decide)]))
   all_goals
    repeat (first|refine und ?_|(apply RL_pu;rfl;exact Zjq)|(apply RD_Q;rfl;rfl;decide +kernel;rfl;rfl;exact Zpd)|refine walk1 ?_|(refine jg ?_;(try intro F);(first|(apply Zae (h:=fun w' b _=>m w' b);rfl;rintro v O' ⟨A3,q,rfl,rfl⟩)|(refine Zab (fun w' b=>y w') ?_)|(apply Zae (h:=fun w' b _=>t w' b);rfl;rintro v O' ⟨A5,f,rfl,rfl⟩)|(refine ZaH (fun w' b c=>j A5 f w' (ZaP Za1.len (c.of (A := .row (.slice A5 S.length f) 155 2 S.length (S.flatMap Za1)) (by repeat' constructor))) (c.cells (by repeat' constructor))) ?_)|(refine Zab (fun w' b=>u w') ?_)|(refine ZaH (fun w' b c=>s A3 q w' b (ZaP DRule.len (c.of (A := .row (.slice A3 R.length q) 68 11 R.length (R.flatMap DRule.enc)) (by repeat' constructor)))) ?_)|(refine bx ?_;intro p));first|refine⟨_,EndsA,Zlx,?_⟩|refine fin ?_)|(refine jn ?_;(try intro F);(first|(refine bx ?_;intro p)|(apply Zad;first|exact Zjq|exact PuA));first|refine⟨_,EndsA,Zlx,?_⟩|refine fin ?_))
    exact rtA
end Go.Proofs.YtpipekfmecikmaaGreatDoor
