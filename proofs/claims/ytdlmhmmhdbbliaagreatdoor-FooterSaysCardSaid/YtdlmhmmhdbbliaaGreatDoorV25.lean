/- Parts of the proof. -/
import Derived.Test.YtdlmhmmhdbbliaaGreatDoorV24
set_option maxHeartbeats 4000000
set_option linter.unusedVariables false
set_option linter.unusedSimpArgs false
namespace Go.Proofs.YtdlmhmmhdbbliaaGreatDoor
open Go Go.RowKit Go.Wk
attribute [local irreducible] W RL Does Zau Zak retQ Calls Pu Stp RD Qy Ay Zaj
theorem ZlA.i64 {s:Zai}(h:ZlA s):∀ r∈s.rules,I64 r.save:=fun r hr=>by have:=(h r hr).1;unfold I64;omega
theorem Zge {rs:List Zab}{e:DEra}{r:Zab}(h:r∈Zbb rs e):r∈rs:=by
 unfold Zbb at h
 split at h
 ·exact Ztb h
 ·cases h
theorem Zip (rs:List Zab)(e:DEra):(Zbb rs e).length<=rs.length:=by
 unfold Zbb
 split
 ·exact Zoi _ _
 ·exact Nat.zero_le _
theorem Zik {rs:List Zab}{e:DEra}(hr:∀ r∈rs,I64 r.save)(hs:I64 e.save):∀ x∈ZaR rs e,I64 x.1:=by
 intro x hx
 unfold ZaR at hx
 split at hx
 ·simp only[List.mem_singleton]at hx;subst hx;exact hs
 ·split at hx
  ·obtain⟨r,h,rfl⟩:=List.mem_map.1 hx
   exact hr r (Zge h)
  ·simp only[List.mem_singleton]at hx;subst hx;exact⟨by decide,by decide⟩
def offB (off:Int)(x:Int × ByteArray):Bool := !Zcl off x.1
structure Zr8 (e:DEra):Prop where
 off:I64 e.off
 save:I64 e.save
 kind:I64 e.kind
 fmt:e.format.size<=1000000000
theorem Zpt {G:Prop}(h:G:=by(apply ZaS;rfl;rfl;exact b1)):G:=h
theorem ZvO {G:Prop}(h:G:=by(first|exact Zpt|(apply ZaC;rfl;rfl;exact b2))):G:=h
theorem Zps {G:Prop}(h:G:=by(apply ZaS;rfl;rfl;exact s1)):G:=h
theorem ZjI {G:Prop}(h:G:=by(first|exact Zps|(apply ZaC;rfl;rfl;exact s2))):G:=h
theorem Zo9 {G:Prop}(h:G:=by first|(apply Qy_y;rfl;exact ZjI)|exact QyA):G:=h
theorem Zpa {G:Prop}(h:G:=by repeat (first|exact QF.nil|(apply QF.mk;rfl;rfl;decide +kernel;exact Zo9))):G:=h
theorem ZjH {G:Prop}(h:G:=by(apply Zaw;rfl;rfl;exact r0)):G:=h
theorem Zo8 {G:Prop}(h:G:=by first|(apply Qy_y;rfl;exact ZjH)|exact QyA):G:=h
theorem ZlD {G:Prop}(h:G:=by repeat (first|exact QF.nil|(apply QF.mk;rfl;rfl;decide +kernel;exact Zo8))):G:=h
set_option maxHeartbeats 4000000 in
theorem Ztt (Ar Az Al As:Option Addr)(cr cz cl cs:Nat)(a:Zai)(e:DEra)(first:Bool)(w:World)(hL:LibW w)(hA:Zav w Ar Az Al As cr cz cl cs a)(hS:ZhV a)(hV:ZlA a)(hE:Zr8 e) :
  Does Tryz.prog 140 [srcV Ar Az Al As cr cz cl cs a,.agg e.enc.toArray,.bool first] w (fun v O=>v = .int .i64 (ZeV a.rules e first)/\O=[]):=by
 have hn:=hS.nr
 have hst:=fun w' (hw:Bel w.heap.size w w')=>Zgo Ar Az Al As cr cz cl cs a e w' (hA.up hw) hn
 have hh0:=fun w'=>Zko e.off 0 hE.off ⟨by decide,by decide⟩ w'
 have hss:=fun w' (hw:Bel w.heap.size w w')=>Zij Ar Az Al As cr cz cl cs a e w' (hA.up hw) hn
 have hun:=fun w'=>ZnY e w'
 have hRs:∀ r∈Zbb a.rules e,r∈a.rules:=fun r h=>Zge h
 have hRl:=Zip a.rules e
 have hS64:=Zik (fun r h=>hV.i64 r h) hE.save
 have hfc:=fun A3 c3 w' (hw:Bel w.heap.size w w') h=>ZoE e A3 c3 (Zbb a.rules e) w' (hL.up hw) h hE.off hE.save (fun r hr=>hV.i64 r (hRs r hr)) (by omega) hE.fmt (fun r hr=>(hS.rs r (hRs r hr)).2)
 unfold ZeV
 rw[show(fun x:Int × ByteArray => !Zcl e.off x.1)=offB e.off from rfl]
 generalize Zbb a.rules e=R at *
 generalize ZaR a.rules e=S at *
 generalize ZgY e=un at *
 generalize ZiP e R=fc at *
 obtain⟨off,kind,save,set,format,til⟩:=e
 have ho:=hE.off
 have hki:=hE.kind
 have hcn:=fun A5 c5 (b4:Nat) (cells:List Value) w' (h:RdSl w' A5 c5 Zci 2 S) (h4:Zal w' ⟨b4,0,none⟩ (.int .i64 off::cells))=>Zjc A5 c5 S 181 [] [.pointer (some ⟨b4,0,none⟩)] (offB off) w' h (fun x hx w2 hw2=>by
  have hc0:w'.cell? ⟨b4,0,none⟩=some (.int .i64 off):=by
   have:=h4 0 _ rfl
   rwa[Zcd]at this
  exact ZtY x ⟨b4,0,none⟩ off w2 ((hw2.cell (World.block_lt_of_cell? w' _ hc0)).trans hc0) ho (hS64 x hx))
 replace hcn:=fun A5 c5 w' h {b4 cells} h4=>hcn A5 c5 b4 cells w' h h4
 dsimp only at hst hh0 hss hun hfc ho hki ⊢
 simp only[DEra.enc]at hst hss hun hfc ⊢
 obtain⟨an,han⟩:∃ an,S.any (offB off)=an:=⟨_,rfl⟩
 rw[han]at hcn ⊢
 generalize Zcl off 0=h0 at *
 clear hS64 han hE
 refine Zaa Tryz.func140 rfl rfl rfl rfl ?_
 by_cases hlo:kind<0
 ·have b1:decide (kind<0)=true:=decide_eq_true hlo
  rw[if_pos (.inl hlo)]
  repeat (first|refine und ?_|(apply RL_pu;rfl;exact Zpt)|(apply RD_Q;rfl;rfl;decide +kernel;rfl;rfl;exact QyAccG0)|refine walk1 ?_|(refine jn ?_;(try intro F);(first|(refine bx ?_;intro bk)|(apply Zae;first|exact Zpt|exact PuA));first|refine⟨_,EndsA,QFAccG0,?_⟩|refine fin ?_))
  exact rtA
 by_cases hhi:2<kind
 ·have b1:decide (kind<0)=false:=decide_eq_false hlo
  have b2:decide (2<kind)=true:=decide_eq_true hhi
  rw[if_pos (.inr hhi)]
  repeat (first|refine und ?_|(apply RL_pu;rfl;exact ZvO)|(apply RD_Q;rfl;rfl;decide +kernel;rfl;rfl;exact QyAccG1)|refine walk1 ?_|(refine jn ?_;(try intro F);(first|(refine bx ?_;intro bk)|(apply Zae;first|exact ZvO|exact PuA));first|refine⟨_,EndsA,QFAccG1,?_⟩|refine fin ?_))
  exact rtA
 rw[if_neg (by omega)]
 obtain rfl|rfl|rfl:kind=0\/kind=1\/kind=2:=by omega
 ·cases first
  all_goals
   rw[if_neg (by rintro⟨h1,h2⟩;first|(cases h1;done)|(cases h2;done)),if_neg (by rintro⟨h,_⟩;cases h),if_neg (by rintro⟨h,_⟩;cases h)]
  all_goals
   cases h0 <;> first|rw[if_pos (Or.inl rfl)]|(cases an <;> first|rw[if_pos (Or.inr rfl)]|(rw[if_neg (by rintro(h|h) <;> cases h)];cases un <;> first|rw[if_pos rfl]|rw[if_neg (by decide)]))
  all_goals
   repeat (first|refine und ?_|refine walk ?_|(refine jg ?_;(try intro F);(first|(apply Zag (h:=fun w' hw _=>hst w' hw);rfl;rintro v O' ⟨A3,c3,rfl,rfl⟩)|(refine Zac (fun w' hw=>hh0 w') ?_)|(apply Zag (h:=fun w' hw _=>hss w' hw);rfl;rintro v O' ⟨A5,c5,rfl,rfl⟩)|(refine Za1 (fun w' hw hO=>hcn A5 c5 w' (Zbn Zci.len (hO.of (A := .row (.slice A5 S.length c5) 151 2 S.length (S.flatMap Zci)) (by repeat' constructor))) (hO.cells (by repeat' constructor))) ?_)|(refine Zac (fun w' hw=>hun w') ?_)|(refine Za1 (fun w' hw hO=>hfc A3 c3 w' hw (Zbn Zab.len (hO.of (A := .row (.slice A3 R.length c3) 82 11 R.length (R.flatMap Zab.enc)) (by repeat' constructor)))) ?_)|(refine bx ?_;intro bk));refine fin ?_)|(refine jn ?_;(try intro F);(first|(refine bx ?_;intro bk)|(apply Zae;exact PuA));refine fin ?_))
   exact rtA
 ·rw[if_neg (by rintro⟨_,h⟩;cases h),if_neg (by rintro⟨h,_⟩;cases h)]
  by_cases hs1:save<1
  ·have s1:decide (save<1)=true:=decide_eq_true hs1
   rw[if_pos ⟨rfl,.inl hs1⟩]
   cases first
   all_goals
    repeat (first|refine und ?_|(apply RL_pu;rfl;exact Zps)|(apply RD_Q;rfl;rfl;decide +kernel;rfl;rfl;exact QyAccG2)|refine walk1 ?_|(refine jn ?_;(try intro F);(first|(refine bx ?_;intro bk)|(apply Zae;first|exact Zps|exact PuA));first|refine⟨_,EndsA,QFAccG2,?_⟩|refine fin ?_))
    exact rtA
  have s1:decide (save<1)=false:=decide_eq_false hs1
  by_cases hs2:10800<save
  ·have s2:decide (10800<save)=true:=decide_eq_true hs2
   rw[if_pos ⟨rfl,.inr hs2⟩]
   cases first
   all_goals
    repeat (first|refine und ?_|(apply RL_pu;rfl;exact ZjI)|(apply RD_Q;rfl;rfl;decide +kernel;rfl;rfl;exact Zo9)|refine walk1 ?_|(refine jn ?_;(try intro F);(first|(refine bx ?_;intro bk)|(apply Zae;first|exact ZjI|exact PuA));first|refine⟨_,EndsA,Zpa,?_⟩|refine fin ?_))
    exact rtA
  have s2:decide (10800<save)=false:=decide_eq_false hs2
  rw[if_neg (by omega)]
  cases first
  all_goals
   cases h0 <;> first|rw[if_pos (Or.inl rfl)]|(cases an <;> first|rw[if_pos (Or.inr rfl)]|(rw[if_neg (by rintro(h|h) <;> cases h)];cases un <;> first|rw[if_pos rfl]|rw[if_neg (by decide)]))
  all_goals
   repeat (first|refine und ?_|(apply RL_pu;rfl;exact ZjI)|(apply RD_Q;rfl;rfl;decide +kernel;rfl;rfl;exact Zo9)|refine walk1 ?_|(refine jg ?_;(try intro F);(first|(apply Zag (h:=fun w' hw _=>hst w' hw);rfl;rintro v O' ⟨A3,c3,rfl,rfl⟩)|(refine Zac (fun w' hw=>hh0 w') ?_)|(apply Zag (h:=fun w' hw _=>hss w' hw);rfl;rintro v O' ⟨A5,c5,rfl,rfl⟩)|(refine Za1 (fun w' hw hO=>hcn A5 c5 w' (Zbn Zci.len (hO.of (A := .row (.slice A5 S.length c5) 151 2 S.length (S.flatMap Zci)) (by repeat' constructor))) (hO.cells (by repeat' constructor))) ?_)|(refine Zac (fun w' hw=>hun w') ?_)|(refine Za1 (fun w' hw hO=>hfc A3 c3 w' hw (Zbn Zab.len (hO.of (A := .row (.slice A3 R.length c3) 82 11 R.length (R.flatMap Zab.enc)) (by repeat' constructor)))) ?_)|(refine bx ?_;intro bk));first|refine⟨_,EndsA,Zpa,?_⟩|refine fin ?_)|(refine jn ?_;(try intro F);(first|(refine bx ?_;intro bk)|(apply Zae;first|exact ZjI|exact PuA));first|refine⟨_,EndsA,Zpa,?_⟩|refine fin ?_))
   exact rtA
 ·cases first with
  | true =>
   rw[if_pos ⟨rfl,rfl⟩]
   repeat (first|refine und ?_|refine walk ?_|(refine jn ?_;(try intro F);(first|(refine bx ?_;intro bk)|(apply Zae;exact PuA));refine fin ?_))
   exact rtA
  | false =>
   rw[if_neg (by rintro⟨h,_⟩;cases h)]
   by_cases hR:R=[]
   ·have r0:decide ((R.length:Int)=0)=true:=by rw[hR];rfl
    rw[if_pos ⟨rfl,hR⟩]
    repeat (first|refine und ?_|(apply RL_pu;rfl;exact ZjH)|(apply RD_Q;rfl;rfl;decide +kernel;rfl;rfl;exact Zo8)|refine walk1 ?_|(refine jg ?_;(try intro F);(first|(apply Zag (h:=fun w' hw _=>hst w' hw);rfl;rintro v O' ⟨A3,c3,rfl,rfl⟩)|(refine bx ?_;intro bk));first|refine⟨_,EndsA,ZlD,?_⟩|refine fin ?_)|(refine jn ?_;(try intro F);(first|(refine bx ?_;intro bk)|(apply Zae;first|exact ZjH|exact PuA));first|refine⟨_,EndsA,ZlD,?_⟩|refine fin ?_))
    exact rtA
   have r0:decide ((R.length:Int)=0)=false:=decide_eq_false (fun h=>hR (List.eq_nil_of_length_eq_zero (by omega)))
   rw[if_neg (fun h=>hR h.2),if_neg (by rintro⟨h,_⟩;cases h)]
   cases h0 <;> first|rw[if_pos (Or.inl rfl)]|(cases an <;> first|rw[if_pos (Or.inr rfl)]|(rw[if_neg (by rintro(h|h) <;> cases h)];cases un <;> first|rw[if_pos rfl]|rw[if_neg (by decide)]))
   all_goals
    repeat (first|refine und ?_|(apply RL_pu;rfl;exact ZjH)|(apply RD_Q;rfl;rfl;decide +kernel;rfl;rfl;exact Zo8)|refine walk1 ?_|(refine jg ?_;(try intro F);(first|(apply Zag (h:=fun w' hw _=>hst w' hw);rfl;rintro v O' ⟨A3,c3,rfl,rfl⟩)|(refine Zac (fun w' hw=>hh0 w') ?_)|(apply Zag (h:=fun w' hw _=>hss w' hw);rfl;rintro v O' ⟨A5,c5,rfl,rfl⟩)|(refine Za1 (fun w' hw hO=>hcn A5 c5 w' (Zbn Zci.len (hO.of (A := .row (.slice A5 S.length c5) 151 2 S.length (S.flatMap Zci)) (by repeat' constructor))) (hO.cells (by repeat' constructor))) ?_)|(refine Zac (fun w' hw=>hun w') ?_)|(refine Za1 (fun w' hw hO=>hfc A3 c3 w' hw (Zbn Zab.len (hO.of (A := .row (.slice A3 R.length c3) 82 11 R.length (R.flatMap Zab.enc)) (by repeat' constructor)))) ?_)|(refine bx ?_;intro bk));first|refine⟨_,EndsA,ZlD,?_⟩|refine fin ?_)|(refine jn ?_;(try intro F);(first|(refine bx ?_;intro bk)|(apply Zae;first|exact ZjH|exact PuA));first|refine⟨_,EndsA,ZlD,?_⟩|refine fin ?_))
    exact rtA
end Go.Proofs.YtdlmhmmhdbbliaaGreatDoor
