/- Parts of the proof. -/
import Derived.Test.YtpipekfmecikmaaGreatDoorV17
set_option maxHeartbeats 4000000
set_option linter.unusedVariables false
set_option linter.unusedSimpArgs false
namespace Go.Proofs.YtpipekfmecikmaaGreatDoor
open Go Go.RowKit Go.Wk
attribute [local irreducible] W RL Does Zat Zaj retQ Calls Pu Stp RD Qy Ay Zak
theorem Zgl.i64 {s:DSource}(h:Zgl s):∀ r∈s.rules,I64 r.save:=fun r hr=>by have:=(h r hr).1;unfold I64;omega
theorem Zdb {rs:List DRule}{e:DEra}{r:DRule}(h:r∈ZaE rs e):r∈rs:=by
 unfold ZaE at h
 split at h
 ·exact Znv h
 ·cases h
theorem Zd7 (rs:List DRule)(e:DEra):(ZaE rs e).length<=rs.length:=by
 unfold ZaE
 split
 ·exact ZhL _ _
 ·exact Nat.zero_le _
theorem Zfa {rs:List DRule}{e:DEra}(hr:∀ r∈rs,I64 r.save)(hs:I64 e.save):∀ x∈ZaG rs e,I64 x.1:=by
 intro x hx
 unfold ZaG at hx
 split at hx
 ·simp only[List.mem_singleton]at hx;subst hx;exact hs
 ·split at hx
  ·obtain⟨r,h,rfl⟩:=List.mem_map.1 hx
   exact hr r (Zdb h)
  ·simp only[List.mem_singleton]at hx;subst hx;exact⟨by decide,by decide⟩
def offB (off:Int)(x:Int × ByteArray):Bool := !Za0 off x.1
structure ZiQ (e:DEra):Prop where
 off:I64 e.off
 save:I64 e.save
 kind:I64 e.kind
 fmt:e.format.size<=1000000000
theorem Zov {G:Prop}(h:G:=by(apply Zaz;rfl;rfl;exact b1)):G:=h
theorem Zuw {G:Prop}(h:G:=by(first|exact Zov|(apply Zaw;rfl;rfl;exact b2))):G:=h
theorem Zou {G:Prop}(h:G:=by(apply Zaz;rfl;rfl;exact s1)):G:=h
theorem ZiO {G:Prop}(h:G:=by(first|exact Zou|(apply Zaw;rfl;rfl;exact s2))):G:=h
theorem Zoe {G:Prop}(h:G:=by first|(apply Qy_y;rfl;exact ZiO)|exact QyA):G:=h
theorem Zof {G:Prop}(h:G:=by repeat (first|exact QF.nil|(apply QF.mk;rfl;rfl;decide +kernel;exact Zoe))):G:=h
theorem ZiN {G:Prop}(h:G:=by(apply Zan;rfl;rfl;exact r0)):G:=h
theorem Zod {G:Prop}(h:G:=by first|(apply Qy_y;rfl;exact ZiN)|exact QyA):G:=h
theorem ZkK {G:Prop}(h:G:=by repeat (first|exact QF.nil|(apply QF.mk;rfl;rfl;decide +kernel;exact Zod))):G:=h
set_option maxHeartbeats 4000000 in
theorem Zsf (Ar Az Al As:Option Addr)(cr cz cl cs:Nat)(a:DSource)(e:DEra)(first:Bool)(w:World)(hL:LibW w)(hA:Zar w Ar Az Al As cr cz cl cs a)(hS:ZcK a)(hV:Zgl a)(hE:ZiQ e) :
  Does Tryz.prog 182 [srcV Ar Az Al As cr cz cl cs a,.agg e.enc.toArray,.bool first] w (fun v O=>v = .int .i64 (ZcZ a.rules e first)/\O=[]):=by
 have hn:=hS.nr
 have hst:=fun w' (hw:Bel w.heap.size w w')=>Zfz Ar Az Al As cr cz cl cs a e w' (hA.up hw) hn
 have hh0:=fun w'=>Zjo e.off 0 hE.off ⟨by decide,by decide⟩ w'
 have hss:=fun w' (hw:Bel w.heap.size w w')=>Zhs Ar Az Al As cr cz cl cs a e w' (hA.up hw) hn
 have hun:=fun w'=>ZmS e w'
 have hRs:∀ r∈ZaE a.rules e,r∈a.rules:=fun r h=>Zdb h
 have hRl:=Zd7 a.rules e
 have hS64:=Zfa (fun r h=>hV.i64 r h) hE.save
 have hfc:=fun A3 c3 w' (hw:Bel w.heap.size w w') h=>ZnN e A3 c3 (ZaE a.rules e) w' (hL.up hw) h hE.off hE.save (fun r hr=>hV.i64 r (hRs r hr)) (by omega) hE.fmt (fun r hr=>(hS.rs r (hRs r hr)).2)
 unfold ZcZ
 rw[show(fun x:Int × ByteArray => !Za0 e.off x.1)=offB e.off from rfl]
 generalize ZaE a.rules e=R at *
 generalize ZaG a.rules e=S at *
 generalize Zc2 e=un at *
 generalize Zek e R=fc at *
 obtain⟨off,kind,save,set,format,til⟩:=e
 have ho:=hE.off
 have hki:=hE.kind
 have hcn:=fun A5 c5 (b4:Nat) (cells:List Value) w' (h:RdSl w' A5 c5 Za4 2 S) (h4:Zau w' ⟨b4,0,none⟩ (.int .i64 off::cells))=>Zil A5 c5 S 234 [] [.pointer (some ⟨b4,0,none⟩)] (offB off) w' h (fun x hx w2 hw2=>by
  have hc0:w'.cell? ⟨b4,0,none⟩=some (.int .i64 off):=by
   have:=h4 0 _ rfl
   rwa[ZbV]at this
  exact ZsB x ⟨b4,0,none⟩ off w2 ((hw2.cell (World.block_lt_of_cell? w' _ hc0)).trans hc0) ho (hS64 x hx))
 replace hcn:=fun A5 c5 w' h {b4 cells} h4=>hcn A5 c5 b4 cells w' h h4
 dsimp only at hst hh0 hss hun hfc ho hki ⊢
 simp only[DEra.enc]at hst hss hun hfc ⊢
 obtain⟨an,han⟩:∃ an,S.any (offB off)=an:=⟨_,rfl⟩
 rw[han]at hcn ⊢
 generalize Za0 off 0=h0 at *
 clear hS64 han hE
 refine Zaa Tryz.func182 rfl rfl rfl rfl ?_
 by_cases hlo:kind<0
 ·have b1:decide (kind<0)=true:=decide_eq_true hlo
  rw[if_pos (.inl hlo)]
  repeat (first|refine und ?_|(apply RL_pu;rfl;exact Zov)|(apply RD_Q;rfl;rfl;decide +kernel;rfl;rfl;exact QyAccG0)|refine walk1 ?_|(refine jn ?_;(try intro F);(first|(refine bx ?_;intro bk)|(apply Zac;first|exact Zov|exact PuA));first|refine⟨_,EndsA,QFAccG0,?_⟩|refine fin ?_))
  exact rtA
 by_cases hhi:2<kind
 ·have b1:decide (kind<0)=false:=decide_eq_false hlo
  have b2:decide (2<kind)=true:=decide_eq_true hhi
  rw[if_pos (.inr hhi)]
  repeat (first|refine und ?_|(apply RL_pu;rfl;exact Zuw)|(apply RD_Q;rfl;rfl;decide +kernel;rfl;rfl;exact QyAccG1)|refine walk1 ?_|(refine jn ?_;(try intro F);(first|(refine bx ?_;intro bk)|(apply Zac;first|exact Zuw|exact PuA));first|refine⟨_,EndsA,QFAccG1,?_⟩|refine fin ?_))
  exact rtA
 rw[if_neg (by omega)]
 obtain rfl|rfl|rfl:kind=0\/kind=1\/kind=2:=by omega
 ·cases first
  all_goals
   rw[if_neg (by rintro⟨h1,h2⟩;first|(cases h1;done)|(cases h2;done)),if_neg (by rintro⟨h,_⟩;cases h),if_neg (by rintro⟨h,_⟩;cases h)]
  all_goals
   cases h0 <;> first|rw[if_pos (Or.inl rfl)]|(cases an <;> first|rw[if_pos (Or.inr rfl)]|(rw[if_neg (by rintro(h|h) <;> cases h)];cases un <;> first|rw[if_pos rfl]|rw[if_neg (by decide)]))
  all_goals
   repeat (first|refine und ?_|refine walk ?_|(refine jg ?_;(try intro F);(first|(apply Zae (h:=fun w' hw _=>hst w' hw);rfl;rintro v O' ⟨A3,c3,rfl,rfl⟩)|(refine Zab (fun w' hw=>hh0 w') ?_)|(apply Zae (h:=fun w' hw _=>hss w' hw);rfl;rintro v O' ⟨A5,c5,rfl,rfl⟩)|(refine ZaM (fun w' hw hO=>hcn A5 c5 w' (ZaX Za4.len (hO.of (A := .row (.slice A5 S.length c5) 155 2 S.length (S.flatMap Za4)) (by repeat' constructor))) (hO.cells (by repeat' constructor))) ?_)|(refine Zab (fun w' hw=>hun w') ?_)|(refine ZaM (fun w' hw hO=>hfc A3 c3 w' hw (ZaX DRule.len (hO.of (A := .row (.slice A3 R.length c3) 68 11 R.length (R.flatMap DRule.enc)) (by repeat' constructor)))) ?_)|(refine bx ?_;intro bk));refine fin ?_)|(refine jn ?_;(try intro F);(first|(refine bx ?_;intro bk)|(apply Zac;exact PuA));refine fin ?_))
   exact rtA
 ·rw[if_neg (by rintro⟨_,h⟩;cases h),if_neg (by rintro⟨h,_⟩;cases h)]
  by_cases hs1:save<1
  ·have s1:decide (save<1)=true:=decide_eq_true hs1
   rw[if_pos ⟨rfl,.inl hs1⟩]
   cases first
   all_goals
    repeat (first|refine und ?_|(apply RL_pu;rfl;exact Zou)|(apply RD_Q;rfl;rfl;decide +kernel;rfl;rfl;exact QyAccG2)|refine walk1 ?_|(refine jn ?_;(try intro F);(first|(refine bx ?_;intro bk)|(apply Zac;first|exact Zou|exact PuA));first|refine⟨_,EndsA,QFAccG2,?_⟩|refine fin ?_))
    exact rtA
  have s1:decide (save<1)=false:=decide_eq_false hs1
  by_cases hs2:10800<save
  ·have s2:decide (10800<save)=true:=decide_eq_true hs2
   rw[if_pos ⟨rfl,.inr hs2⟩]
   cases first
   all_goals
    repeat (first|refine und ?_|(apply RL_pu;rfl;exact ZiO)|(apply RD_Q;rfl;rfl;decide +kernel;rfl;rfl;exact Zoe)|refine walk1 ?_|(refine jn ?_;(try intro F);(first|(refine bx ?_;intro bk)|(apply Zac;first|exact ZiO|exact PuA));first|refine⟨_,EndsA,Zof,?_⟩|refine fin ?_))
    exact rtA
  have s2:decide (10800<save)=false:=decide_eq_false hs2
  rw[if_neg (by omega)]
  cases first
  all_goals
   cases h0 <;> first|rw[if_pos (Or.inl rfl)]|(cases an <;> first|rw[if_pos (Or.inr rfl)]|(rw[if_neg (by rintro(h|h) <;> cases h)];cases un <;> first|rw[if_pos rfl]|rw[if_neg (by decide)]))
  all_goals
   repeat (first|refine und ?_|(apply RL_pu;rfl;exact ZiO)|(apply RD_Q;rfl;rfl;decide +kernel;rfl;rfl;exact Zoe)|refine walk1 ?_|(refine jg ?_;(try intro F);(first|(apply Zae (h:=fun w' hw _=>hst w' hw);rfl;rintro v O' ⟨A3,c3,rfl,rfl⟩)|(refine Zab (fun w' hw=>hh0 w') ?_)|(apply Zae (h:=fun w' hw _=>hss w' hw);rfl;rintro v O' ⟨A5,c5,rfl,rfl⟩)|(refine ZaM (fun w' hw hO=>hcn A5 c5 w' (ZaX Za4.len (hO.of (A := .row (.slice A5 S.length c5) 155 2 S.length (S.flatMap Za4)) (by repeat' constructor))) (hO.cells (by repeat' constructor))) ?_)|(refine Zab (fun w' hw=>hun w') ?_)|(refine ZaM (fun w' hw hO=>hfc A3 c3 w' hw (ZaX DRule.len (hO.of (A := .row (.slice A3 R.length c3) 68 11 R.length (R.flatMap DRule.enc)) (by repeat' constructor)))) ?_)|(refine bx ?_;intro bk));first|refine⟨_,EndsA,Zof,?_⟩|refine fin ?_)|(refine jn ?_;(try intro F);(first|(refine bx ?_;intro bk)|(apply Zac;first|exact ZiO|exact PuA));first|refine⟨_,EndsA,Zof,?_⟩|refine fin ?_))
   exact rtA
 ·cases first with
  | true =>
   rw[if_pos ⟨rfl,rfl⟩]
   repeat (first|refine und ?_|refine walk ?_|(refine jn ?_;(try intro F);(first|(refine bx ?_;intro bk)|(apply Zac;exact PuA));refine fin ?_))
   exact rtA
  | false =>
   rw[if_neg (by rintro⟨h,_⟩;cases h)]
   by_cases hR:R=[]
   ·have r0:decide ((R.length:Int)=0)=true:=by rw[hR];rfl
    rw[if_pos ⟨rfl,hR⟩]
    repeat (first|refine und ?_|(apply RL_pu;rfl;exact ZiN)|(apply RD_Q;rfl;rfl;decide +kernel;rfl;rfl;exact Zod)|refine walk1 ?_|(refine jg ?_;(try intro F);(first|(apply Zae (h:=fun w' hw _=>hst w' hw);rfl;rintro v O' ⟨A3,c3,rfl,rfl⟩)|(refine bx ?_;intro bk));first|refine⟨_,EndsA,ZkK,?_⟩|refine fin ?_)|(refine jn ?_;(try intro F);(first|(refine bx ?_;intro bk)|(apply Zac;first|exact ZiN|exact PuA));first|refine⟨_,EndsA,ZkK,?_⟩|refine fin ?_))
    exact rtA
   have r0:decide ((R.length:Int)=0)=false:=decide_eq_false (fun h=>hR (List.eq_nil_of_length_eq_zero (by omega)))
   rw[if_neg (fun h=>hR h.2),if_neg (by rintro⟨h,_⟩;cases h)]
   cases h0 <;> first|rw[if_pos (Or.inl rfl)]|(cases an <;> first|rw[if_pos (Or.inr rfl)]|(rw[if_neg (by rintro(h|h) <;> cases h)];cases un <;> first|rw[if_pos rfl]|rw[if_neg (by decide)]))
   all_goals
    repeat (first|refine und ?_|(apply RL_pu;rfl;exact ZiN)|(apply RD_Q;rfl;rfl;decide +kernel;rfl;rfl;exact Zod)|refine walk1 ?_|(refine jg ?_;(try intro F);(first|(apply Zae (h:=fun w' hw _=>hst w' hw);rfl;rintro v O' ⟨A3,c3,rfl,rfl⟩)|(refine Zab (fun w' hw=>hh0 w') ?_)|(apply Zae (h:=fun w' hw _=>hss w' hw);rfl;rintro v O' ⟨A5,c5,rfl,rfl⟩)|(refine ZaM (fun w' hw hO=>hcn A5 c5 w' (ZaX Za4.len (hO.of (A := .row (.slice A5 S.length c5) 155 2 S.length (S.flatMap Za4)) (by repeat' constructor))) (hO.cells (by repeat' constructor))) ?_)|(refine Zab (fun w' hw=>hun w') ?_)|(refine ZaM (fun w' hw hO=>hfc A3 c3 w' hw (ZaX DRule.len (hO.of (A := .row (.slice A3 R.length c3) 68 11 R.length (R.flatMap DRule.enc)) (by repeat' constructor)))) ?_)|(refine bx ?_;intro bk));first|refine⟨_,EndsA,ZkK,?_⟩|refine fin ?_)|(refine jn ?_;(try intro F);(first|(refine bx ?_;intro bk)|(apply Zac;first|exact ZiN|exact PuA));first|refine⟨_,EndsA,ZkK,?_⟩|refine fin ?_))
    exact rtA
end Go.Proofs.YtpipekfmecikmaaGreatDoor
