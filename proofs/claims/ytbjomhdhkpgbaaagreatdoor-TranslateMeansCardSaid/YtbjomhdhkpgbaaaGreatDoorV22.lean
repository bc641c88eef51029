/- Parts of the proof. -/
import Derived.Test.YtbjomhdhkpgbaaaGreatDoorV21
import Derived.Test.YtbjomhdhkpgbaaaGreatDoorV09
set_option maxHeartbeats 4000000
set_option linter.unusedVariables false
set_option linter.unusedSimpArgs false
namespace Go.Proofs.YtbjomhdhkpgbaaaGreatDoor
open Go Go.RowKit Go.Wk
attribute [local irreducible] W RL Does Zar Zal retQ Calls Pu Stp RD Qy Ay Zak
theorem Zml.i64 {s:Zac}(h:Zml s):∀ r∈s.rules,I64 r.save:=fun r hr=>by have:=(h r hr).1;unfold I64;omega
theorem ZgF {rs:List Zab}{e:DEra}{r:Zab}(h:r∈Zaz rs e):r∈rs:=by
 unfold Zaz at h
 split at h
 ·exact ZuP h
 ·cases h
theorem ZiV (rs:List Zab)(e:DEra):(Zaz rs e).length<=rs.length:=by
 unfold Zaz
 split
 ·exact Zpo _ _
 ·exact Nat.zero_le _
theorem ZiO {rs:List Zab}{e:DEra}(hr:∀ r∈rs,I64 r.save)(hs:I64 e.save):∀ x∈ZaE rs e,I64 x.1:=by
 intro x hx
 unfold ZaE at hx
 split at hx
 ·simp only[List.mem_singleton]at hx;subst hx;exact hs
 ·split at hx
  ·obtain⟨r,h,rfl⟩:=List.mem_map.1 hx
   exact hr r (ZgF h)
  ·simp only[List.mem_singleton]at hx;subst hx;exact⟨by decide,by decide⟩
def offB (off:Int)(x:Int × ByteArray):Bool := !ZbG off x.1
structure Zxz (e:DEra):Prop where
 off:I64 e.off
 save:I64 e.save
 kind:I64 e.kind
 fmt:e.format.size<=1000000000
theorem ZqG {G:Prop}(h:G:=by(apply Za2;rfl;rfl;exact b1)):G:=h
theorem Zxp {G:Prop}(h:G:=by(first|exact ZqG|(apply Za3;rfl;rfl;exact b2))):G:=h
theorem ZqF {G:Prop}(h:G:=by(apply Za2;rfl;rfl;exact s1)):G:=h
theorem Zki {G:Prop}(h:G:=by(first|exact ZqF|(apply Za3;rfl;rfl;exact s2))):G:=h
theorem Zqn {G:Prop}(h:G:=by first|(apply Qy_y;rfl;exact Zki)|exact QyA):G:=h
theorem Zqo {G:Prop}(h:G:=by repeat (first|exact QF.nil|(apply QF.mk;rfl;rfl;decide +kernel;exact Zqn))):G:=h
theorem Zkh {G:Prop}(h:G:=by(apply ZaA;rfl;rfl;exact r0)):G:=h
theorem Zqm {G:Prop}(h:G:=by first|(apply Qy_y;rfl;exact Zkh)|exact QyA):G:=h
theorem Zmq {G:Prop}(h:G:=by repeat (first|exact QF.nil|(apply QF.mk;rfl;rfl;decide +kernel;exact Zqm))):G:=h
set_option maxHeartbeats 4000000 in
theorem Zva (Ar Az Al As:Option Addr)(cr cz cl cs:Nat)(a:Zac)(e:DEra)(first:Bool)(w:World)(hL:LibW w)(hA:Zan w Ar Az Al As cr cz cl cs a)(hS:ZhN a)(hV:Zml a)(hE:Zxz e) :
  Does Tryz.prog 95 [srcV Ar Az Al As cr cz cl cs a,.agg e.enc.toArray,.bool first] w (fun v O=>v = .int .i64 (Zc2 a.rules e first)/\O=[]):=by
 have hn:=hS.nr
 have hst:=fun w' (hw:Bel w.heap.size w w')=>ZgN Ar Az Al As cr cz cl cs a e w' (hA.up hw) hn
 have hh0:=fun w'=>ZkY e.off 0 hE.off ⟨by decide,by decide⟩ w'
 have hss:=fun w' (hw:Bel w.heap.size w w')=>ZiM Ar Az Al As cr cz cl cs a e w' (hA.up hw) hn
 have hun:=fun w'=>ZoV e w'
 have hRs:∀ r∈Zaz a.rules e,r∈a.rules:=fun r h=>ZgF h
 have hRl:=ZiV a.rules e
 have hS64:=ZiO (fun r h=>hV.i64 r h) hE.save
 have hfc:=fun A3 c3 w' (hw:Bel w.heap.size w w') h=>ZpP e A3 c3 (Zaz a.rules e) w' (hL.up hw) h hE.off hE.save (fun r hr=>hV.i64 r (hRs r hr)) (by omega) hE.fmt (fun r hr=>(hS.rs r (hRs r hr)).2)
 unfold Zc2
 rw[show(fun x:Int × ByteArray => !ZbG e.off x.1)=offB e.off from rfl]
 generalize Zaz a.rules e=R at *
 generalize ZaE a.rules e=S at *
 generalize Ze7 e=un at *
 generalize ZdF e R=fc at *
 obtain⟨off,kind,save,set,format,til⟩:=e
 have ho:=hE.off
 have hki:=hE.kind
 have hcn:=fun A5 c5 (b4:Nat) (cells:List Value) w' (h:RdSl w' A5 c5 Zcy 2 S) (h4:Zam w' ⟨b4,0,none⟩ (.int .i64 off::cells))=>ZjP A5 c5 S 130 [] [.pointer (some ⟨b4,0,none⟩)] (offB off) w' h (fun x hx w2 hw2=>by
  have hc0:w'.cell? ⟨b4,0,none⟩=some (.int .i64 off):=by
   have:=h4 0 _ rfl
   rwa[Zcv]at this
  exact ZvO x ⟨b4,0,none⟩ off w2 ((hw2.cell (World.block_lt_of_cell? w' _ hc0)).trans hc0) ho (hS64 x hx))
 replace hcn:=fun A5 c5 w' h {b4 cells} h4=>hcn A5 c5 b4 cells w' h h4
 dsimp only at hst hh0 hss hun hfc ho hki ⊢
 simp only[DEra.enc]at hst hss hun hfc ⊢
 obtain⟨an,han⟩:∃ an,S.any (offB off)=an:=⟨_,rfl⟩
 rw[han]at hcn ⊢
 generalize ZbG off 0=h0 at *
 clear hS64 han hE
 refine Zaa Tryz.func95 rfl rfl rfl rfl ?_
 by_cases hlo:kind<0
 ·have b1:decide (kind<0)=true:=decide_eq_true hlo
  rw[if_pos (.inl hlo)]
  repeat (first|refine und ?_|(apply RL_pu;rfl;exact ZqG)|(apply RD_Q;rfl;rfl;decide +kernel;rfl;rfl;exact QyAccG0)|refine walk1 ?_|(refine jn ?_;(try intro F);(first|(refine bx ?_;intro bk)|(apply Zag;first|exact ZqG|exact PuA));first|refine⟨_,EndsA,QFAccG0,?_⟩|refine fin ?_))
  exact rtA
 by_cases hhi:2<kind
 ·have b1:decide (kind<0)=false:=decide_eq_false hlo
  have b2:decide (2<kind)=true:=decide_eq_true hhi
  rw[if_pos (.inr hhi)]
  repeat (first|refine und ?_|(apply RL_pu;rfl;exact Zxp)|(apply RD_Q;rfl;rfl;decide +kernel;rfl;rfl;exact QyAccG1)|refine walk1 ?_|(refine jn ?_;(try intro F);(first|(refine bx ?_;intro bk)|(apply Zag;first|exact Zxp|exact PuA));first|refine⟨_,EndsA,QFAccG1,?_⟩|refine fin ?_))
  exact rtA
 rw[if_neg (by omega)]
 obtain rfl|rfl|rfl:kind=0\/kind=1\/kind=2:=by omega
 ·cases first
  all_goals
   rw[if_neg (by rintro⟨h1,h2⟩;first|(cases h1;done)|(cases h2;done)),if_neg (by rintro⟨h,_⟩;cases h),if_neg (by rintro⟨h,_⟩;cases h)]
  all_goals
   cases h0 <;> first|rw[if_pos (Or.inl rfl)]|(cases an <;> first|rw[if_pos (Or.inr rfl)]|(rw[if_neg (by rintro(h|h) <;> cases h)];cases un <;> first|rw[if_pos rfl]|rw[if_neg (by decide)]))
  all_goals
   repeat (first|refine und ?_|refine walk ?_|(refine jg ?_;(try intro F);(first|(apply Zad (h:=fun w' hw _=>hst w' hw);rfl;rintro v O' ⟨A3,c3,rfl,rfl⟩)|(refine Zae (fun w' hw=>hh0 w') ?_)|(apply Zad (h:=fun w' hw _=>hss w' hw);rfl;rintro v O' ⟨A5,c5,rfl,rfl⟩)|(refine ZaX (fun w' hw hO=>hcn A5 c5 w' (Zbc Zcy.len (hO.of (A := .row (.slice A5 S.length c5) 156 2 S.length (S.flatMap Zcy)) (by repeat' constructor))) (hO.cells (by repeat' constructor))) ?_)|(refine Zae (fun w' hw=>hun w') ?_)|(refine ZaX (fun w' hw hO=>hfc A3 c3 w' hw (Zbc Zab.len (hO.of (A := .row (.slice A3 R.length c3) 56 11 R.length (R.flatMap Zab.enc)) (by repeat' constructor)))) ?_)|(refine bx ?_;intro bk));refine fin ?_)|(refine jn ?_;(try intro F);(first|(refine bx ?_;intro bk)|(apply Zag;exact PuA));refine fin ?_))
   exact rtA
 ·rw[if_neg (by rintro⟨_,h⟩;cases h),if_neg (by rintro⟨h,_⟩;cases h)]
  by_cases hs1:save<1
  ·have s1:decide (save<1)=true:=decide_eq_true hs1
   rw[if_pos ⟨rfl,.inl hs1⟩]
   cases first
   all_goals
    repeat (first|refine und ?_|(apply RL_pu;rfl;exact ZqF)|(apply RD_Q;rfl;rfl;decide +kernel;rfl;rfl;exact QyAccG2)|refine walk1 ?_|(refine jn ?_;(try intro F);(first|(refine bx ?_;intro bk)|(apply Zag;first|exact ZqF|exact PuA));first|refine⟨_,EndsA,QFAccG2,?_⟩|refine fin ?_))
    exact rtA
  have s1:decide (save<1)=false:=decide_eq_false hs1
  by_cases hs2:10800<save
  ·have s2:decide (10800<save)=true:=decide_eq_true hs2
   rw[if_pos ⟨rfl,.inr hs2⟩]
   cases first
   all_goals
    repeat (first|refine und ?_|(apply RL_pu;rfl;exact Zki)|(apply RD_Q;rfl;rfl;decide +kernel;rfl;rfl;exact Zqn)|refine walk1 ?_|(refine jn ?_;(try intro F);(first|(refine bx ?_;intro bk)|(apply Zag;first|exact Zki|exact PuA));first|refine⟨_,EndsA,Zqo,?_⟩|refine fin ?_))
    exact rtA
  have s2:decide (10800<save)=false:=decide_eq_false hs2
  rw[if_neg (by omega)]
  cases first
  all_goals
   cases h0 <;> first|rw[if_pos (Or.inl rfl)]|(cases an <;> first|rw[if_pos (Or.inr rfl)]|(rw[if_neg (by rintro(h|h) <;> cases h)];cases un <;> first|rw[if_pos rfl]|rw[if_neg (by decide)]))
  all_goals
   repeat (first|refine und ?_|(apply RL_pu;rfl;exact Zki)|(apply RD_Q;rfl;rfl;decide +kernel;rfl;rfl;exact Zqn)|refine walk1 ?_|(refine jg ?_;(try intro F);(first|(apply Zad (h:=fun w' hw _=>hst w' hw);rfl;rintro v O' ⟨A3,c3,rfl,rfl⟩)|(refine Zae (fun w' hw=>hh0 w') ?_)|(apply Zad (h:=fun w' hw _=>hss w' hw);rfl;rintro v O' ⟨A5,c5,rfl,rfl⟩)|(refine ZaX (fun w' hw hO=>hcn A5 c5 w' (Zbc Zcy.len (hO.of (A := .row (.slice A5 S.length c5) 156 2 S.length (S.flatMap Zcy)) (by repeat' constructor))) (hO.cells (by repeat' constructor))) ?_)|(refine Zae (fun w' hw=>hun w') ?_)|(refine ZaX (fun w' hw hO=>hfc A3 c3 w' hw (Zbc Zab.len (hO.of (A := .row (.slice A3 R.length c3) 56 11 R.length (R.flatMap Zab.enc)) (by repeat' constructor)))) ?_)|(refine bx ?_;intro bk));first|refine⟨_,EndsA,Zqo,?_⟩|refine fin ?_)|(refine jn ?_;(try intro F);(first|(refine bx ?_;intro bk)|(apply Zag;first|exact Zki|exact PuA));first|refine⟨_,EndsA,Zqo,?_⟩|refine fin ?_))
   exact rtA
 ·cases first with
  | true =>
   rw[if_pos ⟨rfl,rfl⟩]
   repeat (first|refine und ?_|refine walk ?_|(refine jn ?_;(try intro F);(first|(refine bx ?_;intro bk)|(apply Zag;exact PuA));refine fin ?_))
   exact rtA
  | false =>
   rw[if_neg (by rintro⟨h,_⟩;cases h)]
   by_cases hR:R=[]
   ·have r0:decide ((R.length:Int)=0)=true:=by rw[hR];rfl
    rw[if_pos ⟨rfl,hR⟩]
    repeat (first|refine und ?_|(apply RL_pu;rfl;exact Zkh)|(apply RD_Q;rfl;rfl;decide +kernel;rfl;rfl;exact Zqm)|refine walk1 ?_|(refine jg ?_;(try intro F);(first|(apply Zad (h:=fun w' hw _=>hst w' hw);rfl;rintro v O' ⟨A3,c3,rfl,rfl⟩)|(refine bx ?_;intro bk));first|refine⟨_,EndsA,Zmq,?_⟩|refine fin ?_)|(refine jn ?_;(try intro F);(first|(refine bx ?_;intro bk)|(apply Zag;first|exact Zkh|exact PuA));first|refine⟨_,EndsA,Zmq,?_⟩|refine fin ?_))
    exact rtA
   have r0:decide ((R.length:Int)=0)=false:=decide_eq_false (fun h=>hR (List.eq_nil_of_length_eq_zero (by omega)))
   rw[if_neg (fun h=>hR h.2),if_neg (by rintro⟨h,_⟩;cases h)]
   cases h0 <;> first|rw[if_pos (Or.inl rfl)]|(cases an <;> first|rw[if_pos (Or.inr rfl)]|(rw[if_neg (by rintro(h|h) <;> cases h)];cases un <;> first|rw[if_pos rfl]|rw[if_neg (by decide)]))
   all_goals
    repeat (first|refine und ?_|(apply RL_pu;rfl;exact Zkh)|(apply RD_Q;rfl;rfl;decide +kernel;rfl;rfl;exact Zqm)|refine walk1 ?_|(refine jg ?_;(try intro F);(first|(apply Zad (h:=fun w' hw _=>hst w' hw);rfl;rintro v O' ⟨A3,c3,rfl,rfl⟩)|(refine Zae (fun w' hw=>hh0 w') ?_)|(apply Zad (h:=fun w' hw _=>hss w' hw);rfl;rintro v O' ⟨A5,c5,rfl,rfl⟩)|(refine ZaX (fun w' hw hO=>hcn A5 c5 w' (Zbc Zcy.len (hO.of (A := .row (.slice A5 S.length c5) 156 2 S.length (S.flatMap Zcy)) (by repeat' constructor))) (hO.cells (by repeat' constructor))) ?_)|(refine Zae (fun w' hw=>hun w') ?_)|(refine ZaX (fun w' hw hO=>hfc A3 c3 w' hw (Zbc Zab.len (hO.of (A := .row (.slice A3 R.length c3) 56 11 R.length (R.flatMap Zab.enc)) (by repeat' constructor)))) ?_)|(refine bx ?_;intro bk));first|refine⟨_,EndsA,Zmq,?_⟩|refine fin ?_)|(refine jn ?_;(try intro F);(first|(refine bx ?_;intro bk)|(apply Zag;first|exact Zkh|exact PuA));first|refine⟨_,EndsA,Zmq,?_⟩|refine fin ?_))
    exact rtA
end Go.Proofs.YtbjomhdhkpgbaaaGreatDoor
namespace Go.Wk
open Go Go.RowKit
theorem Zqp {P:Program}{n:Nat}{wr:World}{fr:Fr}{O:List It}{ty t t':TypeId}{x y:Operand}{i j m:Int}(hx:ev fr x=some (.int .i64 i))(hy:ev fr y=some (.int .i64 j))(hm:i - j=m)(h : -9223372036854775808<=m/\m<=9223372036854775807):Pu P n wr fr O (.binOp .sub t x y t') ty (.int .i64 m):=hm▸Pu_sub' hx hy (hm▸h)
end Go.Wk
namespace Go.Proofs.YtbjomhdhkpgbaaaGreatDoor
open Go Go.RowKit Go.Wk
attribute [local irreducible] W RL Does Zar Zal retQ Calls Pu Stp RD Qy Ay Zak
theorem ZuR (u:ZaZ)(least:Int) : -200000000000000000<=(ZaF u least).1/\(ZaF u least).1<=200000000000000000:=by
 unfold ZaF
 split
 ·exact⟨by dsimp only;omega,by dsimp only;omega⟩
 ·rename_i h
  have h0:ZaI u least=0:=Decidable.not_not.1 h
  have hb:=Zi0 u.year u.month u.day
  unfold ZaI at h0
  dsimp only at h0 ⊢
  repeat' split at h0
  all_goals first|(exfalso;omega)|(split <;> omega)
theorem ZCm {u:ZaZ}{least:Int}(h:ZaI u least=0):(ZaF u least).2=0:=by
 unfold ZaF
 rw[if_neg (fun hh=>hh h)]
theorem ZxG {w:World}{ad:Addr}{e:DEra}(h:Zam w ad e.enc):Zam w (ad.add 5) (ZaZ.enc e.til):=fun j v hj=>by
 rw[Zbe]
 refine h (5+j) v ?_
 rw[show DEra.enc e=[.int .i64 e.off,.int .i64 e.kind,.int .i64 e.save,.string e.set,.string e.format]++ZaZ.enc e.til from rfl,List.getElem?_append_right (by simp)]
 simpa using hj
theorem Zml.rs {s:Zac}(h:Zml s)(e:DEra):RsOk (Zaz s.rules e):=fun r hr=>h r (ZgF hr)
theorem ZeQ {G:Prop}(h:G:=by(first|exact PuI|(apply Pu_loadON;rfl;exact hcu;rfl)|(apply Zqp;rfl;rfl;exact hln;omega)|(apply Zqp;rfl;rfl;exact hkj;omega)|(apply Za2;rfl;rfl;exact hdl))):G:=h
theorem Zql {G:Prop}(h:G:=by first|(apply Qy_y;rfl;exact ZeQ)|exact QyA):G:=h
theorem Zd3 {G:Prop}(h:G:=by repeat (first|exact QF.nil|(apply QF.mk;rfl;rfl;decide +kernel;exact Zql))):G:=h
theorem ZoQ {G G':Prop}(k:G')(h:Hold G'->G:=by intro k9;(first|refine und ?_|(apply RL_pu;rfl;exact ZeQ)|(apply RD_Q;rfl;rfl;decide +kernel;rfl;rfl;exact Zql)|refine walk1 ?_|(refine jn ?_;(try intro F);(first|(refine stA ?_)|(apply Zag;first|exact ZeQ|exact PuA));first|refine⟨_,EndsA,Zd3,?_⟩|refine fin ?_));exact k9.out):G:=h ⟨k⟩
theorem ZtO {G G':Prop}(k:G')(h:Hold G'->G:=by intro k9;(first|refine und ?_|(apply RL_pu;rfl;exact ZeQ)|(apply RD_Q;rfl;rfl;decide +kernel;rfl;rfl;exact Zql)|refine walk1 ?_|(refine jg ?_;(try intro F);(first|(refine ZaX (fun w' hw hO=>hle A3 c3 w' (Zbc Zab.len (hO.of (A := .row (.slice A3 R.length c3) 56 11 R.length (R.flatMap Zab.enc)) (by repeat' constructor)))) ?_)|(refine Zae huc ?_)|(refine Zae hno ?_)|(refine ZaX (fun w' hw hO=>hfa A3 c3 w' hw (Zbc Zab.len (hO.of (A := .row (.slice A3 R.length c3) 56 11 R.length (R.flatMap Zab.enc)) (by repeat' constructor)))) ?_)|(refine stA ?_));first|refine⟨_,EndsA,Zd3,?_⟩|refine fin ?_)|(refine jn ?_;(try intro F);(first|(refine stA ?_)|(apply Zag;first|exact ZeQ|exact PuA));first|refine⟨_,EndsA,Zd3,?_⟩|refine fin ?_));exact k9.out):G:=h ⟨k⟩
theorem ZqE {G:Prop}(h:G:=by(first|exact ZeQ|(apply ZaA;rfl;rfl;exact bk2))):G:=h
theorem ZwC {G:Prop}(h:G:=by first|(apply Qy_y;rfl;exact ZqE)|exact QyA):G:=h
theorem ZwJ {G:Prop}(h:G:=by repeat (first|exact QF.nil|(apply QF.mk;rfl;rfl;decide +kernel;exact ZwC))):G:=h
theorem ZmB {G:Prop}(h:G:=by(first|exact ZeQ|(apply Za3;rfl;rfl;exact bj)|(apply Zqp;rfl;rfl;exact hdf;omega)|(apply Za2;rfl;rfl;exact b3))):G:=h
theorem ZwB {G:Prop}(h:G:=by first|(apply Qy_y;rfl;exact ZmB)|exact QyA):G:=h
theorem Zfx {G:Prop}(h:G:=by repeat (first|exact QF.nil|(apply QF.mk;rfl;rfl;decide +kernel;exact ZwB))):G:=h
theorem ZoP {G G':Prop}(k:G')(h:Hold G'->G:=by intro k9;(first|refine und ?_|(apply RL_pu;rfl;exact ZmB)|(apply RD_Q;rfl;rfl;decide +kernel;rfl;rfl;exact ZwB)|refine walk1 ?_|(refine jg ?_;(try intro F);(first|(refine ZaX (fun w' hw hO=>hle A3 c3 w' (Zbc Zab.len (hO.of (A := .row (.slice A3 R.length c3) 56 11 R.length (R.flatMap Zab.enc)) (by repeat' constructor)))) ?_)|(refine Zae huc ?_)|(refine Zae hno ?_)|(refine ZaX (fun w' hw hO=>hfa A3 c3 w' hw (Zbc Zab.len (hO.of (A := .row (.slice A3 R.length c3) 56 11 R.length (R.flatMap Zab.enc)) (by repeat' constructor)))) ?_)|(refine ZaX (fun w' hw hO=>hle2 A4 c4 w' (Zbc Zab.len (hO.of (A := .row (.slice A4 R2.length c4) 56 11 R2.length (R2.flatMap Zab.enc)) (by repeat' constructor)))) ?_)|(refine Zae hno2 ?_)|(refine stA ?_));first|refine⟨_,EndsA,Zfx,?_⟩|refine fin ?_)|(refine jn ?_;(try intro F);(first|(refine stA ?_)|(apply Zag;first|exact ZmB|exact PuA));first|refine⟨_,EndsA,Zfx,?_⟩|refine fin ?_));exact k9.out):G:=h ⟨k⟩
theorem ZqD {G:Prop}(h:G:=by(first|exact ZmB|(apply ZaA;rfl;rfl;exact bk2))):G:=h
theorem ZwA {G:Prop}(h:G:=by first|(apply Qy_y;rfl;exact ZqD)|exact QyA):G:=h
theorem ZwI {G:Prop}(h:G:=by repeat (first|exact QF.nil|(apply QF.mk;rfl;rfl;decide +kernel;exact ZwA))):G:=h
theorem ZqC {G:Prop}(h:G:=by(first|exact ZeQ|(apply Za3;rfl;rfl;exact bj)|(apply ZaH;rfl;rfl;exact b2))):G:=h
theorem Zwz {G:Prop}(h:G:=by first|(apply Qy_y;rfl;exact ZqC)|exact QyA):G:=h
theorem ZwH {G:Prop}(h:G:=by repeat (first|exact QF.nil|(apply QF.mk;rfl;rfl;decide +kernel;exact Zwz))):G:=h
theorem ZqB {G:Prop}(h:G:=by(first|exact ZeQ|(apply ZaH;rfl;rfl;exact bu))):G:=h
theorem Zwy {G:Prop}(h:G:=by first|(apply Qy_y;rfl;exact ZqB)|exact QyA):G:=h
theorem ZwG {G:Prop}(h:G:=by repeat (first|exact QF.nil|(apply QF.mk;rfl;rfl;decide +kernel;exact Zwy))):G:=h
set_option maxHeartbeats 2000000 in
theorem Zvb (Ar Az Al As:Option Addr)(cr cz cl cs:Nat)(a:Zac)(Ae:Option Addr)(ce:Nat)(eras:List DEra)(k:Nat)(w:World)(hG:Glob w)(hA:Zan w Ar Az Al As cr cz cl cs a)(hS:ZhN a)(hV:Zml a)
  (hE:RdSl w Ae ce DEra.enc 13 eras) (hel:eras.length<=1000000) (hk:k<eras.length) :
  Does Tryz.prog 96 [srcV Ar Az Al As cr cz cl cs a,.slice Ae eras.length ce,.int .i64 k] w (fun v O=>v = .int .i64 (Zga a.rules eras k)/\O=[]):=by
 have hn:=hS.nr
 obtain⟨hna,hca⟩:=hE.rd k _ (List.getElem?_eq_getElem hk)
 have hgd:eras.getD k dE0=eras[k]:=by rw[List.getD_eq_getElem?_getD,List.getElem?_eq_getElem hk];rfl
 unfold Zga
 rw[hgd]
 dsimp only
 generalize eras[k]=e at *
 have hst:=fun w' (hw:Bel w.heap.size w w')=>ZgN Ar Az Al As cr cz cl cs a e w' (hA.up hw) hn
 have hle:=fun A3 c3 w' h=>Zch A3 c3 (Zaz a.rules e) w' h
 have hRl:=ZiV a.rules e
 have hRs:=hV.rs e
 have huc:=fun w' (hw:Bel w.heap.size w w')=>ZiG e.til (Zaj (Zaz a.rules e)) w' (hG.up hw)
 have hno:=fun w' (hw:Bel w.heap.size w w')=>Zff e.til (Zaj (Zaz a.rules e)) w' (hG.up hw)
 have hnb:=ZuR e.til (Zaj (Zaz a.rules e))
 have hn0 := @ZCm e.til (Zaj (Zaz a.rules e))
 have hfa:=fun A3 c3 w' (hw:Bel w.heap.size w w') h=>ZyL A3 c3 (Zaz a.rules e) (ZaF e.til (Zaj (Zaz a.rules e))).1 w' (hG.up hw) h (by omega) hRs (by omega)
 generalize Zaz a.rules e=R at *
 generalize hLT:Zaj R=least at *
 generalize ZaI e.til least=uc at *
 generalize farD R (ZaF e.til least).1=fr at *
 generalize ZaF e.til least=nm at *
 obtain⟨n,ne⟩:=nm
 dsimp only at hno hnb hn0 hfa ⊢
 obtain⟨off,kind,save,set,format,til⟩:=e
 dsimp only at huc hno hst ⊢
 simp only[DEra.enc]at hst hca
 obtain⟨is,year,month,⟨dk,dw,dd⟩,⟨us,ub⟩⟩:=til
 dsimp only at hst hca ⊢
 simp only[ZaZ.enc]at huc hno
 obtain⟨ln,hln⟩:∃ ln:Int,(eras.length:Int) - 1=ln:=⟨_,rfl⟩
 have hdl:decide ((k:Int)<ln)=decide (k+1<eras.length):=by rw[decide_eq_decide];omega
 generalize hlt:decide (k+1<eras.length)=lt at *
 refine Zaa Tryz.func96 rfl rfl rfl rfl ?_
 have hcb:=hca
 have hcu:=hca
 have hkj:(k:Int) - 0=k:=by omega
 cases is with
 | false =>
  cases lt with
  | true =>
   rw[if_pos (by decide)]
   repeat (first|refine ZoQ ?_|(refine jn ?_;(try intro F);(refine bx ?_;intro bk);first|refine⟨_,EndsA,Zd3,?_⟩|refine fin ?_)|(apply RD_W;rfl;intro bk))
   exact rtA
  | false =>
   rw[if_neg (by decide),if_pos rfl]
   repeat (first|refine ZoQ ?_|(refine jn ?_;(try intro F);(refine bx ?_;intro bk);first|refine⟨_,EndsA,Zd3,?_⟩|refine fin ?_)|(apply RD_W;rfl;intro bk))
   exact rtA
 | true =>
 cases lt with
 | false =>
  rw[if_pos (by decide)]
  repeat (first|refine ZoQ ?_|(refine jn ?_;(try intro F);(refine bx ?_;intro bk);first|refine⟨_,EndsA,Zd3,?_⟩|refine fin ?_)|(apply RD_W;rfl;intro bk))
  exact rtA
 | true =>
 rw[if_neg (by decide),if_neg (by decide)]
 by_cases hu:uc=0
 ·rw[if_neg (fun h=>h hu)]
  have hne:ne=0:=hn0 hu
  subst hu hne
  cases k with
  | zero =>
   rw[if_neg (by rintro⟨h,_⟩;omega)]
   clear hcb hcu
   by_cases hk2:kind=2
   ·subst hk2
    cases fr with
    | false =>
     rw[if_pos ⟨rfl,rfl⟩]
     repeat (first|refine ZtO ?_|(refine jg ?_;(try intro F);(first|(apply Zad (h:=fun w' hw _=>hst w' hw);rfl;rintro v O' ⟨A3,c3,rfl,rfl⟩)|(refine bx ?_;intro bk));first|refine⟨_,EndsA,Zd3,?_⟩|refine fin ?_)|(refine jn ?_;(try intro F);(refine bx ?_;intro bk);first|refine⟨_,EndsA,Zd3,?_⟩|refine fin ?_)|(apply RD_W;rfl;intro bk))
     exact rtA
    | true =>
     rw[if_neg (by rintro⟨_,h⟩;cases h)]
     repeat (first|refine ZtO ?_|(refine jg ?_;(try intro F);(first|(apply Zad (h:=fun w' hw _=>hst w' hw);rfl;rintro v O' ⟨A3,c3,rfl,rfl⟩)|(refine bx ?_;intro bk));first|refine⟨_,EndsA,Zd3,?_⟩|refine fin ?_)|(refine jn ?_;(try intro F);(refine bx ?_;intro bk);first|refine⟨_,EndsA,Zd3,?_⟩|refine fin ?_)|(apply RD_W;rfl;intro bk))
     exact rtA
   ·have bk2:decide (kind=2)=false:=decide_eq_false hk2
    rw[if_neg (fun h=>hk2 h.1)]
    repeat (first|refine und ?_|(apply RL_pu;rfl;exact ZqE)|(apply RD_Q;rfl;rfl;decide +kernel;rfl;rfl;exact ZwC)|refine walk1 ?_|(refine jg ?_;(try intro F);(first|(apply Zad (h:=fun w' hw _=>hst w' hw);rfl;rintro v O' ⟨A3,c3,rfl,rfl⟩)|(refine ZaX (fun w' hw hO=>hle A3 c3 w' (Zbc Zab.len (hO.of (A := .row (.slice A3 R.length c3) 56 11 R.length (R.flatMap Zab.enc)) (by repeat' constructor)))) ?_)|(refine Zae huc ?_)|(refine Zae hno ?_)|(refine ZaX (fun w' hw hO=>hfa A3 c3 w' hw (Zbc Zab.len (hO.of (A := .row (.slice A3 R.length c3) 56 11 R.length (R.flatMap Zab.enc)) (by repeat' constructor)))) ?_)|(refine bx ?_;intro bk)|(refine stA ?_));first|refine⟨_,EndsA,ZwJ,?_⟩|refine fin ?_)|(refine jn ?_;(try intro F);(first|(refine bx ?_;intro bk)|(refine stA ?_)|(apply Zag;first|exact ZqE|exact PuA));first|refine⟨_,EndsA,ZwJ,?_⟩|refine fin ?_)|(apply RD_W;rfl;intro bk))
    exact rtA
  | succ j =>
   have bj:decide ((0:Int)<((j+1:Nat):Int))=true:=decide_eq_true (by omega)
   clear hcb hcu hkj
   have hj:j<eras.length:=by omega
   obtain⟨hnb',hcb⟩:=hE.rd j _ (List.getElem?_eq_getElem hj)
   have hgj:eras.getD (j+1 - 1) dE0=eras[j]:=by rw[Nat.add_sub_cancel,List.getD_eq_getElem?_getD,List.getElem?_eq_getElem hj];rfl
   rw[hgj]
   generalize eras[j]=b at *
   have hcu:=ZxG hcb
   have hkj:((j+1:Nat):Int) - 1=(j:Int):=by omega
   have hst2:=fun w' (hw:Bel w.heap.size w w')=>ZgN Ar Az Al As cr cz cl cs a b w' (hA.up hw) hn
   have hle2:=fun A3 c3 w' h=>Zch A3 c3 (Zaz a.rules b) w' h
   have hno2:=fun w' (hw:Bel w.heap.size w w')=>Zff b.til (Zaj (Zaz a.rules b)) w' (hG.up hw)
   have hnb2:=ZuR b.til (Zaj (Zaz a.rules b))
   generalize Zaz a.rules b=R2 at *
   generalize Zaj R2=least2 at *
   generalize ZaF b.til least2=nm2 at *
   obtain⟨n2,ne2⟩:=nm2
   obtain⟨off2,ZCs,save2,set2,format2,⟨is2,year2,month2,⟨dk2,dw2,dd2⟩,⟨us2,ub2⟩⟩⟩:=b
   dsimp only at hno2 hnb2 hst2 hcu ⊢
   simp only[DEra.enc]at hst2 hcb
   simp only[ZaZ.enc]at hno2 hcu
   by_cases h2:ne2=0
   ·subst h2
    obtain⟨df,hdf⟩:∃ df,n - n2=df:=⟨_,rfl⟩
    rw[hdf]
    by_cases h3:df<259200
    ·have b3:decide (df<259200)=true:=decide_eq_true h3
     rw[if_pos ⟨by omega,.inr h3⟩]
     repeat (first|refine ZoP ?_|(refine jg ?_;(try intro F);(first|(apply Zad (h:=fun w' hw _=>hst w' hw);rfl;rintro v O' ⟨A3,c3,rfl,rfl⟩)|(apply Zad (h:=fun w' hw _=>hst2 w' hw);rfl;rintro v O' ⟨A4,c4,rfl,rfl⟩)|(refine bx ?_;intro bk));first|refine⟨_,EndsA,Zfx,?_⟩|refine fin ?_)|(refine jn ?_;(try intro F);(refine bx ?_;intro bk);first|refine⟨_,EndsA,Zfx,?_⟩|refine fin ?_)|(apply RD_W;rfl;intro bk))
     exact rtA
    ·have b3:decide (df<259200)=false:=decide_eq_false h3
     rw[if_neg (by rintro⟨_,h|h⟩;exact h rfl;exact h3 h)]
     by_cases hk2:kind=2
     ·subst hk2
      cases fr with
      | false =>
       rw[if_pos ⟨rfl,rfl⟩]
       repeat (first|refine ZoP ?_|(refine jg ?_;(try intro F);(first|(apply Zad (h:=fun w' hw _=>hst w' hw);rfl;rintro v O' ⟨A3,c3,rfl,rfl⟩)|(apply Zad (h:=fun w' hw _=>hst2 w' hw);rfl;rintro v O' ⟨A4,c4,rfl,rfl⟩)|(refine bx ?_;intro bk));first|refine⟨_,EndsA,Zfx,?_⟩|refine fin ?_)|(refine jn ?_;(try intro F);(refine bx ?_;intro bk);first|refine⟨_,EndsA,Zfx,?_⟩|refine fin ?_)|(apply RD_W;rfl;intro bk))
       exact rtA
      | true =>
       rw[if_neg (by rintro⟨_,h⟩;cases h)]
       repeat (first|refine ZoP ?_|(refine jg ?_;(try intro F);(first|(apply Zad (h:=fun w' hw _=>hst w' hw);rfl;rintro v O' ⟨A3,c3,rfl,rfl⟩)|(apply Zad (h:=fun w' hw _=>hst2 w' hw);rfl;rintro v O' ⟨A4,c4,rfl,rfl⟩)|(refine bx ?_;intro bk));first|refine⟨_,EndsA,Zfx,?_⟩|refine fin ?_)|(refine jn ?_;(try intro F);(refine bx ?_;intro bk);first|refine⟨_,EndsA,Zfx,?_⟩|refine fin ?_)|(apply RD_W;rfl;intro bk))
       exact rtA
     ·have bk2:decide (kind=2)=false:=decide_eq_false hk2
      rw[if_neg (fun h=>hk2 h.1)]
      repeat (first|refine und ?_|(apply RL_pu;rfl;exact ZqD)|(apply RD_Q;rfl;rfl;decide +kernel;rfl;rfl;exact ZwA)|refine walk1 ?_|(refine jg ?_;(try intro F);(first|(apply Zad (h:=fun w' hw _=>hst w' hw);rfl;rintro v O' ⟨A3,c3,rfl,rfl⟩)|(refine ZaX (fun w' hw hO=>hle A3 c3 w' (Zbc Zab.len (hO.of (A := .row (.slice A3 R.length c3) 56 11 R.length (R.flatMap Zab.enc)) (by repeat' constructor)))) ?_)|(refine Zae huc ?_)|(refine Zae hno ?_)|(refine ZaX (fun w' hw hO=>hfa A3 c3 w' hw (Zbc Zab.len (hO.of (A := .row (.slice A3 R.length c3) 56 11 R.length (R.flatMap Zab.enc)) (by repeat' constructor)))) ?_)|(apply Zad (h:=fun w' hw _=>hst2 w' hw);rfl;rintro v O' ⟨A4,c4,rfl,rfl⟩)|(refine ZaX (fun w' hw hO=>hle2 A4 c4 w' (Zbc Zab.len (hO.of (A := .row (.slice A4 R2.length c4) 56 11 R2.length (R2.flatMap Zab.enc)) (by repeat' constructor)))) ?_)|(refine Zae hno2 ?_)|(refine bx ?_;intro bk)|(refine stA ?_));first|refine⟨_,EndsA,ZwI,?_⟩|refine fin ?_)|(refine jn ?_;(try intro F);(first|(refine bx ?_;intro bk)|(refine stA ?_)|(apply Zag;first|exact ZqD|exact PuA));first|refine⟨_,EndsA,ZwI,?_⟩|refine fin ?_)|(apply RD_W;rfl;intro bk))
      exact rtA
   ·have b2:(!decide (ne2=0))=true:=by rw[decide_eq_false h2];rfl
    rw[if_pos ⟨by omega,.inl h2⟩]
    repeat (first|refine und ?_|(apply RL_pu;rfl;exact ZqC)|(apply RD_Q;rfl;rfl;decide +kernel;rfl;rfl;exact Zwz)|refine walk1 ?_|(refine jg ?_;(try intro F);(first|(apply Zad (h:=fun w' hw _=>hst w' hw);rfl;rintro v O' ⟨A3,c3,rfl,rfl⟩)|(refine ZaX (fun w' hw hO=>hle A3 c3 w' (Zbc Zab.len (hO.of (A := .row (.slice A3 R.length c3) 56 11 R.length (R.flatMap Zab.enc)) (by repeat' constructor)))) ?_)|(refine Zae huc ?_)|(refine Zae hno ?_)|(refine ZaX (fun w' hw hO=>hfa A3 c3 w' hw (Zbc Zab.len (hO.of (A := .row (.slice A3 R.length c3) 56 11 R.length (R.flatMap Zab.enc)) (by repeat' constructor)))) ?_)|(apply Zad (h:=fun w' hw _=>hst2 w' hw);rfl;rintro v O' ⟨A4,c4,rfl,rfl⟩)|(refine ZaX (fun w' hw hO=>hle2 A4 c4 w' (Zbc Zab.len (hO.of (A := .row (.slice A4 R2.length c4) 56 11 R2.length (R2.flatMap Zab.enc)) (by repeat' constructor)))) ?_)|(refine Zae hno2 ?_)|(refine bx ?_;intro bk)|(refine stA ?_));first|refine⟨_,EndsA,ZwH,?_⟩|refine fin ?_)|(refine jn ?_;(try intro F);(first|(refine bx ?_;intro bk)|(refine stA ?_)|(apply Zag;first|exact ZqC|exact PuA));first|refine⟨_,EndsA,ZwH,?_⟩|refine fin ?_)|(apply RD_W;rfl;intro bk))
    exact rtA
 ·rw[if_pos hu]
  have bu:(!decide (uc=0))=true:=by rw[decide_eq_false hu];rfl
  repeat (first|refine und ?_|(apply RL_pu;rfl;exact ZqB)|(apply RD_Q;rfl;rfl;decide +kernel;rfl;rfl;exact Zwy)|refine walk1 ?_|(refine jg ?_;(try intro F);(first|(apply Zad (h:=fun w' hw _=>hst w' hw);rfl;rintro v O' ⟨A3,c3,rfl,rfl⟩)|(refine ZaX (fun w' hw hO=>hle A3 c3 w' (Zbc Zab.len (hO.of (A := .row (.slice A3 R.length c3) 56 11 R.length (R.flatMap Zab.enc)) (by repeat' constructor)))) ?_)|(refine Zae huc ?_)|(refine bx ?_;intro bk)|(refine stA ?_));first|refine⟨_,EndsA,ZwG,?_⟩|refine fin ?_)|(refine jn ?_;(try intro F);(first|(refine bx ?_;intro bk)|(refine stA ?_)|(apply Zag;first|exact ZqB|exact PuA));first|refine⟨_,EndsA,ZwG,?_⟩|refine fin ?_)|(apply RD_W;rfl;intro bk))
  exact rtA
end Go.Proofs.YtbjomhdhkpgbaaaGreatDoor
namespace Go.Wk
open Go Go.RowKit
section
variable {κ:Type}
def cent (kv:κ->Value):Nat->List (κ × Int)->List MapEntry
 | _,[]=>[]
 | i,x::l=>⟨kv x.1,.int .i64 x.2,i⟩::cent kv (i+1) l
def ZhT (l:List (κ × Int))(t:Nat):Prop:=∀ x∈l,1<=x.2/\x.2<=(t:Int)
theorem ZhT.nil (t:Nat):ZhT ([]:List (κ × Int)) t:=fun _ h=>by cases h
theorem ZrJ (kv:κ->Value):∀ (i:Nat) (l:List (κ × Int)),(cent kv i l).length=l.length
 | _,[]=>rfl
 | i,x::l=>by unfold cent;rw[List.length_cons,List.length_cons,ZrJ kv (i+1) l]
theorem ZrL (kv:κ->Value):∀ (i:Nat) (a b:List (κ × Int)),cent kv i (a++b)=cent kv i a++cent kv (i+a.length) b
 | _,[],_=>rfl
 | i,x::a,b=>by
  rw[List.cons_append]
  unfold cent
  rw[ZrL kv (i+1) a b,List.cons_append,List.length_cons,show i+1+a.length=i+(a.length+1) by omega]
  cases b <;> rfl
theorem ZrK (kv:κ->Value):∀ (i:Nat) (l:List (κ × Int)) (s:Nat),s<l.length->(cent kv i l).findIdx? (fun e=>(e.born:Int)==((i+s:Nat):Int))=some s
 | _,[],_,h=>by simp at h
 | i,x::l,0,_=>by unfold cent;rw[List.findIdx?_cons];simp
 | i,x::l,s+1,h=>by
  unfold cent
  rw[List.findIdx?_cons]
  have hne:((i:Int)==((i+(s+1):Nat):Int))=false:=by simp;omega
  dsimp only
  rw[hne]
  have:=ZrK kv (i+1) l s (by simpa using h)
  rw[show i+1+s=i+(s+1) by omega]at this
  rw[this]
  rfl
def cmIt (kv:κ->Value)(b:Nat)(l:List (κ × Int)):It := .fact (fun i=>i=b) fun w=>w.heap[b]?=some (.map (cent kv 0 l).toArray l.length)
theorem cmIt.heap {kv:κ->Value}{b:Nat}{l:List (κ × Int)}{w:World}(h:(cmIt kv b l).sat w):w.heap[b]?=some (.map (cent kv 0 l).toArray l.length):=h w fun _ _=>rfl
theorem cmIt.mk {kv:κ->Value}{b:Nat}{l:List (κ × Int)}{w:World}(h:w.heap[b]?=some (.map (cent kv 0 l).toArray l.length)):(cmIt kv b l).sat w:=fun _ ha=>(ha b rfl).trans h
end
section
variable {κ:Type}[DecidableEq κ]
def Zp2 (k:κ):List (κ × Int)->Nat->Option (Nat × Value)
 | [],_=>none
 | x::l,i=>if k=x.1 then some (i,.int .i64 x.2) else Zp2 k l (i+1)
def cget (k:κ):List (κ × Int)->Int
 | []=>0
 | x::l=>if k=x.1 then x.2 else cget k l
def cins (k:κ):List (κ × Int)->List (κ × Int)
 | []=>[(k,0)]
 | x::l=>if k=x.1 then x::l else x::cins k l
def cidx (k:κ):List (κ × Int)->Nat
 | []=>0
 | x::l=>if k=x.1 then 0 else cidx k l+1
def cput (k:κ)(v:Int):List (κ × Int)->List (κ × Int)
 | []=>[]
 | x::l=>if k=x.1 then (k,v)::l else x::cput k v l
theorem Zmd (k:κ):∀ (l:List (κ × Int)) (i:Nat),Zp2 k l i=if k∈l.map (·.1) then some (i+cidx k l,.int .i64 (cget k l)) else none
 | [],_=>rfl
 | x::l,i=>by
  unfold Zp2 cidx cget
  by_cases h:k=x.1
  ·rw[if_pos h,if_pos h,if_pos h,if_pos (by rw[h];simp)];rfl
  ·rw[if_neg h,if_neg h,if_neg h,Zmd k l (i+1)]
   by_cases hm:k∈l.map (·.1)
   ·rw[if_pos hm,if_pos (show k∈(x::l).map (·.1) from List.mem_cons_of_mem _ hm)]
    congr 2
    omega
   ·rw[if_neg hm,if_neg (show k ∉ (x::l).map (·.1) from fun hh=>(List.mem_cons.1 hh).elim h hm)]
theorem Zl9 (k:κ):∀ l:List (κ × Int),k∈l.map (·.1)->cins k l=l
 | [],h=>by cases h
 | x::l,h=>by
  unfold cins
  by_cases e:k=x.1
  ·rw[if_pos e]
  ·rw[if_neg e,Zl9 k l ((List.mem_cons.1 h).resolve_left e)]
theorem Zix (k:κ):∀ l:List (κ × Int),k ∉ l.map (·.1)->cins k l=l++[(k,0)]
 | [],_=>rfl
 | x::l,h=>by
  unfold cins
  rw[if_neg (fun e=>h (by rw[e];simp)),Zix k l (fun e=>h (List.mem_cons_of_mem _ e))]
  rfl
theorem ZrH (k:κ):∀ l:List (κ × Int),k ∉ l.map (·.1)->cidx k l=l.length
 | [],_=>rfl
 | x::l,h=>by
  unfold cidx
  rw[if_neg (fun e=>h (by rw[e];simp)),ZrH k l (fun e=>h (List.mem_cons_of_mem _ e))]
  rfl
theorem ZeJ (k:κ):∀ l:List (κ × Int),k ∉ l.map (·.1)->cget k l=0
 | [],_=>rfl
 | x::l,h=>by
  unfold cget
  rw[if_neg (fun e=>h (by rw[e];simp)),ZeJ k l (fun e=>h (List.mem_cons_of_mem _ e))]
theorem Zp1 (k:κ):∀ l:List (κ × Int),k∈l.map (·.1)->(k,cget k l)∈l
 | [],h=>by cases h
 | x::l,h=>by
  unfold cget
  by_cases e:k=x.1
  ·rw[if_pos e,e];exact List.mem_cons_self
  ·rw[if_neg e]
   exact List.mem_cons_of_mem _ (Zp1 k l ((List.mem_cons.1 h).resolve_left e))
theorem Zoa (k:κ):∀ l:List (κ × Int),cidx k (cins k l)=cidx k l
 | []=>by simp[cins,cidx]
 | x::l=>by
  unfold cins
  by_cases e:k=x.1
  ·rw[if_pos e]
  ·rw[if_neg e];unfold cidx;rw[if_neg e,if_neg e,Zoa k l]
theorem Zl8 (k:κ):∀ l:List (κ × Int),k∈(cins k l).map (·.1)
 | []=>by simp[cins]
 | x::l=>by
  unfold cins
  by_cases e:k=x.1
  ·rw[if_pos e,e];simp
  ·rw[if_neg e];exact List.mem_cons_of_mem _ (Zl8 k l)
theorem ZjN (k:κ)(v:Int):∀ l:List (κ × Int),(cput k v l).map (·.1)=l.map (·.1)
 | []=>rfl
 | x::l=>by
  unfold cput
  by_cases e:k=x.1
  ·rw[if_pos e,e];rfl
  ·rw[if_neg e,List.map_cons,List.map_cons,ZjN k v l]
theorem ZyR (k:κ)(v:Int)(l:List (κ × Int)):(cput k v l).length=l.length:=by
 have:=congrArg List.length (ZjN k v l)
 simpa using this
theorem Zob (k:κ)(v:Int):∀ l:List (κ × Int),k∈l.map (·.1)->cget k (cput k v l)=v
 | [],h=>by cases h
 | x::l,h=>by
  unfold cput
  by_cases e:k=x.1
  ·rw[if_pos e];unfold cget;rw[if_pos rfl]
  ·rw[if_neg e];unfold cget;rw[if_neg e,Zob k v l ((List.mem_cons.1 h).resolve_left e)]
theorem Zoc (k:κ):∀ l:List (κ × Int),cget k (cins k l)=cget k l
 | []=>by simp[cins,cget]
 | x::l=>by
  unfold cins
  by_cases e:k=x.1
  ·rw[if_pos e]
  ·rw[if_neg e];unfold cget;rw[if_neg e,if_neg e,Zoc k l]
theorem ZrG (k:κ)(v:Int):∀ (l:List (κ × Int)) (x:κ × Int),x∈cput k v l->x∈l\/x=(k,v)
 | [],_,h=>by cases h
 | y::l,x,h=>by
  unfold cput at h
  by_cases e:k=y.1
  ·rw[if_pos e]at h
   rcases List.mem_cons.1 h with h|h
   ·exact .inr h
   ·exact .inl (List.mem_cons_of_mem _ h)
  ·rw[if_neg e]at h
   rcases List.mem_cons.1 h with h|h
   ·exact .inl (h▸List.mem_cons_self)
   ·rcases ZrG k v l x h with h|h
    ·exact .inl (List.mem_cons_of_mem _ h)
    ·exact .inr h
def cinc (k:κ)(l:List (κ × Int)):List (κ × Int):=cput k (cget k l+1) (cins k l)
theorem Zn9 (k:κ)(l:List (κ × Int)):(cinc k l).map (·.1)=if k∈l.map (·.1) then l.map (·.1) else l.map (·.1)++[k]:=by
 unfold cinc
 rw[ZjN]
 by_cases h:k∈l.map (·.1)
 ·rw[if_pos h,Zl9 k l h]
 ·rw[if_neg h,Zix k l h];simp
theorem ZhT.get {l:List (κ × Int)}{t:Nat}(h:ZhT l t)(k:κ):0<=cget k l/\cget k l<=(t:Int):=by
 by_cases hm:k∈l.map (·.1)
 ·have:=h _ (Zp1 k l hm);dsimp only at this;omega
 ·rw[ZeJ k l hm];omega
theorem ZhT.new {l:List (κ × Int)}{t:Nat}(h:ZhT l t)(k:κ):cget k l+1=1↔k ∉ l.map (·.1):=by
 constructor
 ·intro e hm
  have:=h _ (Zp1 k l hm);dsimp only at this;omega
 ·intro hm;rw[ZeJ k l hm];rfl
theorem ZhT.inc {l:List (κ × Int)}{t:Nat}(h:ZhT l t)(k:κ):ZhT (cinc k l) (t+1):=by
 have hg:=h.get k
 intro x hx
 by_cases hm:k∈l.map (·.1)
 ·unfold cinc at hx
  rw[Zl9 k l hm]at hx
  rcases ZrG k _ _ x hx with hx|rfl
  ·have:=h x hx;omega
  ·dsimp only;omega
 ·unfold cinc at hx
  rw[Zix k l hm]at hx
  have hx2:x∈l\/x=(k,cget k l+1):=by
   clear hg h
   induction l with
   | nil=>simp[cput]at hx;exact .inr (by simpa[cget] using hx)
   | cons y l ih =>
    have hne:k≠y.1:=fun e=>hm (by rw[e];simp)
    have hml:k ∉ l.map (·.1):=fun e=>hm (List.mem_cons_of_mem _ e)
    rw[ZeJ k _ hm]at hx ⊢
    rw[ZeJ k l hml]at ih
    rw[List.cons_append]at hx
    unfold cput at hx
    rw[if_neg hne]at hx
    rcases List.mem_cons.1 hx with hx|hx
    ·exact .inl (hx▸List.mem_cons_self)
    ·rcases ih hx hml with h|h
     ·exact .inl (List.mem_cons_of_mem _ h)
     ·exact .inr h
  rcases hx2 with hx|rfl
  ·have:=h x hx;omega
  ·dsimp only;omega
theorem ZvZ (kv:κ->Value)(k:κ):∀ (i:Nat) (l:List (κ × Int)),k∈l.map (·.1)->(cent kv i l)[cidx k l]?=some ⟨kv k,.int .i64 (cget k l),i+cidx k l⟩
 | _,[],h=>by cases h
 | i,x::l,h=>by
  unfold cent cidx cget
  by_cases e:k=x.1
  ·rw[if_pos e,if_pos e,e];rfl
  ·rw[if_neg e,if_neg e,List.getElem?_cons_succ,ZvZ kv k (i+1) l ((List.mem_cons.1 h).resolve_left e)]
   congr 2
   omega
theorem ZvW (k:κ):∀ l:List (κ × Int),k∈l.map (·.1)->cidx k l<l.length
 | [],h=>by cases h
 | x::l,h=>by
  unfold cidx
  by_cases e:k=x.1
  ·rw[if_pos e];simp
  ·rw[if_neg e,List.length_cons]
   have:=ZvW k l ((List.mem_cons.1 h).resolve_left e)
   omega
theorem ZrI (kv:κ->Value)(k:κ)(v:Int):∀ (i:Nat) (l:List (κ × Int)),k∈l.map (·.1)->(cent kv i l).modify (cidx k l) (fun e=>{ e with val := .int .i64 v })=cent kv i (cput k v l)
 | _,[],h=>by cases h
 | i,x::l,h=>by
  unfold cidx cput
  by_cases e:k=x.1
  ·rw[if_pos e,if_pos e,e];rfl
  ·rw[if_neg e,if_neg e]
   unfold cent
   rw[List.modify_succ_cons,ZrI kv k v (i+1) l ((List.mem_cons.1 h).resolve_left e)]
end
class KeyT (P:Program) (kt:TypeId) (κ:outParam Type) [DecidableEq κ] (kv:outParam (κ->Value)):Prop where
 ask:∀ (k:κ) (l:List (κ × Int)) (w:World),(Instr.findKey kt (kv k) (cent kv 0 l)).run P w = .ok (Zp2 k l 0) w
 chk:∀ (b:Bool) (k:κ) (w:World),(Instr.checkKey b 10000 kt (kv k)).run P w = .ok () w
 stay:∀ (k:κ) (w:World),(Instr.keyThatStays (kv k) (kv k)).run P w = .ok (kv k) w
section
variable {κ:Type}{kv:κ->Value}
variable {P:Program}{n:Nat}{wr:World}{fr:Fr}{O:List It}{ty:TypeId}{pos:String}{af:Array Edge}{dst:Option Tmp}{g:Option (Nat × Bool)}{Kp:Value->List It->Prop}
theorem setC {a:Act}{w:World}{b:Nat}{l l':List (κ × Int)}{O':List It}(hs:St n wr fr O a w)(hu:Upd O (cmIt kv b l) (cmIt kv b l') O') :
  Bel wr.heap.size wr { w with heap:=w.heap.setIfInBounds b (.map (cent kv 0 l').toArray l'.length) }/\Zau wr.heap.size O' { w with heap:=w.heap.setIfInBounds b (.map (cent kv 0 l').toArray l'.length) }:=by
 have hin:=hs.own.inb _ hu.mem b rfl
 refine⟨hs.old.trans ⟨⟨rfl,rfl,rfl,by simp,fun i hi=>Zeq (by omega)⟩⟩,hs.own.upd hu hs.old.size (by simp) (fun i _ hi=>Zeq hi) (cmIt.mk ?_) fun i hi => .inl hi⟩
 simp[Array.getElem?_setIfInBounds,hin.2]
theorem Zwp {t:TypeId}(kv:κ->Value)(k:∀ b,Kp (.map (some b)) (cmIt kv b []::O)):Stp P n wr fr O ⟨dst,.makeMap t none,ty,pos,af,g⟩ Kp :=
 Zb6 fun a w hs=>by
  have hB:Bel w.heap.size w (w.alloc (.map #[] 0)):=(Bel.refl _ _).alloc (Nat.le_refl _) _
  refine⟨.map (some w.heap.size),w.alloc (.map #[] 0),_,?_,hs.old.trans (hB.mono hs.old.size),hs.own.grow (O':=[cmIt kv w.heap.size []]) hB hs.old.size ⟨fun i hi=>?_,fun i hi b hb=>?_,List.pairwise_singleton _ _⟩,k _⟩
  ·simp only[execOp,Option.map_none,Sem.run_bind,run_makeMap (P:=P) t w,Result.andThen_ok,Sem.run_pure]
  ·rw[List.mem_singleton.1 hi]
   exact cmIt.mk (heap_alloc_new w _)
  ·rw[List.mem_singleton.1 hi]at hb
   simp only[It.S,cmIt]at hb
   subst hb
   exact⟨Nat.le_refl _,by simp⟩
theorem ZBR {t kt et b:Nat}{x:Operand}{l:List (κ × Int)}{R:List It}[hM:MapT P t kt et](hx:ev fr x=some (.map (some b)))(hp:Pick (cmIt kv b l) O R) :
  Pu P n wr fr O (.call ⟨.builtin .len,#[x],#[t]⟩) ty (.int .i64 l.length):=fun a w hs _ _ _ _=>by
 have h1:=cmIt.heap (hs.own.sat _ (hp.perm.mem_iff.2 List.mem_cons_self))
 have hu:=run_underlying (w:=w) (MapT.parts hM.h)
 have hx':=hs.sim.ev hx
 simp[execOp,resolve,invoke,builtin,Builtin.len_,hx',hu,Zby (P:=P) h1,goInt,ZrJ]
end
section
variable {κ:Type}[DecidableEq κ]{kv:κ->Value}
variable {P:Program}{n:Nat}{wr:World}{fr:Fr}{O:List It}{ty:TypeId}{pos:String}{af:Array Edge}{dst:Option Tmp}{g:Option (Nat × Bool)}{Kp:Value->List It->Prop}
theorem Zut {t kt et b:Nat}{l:List (κ × Int)}{w:World}[hM:MapT P t kt et][hK:KeyT P kt κ kv][ZeroV P et (.int .i64 0)](h:(cmIt kv b l).sat w)(k:κ):(Instr.lookup t (.map (some b)) (kv k) false).run P w = .ok (.int .i64 (cget k l)) w:=by
 have h1:=cmIt.heap h
 have hu:=run_underlying (w:=w) (MapT.parts hM.h)
 have ha:=hK.ask k l w
 have hz:=ZgG (P:=P) (t:=et) (v := .int .i64 0) (w:=w)
 have hc:=fun b=>hK.chk b k w
 obtain⟨es,he⟩:∃ es:Array MapEntry,es=(cent kv 0 l).toArray:=⟨_,rfl⟩
 rw[<- he]at h1
 have hl:es.toList=cent kv 0 l:=by rw[he]
 simp only[Instr.lookup,Sem.run_bind,hu,Result.andThen_ok,Zby (P:=P) h1,Sem.run_pure,hc,hl,ha]
 rw[Zmd]
 by_cases hm:k∈l.map (·.1)
 ·rw[if_pos hm]
  simp
 ·rw[if_neg hm,ZeJ k l hm]
  simp[hz]
theorem Zzc {t kt et b:Nat}{x ix:Operand}{l:List (κ × Int)}{k:κ}{v:Int}{R:List It}[hM:MapT P t kt et][hK:KeyT P kt κ kv][ZeroV P et (.int .i64 0)](hx:ev fr x=some (.map (some b)))(hi:ev fr ix=some (kv k))(hp:Pick (cmIt kv b l) O R)(hv:cget k l=v) :
  Pu P n wr fr O (.lookup t x ix false) ty (.int .i64 v):=fun a w hs _ _ _ _=>by
 have:=Zut (P:=P) (t:=t) (kt:=kt) (et:=et) (hs.own.sat _ (hp.perm.mem_iff.2 List.mem_cons_self)) k
 simp only[execOp,hs.sim.ev hx,hs.sim.ev hi,Sem.run_bind,this,Result.andThen_ok,Sem.run_pure,hv]
theorem Zsz {t kt et b:Nat}{l:List (κ × Int)}{w:World}[hM:MapT P t kt et][hK:KeyT P kt κ kv][ZeroV P et (.int .i64 0)](h:(cmIt kv b l).sat w)(k:κ):(Instr.mapEntry t (.map (some b)) (kv k)).run P w =
  .ok (.tuple #[.int .i64 (cget k l),.int .i64 (cidx k l)]) { w with heap:=w.heap.setIfInBounds b (.map (cent kv 0 (cins k l)).toArray (cins k l).length) }:=by
 have h1:=cmIt.heap h
 have hu:=run_underlying (w:=w) (MapT.parts hM.h)
 have ha:=hK.ask k l w
 have hz:=ZgG (P:=P) (t:=et) (v := .int .i64 0) (w:=w)
 have hc:=fun b=>hK.chk b k w
 have hst:=hK.stay k w
 obtain⟨es,he⟩:∃ es:Array MapEntry,es=(cent kv 0 l).toArray:=⟨_,rfl⟩
 rw[<- he]at h1
 have hl:es.toList=cent kv 0 l:=by rw[he]
 simp only[Instr.mapEntry,Sem.run_bind,hu,Result.andThen_ok,Zby (P:=P) h1,Sem.run_pure,hc,hl,ha]
 rw[Zmd]
 by_cases hm:k∈l.map (·.1)
 ·rw[if_pos hm,Zl9 k l hm]
  have hat:=ZvZ kv k 0 l hm
  rw[Nat.zero_add]at hat
  have hej:es[0+cidx k l]?=some ⟨kv k,.int .i64 (cget k l),cidx k l⟩:=by
   rw[he,Nat.zero_add]
   simpa using hat
  have hmod:(es.modify (0+cidx k l) fun e=>({ key:=kv k,val:=e.val,born:=e.born }:MapEntry))=es:=by
   apply Array.ext_getElem?
   intro i
   rw[Array.getElem?_modify]
   split
   ·rename_i hij
    subst hij
    rw[hej]
    rfl
   ·rfl
  have hke:(Option.map (fun x:MapEntry=>x.key) es[0+cidx k l]?).getD (kv k)=kv k:=by rw[hej];rfl
  simp only[hke,Sem.run_bind,hst,Result.andThen_ok,hmod,<- he]
  rw[Nat.zero_add]at hej ⊢
  simp[setObj,Sem.run,h1,goInt,hej]
 ·rw[if_neg hm,Zix k l hm,ZrH k l hm,ZeJ k l hm]
  have hp:(es.push { key:=kv k,val := .int .i64 0,born:=l.length })=(cent kv 0 (l++[(k,0)])).toArray:=by
   rw[he,ZrL,Nat.zero_add]
   simp[cent]
  rw[<- hp]
  simp[hz,setObj,Sem.run,h1,goInt]
theorem Zsy {t b:Nat}{l:List (κ × Int)}{w:World}{s:Nat}(h:(cmIt kv b l).sat w)(k:κ)(v:Int)(hk:k∈l.map (·.1))(hs:cidx k l=s):(Instr.entryStore t (.map (some b)) (.int .i64 s) (.int .i64 v)).run P w =
  .ok () { w with heap:=w.heap.setIfInBounds b (.map (cent kv 0 (cput k v l)).toArray (cput k v l).length) }:=by
 have h1:=cmIt.heap h
 have h2:=ZrK kv 0 l s (hs▸ZvW k l hk)
 rw[Nat.zero_add]at h2
 have h3:=ZrI kv k v 0 l hk
 rw[hs]at h3
 have hfi:((cent kv 0 l).toArray.findIdx? fun e=>(e.born:Int)==(s:Int))=some s:=by rw[List.findIdx?_toArray];exact h2
 simp only[Instr.entryStore,Sem.run_bind,Result.andThen_ok,Zby (P:=P) h1,Sem.run_pure,asInt,asIntOf,Sem.run_map,hfi]
 rw[<- h3,ZyR]
 simp[setObj,Sem.run,h1]
theorem ZfR {t kt et b:Nat}{x ix:Operand}{l:List (κ × Int)}{k:κ}{O':List It}[hM:MapT P t kt et][hK:KeyT P kt κ kv][ZeroV P et (.int .i64 0)](hx:ev fr x=some (.map (some b)))(hi:ev fr ix=some (kv k))(hu:Upd O (cmIt kv b l) (cmIt kv b (cins k l)) O')
  (kk:Kp (.tuple #[.int .i64 (cget k l),.int .i64 (cidx k l)]) O'):Stp P n wr fr O ⟨dst,.mapEntry t x ix,ty,pos,af,g⟩ Kp:=by
 refine Zb6 ?_
 intro a w hs
 have hst:=setC hs hu
 have hr:=Zsz (P:=P) (t:=t) (kt:=kt) (et:=et) (hs.own.sat _ hu.mem) k
 refine⟨_,_,O',?_,hst.1,hst.2,kk⟩
 simp only[execOp,hs.sim.ev hx,hs.sim.ev hi,Sem.run_bind,hr,Result.andThen_ok,Sem.run_pure]
theorem ZfQ {t b:Nat}{x sx y:Operand}{l:List (κ × Int)}{k:κ}{v:Int}{O':List It}(hx:ev fr x=some (.map (some b)))(hsx:ev fr sx=some (.int .i64 (cidx k l)))(hy:ev fr y=some (.int .i64 v))(hu:Upd O (cmIt kv b (cins k l)) (cmIt kv b (cput k v (cins k l))) O')
  (kk:Kp undef O'):Stp P n wr fr O ⟨dst,.entryStore t x sx y,ty,pos,af,g⟩ Kp :=
 Ziz fun a w hst=>by
  have h2:=setC hst hu
  refine⟨_,O',?_,h2.1,h2.2,kk⟩
  have:=Zsy (P:=P) (t:=t) (hst.own.sat _ hu.mem) k v (Zl8 k l) (Zoa k l)
  simp only[execOp,hst.sim.ev hx,hst.sim.ev hsx,hst.sim.ev hy,Sem.run_bind,this,Result.andThen_ok,Sem.run_pure]
end
end Go.Wk
