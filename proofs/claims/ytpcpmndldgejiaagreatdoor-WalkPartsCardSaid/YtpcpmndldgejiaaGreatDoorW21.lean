/- Parts of the proof. -/
import Derived.Test.YtpcpmndldgejiaaGreatDoorW20
import Derived.Test.YtpcpmndldgejiaaGreatDoorW10
set_option maxHeartbeats 4000000
set_option linter.unusedVariables false
set_option linter.unusedSimpArgs false
namespace Go.Proofs.YtpcpmndldgejiaaGreatDoor
open Go Go.RowKit Go.Wk
attribute [local irreducible] W RL Does Zay Zam retQ Calls Pu Stp RD Qy Ay Zan
theorem Zl4.i64 {s : Zai} (h : Zl4 s) : ∀ r ∈ s.rules, I64 r.save := fun r hr => by have := (h r hr).1; unfold I64; omega
theorem Zgu {rs : List Zaa} {e : DEra} {r : Zaa} (h : r ∈ Zbm rs e) : r ∈ rs := by
 unfold Zbm at h
 split at h
 ·exact Ztj h
 ·cases h
theorem ZiE (rs : List Zaa) (e : DEra) : (Zbm rs e).length <= rs.length := by
 unfold Zbm
 split
 ·exact ZoG _ _
 ·exact Nat.zero_le _
theorem Ziz {rs : List Zaa} {e : DEra} (hr : ∀ r ∈ rs, I64 r.save) (hs : I64 e.save) : ∀ x ∈ ZaR rs e, I64 x.1 := by
 intro x hx
 unfold ZaR at hx
 split at hx
 ·simp only [List.mem_singleton] at hx; subst hx; exact hs
 ·split at hx
  ·obtain ⟨r, h, rfl⟩ := List.mem_map.1 hx
   exact hr r (Zgu h)
  ·simp only [List.mem_singleton] at hx; subst hx; exact ⟨by decide, by decide⟩
def offB (off : Int) (x : Int × ByteArray) : Bool := !Zcn off x.1
structure Zsr (e : DEra) : Prop where
 off : I64 e.off
 save : I64 e.save
 kind : I64 e.kind
 fmt : e.format.size <= 1000000000
theorem ZpP {G : Prop} (h : G := by (apply Zbi; rfl; rfl; exact b1)) : G := h
theorem ZvH {G : Prop} (h : G := by (first | exact ZpP | (apply ZaN; rfl; rfl; exact b2))) : G := h
theorem ZpO {G : Prop} (h : G := by (apply Zbi; rfl; rfl; exact s1)) : G := h
theorem ZjY {G : Prop} (h : G := by (first | exact ZpO | (apply ZaN; rfl; rfl; exact s2))) : G := h
theorem ZpA {G : Prop} (h : G := by first | (apply Qy_y; rfl; exact ZjY) | exact QyA) : G := h
theorem ZpB {G : Prop} (h : G := by repeat (first | exact QF.nil | (apply QF.mk; rfl; rfl; decide +kernel; exact ZpA))) : G := h
theorem ZjX {G : Prop} (h : G := by (apply ZaG; rfl; rfl; exact r0)) : G := h
theorem Zpz {G : Prop} (h : G := by first | (apply Qy_y; rfl; exact ZjX) | exact QyA) : G := h
theorem Zl7 {G : Prop} (h : G := by repeat (first | exact QF.nil | (apply QF.mk; rfl; rfl; decide +kernel; exact Zpz))) : G := h
set_option maxHeartbeats 4000000 in
theorem Ztz (Ar Az Al As : Option Addr) (cr cz cl cs : Nat) (a : Zai) (e : DEra) (first : Bool) (w : World) (hL : LibW w) (hA : Zaj w Ar Az Al As cr cz cl cs a) (hS : Zia a) (hV : Zl4 a) (hE : Zsr e) :
  Does Tryz.prog 92 [srcV Ar Az Al As cr cz cl cs a, .agg e.enc.toArray, .bool first] w (fun v O => v = .int .i64 (ZdE a.rules e first) /\ O = []) := by
 have hn := hS.nr
 have hst := fun w' (hw : Bel w.heap.size w w') => ZgE Ar Az Al As cr cz cl cs a e w' (hA.up hw) hn
 have hh0 := fun w' => ZkG e.off 0 hE.off ⟨by decide, by decide⟩ w'
 have hss := fun w' (hw : Bel w.heap.size w w') => Ziy Ar Az Al As cr cz cl cs a e w' (hA.up hw) hn
 have hun := fun w' => Zoq e w'
 have hRs : ∀ r ∈ Zbm a.rules e, r ∈ a.rules := fun r h => Zgu h
 have hRl := ZiE a.rules e
 have hS64 := Ziz (fun r h => hV.i64 r h) hE.save
 have hfc := fun A3 c3 w' (hw : Bel w.heap.size w w') h => Zo3 e A3 c3 (Zbm a.rules e) w' (hL.up hw) h hE.off hE.save (fun r hr => hV.i64 r (hRs r hr)) (by omega) hE.fmt (fun r hr => (hS.rs r (hRs r hr)).2)
 unfold ZdE
 rw [show (fun x : Int × ByteArray => !Zcn e.off x.1) = offB e.off from rfl]
 generalize Zbm a.rules e = R at *
 generalize ZaR a.rules e = S at *
 generalize ZeG e = un at *
 generalize ZhS e R = fc at *
 obtain ⟨off, kind, save, set, format, til⟩ := e
 have ho := hE.off
 have hki := hE.kind
 have hcn := fun A5 c5 (b4 : Nat) (cells : List Value) w' (h : RdSl w' A5 c5 Zck 2 S) (h4 : Zao w' ⟨b4, 0, none⟩ (.int .i64 off :: cells)) => Zjw A5 c5 S 128 [] [.pointer (some ⟨b4, 0, none⟩)] (offB off) w' h (fun x hx w2 hw2 => by
  have hc0 : w'.cell? ⟨b4, 0, none⟩ = some (.int .i64 off) := by
   have := h4 0 _ rfl
   rwa [Zca] at this
  exact Zt4 x ⟨b4, 0, none⟩ off w2 ((hw2.cell (World.block_lt_of_cell? w' _ hc0)).trans hc0) ho (hS64 x hx))
 replace hcn := fun A5 c5 w' h {b4 cells} h4 => hcn A5 c5 b4 cells w' h h4
 dsimp only at hst hh0 hss hun hfc ho hki ⊢
 simp only [DEra.enc] at hst hss hun hfc ⊢
 obtain ⟨an, han⟩ : ∃ an, S.any (offB off) = an := ⟨_, rfl⟩
 rw [han] at hcn ⊢
 generalize Zcn off 0 = h0 at *
 clear hS64 han hE
 refine Zab Tryz.func92 rfl rfl rfl rfl ?_
 by_cases hlo : kind < 0
 ·have b1 : decide (kind < 0) = true := decide_eq_true hlo
  rw [if_pos (.inl hlo)]
  repeat (first | refine und ?_ | (apply RL_pu; rfl; exact ZpP) | (apply RD_Q; rfl; rfl; decide +kernel; rfl; rfl; exact QyAccG0) | refine walk1 ?_ | (refine jn ?_; (try intro F); (first | (refine bx ?_; intro bk) | (apply Zae; first | exact ZpP | exact PuA)); first | refine ⟨_, EndsA, QFAccG0, ?_⟩ | refine fin ?_))
  exact rtA
 by_cases hhi : 2 < kind
 ·have b1 : decide (kind < 0) = false := decide_eq_false hlo
  have b2 : decide (2 < kind) = true := decide_eq_true hhi
  rw [if_pos (.inr hhi)]
  repeat (first | refine und ?_ | (apply RL_pu; rfl; exact ZvH) | (apply RD_Q; rfl; rfl; decide +kernel; rfl; rfl; exact QyAccG1) | refine walk1 ?_ | (refine jn ?_; (try intro F); (first | (refine bx ?_; intro bk) | (apply Zae; first | exact ZvH | exact PuA)); first | refine ⟨_, EndsA, QFAccG1, ?_⟩ | refine fin ?_))
  exact rtA
 rw [if_neg (by omega)]
 obtain rfl | rfl | rfl : kind = 0 \/ kind = 1 \/ kind = 2 := by omega
 ·cases first
  all_goals
   rw [if_neg (by rintro ⟨h1, h2⟩; first | (cases h1; done) | (cases h2; done)), if_neg (by rintro ⟨h, _⟩; cases h), if_neg (by rintro ⟨h, _⟩; cases h)]
  all_goals
   cases h0 <;> first | rw [if_pos (Or.inl rfl)] | (cases an <;> first | rw [if_pos (Or.inr rfl)] | (rw [if_neg (by rintro (h | h) <;> cases h)]; cases un <;> first | rw [if_pos rfl] | rw [if_neg (by decide)]))
  all_goals
   repeat (first | refine und ?_ | refine walk ?_ | (refine jg ?_; (try intro F); (first | (apply Zag (h := fun w' hw _ => hst w' hw); rfl; rintro v O' ⟨A3, c3, rfl, rfl⟩) | (refine Zac (fun w' hw => hh0 w') ?_) | (apply Zag (h := fun w' hw _ => hss w' hw); rfl; rintro v O' ⟨A5, c5, rfl, rfl⟩) | (refine ZaF (fun w' hw hO => hcn A5 c5 w' (ZaW Zck.len (hO.of (A := .row (.slice A5 S.length c5) 162 2 S.length (S.flatMap Zck)) (by repeat' constructor))) (hO.cells (by repeat' constructor))) ?_) | (refine Zac (fun w' hw => hun w') ?_) | (refine ZaF (fun w' hw hO => hfc A3 c3 w' hw (ZaW Zaa.len (hO.of (A := .row (.slice A3 R.length c3) 118 11 R.length (R.flatMap Zaa.enc)) (by repeat' constructor)))) ?_) | (refine bx ?_; intro bk)); refine fin ?_) | (refine jn ?_; (try intro F); (first | (refine bx ?_; intro bk) | (apply Zae; exact PuA)); refine fin ?_))
   exact rtA
 ·rw [if_neg (by rintro ⟨_, h⟩; cases h), if_neg (by rintro ⟨h, _⟩; cases h)]
  by_cases hs1 : save < 1
  ·have s1 : decide (save < 1) = true := decide_eq_true hs1
   rw [if_pos ⟨rfl, .inl hs1⟩]
   cases first
   all_goals
    repeat (first | refine und ?_ | (apply RL_pu; rfl; exact ZpO) | (apply RD_Q; rfl; rfl; decide +kernel; rfl; rfl; exact QyAccG2) | refine walk1 ?_ | (refine jn ?_; (try intro F); (first | (refine bx ?_; intro bk) | (apply Zae; first | exact ZpO | exact PuA)); first | refine ⟨_, EndsA, QFAccG2, ?_⟩ | refine fin ?_))
    exact rtA
  have s1 : decide (save < 1) = false := decide_eq_false hs1
  by_cases hs2 : 10800 < save
  ·have s2 : decide (10800 < save) = true := decide_eq_true hs2
   rw [if_pos ⟨rfl, .inr hs2⟩]
   cases first
   all_goals
    repeat (first | refine und ?_ | (apply RL_pu; rfl; exact ZjY) | (apply RD_Q; rfl; rfl; decide +kernel; rfl; rfl; exact ZpA) | refine walk1 ?_ | (refine jn ?_; (try intro F); (first | (refine bx ?_; intro bk) | (apply Zae; first | exact ZjY | exact PuA)); first | refine ⟨_, EndsA, ZpB, ?_⟩ | refine fin ?_))
    exact rtA
  have s2 : decide (10800 < save) = false := decide_eq_false hs2
  rw [if_neg (by omega)]
  cases first
  all_goals
   cases h0 <;> first | rw [if_pos (Or.inl rfl)] | (cases an <;> first | rw [if_pos (Or.inr rfl)] | (rw [if_neg (by rintro (h | h) <;> cases h)]; cases un <;> first | rw [if_pos rfl] | rw [if_neg (by decide)]))
  all_goals
   repeat (first | refine und ?_ | (apply RL_pu; rfl; exact ZjY) | (apply RD_Q; rfl; rfl; decide +kernel; rfl; rfl; exact ZpA) | refine walk1 ?_ | (refine jg ?_; (try intro F); (first | (apply Zag (h := fun w' hw _ => hst w' hw); rfl; rintro v O' ⟨A3, c3, rfl, rfl⟩) | (refine Zac (fun w' hw => hh0 w') ?_) | (apply Zag (h := fun w' hw _ => hss w' hw); rfl; rintro v O' ⟨A5, c5, rfl, rfl⟩) | (refine ZaF (fun w' hw hO => hcn A5 c5 w' (ZaW Zck.len (hO.of (A := .row (.slice A5 S.length c5) 162 2 S.length (S.flatMap Zck)) (by repeat' constructor))) (hO.cells (by repeat' constructor))) ?_) | (refine Zac (fun w' hw => hun w') ?_) | (refine ZaF (fun w' hw hO => hfc A3 c3 w' hw (ZaW Zaa.len (hO.of (A := .row (.slice A3 R.length c3) 118 11 R.length (R.flatMap Zaa.enc)) (by repeat' constructor)))) ?_) | (refine bx ?_; intro bk)); first | refine ⟨_, EndsA, ZpB, ?_⟩ | refine fin ?_) | (refine jn ?_; (try intro F); (first | (refine bx ?_; intro bk) | (apply Zae; first | exact ZjY | exact PuA)); first | refine ⟨_, EndsA, ZpB, ?_⟩ | refine fin ?_))
   exact rtA
 ·cases first with
  | true =>
   rw [if_pos ⟨rfl, rfl⟩]
   repeat (first | refine und ?_ | refine walk ?_ | (refine jn ?_; (try intro F); (first | (refine bx ?_; intro bk) | (apply Zae; exact PuA)); refine fin ?_))
   exact rtA
  | false =>
   rw [if_neg (by rintro ⟨h, _⟩; cases h)]
   by_cases hR : R = []
   ·have r0 : decide ((R.length : Int) = 0) = true := by rw [hR]; rfl
    rw [if_pos ⟨rfl, hR⟩]
    repeat (first | refine und ?_ | (apply RL_pu; rfl; exact ZjX) | (apply RD_Q; rfl; rfl; decide +kernel; rfl; rfl; exact Zpz) | refine walk1 ?_ | (refine jg ?_; (try intro F); (first | (apply Zag (h := fun w' hw _ => hst w' hw); rfl; rintro v O' ⟨A3, c3, rfl, rfl⟩) | (refine bx ?_; intro bk)); first | refine ⟨_, EndsA, Zl7, ?_⟩ | refine fin ?_) | (refine jn ?_; (try intro F); (first | (refine bx ?_; intro bk) | (apply Zae; first | exact ZjX | exact PuA)); first | refine ⟨_, EndsA, Zl7, ?_⟩ | refine fin ?_))
    exact rtA
   have r0 : decide ((R.length : Int) = 0) = false := decide_eq_false (fun h => hR (List.eq_nil_of_length_eq_zero (by omega)))
   rw [if_neg (fun h => hR h.2), if_neg (by rintro ⟨h, _⟩; cases h)]
   cases h0 <;> first | rw [if_pos (Or.inl rfl)] | (cases an <;> first | rw [if_pos (Or.inr rfl)] | (rw [if_neg (by rintro (h | h) <;> cases h)]; cases un <;> first | rw [if_pos rfl] | rw [if_neg (by decide)]))
   all_goals
    repeat (first | refine und ?_ | (apply RL_pu; rfl; exact ZjX) | (apply RD_Q; rfl; rfl; decide +kernel; rfl; rfl; exact Zpz) | refine walk1 ?_ | (refine jg ?_; (try intro F); (first | (apply Zag (h := fun w' hw _ => hst w' hw); rfl; rintro v O' ⟨A3, c3, rfl, rfl⟩) | (refine Zac (fun w' hw => hh0 w') ?_) | (apply Zag (h := fun w' hw _ => hss w' hw); rfl; rintro v O' ⟨A5, c5, rfl, rfl⟩) | (refine ZaF (fun w' hw hO => hcn A5 c5 w' (ZaW Zck.len (hO.of (A := .row (.slice A5 S.length c5) 162 2 S.length (S.flatMap Zck)) (by repeat' constructor))) (hO.cells (by repeat' constructor))) ?_) | (refine Zac (fun w' hw => hun w') ?_) | (refine ZaF (fun w' hw hO => hfc A3 c3 w' hw (ZaW Zaa.len (hO.of (A := .row (.slice A3 R.length c3) 118 11 R.length (R.flatMap Zaa.enc)) (by repeat' constructor)))) ?_) | (refine bx ?_; intro bk)); first | refine ⟨_, EndsA, Zl7, ?_⟩ | refine fin ?_) | (refine jn ?_; (try intro F); (first | (refine bx ?_; intro bk) | (apply Zae; first | exact ZjX | exact PuA)); first | refine ⟨_, EndsA, Zl7, ?_⟩ | refine fin ?_))
    exact rtA
end Go.Proofs.YtpcpmndldgejiaaGreatDoor
namespace Go.Wk
open Go Go.RowKit
theorem ZpC {P : Program} {n : Nat} {wr : World} {fr : Fr} {O : List It} {ty t t' : TypeId} {x y : Operand} {i j m : Int} (hx : ev fr x = some (.int .i64 i)) (hy : ev fr y = some (.int .i64 j)) (hm : i - j = m) (h : -9223372036854775808 <= m /\ m <= 9223372036854775807) : Pu P n wr fr O (.binOp .sub t x y t') ty (.int .i64 m) := hm ▸ Pu_sub' hx hy (hm ▸ h)
end Go.Wk
namespace Go.Proofs.YtpcpmndldgejiaaGreatDoor
open Go Go.RowKit Go.Wk
attribute [local irreducible] W RL Does Zay Zam retQ Calls Pu Stp RD Qy Ay Zan
theorem Ztl (u : Zbj) (least : Int) : -200000000000000000 <= (ZaL u least).1 /\ (ZaL u least).1 <= 200000000000000000 := by
 unfold ZaL
 split
 ·exact ⟨by dsimp only; omega, by dsimp only; omega⟩
 ·rename_i h
  have h0 : Za0 u least = 0 := Decidable.not_not.1 h
  have hb := ZiL u.year u.month u.day
  unfold Za0 at h0
  dsimp only at h0 ⊢
  repeat' split at h0
  all_goals first | (exfalso; omega) | (split <;> omega)
theorem ZzX {u : Zbj} {least : Int} (h : Za0 u least = 0) : (ZaL u least).2 = 0 := by
 unfold ZaL
 rw [if_neg (fun hh => hh h)]
theorem ZvW {w : World} {ad : Addr} {e : DEra} (h : Zao w ad e.enc) : Zao w (ad.add 5) (Zbj.enc e.til) := fun j v hj => by
 rw [Zbe]
 refine h (5 + j) v ?_
 rw [show DEra.enc e = [.int .i64 e.off, .int .i64 e.kind, .int .i64 e.save, .string e.set, .string e.format] ++ Zbj.enc e.til from rfl, List.getElem?_append_right (by simp)]
 simpa using hj
theorem Zl4.rs {s : Zai} (h : Zl4 s) (e : DEra) : RsOk (Zbm s.rules e) := fun r hr => h r (Zgu hr)
theorem Zex {G : Prop} (h : G := by (first | exact PuI | (apply Pu_loadON; rfl; exact hcu; rfl) | (apply ZpC; rfl; rfl; exact hln; omega) | (apply ZpC; rfl; rfl; exact hkj; omega) | (apply Zbi; rfl; rfl; exact hdl))) : G := h
theorem Zpy {G : Prop} (h : G := by first | (apply Qy_y; rfl; exact Zex) | exact QyA) : G := h
theorem ZdR {G : Prop} (h : G := by repeat (first | exact QF.nil | (apply QF.mk; rfl; rfl; decide +kernel; exact Zpy))) : G := h
theorem Zop {G G' : Prop} (k : G') (h : Hold G' -> G := by intro k9; (first | refine und ?_ | (apply RL_pu; rfl; exact Zex) | (apply RD_Q; rfl; rfl; decide +kernel; rfl; rfl; exact Zpy) | refine walk1 ?_ | (refine jn ?_; (try intro F); (first | (refine stA ?_) | (apply Zae; first | exact Zex | exact PuA)); first | refine ⟨_, EndsA, ZdR, ?_⟩ | refine fin ?_)); exact k9.out) : G := h ⟨k⟩
theorem ZsF {G G' : Prop} (k : G') (h : Hold G' -> G := by intro k9; (first | refine und ?_ | (apply RL_pu; rfl; exact Zex) | (apply RD_Q; rfl; rfl; decide +kernel; rfl; rfl; exact Zpy) | refine walk1 ?_ | (refine jg ?_; (try intro F); (first | (refine ZaF (fun w' hw hO => hle A3 c3 w' (ZaW Zaa.len (hO.of (A := .row (.slice A3 R.length c3) 118 11 R.length (R.flatMap Zaa.enc)) (by repeat' constructor)))) ?_) | (refine Zac huc ?_) | (refine Zac hno ?_) | (refine ZaF (fun w' hw hO => hfa A3 c3 w' hw (ZaW Zaa.len (hO.of (A := .row (.slice A3 R.length c3) 118 11 R.length (R.flatMap Zaa.enc)) (by repeat' constructor)))) ?_) | (refine stA ?_)); first | refine ⟨_, EndsA, ZdR, ?_⟩ | refine fin ?_) | (refine jn ?_; (try intro F); (first | (refine stA ?_) | (apply Zae; first | exact Zex | exact PuA)); first | refine ⟨_, EndsA, ZdR, ?_⟩ | refine fin ?_)); exact k9.out) : G := h ⟨k⟩
theorem ZpN {G : Prop} (h : G := by (first | exact Zex | (apply ZaG; rfl; rfl; exact bk2))) : G := h
theorem ZuR {G : Prop} (h : G := by first | (apply Qy_y; rfl; exact ZpN) | exact QyA) : G := h
theorem ZuW {G : Prop} (h : G := by repeat (first | exact QF.nil | (apply QF.mk; rfl; rfl; decide +kernel; exact ZuR))) : G := h
theorem Zmj {G : Prop} (h : G := by (first | exact Zex | (apply ZaN; rfl; rfl; exact bj) | (apply ZpC; rfl; rfl; exact hdf; omega) | (apply Zbi; rfl; rfl; exact b3))) : G := h
theorem ZuQ {G : Prop} (h : G := by first | (apply Qy_y; rfl; exact Zmj) | exact QyA) : G := h
theorem Zfb {G : Prop} (h : G := by repeat (first | exact QF.nil | (apply QF.mk; rfl; rfl; decide +kernel; exact ZuQ))) : G := h
theorem Zoo {G G' : Prop} (k : G') (h : Hold G' -> G := by intro k9; (first | refine und ?_ | (apply RL_pu; rfl; exact Zmj) | (apply RD_Q; rfl; rfl; decide +kernel; rfl; rfl; exact ZuQ) | refine walk1 ?_ | (refine jg ?_; (try intro F); (first | (refine ZaF (fun w' hw hO => hle A3 c3 w' (ZaW Zaa.len (hO.of (A := .row (.slice A3 R.length c3) 118 11 R.length (R.flatMap Zaa.enc)) (by repeat' constructor)))) ?_) | (refine Zac huc ?_) | (refine Zac hno ?_) | (refine ZaF (fun w' hw hO => hfa A3 c3 w' hw (ZaW Zaa.len (hO.of (A := .row (.slice A3 R.length c3) 118 11 R.length (R.flatMap Zaa.enc)) (by repeat' constructor)))) ?_) | (refine ZaF (fun w' hw hO => hle2 A4 c4 w' (ZaW Zaa.len (hO.of (A := .row (.slice A4 R2.length c4) 118 11 R2.length (R2.flatMap Zaa.enc)) (by repeat' constructor)))) ?_) | (refine Zac hno2 ?_) | (refine stA ?_)); first | refine ⟨_, EndsA, Zfb, ?_⟩ | refine fin ?_) | (refine jn ?_; (try intro F); (first | (refine stA ?_) | (apply Zae; first | exact Zmj | exact PuA)); first | refine ⟨_, EndsA, Zfb, ?_⟩ | refine fin ?_)); exact k9.out) : G := h ⟨k⟩
theorem ZpM {G : Prop} (h : G := by (first | exact Zmj | (apply ZaG; rfl; rfl; exact bk2))) : G := h
theorem ZuP {G : Prop} (h : G := by first | (apply Qy_y; rfl; exact ZpM) | exact QyA) : G := h
theorem ZuV {G : Prop} (h : G := by repeat (first | exact QF.nil | (apply QF.mk; rfl; rfl; decide +kernel; exact ZuP))) : G := h
theorem ZpL {G : Prop} (h : G := by (first | exact Zex | (apply ZaN; rfl; rfl; exact bj) | (apply ZaE; rfl; rfl; exact b2))) : G := h
theorem ZuO {G : Prop} (h : G := by first | (apply Qy_y; rfl; exact ZpL) | exact QyA) : G := h
theorem ZuU {G : Prop} (h : G := by repeat (first | exact QF.nil | (apply QF.mk; rfl; rfl; decide +kernel; exact ZuO))) : G := h
theorem ZpK {G : Prop} (h : G := by (first | exact Zex | (apply ZaE; rfl; rfl; exact bu))) : G := h
theorem ZuN {G : Prop} (h : G := by first | (apply Qy_y; rfl; exact ZpK) | exact QyA) : G := h
theorem ZuT {G : Prop} (h : G := by repeat (first | exact QF.nil | (apply QF.mk; rfl; rfl; decide +kernel; exact ZuN))) : G := h
set_option maxHeartbeats 2000000 in
theorem ZtA (Ar Az Al As : Option Addr) (cr cz cl cs : Nat) (a : Zai) (Ae : Option Addr) (ce : Nat) (eras : List DEra) (k : Nat) (w : World) (hG : Glob w) (hA : Zaj w Ar Az Al As cr cz cl cs a) (hS : Zia a) (hV : Zl4 a)
  (hE : RdSl w Ae ce DEra.enc 13 eras) (hel : eras.length <= 1000000) (hk : k < eras.length) :
  Does Tryz.prog 93 [srcV Ar Az Al As cr cz cl cs a, .slice Ae eras.length ce, .int .i64 k] w (fun v O => v = .int .i64 (Zjq a.rules eras k) /\ O = []) := by
 have hn := hS.nr
 obtain ⟨hna, hca⟩ := hE.rd k _ (List.getElem?_eq_getElem hk)
 have hgd : eras.getD k dE0 = eras[k] := by rw [List.getD_eq_getElem?_getD, List.getElem?_eq_getElem hk]; rfl
 unfold Zjq
 rw [hgd]
 dsimp only
 generalize eras[k] = e at *
 have hst := fun w' (hw : Bel w.heap.size w w') => ZgE Ar Az Al As cr cz cl cs a e w' (hA.up hw) hn
 have hle := fun A3 c3 w' h => Zc1 A3 c3 (Zbm a.rules e) w' h
 have hRl := ZiE a.rules e
 have hRs := hV.rs e
 have huc := fun w' (hw : Bel w.heap.size w w') => Zis e.til (Zak (Zbm a.rules e)) w' (hG.up hw)
 have hno := fun w' (hw : Bel w.heap.size w w') => ZeN e.til (Zak (Zbm a.rules e)) w' (hG.up hw)
 have hnb := Ztl e.til (Zak (Zbm a.rules e))
 have hn0 := @ZzX e.til (Zak (Zbm a.rules e))
 have hfa := fun A3 c3 w' (hw : Bel w.heap.size w w') h => Zwy A3 c3 (Zbm a.rules e) (ZaL e.til (Zak (Zbm a.rules e))).1 w' (hG.up hw) h (by omega) hRs (by omega)
 generalize Zbm a.rules e = R at *
 generalize hLT : Zak R = least at *
 generalize Za0 e.til least = uc at *
 generalize farD R (ZaL e.til least).1 = fr at *
 generalize ZaL e.til least = nm at *
 obtain ⟨n, ne⟩ := nm
 dsimp only at hno hnb hn0 hfa ⊢
 obtain ⟨off, kind, save, set, format, til⟩ := e
 dsimp only at huc hno hst ⊢
 simp only [DEra.enc] at hst hca
 obtain ⟨is, year, month, ⟨dk, dw, dd⟩, ⟨us, ub⟩⟩ := til
 dsimp only at hst hca ⊢
 simp only [Zbj.enc] at huc hno
 obtain ⟨ln, hln⟩ : ∃ ln : Int, (eras.length : Int) - 1 = ln := ⟨_, rfl⟩
 have hdl : decide ((k : Int) < ln) = decide (k + 1 < eras.length) := by rw [decide_eq_decide]; omega
 generalize hlt : decide (k + 1 < eras.length) = lt at *
 refine Zab Tryz.func93 rfl rfl rfl rfl ?_
 have hcb := hca
 have hcu := hca
 have hkj : (k : Int) - 0 = k := by omega
 cases is with
 | false =>
  cases lt with
  | true =>
   rw [if_pos (by decide)]
   repeat (first | refine Zop ?_ | (refine jn ?_; (try intro F); (refine bx ?_; intro bk); first | refine ⟨_, EndsA, ZdR, ?_⟩ | refine fin ?_) | (apply RD_W; rfl; intro bk))
   exact rtA
  | false =>
   rw [if_neg (by decide), if_pos rfl]
   repeat (first | refine Zop ?_ | (refine jn ?_; (try intro F); (refine bx ?_; intro bk); first | refine ⟨_, EndsA, ZdR, ?_⟩ | refine fin ?_) | (apply RD_W; rfl; intro bk))
   exact rtA
 | true =>
 cases lt with
 | false =>
  rw [if_pos (by decide)]
  repeat (first | refine Zop ?_ | (refine jn ?_; (try intro F); (refine bx ?_; intro bk); first | refine ⟨_, EndsA, ZdR, ?_⟩ | refine fin ?_) | (apply RD_W; rfl; intro bk))
  exact rtA
 | true =>
 rw [if_neg (by decide), if_neg (by decide)]
 by_cases hu : uc = 0
 ·rw [if_neg (fun h => h hu)]
  have hne : ne = 0 := hn0 hu
  subst hu hne
  cases k with
  | zero =>
   rw [if_neg (by rintro ⟨h, _⟩; omega)]
   clear hcb hcu
   by_cases hk2 : kind = 2
   ·subst hk2
    cases fr with
    | false =>
     rw [if_pos ⟨rfl, rfl⟩]
     repeat (first | refine ZsF ?_ | (refine jg ?_; (try intro F); (first | (apply Zag (h := fun w' hw _ => hst w' hw); rfl; rintro v O' ⟨A3, c3, rfl, rfl⟩) | (refine bx ?_; intro bk)); first | refine ⟨_, EndsA, ZdR, ?_⟩ | refine fin ?_) | (refine jn ?_; (try intro F); (refine bx ?_; intro bk); first | refine ⟨_, EndsA, ZdR, ?_⟩ | refine fin ?_) | (apply RD_W; rfl; intro bk))
     exact rtA
    | true =>
     rw [if_neg (by rintro ⟨_, h⟩; cases h)]
     repeat (first | refine ZsF ?_ | (refine jg ?_; (try intro F); (first | (apply Zag (h := fun w' hw _ => hst w' hw); rfl; rintro v O' ⟨A3, c3, rfl, rfl⟩) | (refine bx ?_; intro bk)); first | refine ⟨_, EndsA, ZdR, ?_⟩ | refine fin ?_) | (refine jn ?_; (try intro F); (refine bx ?_; intro bk); first | refine ⟨_, EndsA, ZdR, ?_⟩ | refine fin ?_) | (apply RD_W; rfl; intro bk))
     exact rtA
   ·have bk2 : decide (kind = 2) = false := decide_eq_false hk2
    rw [if_neg (fun h => hk2 h.1)]
    repeat (first | refine und ?_ | (apply RL_pu; rfl; exact ZpN) | (apply RD_Q; rfl; rfl; decide +kernel; rfl; rfl; exact ZuR) | refine walk1 ?_ | (refine jg ?_; (try intro F); (first | (apply Zag (h := fun w' hw _ => hst w' hw); rfl; rintro v O' ⟨A3, c3, rfl, rfl⟩) | (refine ZaF (fun w' hw hO => hle A3 c3 w' (ZaW Zaa.len (hO.of (A := .row (.slice A3 R.length c3) 118 11 R.length (R.flatMap Zaa.enc)) (by repeat' constructor)))) ?_) | (refine Zac huc ?_) | (refine Zac hno ?_) | (refine ZaF (fun w' hw hO => hfa A3 c3 w' hw (ZaW Zaa.len (hO.of (A := .row (.slice A3 R.length c3) 118 11 R.length (R.flatMap Zaa.enc)) (by repeat' constructor)))) ?_) | (refine bx ?_; intro bk) | (refine stA ?_)); first | refine ⟨_, EndsA, ZuW, ?_⟩ | refine fin ?_) | (refine jn ?_; (try intro F); (first | (refine bx ?_; intro bk) | (refine stA ?_) | (apply Zae; first | exact ZpN | exact PuA)); first | refine ⟨_, EndsA, ZuW, ?_⟩ | refine fin ?_) | (apply RD_W; rfl; intro bk))
    exact rtA
  | succ j =>
   have bj : decide ((0 : Int) < ((j + 1 : Nat) : Int)) = true := decide_eq_true (by omega)
   clear hcb hcu hkj
   have hj : j < eras.length := by omega
   obtain ⟨hnb', hcb⟩ := hE.rd j _ (List.getElem?_eq_getElem hj)
   have hgj : eras.getD (j + 1 - 1) dE0 = eras[j] := by rw [Nat.add_sub_cancel, List.getD_eq_getElem?_getD, List.getElem?_eq_getElem hj]; rfl
   rw [hgj]
   generalize eras[j] = b at *
   have hcu := ZvW hcb
   have hkj : ((j + 1 : Nat) : Int) - 1 = (j : Int) := by omega
   have hst2 := fun w' (hw : Bel w.heap.size w w') => ZgE Ar Az Al As cr cz cl cs a b w' (hA.up hw) hn
   have hle2 := fun A3 c3 w' h => Zc1 A3 c3 (Zbm a.rules b) w' h
   have hno2 := fun w' (hw : Bel w.heap.size w w') => ZeN b.til (Zak (Zbm a.rules b)) w' (hG.up hw)
   have hnb2 := Ztl b.til (Zak (Zbm a.rules b))
   generalize Zbm a.rules b = R2 at *
   generalize Zak R2 = least2 at *
   generalize ZaL b.til least2 = nm2 at *
   obtain ⟨n2, ne2⟩ := nm2
   obtain ⟨off2, Zz3, save2, set2, format2, ⟨is2, year2, month2, ⟨dk2, dw2, dd2⟩, ⟨us2, ub2⟩⟩⟩ := b
   dsimp only at hno2 hnb2 hst2 hcu ⊢
   simp only [DEra.enc] at hst2 hcb
   simp only [Zbj.enc] at hno2 hcu
   by_cases h2 : ne2 = 0
   ·subst h2
    obtain ⟨df, hdf⟩ : ∃ df, n - n2 = df := ⟨_, rfl⟩
    rw [hdf]
    by_cases h3 : df < 259200
    ·have b3 : decide (df < 259200) = true := decide_eq_true h3
     rw [if_pos ⟨by omega, .inr h3⟩]
     repeat (first | refine Zoo ?_ | (refine jg ?_; (try intro F); (first | (apply Zag (h := fun w' hw _ => hst w' hw); rfl; rintro v O' ⟨A3, c3, rfl, rfl⟩) | (apply Zag (h := fun w' hw _ => hst2 w' hw); rfl; rintro v O' ⟨A4, c4, rfl, rfl⟩) | (refine bx ?_; intro bk)); first | refine ⟨_, EndsA, Zfb, ?_⟩ | refine fin ?_) | (refine jn ?_; (try intro F); (refine bx ?_; intro bk); first | refine ⟨_, EndsA, Zfb, ?_⟩ | refine fin ?_) | (apply RD_W; rfl; intro bk))
     exact rtA
    ·have b3 : decide (df < 259200) = false := decide_eq_false h3
     rw [if_neg (by rintro ⟨_, h | h⟩; exact h rfl; exact h3 h)]
     by_cases hk2 : kind = 2
     ·subst hk2
      cases fr with
      | false =>
       rw [if_pos ⟨rfl, rfl⟩]
       repeat (first | refine Zoo ?_ | (refine jg ?_; (try intro F); (first | (apply Zag (h := fun w' hw _ => hst w' hw); rfl; rintro v O' ⟨A3, c3, rfl, rfl⟩) | (apply Zag (h := fun w' hw _ => hst2 w' hw); rfl; rintro v O' ⟨A4, c4, rfl, rfl⟩) | (refine bx ?_; intro bk)); first | refine ⟨_, EndsA, Zfb, ?_⟩ | refine fin ?_) | (refine jn ?_; (try intro F); (refine bx ?_; intro bk); first | refine ⟨_, EndsA, Zfb, ?_⟩ | refine fin ?_) | (apply RD_W; rfl; intro bk))
       exact rtA
      | true =>
       rw [if_neg (by rintro ⟨_, h⟩; cases h)]
       repeat (first | refine Zoo ?_ | (refine jg ?_; (try intro F); (first | (apply Zag (h := fun w' hw _ => hst w' hw); rfl; rintro v O' ⟨A3, c3, rfl, rfl⟩) | (apply Zag (h := fun w' hw _ => hst2 w' hw); rfl; rintro v O' ⟨A4, c4, rfl, rfl⟩) | (refine bx ?_; intro bk)); first | refine ⟨_, EndsA, Zfb, ?_⟩ | refine fin ?_) | (refine jn ?_; (try intro F); (refine bx ?_; intro bk); first | refine ⟨_, EndsA, Zfb, ?_⟩ | refine fin ?_) | (apply RD_W; rfl; intro bk))
       exact rtA
     ·have bk2 : decide (kind = 2) = false := decide_eq_false hk2
      rw [if_neg (fun h => hk2 h.1)]
      repeat (first | refine und ?_ | (apply RL_pu; rfl; exact ZpM) | (apply RD_Q; rfl; rfl; decide +kernel; rfl; rfl; exact ZuP) | refine walk1 ?_ | (refine jg ?_; (try intro F); (first | (apply Zag (h := fun w' hw _ => hst w' hw); rfl; rintro v O' ⟨A3, c3, rfl, rfl⟩) | (refine ZaF (fun w' hw hO => hle A3 c3 w' (ZaW Zaa.len (hO.of (A := .row (.slice A3 R.length c3) 118 11 R.length (R.flatMap Zaa.enc)) (by repeat' constructor)))) ?_) | (refine Zac huc ?_) | (refine Zac hno ?_) | (refine ZaF (fun w' hw hO => hfa A3 c3 w' hw (ZaW Zaa.len (hO.of (A := .row (.slice A3 R.length c3) 118 11 R.length (R.flatMap Zaa.enc)) (by repeat' constructor)))) ?_) | (apply Zag (h := fun w' hw _ => hst2 w' hw); rfl; rintro v O' ⟨A4, c4, rfl, rfl⟩) | (refine ZaF (fun w' hw hO => hle2 A4 c4 w' (ZaW Zaa.len (hO.of (A := .row (.slice A4 R2.length c4) 118 11 R2.length (R2.flatMap Zaa.enc)) (by repeat' constructor)))) ?_) | (refine Zac hno2 ?_) | (refine bx ?_; intro bk) | (refine stA ?_)); first | refine ⟨_, EndsA, ZuV, ?_⟩ | refine fin ?_) | (refine jn ?_; (try intro F); (first | (refine bx ?_; intro bk) | (refine stA ?_) | (apply Zae; first | exact ZpM | exact PuA)); first | refine ⟨_, EndsA, ZuV, ?_⟩ | refine fin ?_) | (apply RD_W; rfl; intro bk))
      exact rtA
   ·have b2 : (!decide (ne2 = 0)) = true := by rw [decide_eq_false h2]; rfl
    rw [if_pos ⟨by omega, .inl h2⟩]
    repeat (first | refine und ?_ | (apply RL_pu; rfl; exact ZpL) | (apply RD_Q; rfl; rfl; decide +kernel; rfl; rfl; exact ZuO) | refine walk1 ?_ | (refine jg ?_; (try intro F); (first | (apply Zag (h := fun w' hw _ => hst w' hw); rfl; rintro v O' ⟨A3, c3, rfl, rfl⟩) | (refine ZaF (fun w' hw hO => hle A3 c3 w' (ZaW Zaa.len (hO.of (A := .row (.slice A3 R.length c3) 118 11 R.length (R.flatMap Zaa.enc)) (by repeat' constructor)))) ?_) | (refine Zac huc ?_) | (refine Zac hno ?_) | (refine ZaF (fun w' hw hO => hfa A3 c3 w' hw (ZaW Zaa.len (hO.of (A := .row (.slice A3 R.length c3) 118 11 R.length (R.flatMap Zaa.enc)) (by repeat' constructor)))) ?_) | (apply Zag (h := fun w' hw _ => hst2 w' hw); rfl; rintro v O' ⟨A4, c4, rfl, rfl⟩) | (refine ZaF (fun w' hw hO => hle2 A4 c4 w' (ZaW Zaa.len (hO.of (A := .row (.slice A4 R2.length c4) 118 11 R2.length (R2.flatMap Zaa.enc)) (by repeat' constructor)))) ?_) | (refine Zac hno2 ?_) | (refine bx ?_; intro bk) | (refine stA ?_)); first | refine ⟨_, EndsA, ZuU, ?_⟩ | refine fin ?_) | (refine jn ?_; (try intro F); (first | (refine bx ?_; intro bk) | (refine stA ?_) | (apply Zae; first | exact ZpL | exact PuA)); first | refine ⟨_, EndsA, ZuU, ?_⟩ | refine fin ?_) | (apply RD_W; rfl; intro bk))
    exact rtA
 ·rw [if_pos hu]
  have bu : (!decide (uc = 0)) = true := by rw [decide_eq_false hu]; rfl
  repeat (first | refine und ?_ | (apply RL_pu; rfl; exact ZpK) | (apply RD_Q; rfl; rfl; decide +kernel; rfl; rfl; exact ZuN) | refine walk1 ?_ | (refine jg ?_; (try intro F); (first | (apply Zag (h := fun w' hw _ => hst w' hw); rfl; rintro v O' ⟨A3, c3, rfl, rfl⟩) | (refine ZaF (fun w' hw hO => hle A3 c3 w' (ZaW Zaa.len (hO.of (A := .row (.slice A3 R.length c3) 118 11 R.length (R.flatMap Zaa.enc)) (by repeat' constructor)))) ?_) | (refine Zac huc ?_) | (refine bx ?_; intro bk) | (refine stA ?_)); first | refine ⟨_, EndsA, ZuT, ?_⟩ | refine fin ?_) | (refine jn ?_; (try intro F); (first | (refine bx ?_; intro bk) | (refine stA ?_) | (apply Zae; first | exact ZpK | exact PuA)); first | refine ⟨_, EndsA, ZuT, ?_⟩ | refine fin ?_) | (apply RD_W; rfl; intro bk))
  exact rtA
end Go.Proofs.YtpcpmndldgejiaaGreatDoor
namespace Go.Wk
open Go Go.RowKit
section
variable {κ : Type}
def cent (kv : κ -> Value) : Nat -> List (κ × Int) -> List MapEntry
 | _, [] => []
 | i, x :: l => ⟨kv x.1, .int .i64 x.2, i⟩ :: cent kv (i + 1) l
def ZhE (l : List (κ × Int)) (t : Nat) : Prop := ∀ x ∈ l, 1 <= x.2 /\ x.2 <= (t : Int)
theorem ZhE.nil (t : Nat) : ZhE ([] : List (κ × Int)) t := fun _ h => by cases h
theorem ZqN (kv : κ -> Value) : ∀ (i : Nat) (l : List (κ × Int)), (cent kv i l).length = l.length
 | _, [] => rfl
 | i, x :: l => by unfold cent; rw [List.length_cons, List.length_cons, ZqN kv (i + 1) l]
theorem ZlU (kv : κ -> Value) : ∀ (i : Nat) (a b : List (κ × Int)), cent kv i (a ++ b) = cent kv i a ++ cent kv (i + a.length) b
 | _, [], _ => rfl
 | i, x :: a, b => by
  rw [List.cons_append]
  unfold cent
  rw [ZlU kv (i + 1) a b, List.cons_append, List.length_cons, show i + 1 + a.length = i + (a.length + 1) by omega]
  cases b <;> rfl
theorem ZqO (kv : κ -> Value) : ∀ (i : Nat) (l : List (κ × Int)) (s : Nat), s < l.length -> (cent kv i l).findIdx? (fun e => (e.born : Int) == ((i + s : Nat) : Int)) = some s
 | _, [], _, h => by simp at h
 | i, x :: l, 0, _ => by unfold cent; rw [List.findIdx?_cons]; simp
 | i, x :: l, s + 1, h => by
  unfold cent
  rw [List.findIdx?_cons]
  have hne : ((i : Int) == ((i + (s + 1) : Nat) : Int)) = false := by simp; omega
  dsimp only
  rw [hne]
  have := ZqO kv (i + 1) l s (by simpa using h)
  rw [show i + 1 + s = i + (s + 1) by omega] at this
  rw [this]
  rfl
def cmIt (kv : κ -> Value) (b : Nat) (l : List (κ × Int)) : It := .fact (fun i => i = b) fun w => w.heap[b]? = some (.map (cent kv 0 l).toArray l.length)
theorem cmIt.heap {kv : κ -> Value} {b : Nat} {l : List (κ × Int)} {w : World} (h : (cmIt kv b l).sat w) : w.heap[b]? = some (.map (cent kv 0 l).toArray l.length) := h w fun _ _ => rfl
theorem cmIt.mk {kv : κ -> Value} {b : Nat} {l : List (κ × Int)} {w : World} (h : w.heap[b]? = some (.map (cent kv 0 l).toArray l.length)) : (cmIt kv b l).sat w := fun _ ha => (ha b rfl).trans h
end
section
variable {κ : Type} [DecidableEq κ]
def Zj9 (k : κ) : List (κ × Int) -> Nat -> Option (Nat × Value)
 | [], _ => none
 | x :: l, i => if k = x.1 then some (i, .int .i64 x.2) else Zj9 k l (i + 1)
def cget (k : κ) : List (κ × Int) -> Int
 | [] => 0
 | x :: l => if k = x.1 then x.2 else cget k l
def cins (k : κ) : List (κ × Int) -> List (κ × Int)
 | [] => [(k, 0)]
 | x :: l => if k = x.1 then x :: l else x :: cins k l
def cidx (k : κ) : List (κ × Int) -> Nat
 | [] => 0
 | x :: l => if k = x.1 then 0 else cidx k l + 1
def cput (k : κ) (v : Int) : List (κ × Int) -> List (κ × Int)
 | [] => []
 | x :: l => if k = x.1 then (k, v) :: l else x :: cput k v l
theorem ZgP (k : κ) : ∀ (l : List (κ × Int)) (i : Nat), Zj9 k l i = if k ∈ l.map (·.1) then some (i + cidx k l, .int .i64 (cget k l)) else none
 | [], _ => rfl
 | x :: l, i => by
  unfold Zj9 cidx cget
  by_cases h : k = x.1
  ·rw [if_pos h, if_pos h, if_pos h, if_pos (by rw [h]; simp)]; rfl
  ·rw [if_neg h, if_neg h, if_neg h, ZgP k l (i + 1)]
   by_cases hm : k ∈ l.map (·.1)
   ·rw [if_pos hm, if_pos (show k ∈ (x :: l).map (·.1) from List.mem_cons_of_mem _ hm)]
    congr 2
    omega
   ·rw [if_neg hm, if_neg (show k ∉ (x :: l).map (·.1) from fun hh => (List.mem_cons.1 hh).elim h hm)]
theorem ZlT (k : κ) : ∀ l : List (κ × Int), k ∈ l.map (·.1) -> cins k l = l
 | [], h => by cases h
 | x :: l, h => by
  unfold cins
  by_cases e : k = x.1
  ·rw [if_pos e]
  ·rw [if_neg e, ZlT k l ((List.mem_cons.1 h).resolve_left e)]
theorem Zij (k : κ) : ∀ l : List (κ × Int), k ∉ l.map (·.1) -> cins k l = l ++ [(k, 0)]
 | [], _ => rfl
 | x :: l, h => by
  unfold cins
  rw [if_neg (fun e => h (by rw [e]; simp)), Zij k l (fun e => h (List.mem_cons_of_mem _ e))]
  rfl
theorem ZqL (k : κ) : ∀ l : List (κ × Int), k ∉ l.map (·.1) -> cidx k l = l.length
 | [], _ => rfl
 | x :: l, h => by
  unfold cidx
  rw [if_neg (fun e => h (by rw [e]; simp)), ZqL k l (fun e => h (List.mem_cons_of_mem _ e))]
  rfl
theorem ZdF (k : κ) : ∀ l : List (κ × Int), k ∉ l.map (·.1) -> cget k l = 0
 | [], _ => rfl
 | x :: l, h => by
  unfold cget
  rw [if_neg (fun e => h (by rw [e]; simp)), ZdF k l (fun e => h (List.mem_cons_of_mem _ e))]
theorem Zpc (k : κ) : ∀ l : List (κ × Int), k ∈ l.map (·.1) -> (k, cget k l) ∈ l
 | [], h => by cases h
 | x :: l, h => by
  unfold cget
  by_cases e : k = x.1
  ·rw [if_pos e, e]; exact List.mem_cons_self
  ·rw [if_neg e]
   exact List.mem_cons_of_mem _ (Zpc k l ((List.mem_cons.1 h).resolve_left e))
theorem ZnJ (k : κ) : ∀ l : List (κ × Int), cidx k (cins k l) = cidx k l
 | [] => by simp [cins, cidx]
 | x :: l => by
  unfold cins
  by_cases e : k = x.1
  ·rw [if_pos e]
  ·rw [if_neg e]; unfold cidx; rw [if_neg e, if_neg e, ZnJ k l]
theorem ZlS (k : κ) : ∀ l : List (κ × Int), k ∈ (cins k l).map (·.1)
 | [] => by simp [cins]
 | x :: l => by
  unfold cins
  by_cases e : k = x.1
  ·rw [if_pos e, e]; simp
  ·rw [if_neg e]; exact List.mem_cons_of_mem _ (ZlS k l)
theorem Zjv (k : κ) (v : Int) : ∀ l : List (κ × Int), (cput k v l).map (·.1) = l.map (·.1)
 | [] => rfl
 | x :: l => by
  unfold cput
  by_cases e : k = x.1
  ·rw [if_pos e, e]; rfl
  ·rw [if_neg e, List.map_cons, List.map_cons, Zjv k v l]
theorem ZwC (k : κ) (v : Int) (l : List (κ × Int)) : (cput k v l).length = l.length := by
 have := congrArg List.length (Zjv k v l)
 simpa using this
theorem ZnK (k : κ) (v : Int) : ∀ l : List (κ × Int), k ∈ l.map (·.1) -> cget k (cput k v l) = v
 | [], h => by cases h
 | x :: l, h => by
  unfold cput
  by_cases e : k = x.1
  ·rw [if_pos e]; unfold cget; rw [if_pos rfl]
  ·rw [if_neg e]; unfold cget; rw [if_neg e, ZnK k v l ((List.mem_cons.1 h).resolve_left e)]
theorem ZnL (k : κ) : ∀ l : List (κ × Int), cget k (cins k l) = cget k l
 | [] => by simp [cins, cget]
 | x :: l => by
  unfold cins
  by_cases e : k = x.1
  ·rw [if_pos e]
  ·rw [if_neg e]; unfold cget; rw [if_neg e, if_neg e, ZnL k l]
theorem ZqK (k : κ) (v : Int) : ∀ (l : List (κ × Int)) (x : κ × Int), x ∈ cput k v l -> x ∈ l \/ x = (k, v)
 | [], _, h => by cases h
 | y :: l, x, h => by
  unfold cput at h
  by_cases e : k = y.1
  ·rw [if_pos e] at h
   rcases List.mem_cons.1 h with h | h
   ·exact .inr h
   ·exact .inl (List.mem_cons_of_mem _ h)
  ·rw [if_neg e] at h
   rcases List.mem_cons.1 h with h | h
   ·exact .inl (h ▸ List.mem_cons_self)
   ·rcases ZqK k v l x h with h | h
    ·exact .inl (List.mem_cons_of_mem _ h)
    ·exact .inr h
def cinc (k : κ) (l : List (κ × Int)) : List (κ × Int) := cput k (cget k l + 1) (cins k l)
theorem ZnI (k : κ) (l : List (κ × Int)) : (cinc k l).map (·.1) = if k ∈ l.map (·.1) then l.map (·.1) else l.map (·.1) ++ [k] := by
 unfold cinc
 rw [Zjv]
 by_cases h : k ∈ l.map (·.1)
 ·rw [if_pos h, ZlT k l h]
 ·rw [if_neg h, Zij k l h]; simp
theorem ZhE.get {l : List (κ × Int)} {t : Nat} (h : ZhE l t) (k : κ) : 0 <= cget k l /\ cget k l <= (t : Int) := by
 by_cases hm : k ∈ l.map (·.1)
 ·have := h _ (Zpc k l hm); dsimp only at this; omega
 ·rw [ZdF k l hm]; omega
theorem ZhE.new {l : List (κ × Int)} {t : Nat} (h : ZhE l t) (k : κ) : cget k l + 1 = 1 ↔ k ∉ l.map (·.1) := by
 constructor
 ·intro e hm
  have := h _ (Zpc k l hm); dsimp only at this; omega
 ·intro hm; rw [ZdF k l hm]; rfl
theorem ZhE.inc {l : List (κ × Int)} {t : Nat} (h : ZhE l t) (k : κ) : ZhE (cinc k l) (t + 1) := by
 have hg := h.get k
 intro x hx
 by_cases hm : k ∈ l.map (·.1)
 ·unfold cinc at hx
  rw [ZlT k l hm] at hx
  rcases ZqK k _ _ x hx with hx | rfl
  ·have := h x hx; omega
  ·dsimp only; omega
 ·unfold cinc at hx
  rw [Zij k l hm] at hx
  have hx2 : x ∈ l \/ x = (k, cget k l + 1) := by
   clear hg h
   induction l with
   | nil => simp [cput] at hx; exact .inr (by simpa [cget] using hx)
   | cons y l ih =>
    have hne : k ≠ y.1 := fun e => hm (by rw [e]; simp)
    have hml : k ∉ l.map (·.1) := fun e => hm (List.mem_cons_of_mem _ e)
    rw [ZdF k _ hm] at hx ⊢
    rw [ZdF k l hml] at ih
    rw [List.cons_append] at hx
    unfold cput at hx
    rw [if_neg hne] at hx
    rcases List.mem_cons.1 hx with hx | hx
    ·exact .inl (hx ▸ List.mem_cons_self)
    ·rcases ih hx hml with h | h
     ·exact .inl (List.mem_cons_of_mem _ h)
     ·exact .inr h
  rcases hx2 with hx | rfl
  ·have := h x hx; omega
  ·dsimp only; omega
theorem Zuh (kv : κ -> Value) (k : κ) : ∀ (i : Nat) (l : List (κ × Int)), k ∈ l.map (·.1) -> (cent kv i l)[cidx k l]? = some ⟨kv k, .int .i64 (cget k l), i + cidx k l⟩
 | _, [], h => by cases h
 | i, x :: l, h => by
  unfold cent cidx cget
  by_cases e : k = x.1
  ·rw [if_pos e, if_pos e, e]; rfl
  ·rw [if_neg e, if_neg e, List.getElem?_cons_succ, Zuh kv k (i + 1) l ((List.mem_cons.1 h).resolve_left e)]
   congr 2
   omega
theorem Zue (k : κ) : ∀ l : List (κ × Int), k ∈ l.map (·.1) -> cidx k l < l.length
 | [], h => by cases h
 | x :: l, h => by
  unfold cidx
  by_cases e : k = x.1
  ·rw [if_pos e]; simp
  ·rw [if_neg e, List.length_cons]
   have := Zue k l ((List.mem_cons.1 h).resolve_left e)
   omega
theorem ZqM (kv : κ -> Value) (k : κ) (v : Int) : ∀ (i : Nat) (l : List (κ × Int)), k ∈ l.map (·.1) -> (cent kv i l).modify (cidx k l) (fun e => { e with val := .int .i64 v }) = cent kv i (cput k v l)
 | _, [], h => by cases h
 | i, x :: l, h => by
  unfold cidx cput
  by_cases e : k = x.1
  ·rw [if_pos e, if_pos e, e]; rfl
  ·rw [if_neg e, if_neg e]
   unfold cent
   rw [List.modify_succ_cons, ZqM kv k v (i + 1) l ((List.mem_cons.1 h).resolve_left e)]
end
class KeyT (P : Program) (kt : TypeId) (κ : outParam Type) [DecidableEq κ] (kv : outParam (κ -> Value)) : Prop where
 ask : ∀ (k : κ) (l : List (κ × Int)) (w : World), (Instr.findKey kt (kv k) (cent kv 0 l)).run P w = .ok (Zj9 k l 0) w
 chk : ∀ (b : Bool) (k : κ) (w : World), (Instr.checkKey b 10000 kt (kv k)).run P w = .ok () w
 stay : ∀ (k : κ) (w : World), (Instr.keyThatStays (kv k) (kv k)).run P w = .ok (kv k) w
section
variable {κ : Type} {kv : κ -> Value}
variable {P : Program} {n : Nat} {wr : World} {fr : Fr} {O : List It} {ty : TypeId} {pos : String} {af : Array Edge} {dst : Option Tmp} {g : Option (Nat × Bool)} {Kp : Value -> List It -> Prop}
theorem setC {a : Act} {w : World} {b : Nat} {l l' : List (κ × Int)} {O' : List It} (hs : St n wr fr O a w) (hu : Upd O (cmIt kv b l) (cmIt kv b l') O') :
  Bel wr.heap.size wr { w with heap := w.heap.setIfInBounds b (.map (cent kv 0 l').toArray l'.length) } /\ Zax wr.heap.size O' { w with heap := w.heap.setIfInBounds b (.map (cent kv 0 l').toArray l'.length) } := by
 have hin := hs.own.inb _ hu.mem b rfl
 refine ⟨hs.old.trans ⟨⟨rfl, rfl, rfl, by simp, fun i hi => Zec (by omega)⟩⟩, hs.own.upd hu hs.old.size (by simp) (fun i _ hi => Zec hi) (cmIt.mk ?_) fun i hi => .inl hi⟩
 simp [Array.getElem?_setIfInBounds, hin.2]
theorem Zdr {t : TypeId} (kv : κ -> Value) (k : ∀ b, Kp (.map (some b)) (cmIt kv b [] :: O)) : Stp P n wr fr O ⟨dst, .makeMap t none, ty, pos, af, g⟩ Kp :=
 Zb4 fun a w hs => by
  have hB : Bel w.heap.size w (w.alloc (.map #[] 0)) := (Bel.refl _ _).alloc (Nat.le_refl _) _
  refine ⟨.map (some w.heap.size), w.alloc (.map #[] 0), _, ?_, hs.old.trans (hB.mono hs.old.size), hs.own.grow (O' := [cmIt kv w.heap.size []]) hB hs.old.size ⟨fun i hi => ?_, fun i hi b hb => ?_, List.pairwise_singleton _ _⟩, k _⟩
  ·simp only [execOp, Option.map_none, Sem.run_bind, run_makeMap (P := P) t w, Result.andThen_ok, Sem.run_pure]
  ·rw [List.mem_singleton.1 hi]
   exact cmIt.mk (heap_alloc_new w _)
  ·rw [List.mem_singleton.1 hi] at hb
   simp only [It.S, cmIt] at hb
   subst hb
   exact ⟨Nat.le_refl _, by simp⟩
theorem ZzA {t kt et b : Nat} {x : Operand} {l : List (κ × Int)} {R : List It} [hM : MapT P t kt et] (hx : ev fr x = some (.map (some b))) (hp : Pick (cmIt kv b l) O R) :
  Pu P n wr fr O (.call ⟨.builtin .len, #[x], #[t]⟩) ty (.int .i64 l.length) := fun a w hs _ _ _ _ => by
 have h1 := cmIt.heap (hs.own.sat _ (hp.perm.mem_iff.2 List.mem_cons_self))
 have hu := run_underlying (w := w) (MapT.parts hM.h)
 have hx' := hs.sim.ev hx
 simp [execOp, resolve, invoke, builtin, Builtin.len_, hx', hu, Zbc (P := P) h1, goInt, ZqN]
end
section
variable {κ : Type} [DecidableEq κ] {kv : κ -> Value}
variable {P : Program} {n : Nat} {wr : World} {fr : Fr} {O : List It} {ty : TypeId} {pos : String} {af : Array Edge} {dst : Option Tmp} {g : Option (Nat × Bool)} {Kp : Value -> List It -> Prop}
theorem ZsZ {t kt et b : Nat} {l : List (κ × Int)} {w : World} [hM : MapT P t kt et] [hK : KeyT P kt κ kv] [ZeroV P et (.int .i64 0)] (h : (cmIt kv b l).sat w) (k : κ) : (Instr.lookup t (.map (some b)) (kv k) false).run P w = .ok (.int .i64 (cget k l)) w := by
 have h1 := cmIt.heap h
 have hu := run_underlying (w := w) (MapT.parts hM.h)
 have ha := hK.ask k l w
 have hz := ZeJ (P := P) (t := et) (v := .int .i64 0) (w := w)
 have hc := fun b => hK.chk b k w
 obtain ⟨es, he⟩ : ∃ es : Array MapEntry, es = (cent kv 0 l).toArray := ⟨_, rfl⟩
 rw [<- he] at h1
 have hl : es.toList = cent kv 0 l := by rw [he]
 simp only [Instr.lookup, Sem.run_bind, hu, Result.andThen_ok, Zbc (P := P) h1, Sem.run_pure, hc, hl, ha]
 rw [ZgP]
 by_cases hm : k ∈ l.map (·.1)
 ·rw [if_pos hm]
  simp
 ·rw [if_neg hm, ZdF k l hm]
  simp [hz]
theorem ZwZ {t kt et b : Nat} {x ix : Operand} {l : List (κ × Int)} {k : κ} {v : Int} {R : List It} [hM : MapT P t kt et] [hK : KeyT P kt κ kv] [ZeroV P et (.int .i64 0)] (hx : ev fr x = some (.map (some b))) (hi : ev fr ix = some (kv k)) (hp : Pick (cmIt kv b l) O R) (hv : cget k l = v) :
  Pu P n wr fr O (.lookup t x ix false) ty (.int .i64 v) := fun a w hs _ _ _ _ => by
 have := ZsZ (P := P) (t := t) (kt := kt) (et := et) (hs.own.sat _ (hp.perm.mem_iff.2 List.mem_cons_self)) k
 simp only [execOp, hs.sim.ev hx, hs.sim.ev hi, Sem.run_bind, this, Result.andThen_ok, Sem.run_pure, hv]
theorem Zru {t kt et b : Nat} {l : List (κ × Int)} {w : World} [hM : MapT P t kt et] [hK : KeyT P kt κ kv] [ZeroV P et (.int .i64 0)] (h : (cmIt kv b l).sat w) (k : κ) : (Instr.mapEntry t (.map (some b)) (kv k)).run P w =
  .ok (.tuple #[.int .i64 (cget k l), .int .i64 (cidx k l)]) { w with heap := w.heap.setIfInBounds b (.map (cent kv 0 (cins k l)).toArray (cins k l).length) } := by
 have h1 := cmIt.heap h
 have hu := run_underlying (w := w) (MapT.parts hM.h)
 have ha := hK.ask k l w
 have hz := ZeJ (P := P) (t := et) (v := .int .i64 0) (w := w)
 have hc := fun b => hK.chk b k w
 have hst := hK.stay k w
 obtain ⟨es, he⟩ : ∃ es : Array MapEntry, es = (cent kv 0 l).toArray := ⟨_, rfl⟩
 rw [<- he] at h1
 have hl : es.toList = cent kv 0 l := by rw [he]
 simp only [Instr.mapEntry, Sem.run_bind, hu, Result.andThen_ok, Zbc (P := P) h1, Sem.run_pure, hc, hl, ha]
 rw [ZgP]
 by_cases hm : k ∈ l.map (·.1)
 ·rw [if_pos hm, ZlT k l hm]
  have hat := Zuh kv k 0 l hm
  rw [Nat.zero_add] at hat
  have hej : es[0 + cidx k l]? = some ⟨kv k, .int .i64 (cget k l), cidx k l⟩ := by
   rw [he, Nat.zero_add]
   simpa using hat
  have hmod : (es.modify (0 + cidx k l) fun e => ({ key := kv k, val := e.val, born := e.born } : MapEntry)) = es := by
   apply Array.ext_getElem?
   intro i
   rw [Array.getElem?_modify]
   split
   ·rename_i hij
    subst hij
    rw [hej]
    rfl
   ·rfl
  have hke : (Option.map (fun x : MapEntry => x.key) es[0 + cidx k l]?).getD (kv k) = kv k := by rw [hej]; rfl
  simp only [hke, Sem.run_bind, hst, Result.andThen_ok, hmod, <- he]
  rw [Nat.zero_add] at hej ⊢
  simp [setObj, Sem.run, h1, goInt, hej]
 ·rw [if_neg hm, Zij k l hm, ZqL k l hm, ZdF k l hm]
  have hp : (es.push { key := kv k, val := .int .i64 0, born := l.length }) = (cent kv 0 (l ++ [(k, 0)])).toArray := by
   rw [he, ZlU, Nat.zero_add]
   simp [cent]
  rw [<- hp]
  simp [hz, setObj, Sem.run, h1, goInt]
theorem Zrt {t b : Nat} {l : List (κ × Int)} {w : World} {s : Nat} (h : (cmIt kv b l).sat w) (k : κ) (v : Int) (hk : k ∈ l.map (·.1)) (hs : cidx k l = s) : (Instr.entryStore t (.map (some b)) (.int .i64 s) (.int .i64 v)).run P w =
  .ok () { w with heap := w.heap.setIfInBounds b (.map (cent kv 0 (cput k v l)).toArray (cput k v l).length) } := by
 have h1 := cmIt.heap h
 have h2 := ZqO kv 0 l s (hs ▸ Zue k l hk)
 rw [Nat.zero_add] at h2
 have h3 := ZqM kv k v 0 l hk
 rw [hs] at h3
 have hfi : ((cent kv 0 l).toArray.findIdx? fun e => (e.born : Int) == (s : Int)) = some s := by rw [List.findIdx?_toArray]; exact h2
 simp only [Instr.entryStore, Sem.run_bind, Result.andThen_ok, Zbc (P := P) h1, Sem.run_pure, asInt, asIntOf, Sem.run_map, hfi]
 rw [<- h3, ZwC]
 simp [setObj, Sem.run, h1]
theorem Zfv {t kt et b : Nat} {x ix : Operand} {l : List (κ × Int)} {k : κ} {O' : List It} [hM : MapT P t kt et] [hK : KeyT P kt κ kv] [ZeroV P et (.int .i64 0)] (hx : ev fr x = some (.map (some b))) (hi : ev fr ix = some (kv k)) (hu : Upd O (cmIt kv b l) (cmIt kv b (cins k l)) O')
  (kk : Kp (.tuple #[.int .i64 (cget k l), .int .i64 (cidx k l)]) O') : Stp P n wr fr O ⟨dst, .mapEntry t x ix, ty, pos, af, g⟩ Kp := by
 refine Zb4 ?_
 intro a w hs
 have hst := setC hs hu
 have hr := Zru (P := P) (t := t) (kt := kt) (et := et) (hs.own.sat _ hu.mem) k
 refine ⟨_, _, O', ?_, hst.1, hst.2, kk⟩
 simp only [execOp, hs.sim.ev hx, hs.sim.ev hi, Sem.run_bind, hr, Result.andThen_ok, Sem.run_pure]
theorem Zfu {t b : Nat} {x sx y : Operand} {l : List (κ × Int)} {k : κ} {v : Int} {O' : List It} (hx : ev fr x = some (.map (some b))) (hsx : ev fr sx = some (.int .i64 (cidx k l))) (hy : ev fr y = some (.int .i64 v)) (hu : Upd O (cmIt kv b (cins k l)) (cmIt kv b (cput k v (cins k l))) O')
  (kk : Kp undef O') : Stp P n wr fr O ⟨dst, .entryStore t x sx y, ty, pos, af, g⟩ Kp :=
 Zft fun a w hst => by
  have h2 := setC hst hu
  refine ⟨_, O', ?_, h2.1, h2.2, kk⟩
  have := Zrt (P := P) (t := t) (hst.own.sat _ hu.mem) k v (ZlS k l) (ZnJ k l)
  simp only [execOp, hst.sim.ev hx, hst.sim.ev hsx, hst.sim.ev hy, Sem.run_bind, this, Result.andThen_ok, Sem.run_pure]
end
end Go.Wk
