/- Contract: looker.era (written by a program of mine: gAccG). -/
import Derived.Test.YtonjepladadmhaaGreatDoorS32
set_option maxHeartbeats 4000000
set_option linter.unusedVariables false
set_option linter.unusedSimpArgs false
namespace Go.Proofs.YtonjepladadmhaaGreatDoor
open Go Go.RowKit Go.Wk
attribute [local irreducible] W RL Does thenQ blockQ retQ Calls Pu Stp RD Qy Ay DoesIn
theorem SavOk.i64 {s : DSource} (h : SavOk s) : ∀ r ∈ s.rules, I64 r.save := fun r hr => by have := (h r hr).1; unfold I64; omega
theorem setOf_sub {rs : List DRule} {e : DEra} {r : DRule} (h : r ∈ setOf rs e) : r ∈ rs := by
 unfold setOf at h
 split at h
 ·exact ofB_sub h
 ·cases h
theorem setOf_len (rs : List DRule) (e : DEra) : (setOf rs e).length ≤ rs.length := by
 unfold setOf
 split
 ·exact ofB_len _ _
 ·exact Nat.zero_le _
theorem statesOf_64 {rs : List DRule} {e : DEra} (hr : ∀ r ∈ rs, I64 r.save) (hs : I64 e.save) : ∀ x ∈ statesOf rs e, I64 x.1 := by
 intro x hx
 unfold statesOf at hx
 split at hx
 ·simp only [List.mem_singleton] at hx; subst hx; exact hs
 ·split at hx
  ·obtain ⟨r, h, rfl⟩ := List.mem_map.1 hx
   exact hr r (setOf_sub h)
  ·simp only [List.mem_singleton] at hx; subst hx; exact ⟨by decide, by decide⟩
def offB (off : Int) (x : Int × ByteArray) : Bool := !hoursB off x.1
structure EraOk (e : DEra) : Prop where
 off : I64 e.off
 save : I64 e.save
 kind : I64 e.kind
 fmt : e.format.size ≤ 1000000000
theorem PuAccG0 {G : Prop} (h : G := by (apply Pu_lssB; rfl; rfl; exact b1)) : G := h
theorem QyAccG0 {G : Prop} (h : G := by first | (apply Qy_y; rfl; exact PuAccG0) | exact QyA) : G := h
theorem QFAccG0 {G : Prop} (h : G := by repeat (first | exact QF.nil | (apply QF.mk; rfl; rfl; decide +kernel; exact QyAccG0))) : G := h
theorem PuAccG1 {G : Prop} (h : G := by (first | exact PuAccG0 | (apply Pu_gtrB; rfl; rfl; exact b2))) : G := h
theorem QyAccG1 {G : Prop} (h : G := by first | (apply Qy_y; rfl; exact PuAccG1) | exact QyA) : G := h
theorem QFAccG1 {G : Prop} (h : G := by repeat (first | exact QF.nil | (apply QF.mk; rfl; rfl; decide +kernel; exact QyAccG1))) : G := h
theorem PuAccG2 {G : Prop} (h : G := by (apply Pu_lssB; rfl; rfl; exact s1)) : G := h
theorem QyAccG2 {G : Prop} (h : G := by first | (apply Qy_y; rfl; exact PuAccG2) | exact QyA) : G := h
theorem QFAccG2 {G : Prop} (h : G := by repeat (first | exact QF.nil | (apply QF.mk; rfl; rfl; decide +kernel; exact QyAccG2))) : G := h
theorem PuAccG3 {G : Prop} (h : G := by (first | exact PuAccG2 | (apply Pu_gtrB; rfl; rfl; exact s2))) : G := h
theorem QyAccG3 {G : Prop} (h : G := by first | (apply Qy_y; rfl; exact PuAccG3) | exact QyA) : G := h
theorem QFAccG3 {G : Prop} (h : G := by repeat (first | exact QF.nil | (apply QF.mk; rfl; rfl; decide +kernel; exact QyAccG3))) : G := h
theorem PuAccG4 {G : Prop} (h : G := by (apply Pu_eqlB; rfl; rfl; exact r0)) : G := h
theorem QyAccG4 {G : Prop} (h : G := by first | (apply Qy_y; rfl; exact PuAccG4) | exact QyA) : G := h
theorem QFAccG4 {G : Prop} (h : G := by repeat (first | exact QF.nil | (apply QF.mk; rfl; rfl; decide +kernel; exact QyAccG4))) : G := h
set_option maxHeartbeats 4000000 in
theorem lera_spec (Ar Az Al As : Option Addr) (cr cz cl cs : Nat) (a : DSource) (e : DEra) (first : Bool) (w : World) (hL : LibW w) (hA : RdSource w Ar Az Al As cr cz cl cs a) (hS : SrcOk a) (hV : SavOk a) (hE : EraOk e) :
  Does Tryz.prog 113 [srcV Ar Az Al As cr cz cl cs a, .agg e.enc.toArray, .bool first] w (fun v O => v = .int .i64 (eraChk a.rules e first) ∧ O = []) := by
 have hn := hS.nr
 have hst := fun w' (hw : Bel w.heap.size w w') => lset_spec Ar Az Al As cr cz cl cs a e w' (hA.up hw) hn
 have hh0 := fun w' => hours_spec e.off 0 hE.off ⟨by decide, by decide⟩ w'
 have hss := fun w' (hw : Bel w.heap.size w w') => states_spec Ar Az Al As cr cz cl cs a e w' (hA.up hw) hn
 have hun := fun w' => unused_spec e w'
 have hRs : ∀ r ∈ setOf a.rules e, r ∈ a.rules := fun r h => setOf_sub h
 have hRl := setOf_len a.rules e
 have hS64 := statesOf_64 (fun r h => hV.i64 r h) hE.save
 have hfc := fun A3 c3 w' (hw : Bel w.heap.size w w') h => fcheck_spec e A3 c3 (setOf a.rules e) w' (hL.up hw) h hE.off hE.save (fun r hr => hV.i64 r (hRs r hr)) (by omega) hE.fmt (fun r hr => (hS.rs r (hRs r hr)).2)
 unfold eraChk
 rw [show (fun x : Int × ByteArray => !hoursB e.off x.1) = offB e.off from rfl]
 generalize setOf a.rules e = R at *
 generalize statesOf a.rules e = S at *
 generalize unusedB e = un at *
 generalize fmtChk e R = fc at *
 obtain ⟨off, kind, save, set, format, til⟩ := e
 have ho := hE.off
 have hki := hE.kind
 have hcn := fun A5 c5 (b4 : Nat) (cells : List Value) w' (h : RdSl w' A5 c5 stEnc 2 S) (h4 : CellsAt w' ⟨b4, 0, none⟩ (.int .i64 off :: cells)) => containsSt_spec A5 c5 S 165 [] [.pointer (some ⟨b4, 0, none⟩)] (offB off) w' h (fun x hx w2 hw2 => by
  have hc0 : w'.cell? ⟨b4, 0, none⟩ = some (.int .i64 off) := by
   have := h4 0 _ rfl
   rwa [add_mk] at this
  exact era1_spec x ⟨b4, 0, none⟩ off w2 ((hw2.cell (World.block_lt_of_cell? w' _ hc0)).trans hc0) ho (hS64 x hx))
 replace hcn := fun A5 c5 w' h {b4 cells} h4 => hcn A5 c5 b4 cells w' h h4
 dsimp only at hst hh0 hss hun hfc ho hki ⊢
 simp only [DEra.enc] at hst hss hun hfc ⊢
 obtain ⟨an, han⟩ : ∃ an, S.any (offB off) = an := ⟨_, rfl⟩
 rw [han] at hcn ⊢
 generalize hoursB off 0 = h0 at *
 clear hS64 han hE
 refine Does_of_W Tryz.func113 rfl rfl rfl rfl ?_
 by_cases hlo : kind < 0
 ·have b1 : decide (kind < 0) = true := decide_eq_true hlo
  rw [if_pos (.inl hlo)]
  repeat (first | refine und ?_ | (apply RL_pu; rfl; exact PuAccG0) | (apply RD_Q; rfl; rfl; decide +kernel; rfl; rfl; exact QyAccG0) | refine walk1 ?_ | (refine jn ?_; (try intro F); (first | (refine bx ?_; intro bk) | (apply Stp_pu; first | exact PuAccG0 | exact PuA)); first | refine ⟨_, EndsA, QFAccG0, ?_⟩ | refine fin ?_))
  exact rtA
 by_cases hhi : 2 < kind
 ·have b1 : decide (kind < 0) = false := decide_eq_false hlo
  have b2 : decide (2 < kind) = true := decide_eq_true hhi
  rw [if_pos (.inr hhi)]
  repeat (first | refine und ?_ | (apply RL_pu; rfl; exact PuAccG1) | (apply RD_Q; rfl; rfl; decide +kernel; rfl; rfl; exact QyAccG1) | refine walk1 ?_ | (refine jn ?_; (try intro F); (first | (refine bx ?_; intro bk) | (apply Stp_pu; first | exact PuAccG1 | exact PuA)); first | refine ⟨_, EndsA, QFAccG1, ?_⟩ | refine fin ?_))
  exact rtA
 rw [if_neg (by omega)]
 obtain rfl | rfl | rfl : kind = 0 ∨ kind = 1 ∨ kind = 2 := by omega
 ·cases first
  all_goals
   rw [if_neg (by rintro ⟨h1, h2⟩; first | (cases h1; done) | (cases h2; done)), if_neg (by rintro ⟨h, _⟩; cases h), if_neg (by rintro ⟨h, _⟩; cases h)]
  all_goals
   cases h0 <;> first | rw [if_pos (Or.inl rfl)] | (cases an <;> first | rw [if_pos (Or.inr rfl)] | (rw [if_neg (by rintro (h | h) <;> cases h)]; cases un <;> first | rw [if_pos rfl] | rw [if_neg (by decide)]))
  all_goals
   repeat (first | refine und ?_ | refine walk ?_ | (refine jg ?_; (try intro F); (first | (apply Stp_call (h := fun w' hw _ => hst w' hw); rfl; rintro v O' ⟨A3, c3, rfl, rfl⟩) | (refine callE (fun w' hw => hh0 w') ?_) | (apply Stp_call (h := fun w' hw _ => hss w' hw); rfl; rintro v O' ⟨A5, c5, rfl, rfl⟩) | (refine callO (fun w' hw hO => hcn A5 c5 w' (rowRd stEnc.len (hO.of (A := .row (.slice A5 S.length c5) 88 2 S.length (S.flatMap stEnc)) (by repeat' constructor))) (hO.cells (by repeat' constructor))) ?_) | (refine callE (fun w' hw => hun w') ?_) | (refine callO (fun w' hw hO => hfc A3 c3 w' hw (rowRd DRule.len (hO.of (A := .row (.slice A3 R.length c3) 27 11 R.length (R.flatMap DRule.enc)) (by repeat' constructor)))) ?_) | (refine bx ?_; intro bk)); refine fin ?_) | (refine jn ?_; (try intro F); (first | (refine bx ?_; intro bk) | (apply Stp_pu; exact PuA)); refine fin ?_))
   exact rtA
 ·rw [if_neg (by rintro ⟨_, h⟩; cases h), if_neg (by rintro ⟨h, _⟩; cases h)]
  by_cases hs1 : save < 1
  ·have s1 : decide (save < 1) = true := decide_eq_true hs1
   rw [if_pos ⟨rfl, .inl hs1⟩]
   cases first
   all_goals
    repeat (first | refine und ?_ | (apply RL_pu; rfl; exact PuAccG2) | (apply RD_Q; rfl; rfl; decide +kernel; rfl; rfl; exact QyAccG2) | refine walk1 ?_ | (refine jn ?_; (try intro F); (first | (refine bx ?_; intro bk) | (apply Stp_pu; first | exact PuAccG2 | exact PuA)); first | refine ⟨_, EndsA, QFAccG2, ?_⟩ | refine fin ?_))
    exact rtA
  have s1 : decide (save < 1) = false := decide_eq_false hs1
  by_cases hs2 : 10800 < save
  ·have s2 : decide (10800 < save) = true := decide_eq_true hs2
   rw [if_pos ⟨rfl, .inr hs2⟩]
   cases first
   all_goals
    repeat (first | refine und ?_ | (apply RL_pu; rfl; exact PuAccG3) | (apply RD_Q; rfl; rfl; decide +kernel; rfl; rfl; exact QyAccG3) | refine walk1 ?_ | (refine jn ?_; (try intro F); (first | (refine bx ?_; intro bk) | (apply Stp_pu; first | exact PuAccG3 | exact PuA)); first | refine ⟨_, EndsA, QFAccG3, ?_⟩ | refine fin ?_))
    exact rtA
  have s2 : decide (10800 < save) = false := decide_eq_false hs2
  rw [if_neg (by omega)]
  cases first
  all_goals
   cases h0 <;> first | rw [if_pos (Or.inl rfl)] | (cases an <;> first | rw [if_pos (Or.inr rfl)] | (rw [if_neg (by rintro (h | h) <;> cases h)]; cases un <;> first | rw [if_pos rfl] | rw [if_neg (by decide)]))
  all_goals
   repeat (first | refine und ?_ | (apply RL_pu; rfl; exact PuAccG3) | (apply RD_Q; rfl; rfl; decide +kernel; rfl; rfl; exact QyAccG3) | refine walk1 ?_ | (refine jg ?_; (try intro F); (first | (apply Stp_call (h := fun w' hw _ => hst w' hw); rfl; rintro v O' ⟨A3, c3, rfl, rfl⟩) | (refine callE (fun w' hw => hh0 w') ?_) | (apply Stp_call (h := fun w' hw _ => hss w' hw); rfl; rintro v O' ⟨A5, c5, rfl, rfl⟩) | (refine callO (fun w' hw hO => hcn A5 c5 w' (rowRd stEnc.len (hO.of (A := .row (.slice A5 S.length c5) 88 2 S.length (S.flatMap stEnc)) (by repeat' constructor))) (hO.cells (by repeat' constructor))) ?_) | (refine callE (fun w' hw => hun w') ?_) | (refine callO (fun w' hw hO => hfc A3 c3 w' hw (rowRd DRule.len (hO.of (A := .row (.slice A3 R.length c3) 27 11 R.length (R.flatMap DRule.enc)) (by repeat' constructor)))) ?_) | (refine bx ?_; intro bk)); first | refine ⟨_, EndsA, QFAccG3, ?_⟩ | refine fin ?_) | (refine jn ?_; (try intro F); (first | (refine bx ?_; intro bk) | (apply Stp_pu; first | exact PuAccG3 | exact PuA)); first | refine ⟨_, EndsA, QFAccG3, ?_⟩ | refine fin ?_))
   exact rtA
 ·cases first with
  | true =>
   rw [if_pos ⟨rfl, rfl⟩]
   repeat (first | refine und ?_ | refine walk ?_ | (refine jn ?_; (try intro F); (first | (refine bx ?_; intro bk) | (apply Stp_pu; exact PuA)); refine fin ?_))
   exact rtA
  | false =>
   rw [if_neg (by rintro ⟨h, _⟩; cases h)]
   by_cases hR : R = []
   ·have r0 : decide ((R.length : Int) = 0) = true := by rw [hR]; rfl
    rw [if_pos ⟨rfl, hR⟩]
    repeat (first | refine und ?_ | (apply RL_pu; rfl; exact PuAccG4) | (apply RD_Q; rfl; rfl; decide +kernel; rfl; rfl; exact QyAccG4) | refine walk1 ?_ | (refine jg ?_; (try intro F); (first | (apply Stp_call (h := fun w' hw _ => hst w' hw); rfl; rintro v O' ⟨A3, c3, rfl, rfl⟩) | (refine bx ?_; intro bk)); first | refine ⟨_, EndsA, QFAccG4, ?_⟩ | refine fin ?_) | (refine jn ?_; (try intro F); (first | (refine bx ?_; intro bk) | (apply Stp_pu; first | exact PuAccG4 | exact PuA)); first | refine ⟨_, EndsA, QFAccG4, ?_⟩ | refine fin ?_))
    exact rtA
   have r0 : decide ((R.length : Int) = 0) = false := decide_eq_false (fun h => hR (List.eq_nil_of_length_eq_zero (by omega)))
   rw [if_neg (fun h => hR h.2), if_neg (by rintro ⟨h, _⟩; cases h)]
   cases h0 <;> first | rw [if_pos (Or.inl rfl)] | (cases an <;> first | rw [if_pos (Or.inr rfl)] | (rw [if_neg (by rintro (h | h) <;> cases h)]; cases un <;> first | rw [if_pos rfl] | rw [if_neg (by decide)]))
   all_goals
    repeat (first | refine und ?_ | (apply RL_pu; rfl; exact PuAccG4) | (apply RD_Q; rfl; rfl; decide +kernel; rfl; rfl; exact QyAccG4) | refine walk1 ?_ | (refine jg ?_; (try intro F); (first | (apply Stp_call (h := fun w' hw _ => hst w' hw); rfl; rintro v O' ⟨A3, c3, rfl, rfl⟩) | (refine callE (fun w' hw => hh0 w') ?_) | (apply Stp_call (h := fun w' hw _ => hss w' hw); rfl; rintro v O' ⟨A5, c5, rfl, rfl⟩) | (refine callO (fun w' hw hO => hcn A5 c5 w' (rowRd stEnc.len (hO.of (A := .row (.slice A5 S.length c5) 88 2 S.length (S.flatMap stEnc)) (by repeat' constructor))) (hO.cells (by repeat' constructor))) ?_) | (refine callE (fun w' hw => hun w') ?_) | (refine callO (fun w' hw hO => hfc A3 c3 w' hw (rowRd DRule.len (hO.of (A := .row (.slice A3 R.length c3) 27 11 R.length (R.flatMap DRule.enc)) (by repeat' constructor)))) ?_) | (refine bx ?_; intro bk)); first | refine ⟨_, EndsA, QFAccG4, ?_⟩ | refine fin ?_) | (refine jn ?_; (try intro F); (first | (refine bx ?_; intro bk) | (apply Stp_pu; first | exact PuAccG4 | exact PuA)); first | refine ⟨_, EndsA, QFAccG4, ?_⟩ | refine fin ?_))
    exact rtA
end Go.Proofs.YtonjepladadmhaaGreatDoor
