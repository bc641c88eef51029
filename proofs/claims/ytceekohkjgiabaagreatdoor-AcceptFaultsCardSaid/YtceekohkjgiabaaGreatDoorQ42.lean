/- Contract: the reference of layer 25: end (the equality of layer 18's Far handed in). -/
import Derived.Test.YtceekohkjgiabaaGreatDoorQ35
set_option maxHeartbeats 4000000
set_option linter.unusedVariables false
set_option linter.unusedSimpArgs false
namespace Go.Proofs.YtceekohkjgiabaaGreatDoor
open Go Go.RowKit Go.Wk
attribute [local irreducible] W RL Does thenQ blockQ retQ Calls Pu Stp RD Qy Ay DoesIn
theorem PuRfV0 {G : Prop} (h : G := by (first | exact PuI | (apply Pu_subE; rfl; rfl; exact hln; omega) | (apply Pu_eqlB; rfl; rfl; exact hdl) | (apply Pu_neqB'; rfl; rfl; exact bu))) : G := h
theorem QyRfV0 {G : Prop} (h : G := by first | (apply Qy_y; rfl; exact PuRfV0) | exact QyA) : G := h
theorem QFRfV0 {G : Prop} (h : G := by repeat (first | exact QF.nil | (apply QF.mk; rfl; rfl; decide +kernel; exact QyRfV0))) : G := h
theorem wkRfV0 {G G' : Prop} (k : G') (h : Hold G' → G := by intro k9; (first | refine und ?_ | (apply RL_pu; rfl; exact PuRfV0) | (apply RD_Q; rfl; rfl; decide +kernel; rfl; rfl; exact QyRfV0) | refine walk1 ?_ | (refine jg ?_; (try intro F); (first | (refine callO (fun w' hw hO => hle A3 c3 w' (rowRd DRule.len (hO.of (A := .row (.slice A3 R.length c3) 48 11 R.length (R.flatMap DRule.enc)) (by repeat' constructor)))) ?_) | (refine callE (fun w' _ => huc w') ?_) | (refine stA ?_)); first | refine ⟨_, EndsA, QFRfV0, ?_⟩ | refine fin ?_) | (refine jn ?_; (try intro F); (first | (refine stA ?_) | (apply Stp_pu; first | exact PuRfV0 | exact PuA)); first | refine ⟨_, EndsA, QFRfV0, ?_⟩ | refine fin ?_)); exact k9.out) : G := h ⟨k⟩
theorem PuRfV1 {G : Prop} (h : G := by (first | exact PuRfV0 | (apply Pu_gtrB; rfl; rfl; exact bj))) : G := h
theorem QyRfV1 {G : Prop} (h : G := by first | (apply Qy_y; rfl; exact PuRfV1) | exact QyA) : G := h
theorem QFRfV1 {G : Prop} (h : G := by repeat (first | exact QF.nil | (apply QF.mk; rfl; rfl; decide +kernel; exact QyRfV1))) : G := h
theorem wkRfV1 {G G' : Prop} (k : G') (h : Hold G' → G := by intro k9; (first | refine und ?_ | (apply RL_pu; rfl; exact PuRfV1) | (apply RD_Q; rfl; rfl; decide +kernel; rfl; rfl; exact QyRfV1) | refine walk1 ?_ | (refine jg ?_; (try intro F); (first | (refine callO (fun w' hw hO => hle A3 c3 w' (rowRd DRule.len (hO.of (A := .row (.slice A3 R.length c3) 48 11 R.length (R.flatMap DRule.enc)) (by repeat' constructor)))) ?_) | (refine callE (fun w' _ => huc w') ?_) | (refine callE hno ?_) | (refine callO (fun w' hw hO => hfa A3 c3 w' hw (rowRd DRule.len (hO.of (A := .row (.slice A3 R.length c3) 48 11 R.length (R.flatMap DRule.enc)) (by repeat' constructor)))) ?_) | (refine stA ?_)); first | refine ⟨_, EndsA, QFRfV1, ?_⟩ | refine fin ?_) | (refine jn ?_; (try intro F); (first | (refine stA ?_) | (apply Stp_pu; first | exact PuRfV1 | exact PuA)); first | refine ⟨_, EndsA, QFRfV1, ?_⟩ | refine fin ?_)); exact k9.out) : G := h ⟨k⟩
theorem PuRfV2 {G : Prop} (h : G := by (first | exact PuRfV1 | (apply Pu_eqlB; rfl; rfl; exact bk2))) : G := h
theorem QyRfV2 {G : Prop} (h : G := by first | (apply Qy_y; rfl; exact PuRfV2) | exact QyA) : G := h
theorem QFRfV2 {G : Prop} (h : G := by repeat (first | exact QF.nil | (apply QF.mk; rfl; rfl; decide +kernel; exact QyRfV2))) : G := h
theorem PuRfV3 {G : Prop} (h : G := by (first | exact PuRfV1 | (apply Pu_subE; rfl; rfl; exact hkj; omega) | (apply Pu_subE; rfl; rfl; exact hdf; omega) | (apply Pu_indexAddr; rfl; rfl; omega; omega; exact hnb') | (apply Pu_lssB; rfl; rfl; exact b3))) : G := h
theorem QyRfV3 {G : Prop} (h : G := by first | (apply Qy_y; rfl; exact PuRfV3) | exact QyA) : G := h
theorem QFRfV3 {G : Prop} (h : G := by repeat (first | exact QF.nil | (apply QF.mk; rfl; rfl; decide +kernel; exact QyRfV3))) : G := h
theorem wkRfV2 {G G' : Prop} (k : G') (h : Hold G' → G := by intro k9; (first | refine und ?_ | (apply RL_pu; rfl; exact PuRfV3) | (apply RD_Q; rfl; rfl; decide +kernel; rfl; rfl; exact QyRfV3) | refine walk1 ?_ | (refine jg ?_; (try intro F); (first | (refine callO (fun w' hw hO => hle A3 c3 w' (rowRd DRule.len (hO.of (A := .row (.slice A3 R.length c3) 48 11 R.length (R.flatMap DRule.enc)) (by repeat' constructor)))) ?_) | (refine callE (fun w' _ => huc w') ?_) | (refine callE hno ?_) | (refine callO (fun w' hw hO => hfa A3 c3 w' hw (rowRd DRule.len (hO.of (A := .row (.slice A3 R.length c3) 48 11 R.length (R.flatMap DRule.enc)) (by repeat' constructor)))) ?_) | (refine callE hno2 ?_) | (refine stA ?_)); first | refine ⟨_, EndsA, QFRfV3, ?_⟩ | refine fin ?_) | (refine jn ?_; (try intro F); (first | (refine stA ?_) | (apply Stp_pu; first | exact PuRfV3 | exact PuA)); first | refine ⟨_, EndsA, QFRfV3, ?_⟩ | refine fin ?_)); exact k9.out) : G := h ⟨k⟩
theorem PuRfV4 {G : Prop} (h : G := by (first | exact PuRfV3 | (apply Pu_eqlB; rfl; rfl; exact bk2))) : G := h
theorem QyRfV4 {G : Prop} (h : G := by first | (apply Qy_y; rfl; exact PuRfV4) | exact QyA) : G := h
theorem QFRfV4 {G : Prop} (h : G := by repeat (first | exact QF.nil | (apply QF.mk; rfl; rfl; decide +kernel; exact QyRfV4))) : G := h
set_option maxHeartbeats 4000000 in
theorem rend25_spec (Ar Az Al As : Option Addr) (cr cz cl cs : Nat) (a : DSource) (Ae : Option Addr) (ce : Nat) (eras : List DEra) (k : Nat) (w : World) (hF : FarS) (hA : RdSource w Ar Az Al As cr cz cl cs a) (hS : SrcOk a)
  (hE : RdSl w Ae ce DEra.enc 13 eras) (hel : eras.length ≤ 1000000) (hk : k < eras.length) (hp : ∀ j, k = j + 1 → (nominalU (eras.getD j dE0).til (leastD (setOf a.rules (eras.getD j dE0)))).2 = 0) :
  Does Tryz.prog 66 [srcV Ar Az Al As cr cz cl cs a, .slice Ae eras.length ce, .int .i64 k] w (fun v O => v = .int .i64 (endChk a.rules eras k) ∧ O = []) := by
 have hn := hS.nr
 obtain ⟨hna, hca⟩ := hE.rd k _ (List.getElem?_eq_getElem hk)
 have hgd : eras.getD k dE0 = eras[k] := by rw [List.getD_eq_getElem?_getD, List.getElem?_eq_getElem hk]; rfl
 unfold endChk
 rw [hgd]
 dsimp only
 generalize eras[k] = e at *
 have hst := fun w' (hw : Bel w.heap.size w w') => rset25_spec Ar Az Al As cr cz cl cs a e w' (hA.up hw) hn
 have hle := fun A3 c3 w' h => rleast_spec A3 c3 (setOf a.rules e) w' h
 have hRl := setOf_len a.rules e
 have huc := fun w' => r22chk_spec e.til (leastD (setOf a.rules e)) w'
 have hno := fun w' (hw : Bel w.heap.size w w') => rnom25_spec Ar Az Al As cr cz cl cs a e w' (hA.up hw) hn
 have hnb := nomU_small e.til (leastD (setOf a.rules e))
 have hfa := fun A3 c3 w' (hw : Bel w.heap.size w w') h => rfar_spec A3 c3 (setOf a.rules e) (nominalU e.til (leastD (setOf a.rules e))).1 w' h (by omega) (by omega)
 rw [hF (setOf a.rules e) (nominalU e.til (leastD (setOf a.rules e))).1 hnb]
 generalize setOf a.rules e = R at *
 generalize leastD R = least at *
 generalize untilChk e.til least = uc at *
 generalize farR R (nominalU e.til least).1 = fr at *
 generalize nominalU e.til least = nm at *
 obtain ⟨n, ne⟩ := nm
 dsimp only at hno hnb hfa ⊢
 obtain ⟨off, kind, save, set, format, til⟩ := e
 dsimp only at huc hno hst ⊢
 simp only [DEra.enc] at hst hca hno
 obtain ⟨is, year, month, ⟨dk, dw, dd⟩, ⟨us, ub⟩⟩ := til
 dsimp only at hst hca hno ⊢
 simp only [DUntil.enc] at huc
 obtain ⟨ln, hln⟩ : ∃ ln : Int, (eras.length : Int) - 1 = ln := ⟨_, rfl⟩
 have hdl : decide ((k : Int) = ln) = !decide (k + 1 < eras.length) := by
  by_cases h : k + 1 < eras.length
  ·rw [decide_eq_true h]; exact decide_eq_false (by omega)
  ·rw [decide_eq_false h]; exact decide_eq_true (by omega)
 generalize hlt : decide (k + 1 < eras.length) = lt at *
 refine Does_of_W Tryz.func66 rfl rfl rfl rfl ?_
 cases is with
 | false =>
  cases lt with
  | true =>
   rw [if_pos (by decide)]
   repeat (first | refine wkRfV0 ?_ | (refine jg ?_; (try intro F); (first | (apply Stp_call (h := fun w' hw _ => hst w' hw); rfl; rintro v O' ⟨A3, c3, rfl, rfl⟩) | (refine bx ?_; intro bk)); first | refine ⟨_, EndsA, QFRfV0, ?_⟩ | refine fin ?_) | (refine jn ?_; (try intro F); (refine bx ?_; intro bk); first | refine ⟨_, EndsA, QFRfV0, ?_⟩ | refine fin ?_) | (apply RD_W; rfl; intro bk))
   exact rtA
  | false =>
   rw [if_neg (by decide), if_pos rfl]
   repeat (first | refine wkRfV0 ?_ | (refine jg ?_; (try intro F); (first | (apply Stp_call (h := fun w' hw _ => hst w' hw); rfl; rintro v O' ⟨A3, c3, rfl, rfl⟩) | (refine bx ?_; intro bk)); first | refine ⟨_, EndsA, QFRfV0, ?_⟩ | refine fin ?_) | (refine jn ?_; (try intro F); (refine bx ?_; intro bk); first | refine ⟨_, EndsA, QFRfV0, ?_⟩ | refine fin ?_) | (apply RD_W; rfl; intro bk))
   exact rtA
 | true =>
 cases lt with
 | false =>
  rw [if_pos (by decide)]
  repeat (first | refine wkRfV0 ?_ | (refine jg ?_; (try intro F); (first | (apply Stp_call (h := fun w' hw _ => hst w' hw); rfl; rintro v O' ⟨A3, c3, rfl, rfl⟩) | (refine bx ?_; intro bk)); first | refine ⟨_, EndsA, QFRfV0, ?_⟩ | refine fin ?_) | (refine jn ?_; (try intro F); (refine bx ?_; intro bk); first | refine ⟨_, EndsA, QFRfV0, ?_⟩ | refine fin ?_) | (apply RD_W; rfl; intro bk))
  exact rtA
 | true =>
 rw [if_neg (by decide), if_neg (by decide)]
 by_cases hu : uc = 0
 ·rw [if_neg (fun h => h hu)]
  have bu : (!decide (uc = 0)) = false := by rw [decide_eq_true hu]; rfl
  cases k with
  | zero =>
   have bj : decide ((0 : Int) < ((0 : Nat) : Int)) = false := rfl
   rw [if_neg (by rintro ⟨h, _⟩; omega)]
   by_cases hk2 : kind = 2
   ·subst hk2
    cases fr with
    | false =>
     rw [if_pos ⟨rfl, rfl⟩]
     repeat (first | refine wkRfV1 ?_ | (refine jg ?_; (try intro F); (first | (apply Stp_call (h := fun w' hw _ => hst w' hw); rfl; rintro v O' ⟨A3, c3, rfl, rfl⟩) | (refine bx ?_; intro bk)); first | refine ⟨_, EndsA, QFRfV1, ?_⟩ | refine fin ?_) | (refine jn ?_; (try intro F); (refine bx ?_; intro bk); first | refine ⟨_, EndsA, QFRfV1, ?_⟩ | refine fin ?_) | (apply RD_W; rfl; intro bk))
     exact rtA
    | true =>
     rw [if_neg (by rintro ⟨_, h⟩; cases h)]
     repeat (first | refine wkRfV1 ?_ | (refine jg ?_; (try intro F); (first | (apply Stp_call (h := fun w' hw _ => hst w' hw); rfl; rintro v O' ⟨A3, c3, rfl, rfl⟩) | (refine bx ?_; intro bk)); first | refine ⟨_, EndsA, QFRfV1, ?_⟩ | refine fin ?_) | (refine jn ?_; (try intro F); (refine bx ?_; intro bk); first | refine ⟨_, EndsA, QFRfV1, ?_⟩ | refine fin ?_) | (apply RD_W; rfl; intro bk))
     exact rtA
   ·have bk2 : decide (kind = 2) = false := decide_eq_false hk2
    rw [if_neg (fun h => hk2 h.1)]
    repeat (first | refine und ?_ | (apply RL_pu; rfl; exact PuRfV2) | (apply RD_Q; rfl; rfl; decide +kernel; rfl; rfl; exact QyRfV2) | refine walk1 ?_ | (refine jg ?_; (try intro F); (first | (apply Stp_call (h := fun w' hw _ => hst w' hw); rfl; rintro v O' ⟨A3, c3, rfl, rfl⟩) | (refine callO (fun w' hw hO => hle A3 c3 w' (rowRd DRule.len (hO.of (A := .row (.slice A3 R.length c3) 48 11 R.length (R.flatMap DRule.enc)) (by repeat' constructor)))) ?_) | (refine callE (fun w' _ => huc w') ?_) | (refine callE hno ?_) | (refine callO (fun w' hw hO => hfa A3 c3 w' hw (rowRd DRule.len (hO.of (A := .row (.slice A3 R.length c3) 48 11 R.length (R.flatMap DRule.enc)) (by repeat' constructor)))) ?_) | (refine bx ?_; intro bk) | (refine stA ?_)); first | refine ⟨_, EndsA, QFRfV2, ?_⟩ | refine fin ?_) | (refine jn ?_; (try intro F); (first | (refine bx ?_; intro bk) | (refine stA ?_) | (apply Stp_pu; first | exact PuRfV2 | exact PuA)); first | refine ⟨_, EndsA, QFRfV2, ?_⟩ | refine fin ?_) | (apply RD_W; rfl; intro bk))
    exact rtA
  | succ j =>
   have bj : decide ((0 : Int) < ((j + 1 : Nat) : Int)) = true := decide_eq_true (by omega)
   have hj : j < eras.length := by omega
   obtain ⟨hnb', hcb⟩ := hE.rd j _ (List.getElem?_eq_getElem hj)
   have hgj : eras.getD (j + 1 - 1) dE0 = eras[j] := by rw [Nat.add_sub_cancel, List.getD_eq_getElem?_getD, List.getElem?_eq_getElem hj]; rfl
   have hgj2 : eras.getD j dE0 = eras[j] := hgj
   have hp1 := hp j rfl
   rw [hgj2] at hp1
   rw [hgj]
   generalize eras[j] = b at *
   have hkj : ((j + 1 : Nat) : Int) - 1 = (j : Int) := by omega
   have hno2 := fun w' (hw : Bel w.heap.size w w') => rnom25_spec Ar Az Al As cr cz cl cs a b w' (hA.up hw) hn
   have hnb2 := nomU_small b.til (leastD (setOf a.rules b))
   generalize nominalU b.til (leastD (setOf a.rules b)) = nm2 at *
   obtain ⟨n2, ne2⟩ := nm2
   dsimp only at hno2 hnb2 hp1 ⊢
   subst hp1
   obtain ⟨off2, kind2, save2, set2, format2, ⟨is2, year2, month2, ⟨dk2, dw2, dd2⟩, ⟨us2, ub2⟩⟩⟩ := b
   simp only [DEra.enc] at hno2 hcb
   obtain ⟨df, hdf⟩ : ∃ df, n - n2 = df := ⟨_, rfl⟩
   rw [hdf]
   by_cases h3 : df < 259200
   ·have b3 : decide (df < 259200) = true := decide_eq_true h3
    rw [if_pos ⟨by omega, .inr h3⟩]
    repeat (first | refine wkRfV2 ?_ | (refine jg ?_; (try intro F); (first | (apply Stp_call (h := fun w' hw _ => hst w' hw); rfl; rintro v O' ⟨A3, c3, rfl, rfl⟩) | (refine bx ?_; intro bk)); first | refine ⟨_, EndsA, QFRfV3, ?_⟩ | refine fin ?_) | (refine jn ?_; (try intro F); (refine bx ?_; intro bk); first | refine ⟨_, EndsA, QFRfV3, ?_⟩ | refine fin ?_) | (apply RD_W; rfl; intro bk))
    exact rtA
   ·have b3 : decide (df < 259200) = false := decide_eq_false h3
    rw [if_neg (by rintro ⟨_, h | h⟩; exact h rfl; exact h3 h)]
    by_cases hk2 : kind = 2
    ·subst hk2
     cases fr with
     | false =>
      rw [if_pos ⟨rfl, rfl⟩]
      repeat (first | refine wkRfV2 ?_ | (refine jg ?_; (try intro F); (first | (apply Stp_call (h := fun w' hw _ => hst w' hw); rfl; rintro v O' ⟨A3, c3, rfl, rfl⟩) | (refine bx ?_; intro bk)); first | refine ⟨_, EndsA, QFRfV3, ?_⟩ | refine fin ?_) | (refine jn ?_; (try intro F); (refine bx ?_; intro bk); first | refine ⟨_, EndsA, QFRfV3, ?_⟩ | refine fin ?_) | (apply RD_W; rfl; intro bk))
      exact rtA
     | true =>
      rw [if_neg (by rintro ⟨_, h⟩; cases h)]
      repeat (first | refine wkRfV2 ?_ | (refine jg ?_; (try intro F); (first | (apply Stp_call (h := fun w' hw _ => hst w' hw); rfl; rintro v O' ⟨A3, c3, rfl, rfl⟩) | (refine bx ?_; intro bk)); first | refine ⟨_, EndsA, QFRfV3, ?_⟩ | refine fin ?_) | (refine jn ?_; (try intro F); (refine bx ?_; intro bk); first | refine ⟨_, EndsA, QFRfV3, ?_⟩ | refine fin ?_) | (apply RD_W; rfl; intro bk))
      exact rtA
    ·have bk2 : decide (kind = 2) = false := decide_eq_false hk2
     rw [if_neg (fun h => hk2 h.1)]
     repeat (first | refine und ?_ | (apply RL_pu; rfl; exact PuRfV4) | (apply RD_Q; rfl; rfl; decide +kernel; rfl; rfl; exact QyRfV4) | refine walk1 ?_ | (refine jg ?_; (try intro F); (first | (apply Stp_call (h := fun w' hw _ => hst w' hw); rfl; rintro v O' ⟨A3, c3, rfl, rfl⟩) | (refine callO (fun w' hw hO => hle A3 c3 w' (rowRd DRule.len (hO.of (A := .row (.slice A3 R.length c3) 48 11 R.length (R.flatMap DRule.enc)) (by repeat' constructor)))) ?_) | (refine callE (fun w' _ => huc w') ?_) | (refine callE hno ?_) | (refine callO (fun w' hw hO => hfa A3 c3 w' hw (rowRd DRule.len (hO.of (A := .row (.slice A3 R.length c3) 48 11 R.length (R.flatMap DRule.enc)) (by repeat' constructor)))) ?_) | (refine callE hno2 ?_) | (refine bx ?_; intro bk) | (refine stA ?_)); first | refine ⟨_, EndsA, QFRfV4, ?_⟩ | refine fin ?_) | (refine jn ?_; (try intro F); (first | (refine bx ?_; intro bk) | (refine stA ?_) | (apply Stp_pu; first | exact PuRfV4 | exact PuA)); first | refine ⟨_, EndsA, QFRfV4, ?_⟩ | refine fin ?_) | (apply RD_W; rfl; intro bk))
     exact rtA
 ·rw [if_pos hu]
  have bu : (!decide (uc = 0)) = true := by rw [decide_eq_false hu]; rfl
  repeat (first | refine wkRfV0 ?_ | (refine jg ?_; (try intro F); (first | (apply Stp_call (h := fun w' hw _ => hst w' hw); rfl; rintro v O' ⟨A3, c3, rfl, rfl⟩) | (refine bx ?_; intro bk)); first | refine ⟨_, EndsA, QFRfV0, ?_⟩ | refine fin ?_) | (refine jn ?_; (try intro F); (refine bx ?_; intro bk); first | refine ⟨_, EndsA, QFRfV0, ?_⟩ | refine fin ?_) | (apply RD_W; rfl; intro bk))
  exact rtA
end Go.Proofs.YtceekohkjgiabaaGreatDoor
