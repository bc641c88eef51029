/- Contract: looker.end. -/
import Derived.Test.YtonjepladadmhaaGreatDoorS33
set_option maxHeartbeats 4000000
set_option linter.unusedVariables false
set_option linter.unusedSimpArgs false
namespace Go.Wk
open Go Go.RowKit
theorem Pu_subE {P : Program} {n : Nat} {wr : World} {fr : Fr} {O : List It} {ty t t' : TypeId} {x y : Operand} {i j m : Int} (hx : ev fr x = some (.int .i64 i)) (hy : ev fr y = some (.int .i64 j)) (hm : i - j = m) (h : -9223372036854775808 ≤ m ∧ m ≤ 9223372036854775807) : Pu P n wr fr O (.binOp .sub t x y t') ty (.int .i64 m) := hm ▸ Pu_sub' hx hy (hm ▸ h)
end Go.Wk
namespace Go.Proofs.YtonjepladadmhaaGreatDoor
open Go Go.RowKit Go.Wk
attribute [local irreducible] W RL Does thenQ blockQ retQ Calls Pu Stp RD Qy Ay DoesIn
theorem nomU_bd (u : DUntil) (least : Int) : -200000000000000000 ≤ (nominalU u least).1 ∧ (nominalU u least).1 ≤ 200000000000000000 := by
 unfold nominalU
 split
 ·exact ⟨by dsimp only; omega, by dsimp only; omega⟩
 ·rename_i h
  have h0 : untilChk u least = 0 := Decidable.not_not.1 h
  have hb := onD_bd u.year u.month u.day
  unfold untilChk at h0
  dsimp only at h0 ⊢
  repeat' split at h0
  all_goals first | (exfalso; omega) | (split <;> omega)
theorem nomU_0 {u : DUntil} {least : Int} (h : untilChk u least = 0) : (nominalU u least).2 = 0 := by
 unfold nominalU
 rw [if_neg (fun hh => hh h)]
theorem until_at {w : World} {ad : Addr} {e : DEra} (h : CellsAt w ad e.enc) : CellsAt w (ad.add 5) (DUntil.enc e.til) := fun j v hj => by
 rw [add_of_add]
 refine h (5 + j) v ?_
 rw [show DEra.enc e = [.int .i64 e.off, .int .i64 e.kind, .int .i64 e.save, .string e.set, .string e.format] ++ DUntil.enc e.til from rfl, List.getElem?_append_right (by simp)]
 simpa using hj
theorem SavOk.rs {s : DSource} (h : SavOk s) (e : DEra) : RsOk (setOf s.rules e) := fun r hr => h r (setOf_sub hr)
theorem PuAccH0 {G : Prop} (h : G := by (first | exact PuI | (apply Pu_loadON; rfl; exact hcu; rfl) | (apply Pu_subE; rfl; rfl; exact hln; omega) | (apply Pu_subE; rfl; rfl; exact hkj; omega) | (apply Pu_lssB; rfl; rfl; exact hdl))) : G := h
theorem QyAccH0 {G : Prop} (h : G := by first | (apply Qy_y; rfl; exact PuAccH0) | exact QyA) : G := h
theorem QFAccH0 {G : Prop} (h : G := by repeat (first | exact QF.nil | (apply QF.mk; rfl; rfl; decide +kernel; exact QyAccH0))) : G := h
theorem wkAccH0 {G G' : Prop} (k : G') (h : Hold G' → G := by intro k9; (first | refine und ?_ | (apply RL_pu; rfl; exact PuAccH0) | (apply RD_Q; rfl; rfl; decide +kernel; rfl; rfl; exact QyAccH0) | refine walk1 ?_ | (refine jn ?_; (try intro F); (first | (refine stA ?_) | (apply Stp_pu; first | exact PuAccH0 | exact PuA)); first | refine ⟨_, EndsA, QFAccH0, ?_⟩ | refine fin ?_)); exact k9.out) : G := h ⟨k⟩
theorem wkAccH1 {G G' : Prop} (k : G') (h : Hold G' → G := by intro k9; (first | refine und ?_ | (apply RL_pu; rfl; exact PuAccH0) | (apply RD_Q; rfl; rfl; decide +kernel; rfl; rfl; exact QyAccH0) | refine walk1 ?_ | (refine jg ?_; (try intro F); (first | (refine callO (fun w' hw hO => hle A3 c3 w' (rowRd DRule.len (hO.of (A := .row (.slice A3 R.length c3) 27 11 R.length (R.flatMap DRule.enc)) (by repeat' constructor)))) ?_) | (refine callE huc ?_) | (refine callE hno ?_) | (refine callO (fun w' hw hO => hfa A3 c3 w' hw (rowRd DRule.len (hO.of (A := .row (.slice A3 R.length c3) 27 11 R.length (R.flatMap DRule.enc)) (by repeat' constructor)))) ?_) | (refine stA ?_)); first | refine ⟨_, EndsA, QFAccH0, ?_⟩ | refine fin ?_) | (refine jn ?_; (try intro F); (first | (refine stA ?_) | (apply Stp_pu; first | exact PuAccH0 | exact PuA)); first | refine ⟨_, EndsA, QFAccH0, ?_⟩ | refine fin ?_)); exact k9.out) : G := h ⟨k⟩
theorem PuAccH1 {G : Prop} (h : G := by (first | exact PuAccH0 | (apply Pu_eqlB; rfl; rfl; exact bk2))) : G := h
theorem QyAccH1 {G : Prop} (h : G := by first | (apply Qy_y; rfl; exact PuAccH1) | exact QyA) : G := h
theorem QFAccH1 {G : Prop} (h : G := by repeat (first | exact QF.nil | (apply QF.mk; rfl; rfl; decide +kernel; exact QyAccH1))) : G := h
theorem PuAccH2 {G : Prop} (h : G := by (first | exact PuAccH0 | (apply Pu_gtrB; rfl; rfl; exact bj) | (apply Pu_subE; rfl; rfl; exact hdf; omega) | (apply Pu_lssB; rfl; rfl; exact b3))) : G := h
theorem QyAccH2 {G : Prop} (h : G := by first | (apply Qy_y; rfl; exact PuAccH2) | exact QyA) : G := h
theorem QFAccH2 {G : Prop} (h : G := by repeat (first | exact QF.nil | (apply QF.mk; rfl; rfl; decide +kernel; exact QyAccH2))) : G := h
theorem wkAccH2 {G G' : Prop} (k : G') (h : Hold G' → G := by intro k9; (first | refine und ?_ | (apply RL_pu; rfl; exact PuAccH2) | (apply RD_Q; rfl; rfl; decide +kernel; rfl; rfl; exact QyAccH2) | refine walk1 ?_ | (refine jg ?_; (try intro F); (first | (refine callO (fun w' hw hO => hle A3 c3 w' (rowRd DRule.len (hO.of (A := .row (.slice A3 R.length c3) 27 11 R.length (R.flatMap DRule.enc)) (by repeat' constructor)))) ?_) | (refine callE huc ?_) | (refine callE hno ?_) | (refine callO (fun w' hw hO => hfa A3 c3 w' hw (rowRd DRule.len (hO.of (A := .row (.slice A3 R.length c3) 27 11 R.length (R.flatMap DRule.enc)) (by repeat' constructor)))) ?_) | (refine callO (fun w' hw hO => hle2 A4 c4 w' (rowRd DRule.len (hO.of (A := .row (.slice A4 R2.length c4) 27 11 R2.length (R2.flatMap DRule.enc)) (by repeat' constructor)))) ?_) | (refine callE hno2 ?_) | (refine stA ?_)); first | refine ⟨_, EndsA, QFAccH2, ?_⟩ | refine fin ?_) | (refine jn ?_; (try intro F); (first | (refine stA ?_) | (apply Stp_pu; first | exact PuAccH2 | exact PuA)); first | refine ⟨_, EndsA, QFAccH2, ?_⟩ | refine fin ?_)); exact k9.out) : G := h ⟨k⟩
theorem PuAccH3 {G : Prop} (h : G := by (first | exact PuAccH2 | (apply Pu_eqlB; rfl; rfl; exact bk2))) : G := h
theorem QyAccH3 {G : Prop} (h : G := by first | (apply Qy_y; rfl; exact PuAccH3) | exact QyA) : G := h
theorem QFAccH3 {G : Prop} (h : G := by repeat (first | exact QF.nil | (apply QF.mk; rfl; rfl; decide +kernel; exact QyAccH3))) : G := h
theorem PuAccH4 {G : Prop} (h : G := by (first | exact PuAccH0 | (apply Pu_gtrB; rfl; rfl; exact bj) | (apply Pu_neqB'; rfl; rfl; exact b2))) : G := h
theorem QyAccH4 {G : Prop} (h : G := by first | (apply Qy_y; rfl; exact PuAccH4) | exact QyA) : G := h
theorem QFAccH4 {G : Prop} (h : G := by repeat (first | exact QF.nil | (apply QF.mk; rfl; rfl; decide +kernel; exact QyAccH4))) : G := h
theorem PuAccH5 {G : Prop} (h : G := by (first | exact PuAccH0 | (apply Pu_neqB'; rfl; rfl; exact bu))) : G := h
theorem QyAccH5 {G : Prop} (h : G := by first | (apply Qy_y; rfl; exact PuAccH5) | exact QyA) : G := h
theorem QFAccH5 {G : Prop} (h : G := by repeat (first | exact QF.nil | (apply QF.mk; rfl; rfl; decide +kernel; exact QyAccH5))) : G := h
set_option maxHeartbeats 2000000 in
theorem lend_spec (Ar Az Al As : Option Addr) (cr cz cl cs : Nat) (a : DSource) (Ae : Option Addr) (ce : Nat) (eras : List DEra) (k : Nat) (w : World) (hG : Glob w) (hA : RdSource w Ar Az Al As cr cz cl cs a) (hS : SrcOk a) (hV : SavOk a)
  (hE : RdSl w Ae ce DEra.enc 13 eras) (hel : eras.length ≤ 1000000) (hk : k < eras.length) :
  Does Tryz.prog 114 [srcV Ar Az Al As cr cz cl cs a, .slice Ae eras.length ce, .int .i64 k] w (fun v O => v = .int .i64 (endChk a.rules eras k) ∧ O = []) := by
 have hn := hS.nr
 obtain ⟨hna, hca⟩ := hE.rd k _ (List.getElem?_eq_getElem hk)
 have hgd : eras.getD k dE0 = eras[k] := by rw [List.getD_eq_getElem?_getD, List.getElem?_eq_getElem hk]; rfl
 unfold endChk
 rw [hgd]
 dsimp only
 generalize eras[k] = e at *
 have hst := fun w' (hw : Bel w.heap.size w w') => lset_spec Ar Az Al As cr cz cl cs a e w' (hA.up hw) hn
 have hle := fun A3 c3 w' h => least_spec A3 c3 (setOf a.rules e) w' h
 have hRl := setOf_len a.rules e
 have hRs := hV.rs e
 have huc := fun w' (hw : Bel w.heap.size w w') => ucheck_spec e.til (leastD (setOf a.rules e)) w' (hG.up hw)
 have hno := fun w' (hw : Bel w.heap.size w w') => nominal_spec e.til (leastD (setOf a.rules e)) w' (hG.up hw)
 have hnb := nomU_bd e.til (leastD (setOf a.rules e))
 have hn0 := @nomU_0 e.til (leastD (setOf a.rules e))
 have hfa := fun A3 c3 w' (hw : Bel w.heap.size w w') h => far_spec A3 c3 (setOf a.rules e) (nominalU e.til (leastD (setOf a.rules e))).1 w' (hG.up hw) h (by omega) hRs (by omega)
 generalize setOf a.rules e = R at *
 generalize hLT : leastD R = least at *
 generalize untilChk e.til least = uc at *
 generalize farD R (nominalU e.til least).1 = fr at *
 generalize nominalU e.til least = nm at *
 obtain ⟨n, ne⟩ := nm
 dsimp only at hno hnb hn0 hfa ⊢
 obtain ⟨off, kind, save, set, format, til⟩ := e
 dsimp only at huc hno hst ⊢
 simp only [DEra.enc] at hst hca
 obtain ⟨is, year, month, ⟨dk, dw, dd⟩, ⟨us, ub⟩⟩ := til
 dsimp only at hst hca ⊢
 simp only [DUntil.enc] at huc hno
 obtain ⟨ln, hln⟩ : ∃ ln : Int, (eras.length : Int) - 1 = ln := ⟨_, rfl⟩
 have hdl : decide ((k : Int) < ln) = decide (k + 1 < eras.length) := by rw [decide_eq_decide]; omega
 generalize hlt : decide (k + 1 < eras.length) = lt at *
 refine Does_of_W Tryz.func114 rfl rfl rfl rfl ?_
 have hcb := hca
 have hcu := hca
 have hkj : (k : Int) - 0 = k := by omega
 cases is with
 | false =>
  cases lt with
  | true =>
   rw [if_pos (by decide)]
   repeat (first | refine wkAccH0 ?_ | (refine jn ?_; (try intro F); (refine bx ?_; intro bk); first | refine ⟨_, EndsA, QFAccH0, ?_⟩ | refine fin ?_) | (apply RD_W; rfl; intro bk))
   exact rtA
  | false =>
   rw [if_neg (by decide), if_pos rfl]
   repeat (first | refine wkAccH0 ?_ | (refine jn ?_; (try intro F); (refine bx ?_; intro bk); first | refine ⟨_, EndsA, QFAccH0, ?_⟩ | refine fin ?_) | (apply RD_W; rfl; intro bk))
   exact rtA
 | true =>
 cases lt with
 | false =>
  rw [if_pos (by decide)]
  repeat (first | refine wkAccH0 ?_ | (refine jn ?_; (try intro F); (refine bx ?_; intro bk); first | refine ⟨_, EndsA, QFAccH0, ?_⟩ | refine fin ?_) | (apply RD_W; rfl; intro bk))
  exact rtA
 | true =>
 rw [if_neg (by decide), if_neg (by decide)]
 by_cases hu : uc = 0
 ·rw [if_neg (fun h => h hu)]
  have hne : ne = 0 := hn0 hu
  subst hu hne
  cases k with
  | zero =>
   rw [if_neg (by rintro ⟨h, _⟩; omega)]
   clear hcb hcu
   by_cases hk2 : kind = 2
   ·subst hk2
    cases fr with
    | false =>
     rw [if_pos ⟨rfl, rfl⟩]
     repeat (first | refine wkAccH1 ?_ | (refine jg ?_; (try intro F); (first | (apply Stp_call (h := fun w' hw _ => hst w' hw); rfl; rintro v O' ⟨A3, c3, rfl, rfl⟩) | (refine bx ?_; intro bk)); first | refine ⟨_, EndsA, QFAccH0, ?_⟩ | refine fin ?_) | (refine jn ?_; (try intro F); (refine bx ?_; intro bk); first | refine ⟨_, EndsA, QFAccH0, ?_⟩ | refine fin ?_) | (apply RD_W; rfl; intro bk))
     exact rtA
    | true =>
     rw [if_neg (by rintro ⟨_, h⟩; cases h)]
     repeat (first | refine wkAccH1 ?_ | (refine jg ?_; (try intro F); (first | (apply Stp_call (h := fun w' hw _ => hst w' hw); rfl; rintro v O' ⟨A3, c3, rfl, rfl⟩) | (refine bx ?_; intro bk)); first | refine ⟨_, EndsA, QFAccH0, ?_⟩ | refine fin ?_) | (refine jn ?_; (try intro F); (refine bx ?_; intro bk); first | refine ⟨_, EndsA, QFAccH0, ?_⟩ | refine fin ?_) | (apply RD_W; rfl; intro bk))
     exact rtA
   ·have bk2 : decide (kind = 2) = false := decide_eq_false hk2
    rw [if_neg (fun h => hk2 h.1)]
    repeat (first | refine und ?_ | (apply RL_pu; rfl; exact PuAccH1) | (apply RD_Q; rfl; rfl; decide +kernel; rfl; rfl; exact QyAccH1) | refine walk1 ?_ | (refine jg ?_; (try intro F); (first | (apply Stp_call (h := fun w' hw _ => hst w' hw); rfl; rintro v O' ⟨A3, c3, rfl, rfl⟩) | (refine callO (fun w' hw hO => hle A3 c3 w' (rowRd DRule.len (hO.of (A := .row (.slice A3 R.length c3) 27 11 R.length (R.flatMap DRule.enc)) (by repeat' constructor)))) ?_) | (refine callE huc ?_) | (refine callE hno ?_) | (refine callO (fun w' hw hO => hfa A3 c3 w' hw (rowRd DRule.len (hO.of (A := .row (.slice A3 R.length c3) 27 11 R.length (R.flatMap DRule.enc)) (by repeat' constructor)))) ?_) | (refine bx ?_; intro bk) | (refine stA ?_)); first | refine ⟨_, EndsA, QFAccH1, ?_⟩ | refine fin ?_) | (refine jn ?_; (try intro F); (first | (refine bx ?_; intro bk) | (refine stA ?_) | (apply Stp_pu; first | exact PuAccH1 | exact PuA)); first | refine ⟨_, EndsA, QFAccH1, ?_⟩ | refine fin ?_) | (apply RD_W; rfl; intro bk))
    exact rtA
  | succ j =>
   have bj : decide ((0 : Int) < ((j + 1 : Nat) : Int)) = true := decide_eq_true (by omega)
   clear hcb hcu hkj
   have hj : j < eras.length := by omega
   obtain ⟨hnb', hcb⟩ := hE.rd j _ (List.getElem?_eq_getElem hj)
   have hgj : eras.getD (j + 1 - 1) dE0 = eras[j] := by rw [Nat.add_sub_cancel, List.getD_eq_getElem?_getD, List.getElem?_eq_getElem hj]; rfl
   rw [hgj]
   generalize eras[j] = b at *
   have hcu := until_at hcb
   have hkj : ((j + 1 : Nat) : Int) - 1 = (j : Int) := by omega
   have hst2 := fun w' (hw : Bel w.heap.size w w') => lset_spec Ar Az Al As cr cz cl cs a b w' (hA.up hw) hn
   have hle2 := fun A3 c3 w' h => least_spec A3 c3 (setOf a.rules b) w' h
   have hno2 := fun w' (hw : Bel w.heap.size w w') => nominal_spec b.til (leastD (setOf a.rules b)) w' (hG.up hw)
   have hnb2 := nomU_bd b.til (leastD (setOf a.rules b))
   generalize setOf a.rules b = R2 at *
   generalize leastD R2 = least2 at *
   generalize nominalU b.til least2 = nm2 at *
   obtain ⟨n2, ne2⟩ := nm2
   obtain ⟨off2, kind2, save2, set2, format2, ⟨is2, year2, month2, ⟨dk2, dw2, dd2⟩, ⟨us2, ub2⟩⟩⟩ := b
   dsimp only at hno2 hnb2 hst2 hcu ⊢
   simp only [DEra.enc] at hst2 hcb
   simp only [DUntil.enc] at hno2 hcu
   by_cases h2 : ne2 = 0
   ·subst h2
    obtain ⟨df, hdf⟩ : ∃ df, n - n2 = df := ⟨_, rfl⟩
    rw [hdf]
    by_cases h3 : df < 259200
    ·have b3 : decide (df < 259200) = true := decide_eq_true h3
     rw [if_pos ⟨by omega, .inr h3⟩]
     repeat (first | refine wkAccH2 ?_ | (refine jg ?_; (try intro F); (first | (apply Stp_call (h := fun w' hw _ => hst w' hw); rfl; rintro v O' ⟨A3, c3, rfl, rfl⟩) | (apply Stp_call (h := fun w' hw _ => hst2 w' hw); rfl; rintro v O' ⟨A4, c4, rfl, rfl⟩) | (refine bx ?_; intro bk)); first | refine ⟨_, EndsA, QFAccH2, ?_⟩ | refine fin ?_) | (refine jn ?_; (try intro F); (refine bx ?_; intro bk); first | refine ⟨_, EndsA, QFAccH2, ?_⟩ | refine fin ?_) | (apply RD_W; rfl; intro bk))
     exact rtA
    ·have b3 : decide (df < 259200) = false := decide_eq_false h3
     rw [if_neg (by rintro ⟨_, h | h⟩; exact h rfl; exact h3 h)]
     by_cases hk2 : kind = 2
     ·subst hk2
      cases fr with
      | false =>
       rw [if_pos ⟨rfl, rfl⟩]
       repeat (first | refine wkAccH2 ?_ | (refine jg ?_; (try intro F); (first | (apply Stp_call (h := fun w' hw _ => hst w' hw); rfl; rintro v O' ⟨A3, c3, rfl, rfl⟩) | (apply Stp_call (h := fun w' hw _ => hst2 w' hw); rfl; rintro v O' ⟨A4, c4, rfl, rfl⟩) | (refine bx ?_; intro bk)); first | refine ⟨_, EndsA, QFAccH2, ?_⟩ | refine fin ?_) | (refine jn ?_; (try intro F); (refine bx ?_; intro bk); first | refine ⟨_, EndsA, QFAccH2, ?_⟩ | refine fin ?_) | (apply RD_W; rfl; intro bk))
       exact rtA
      | true =>
       rw [if_neg (by rintro ⟨_, h⟩; cases h)]
       repeat (first | refine wkAccH2 ?_ | (refine jg ?_; (try intro F); (first | (apply Stp_call (h := fun w' hw _ => hst w' hw); rfl; rintro v O' ⟨A3, c3, rfl, rfl⟩) | (apply Stp_call (h := fun w' hw _ => hst2 w' hw); rfl; rintro v O' ⟨A4, c4, rfl, rfl⟩) | (refine bx ?_; intro bk)); first | refine ⟨_, EndsA, QFAccH2, ?_⟩ | refine fin ?_) | (refine jn ?_; (try intro F); (refine bx ?_; intro bk); first | refine ⟨_, EndsA, QFAccH2, ?_⟩ | refine fin ?_) | (apply RD_W; rfl; intro bk))
       exact rtA
     ·have bk2 : decide (kind = 2) = false := decide_eq_false hk2
      rw [if_neg (fun h => hk2 h.1)]
      repeat (first | refine und ?_ | (apply RL_pu; rfl; exact PuAccH3) | (apply RD_Q; rfl; rfl; decide +kernel; rfl; rfl; exact QyAccH3) | refine walk1 ?_ | (refine jg ?_; (try intro F); (first | (apply Stp_call (h := fun w' hw _ => hst w' hw); rfl; rintro v O' ⟨A3, c3, rfl, rfl⟩) | (refine callO (fun w' hw hO => hle A3 c3 w' (rowRd DRule.len (hO.of (A := .row (.slice A3 R.length c3) 27 11 R.length (R.flatMap DRule.enc)) (by repeat' constructor)))) ?_) | (refine callE huc ?_) | (refine callE hno ?_) | (refine callO (fun w' hw hO => hfa A3 c3 w' hw (rowRd DRule.len (hO.of (A := .row (.slice A3 R.length c3) 27 11 R.length (R.flatMap DRule.enc)) (by repeat' constructor)))) ?_) | (apply Stp_call (h := fun w' hw _ => hst2 w' hw); rfl; rintro v O' ⟨A4, c4, rfl, rfl⟩) | (refine callO (fun w' hw hO => hle2 A4 c4 w' (rowRd DRule.len (hO.of (A := .row (.slice A4 R2.length c4) 27 11 R2.length (R2.flatMap DRule.enc)) (by repeat' constructor)))) ?_) | (refine callE hno2 ?_) | (refine bx ?_; intro bk) | (refine stA ?_)); first | refine ⟨_, EndsA, QFAccH3, ?_⟩ | refine fin ?_) | (refine jn ?_; (try intro F); (first | (refine bx ?_; intro bk) | (refine stA ?_) | (apply Stp_pu; first | exact PuAccH3 | exact PuA)); first | refine ⟨_, EndsA, QFAccH3, ?_⟩ | refine fin ?_) | (apply RD_W; rfl; intro bk))
      exact rtA
   ·have b2 : (!decide (ne2 = 0)) = true := by rw [decide_eq_false h2]; rfl
    rw [if_pos ⟨by omega, .inl h2⟩]
    repeat (first | refine und ?_ | (apply RL_pu; rfl; exact PuAccH4) | (apply RD_Q; rfl; rfl; decide +kernel; rfl; rfl; exact QyAccH4) | refine walk1 ?_ | (refine jg ?_; (try intro F); (first | (apply Stp_call (h := fun w' hw _ => hst w' hw); rfl; rintro v O' ⟨A3, c3, rfl, rfl⟩) | (refine callO (fun w' hw hO => hle A3 c3 w' (rowRd DRule.len (hO.of (A := .row (.slice A3 R.length c3) 27 11 R.length (R.flatMap DRule.enc)) (by repeat' constructor)))) ?_) | (refine callE huc ?_) | (refine callE hno ?_) | (refine callO (fun w' hw hO => hfa A3 c3 w' hw (rowRd DRule.len (hO.of (A := .row (.slice A3 R.length c3) 27 11 R.length (R.flatMap DRule.enc)) (by repeat' constructor)))) ?_) | (apply Stp_call (h := fun w' hw _ => hst2 w' hw); rfl; rintro v O' ⟨A4, c4, rfl, rfl⟩) | (refine callO (fun w' hw hO => hle2 A4 c4 w' (rowRd DRule.len (hO.of (A := .row (.slice A4 R2.length c4) 27 11 R2.length (R2.flatMap DRule.enc)) (by repeat' constructor)))) ?_) | (refine callE hno2 ?_) | (refine bx ?_; intro bk) | (refine stA ?_)); first | refine ⟨_, EndsA, QFAccH4, ?_⟩ | refine fin ?_) | (refine jn ?_; (try intro F); (first | (refine bx ?_; intro bk) | (refine stA ?_) | (apply Stp_pu; first | exact PuAccH4 | exact PuA)); first | refine ⟨_, EndsA, QFAccH4, ?_⟩ | refine fin ?_) | (apply RD_W; rfl; intro bk))
    exact rtA
 ·rw [if_pos hu]
  have bu : (!decide (uc = 0)) = true := by rw [decide_eq_false hu]; rfl
  repeat (first | refine und ?_ | (apply RL_pu; rfl; exact PuAccH5) | (apply RD_Q; rfl; rfl; decide +kernel; rfl; rfl; exact QyAccH5) | refine walk1 ?_ | (refine jg ?_; (try intro F); (first | (apply Stp_call (h := fun w' hw _ => hst w' hw); rfl; rintro v O' ⟨A3, c3, rfl, rfl⟩) | (refine callO (fun w' hw hO => hle A3 c3 w' (rowRd DRule.len (hO.of (A := .row (.slice A3 R.length c3) 27 11 R.length (R.flatMap DRule.enc)) (by repeat' constructor)))) ?_) | (refine callE huc ?_) | (refine bx ?_; intro bk) | (refine stA ?_)); first | refine ⟨_, EndsA, QFAccH5, ?_⟩ | refine fin ?_) | (refine jn ?_; (try intro F); (first | (refine bx ?_; intro bk) | (refine stA ?_) | (apply Stp_pu; first | exact PuAccH5 | exact PuA)); first | refine ⟨_, EndsA, QFAccH5, ?_⟩ | refine fin ?_) | (apply RD_W; rfl; intro bk))
  exact rtA
end Go.Proofs.YtonjepladadmhaaGreatDoor
