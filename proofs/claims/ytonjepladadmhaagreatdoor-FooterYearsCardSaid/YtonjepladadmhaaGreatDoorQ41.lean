/- Contracts: analemmalaw38.works, FooterDates. -/
import Derived.Test.YtonjepladadmhaaGreatDoorQ39
import Derived.Test.YtonjepladadmhaaGreatDoorQ40
set_option maxHeartbeats 4000000
set_option linter.unusedVariables false
set_option linter.unusedSimpArgs false
namespace Go.Proofs.YtonjepladadmhaaGreatDoor
open Go Go.RowKit Go.Wk
attribute [local irreducible] W RL Does thenQ blockQ retQ Calls Pu Stp RD Qy Ay DoesIn
theorem bel_rfl (w : World) : Bel w.heap.size w w := ⟨Below.refl _ _⟩
theorem eire_says (br bz : Nat) (w : World) (hL : LibW w) (hG : Glob w) (hF : FtG w) (hA : RdSource w (some ⟨br, 0, none⟩) (some ⟨bz, 0, none⟩) none none 3 1 0 0 eireS) :
  Does Tryz.prog 47 [srcV (some ⟨br, 0, none⟩) (some ⟨bz, 0, none⟩) none none 3 1 0 0 eireS, .agg istP.enc.toArray, .int .i64 1973] w (fun v O => v = .bool true ∧ O = []) := by
 have h := accOk hL hG (bel_rfl w) (show okD eireS = true by decide +kernel) hA
 refine saysT _ _ _ _ _ _ _ _ eireS istP 1973 w (fun w' hw => ?_) (fun w' hw => ?_)
 ·have := of_two _ _ _ _ _ _ _ _ eireS 0 ⟨dubN, [w38era1, w38era2]⟩ w38era2 2 1 w38oct w38mar w' (h.up hw) (hF.up hw) eire_acc rfl rfl rfl ⟨by decide, by decide⟩ (by decide +kernel) (by decide +kernel) (by decide +kernel) ⟨by decide, by decide⟩ ⟨by decide, by decide⟩
  rwa [eire_of] at this
 ·have := year_ok _ _ _ _ _ _ _ _ eireS 0 ⟨dubN, [w38era1, w38era2]⟩ w' (h.up hw) eire_acc rfl (by decide) (by rw [eire_yr]; decide)
  rwa [eire_yr] at this
theorem one_says (bz : Nat) (w : World) (hL : LibW w) (hG : Glob w) (hA : RdSource w none (some ⟨bz, 0, none⟩) none none 0 1 0 0 oneS) :
  Does Tryz.prog 47 [srcV none (some ⟨bz, 0, none⟩) none none 0 1 0 0 oneS, .agg ist2P.enc.toArray, .int .i64 1850] w (fun v O => v = .bool true ∧ O = []) := by
 have h := accOk hL hG (bel_rfl w) (show okD oneS = true by decide +kernel) hA
 refine saysT _ _ _ _ _ _ _ _ oneS ist2P 1850 w (fun w' hw => ?_) (fun w' hw => ?_)
 ·have := of_one _ _ _ _ _ _ _ _ oneS 0 ⟨zoA, [w38eraI]⟩ w38eraI w' (h.up hw) one_acc rfl rfl (by decide) ⟨by decide, by decide⟩ (by decide)
  rwa [show alwaysF w38eraI w38eraI.save ByteArray.empty = ist2P from one_of] at this
 ·have := year_ok _ _ _ _ _ _ _ _ oneS 0 ⟨zoA, [w38eraI]⟩ w' (h.up hw) one_acc rfl (by decide) (by rw [one_yr]; decide)
  rwa [one_yr] at this
theorem two_says (bz : Nat) (w : World) (hL : LibW w) (hG : Glob w) (hA : RdSource w none (some ⟨bz, 0, none⟩) none none 0 1 0 0 twoS) :
  Does Tryz.prog 47 [srcV none (some ⟨bz, 0, none⟩) none none 0 1 0 0 twoS, .agg mstP.enc.toArray, .int .i64 1951] w (fun v O => v = .bool true ∧ O = []) := by
 have h := accOk hL hG (bel_rfl w) (show okD twoS = true by decide +kernel) hA
 refine saysT _ _ _ _ _ _ _ _ twoS mstP 1951 w (fun w' hw => ?_) (fun w' hw => ?_)
 ·have := of_one _ _ _ _ _ _ _ _ twoS 0 ⟨zoA, [w38eraG, w38eraM]⟩ w38eraM w' (h.up hw) two_acc rfl rfl (by decide) ⟨by decide, by decide⟩ (by decide)
  rwa [show alwaysF w38eraM w38eraM.save ByteArray.empty = mstP from two_of] at this
 ·have := year_ok _ _ _ _ _ _ _ _ twoS 0 ⟨zoA, [w38eraG, w38eraM]⟩ w' (h.up hw) two_acc rfl (by decide) (by rw [two_yr]; decide)
  rwa [two_yr] at this
theorem PuFtW0 {G : Prop} (h : G := by (first | (apply Pu_neEB (i := (⟨3, 0, 3, 3, 7200⟩ : DDate)) (j := ⟨3, 0, 3, 3, 7200⟩) (enc := DDate.enc); rfl; rfl; rfl) | (apply Pu_neEB (i := (⟨1, 304, 0, 0, 10800⟩ : DDate)) (j := ⟨1, 304, 0, 0, 10800⟩) (enc := DDate.enc); rfl; rfl; rfl))) : G := h
theorem QyFtW0 {G : Prop} (h : G := by first | (apply Qy_y; rfl; exact PuFtW0) | exact QyA) : G := h
theorem QFFtW0 {G : Prop} (h : G := by repeat (first | exact QF.nil | (apply QF.mk; rfl; rfl; decide +kernel; exact QyFtW0))) : G := h
set_option maxHeartbeats 4000000 in
theorem works38_spec (w : World) (hL : LibW w) (hG : Glob w) (hF : FtG w) : Does Tryz.prog 14 [] w (fun v O => v = .bool true ∧ O = []) := by
 have d1 : ∀ w', Bel w.heap.size w w' → Does Tryz.prog 12 [.agg w38mar.enc.toArray, .int .i64 3600, .int .i64 (-3600)] w' (fun v O => v = .tuple #[.agg #[.int .i64 3, .int .i64 0, .int .i64 3, .int .i64 3, .int .i64 7200], .int .i64 0] ∧ O = []) := fun w' hw => fdateT w38mar 3600 (-3600) _ 0 w' (hG.up hw) (hF.up hw) w38_d1
 have d2 : ∀ w', Bel w.heap.size w w' → Does Tryz.prog 12 [.agg w38std.enc.toArray, .int .i64 0, .int .i64 3600] w' (fun v O => v = .tuple #[.agg #[.int .i64 1, .int .i64 304, .int .i64 0, .int .i64 0, .int .i64 10800], .int .i64 0] ∧ O = []) := fun w' hw => fdateT w38std 0 3600 _ 0 w' (hG.up hw) (hF.up hw) w38_d2
 have f1 := fun w' (hw : Bel w.heap.size w w') => failsT (ruleF 2 ⟨1, 0, 29⟩ 0 0) w' (hG.up hw) (hF.up hw) w38_f1
 have f2 := fun w' (hw : Bel w.heap.size w w') => failsT (ruleF 3 (sunD 9) 0 0) w' (hG.up hw) (hF.up hw) w38_f2
 have f3 := fun w' (hw : Bel w.heap.size w w') => failsT { w38mar with to := 2010 } w' (hG.up hw) (hF.up hw) w38_f3
 refine Does_of_W Tryz.func14 rfl rfl rfl rfl ?_
 repeat (first | refine und ?_ | (apply RL_pu; rfl; exact PuFtW0) | (apply RD_Q; rfl; rfl; decide +kernel; rfl; rfl; exact QyFtW0) | refine walk0 ?_ | (refine jg ?_; (try intro F); (first | (refine callE (fun w' _ => ftSun_spec 15 w') ?_) | (refine callE (fun w' _ => ftSun_spec 9 w') ?_) | (refine callE (fun w' _ => ftFixed_spec 31 w') ?_) | (refine callE (fun w' _ => ftFixed_spec 29 w') ?_) | (refine callE (fun w' _ => ftFixed_spec 1 w') ?_) | (refine callE (fun w' _ => ftRule_spec 3 3 0 15 7200 0 w') ?_) | (refine callE (fun w' _ => ftRule_spec 10 1 0 31 7200 0 w') ?_) | (refine callE (fun w' _ => ftRule_spec 2 1 0 29 0 0 w') ?_) | (refine callE (fun w' _ => ftRule_spec 3 3 0 9 0 0 w') ?_) | (refine callE d1 ?_) | (refine callE d2 ?_) | (refine callE f1 ?_) | (refine callE f2 ?_) | (refine callE f3 ?_) | (refine bx ?_; intro bk) | (refine stA ?_)); first | refine ⟨_, EndsA, QFFtW0, ?_⟩ | refine fin ?_) | (refine jn ?_; (try intro F); (first | (refine bx ?_; intro bk) | (refine stA ?_) | (apply Stp_pu; first | exact PuFtW0 | exact PuA)); first | refine ⟨_, EndsA, QFFtW0, ?_⟩ | refine fin ?_) | (apply RD_W; rfl; intro bk))
 rename_i x1 x2 x3 x4 x5 be1 bz1 x8 be2 bz2 x11
 clear d1 d2 f1 f2 f3
 repeat (first | refine walk ?_ | (refine jg ?_; (try intro F); (first | (apply Stp_call (h := fun w' _ _ => eire_spec w'); rfl; rintro v O' ⟨br, be, bz, rfl, rfl⟩) | (refine callO (fun w' hw hO => eire_says br bz w' (hL.up hw) (hG.up hw) (hF.up hw) (zo_rd (litRd (l := [w38one, w38mar, w38oct]) DRule.len (Nat.le_refl 3) (by decide) (hO.of (A := .blk br _ _) (by repeat' constructor))) (hO.of (A := .blk bz _ _) (by repeat' constructor)) (litRd (l := [w38era1, w38era2]) DEra.len (Nat.le_refl 2) (by decide) (hO.of (A := .blk be _ _) (by repeat' constructor))))) ?_) | (refine callO (fun w' hw hO => one_says bz1 w' (hL.up hw) (hG.up hw) (zo_rd (nilRd _ _ _) (hO.of (A := .blk bz1 _ _) (by repeat' constructor)) (litRd (l := [w38eraI]) DEra.len (Nat.le_refl 1) (by decide) (hO.of (A := .blk be1 _ _) (by repeat' constructor))))) ?_) | (refine callO (fun w' hw hO => two_says bz2 w' (hL.up hw) (hG.up hw) (zo_rd (nilRd _ _ _) (hO.of (A := .blk bz2 _ _) (by repeat' constructor)) (litRd (l := [w38eraG, w38eraM]) DEra.len (Nat.le_refl 2) (by decide) (hO.of (A := .blk be2 _ _) (by repeat' constructor))))) ?_) | (refine bx ?_; intro bk) | (refine stA ?_)); refine fin ?_) | (refine jn ?_; (try intro F); (first | (refine bx ?_; intro bk) | (refine stA ?_) | (apply Stp_pu; exact PuA)); refine fin ?_) | (apply RD_W; rfl; intro bk))
 exact rtA
theorem footerDates_spec (r : DRule) (off before : Int) (w : World) (hL : LibW w) (hG : Glob w) (hF : FtG w) : Does Tryz.prog 3 [.agg r.enc.toArray, .int .i64 off, .int .i64 before] w (fun v O => v = .bool true ∧ O = []) := by
 have hd := fun w' (hw : Bel w.heap.size w w') => fdate_spec r off before w' (hG.up hw) (hF.up hw)
 have hr := fun w' => rdate_spec r off before w'
 have hwk := fun w' (hw : Bel w.heap.size w w') => works38_spec w' (hL.up hw) (hG.up hw) (hF.up hw)
 unfold dErrV at hd hr
 generalize dateD r off before = x at *
 obtain ⟨⟨x1, x2, x3, x4, x5⟩, e⟩ := x
 obtain ⟨nm, fr, to, mo, ⟨dk, dw, dd⟩, ⟨cs, cb⟩, sv, le⟩ := r
 have e1 : decide (e = e) = true := decide_eq_true rfl
 change ∀ w', Bel w.heap.size w w' → Does _ _ _ w' (fun v O => v = .tuple #[.agg #[.int .i64 x1, .int .i64 x2, .int .i64 x3, .int .i64 x4, .int .i64 x5], .int .i64 e] ∧ O = []) at hd
 change ∀ w', Does _ _ _ w' (fun v O => v = .tuple #[.agg #[.int .i64 x1, .int .i64 x2, .int .i64 x3, .int .i64 x4, .int .i64 x5], .int .i64 e] ∧ O = []) at hr
 show Does _ _ [.agg #[.string nm, .int .i64 fr, .int .i64 to, .int .i64 mo, .int .i64 dk, .int .i64 dw, .int .i64 dd, .int .i64 cs, .int .i64 cb, .int .i64 sv, .string le], .int .i64 off, .int .i64 before] w _
 refine Does_of_W Tryz.func3 rfl rfl rfl rfl ?_
 repeat (first | (apply RL_pu; rfl; (first | (apply Pu_eqEB (i := (⟨x1, x2, x3, x4, x5⟩ : DDate)) (j := ⟨x1, x2, x3, x4, x5⟩) (enc := DDate.enc); rfl; rfl; exact decide_eq_true rfl) | (apply Pu_eqlB; rfl; rfl; exact e1))) | (refine js ?_; (first | (refine callE hd ?_) | (refine callE (fun w' _ => hr w') ?_) | (refine callE hwk ?_) | (refine bx ?_; intro bk))) | refine walk1 ?_)
 exact rtA
end Go.Proofs.YtonjepladadmhaaGreatDoor
