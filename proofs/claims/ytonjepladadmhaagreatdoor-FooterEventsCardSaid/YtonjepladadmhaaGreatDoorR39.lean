/- Contracts: analemmalaw38.works, FooterDates. Plain law: the date of a rule of a draft means the day of its event in each year (layer 38). Contract: analemmalaw38.means. Plain functions: the last event before a nominal time; states of sets of rules (layers 17 and 19). Contract: events.Before$1. Contracts: events.Before. Contracts: state.behind, base, checked.Sub, state.Instant$1. -/
import Derived.Test.YtonjepladadmhaaGreatDoorR38
import Derived.Test.YtonjepladadmhaaGreatDoorR14
import Derived.Test.YtonjepladadmhaaGreatDoorR16
import Derived.Test.YtonjepladadmhaaGreatDoorR26
set_option maxHeartbeats 4000000
set_option linter.unusedVariables false
set_option linter.unusedSimpArgs false
namespace Go.Proofs.YtonjepladadmhaaGreatDoor
open Go Go.RowKit Go.Wk
attribute [local irreducible] W RL Does thenQ blockQ retQ Calls Pu Stp RD Qy Ay DoesIn
theorem bel_rfl (w : World) : Bel w.heap.size w w := ⟨Below.refl _ _⟩
theorem eire_says (br bz : Nat) (w : World) (hL : LibW w) (hG : Glob w) (hF : FtG w) (hA : RdSource w (some ⟨br, 0, none⟩) (some ⟨bz, 0, none⟩) none none 3 1 0 0 eireS) :
  Does Tryz.prog 47 [srcV (some ⟨br, 0, none⟩) (some ⟨bz, 0, none⟩) none none 3 1 0 0 eireS, .agg istP.enc.toArray, .int .i64 1973] w (fun v O => v = .bool true ∧ O = []) := by
 have h := accOk hL hG (bel_rfl w) (show okD eireS = true by decide +kernel) hA
 refine saysT _ _ _ _ _ _ _ _ eireS istP 1973 w (fun w' hw => ?_) (fun w' hw => ?_)
 ·have := of_two _ _ _ _ _ _ _ _ eireS 0 ⟨dubN, [w38era1, w38era2]⟩ w38era2 2 1 w38oct w38mar w' (h.up hw) (hF.up hw) eire_acc rfl rfl rfl ⟨by decide, by decide⟩ (by decide +kernel) (by decide +kernel) (by decide +kernel) ⟨by decide, by decide⟩ ⟨by decide, by decide⟩
  rwa [eire_of] at this
 ·have := year_ok _ _ _ _ _ _ _ _ eireS 0 ⟨dubN, [w38era1, w38era2]⟩ w' (h.up hw) eire_acc rfl (by decide) (by rw [eire_yr]; decide)
  rwa [eire_yr] at this
theorem one_says (bz : Nat) (w : World) (hL : LibW w) (hG : Glob w) (hA : RdSource w none (some ⟨bz, 0, none⟩) none none 0 1 0 0 oneS) :
  Does Tryz.prog 47 [srcV none (some ⟨bz, 0, none⟩) none none 0 1 0 0 oneS, .agg ist2P.enc.toArray, .int .i64 1850] w (fun v O => v = .bool true ∧ O = []) := by
 have h := accOk hL hG (bel_rfl w) (show okD oneS = true by decide +kernel) hA
 refine saysT _ _ _ _ _ _ _ _ oneS ist2P 1850 w (fun w' hw => ?_) (fun w' hw => ?_)
 ·have := of_one _ _ _ _ _ _ _ _ oneS 0 ⟨zoA, [w38eraI]⟩ w38eraI w' (h.up hw) one_acc rfl rfl (by decide) ⟨by decide, by decide⟩ (by decide)
  rwa [show alwaysF w38eraI w38eraI.save ByteArray.empty = ist2P from one_of] at this
 ·have := year_ok _ _ _ _ _ _ _ _ oneS 0 ⟨zoA, [w38eraI]⟩ w' (h.up hw) one_acc rfl (by decide) (by rw [one_yr]; decide)
  rwa [one_yr] at this
theorem two_says (bz : Nat) (w : World) (hL : LibW w) (hG : Glob w) (hA : RdSource w none (some ⟨bz, 0, none⟩) none none 0 1 0 0 twoS) :
  Does Tryz.prog 47 [srcV none (some ⟨bz, 0, none⟩) none none 0 1 0 0 twoS, .agg mstP.enc.toArray, .int .i64 1951] w (fun v O => v = .bool true ∧ O = []) := by
 have h := accOk hL hG (bel_rfl w) (show okD twoS = true by decide +kernel) hA
 refine saysT _ _ _ _ _ _ _ _ twoS mstP 1951 w (fun w' hw => ?_) (fun w' hw => ?_)
 ·have := of_one _ _ _ _ _ _ _ _ twoS 0 ⟨zoA, [w38eraG, w38eraM]⟩ w38eraM w' (h.up hw) two_acc rfl rfl (by decide) ⟨by decide, by decide⟩ (by decide)
  rwa [show alwaysF w38eraM w38eraM.save ByteArray.empty = mstP from two_of] at this
 ·have := year_ok _ _ _ _ _ _ _ _ twoS 0 ⟨zoA, [w38eraG, w38eraM]⟩ w' (h.up hw) two_acc rfl (by decide) (by rw [two_yr]; decide)
  rwa [two_yr] at this
theorem PuFtW0 {G : Prop} (h : G := by (first | (apply Pu_neEB (i := (⟨3, 0, 3, 3, 7200⟩ : DDate)) (j := ⟨3, 0, 3, 3, 7200⟩) (enc := DDate.enc); rfl; rfl; rfl) | (apply Pu_neEB (i := (⟨1, 304, 0, 0, 10800⟩ : DDate)) (j := ⟨1, 304, 0, 0, 10800⟩) (enc := DDate.enc); rfl; rfl; rfl))) : G := h
theorem QyFtW0 {G : Prop} (h : G := by first | (apply Qy_y; rfl; exact PuFtW0) | exact QyA) : G := h
theorem QFFtW0 {G : Prop} (h : G := by repeat (first | exact QF.nil | (apply QF.mk; rfl; rfl; decide +kernel; exact QyFtW0))) : G := h
set_option maxHeartbeats 4000000 in
theorem works38_spec (w : World) (hL : LibW w) (hG : Glob w) (hF : FtG w) : Does Tryz.prog 14 [] w (fun v O => v = .bool true ∧ O = []) := by
 have d1 : ∀ w', Bel w.heap.size w w' → Does Tryz.prog 12 [.agg w38mar.enc.toArray, .int .i64 3600, .int .i64 (-3600)] w' (fun v O => v = .tuple #[.agg #[.int .i64 3, .int .i64 0, .int .i64 3, .int .i64 3, .int .i64 7200], .int .i64 0] ∧ O = []) := fun w' hw => fdateT w38mar 3600 (-3600) _ 0 w' (hG.up hw) (hF.up hw) w38_d1
 have d2 : ∀ w', Bel w.heap.size w w' → Does Tryz.prog 12 [.agg w38std.enc.toArray, .int .i64 0, .int .i64 3600] w' (fun v O => v = .tuple #[.agg #[.int .i64 1, .int .i64 304, .int .i64 0, .int .i64 0, .int .i64 10800], .int .i64 0] ∧ O = []) := fun w' hw => fdateT w38std 0 3600 _ 0 w' (hG.up hw) (hF.up hw) w38_d2
 have f1 := fun w' (hw : Bel w.heap.size w w') => failsT (ruleF 2 ⟨1, 0, 29⟩ 0 0) w' (hG.up hw) (hF.up hw) w38_f1
 have f2 := fun w' (hw : Bel w.heap.size w w') => failsT (ruleF 3 (sunD 9) 0 0) w' (hG.up hw) (hF.up hw) w38_f2
 have f3 := fun w' (hw : Bel w.heap.size w w') => failsT { w38mar with to := 2010 } w' (hG.up hw) (hF.up hw) w38_f3
 refine Does_of_W Tryz.func14 rfl rfl rfl rfl ?_
 repeat (first | refine und ?_ | (apply RL_pu; rfl; exact PuFtW0) | (apply RD_Q; rfl; rfl; decide +kernel; rfl; rfl; exact QyFtW0) | refine walk0 ?_ | (refine jg ?_; (try intro F); (first | (refine callE (fun w' _ => ftSun_spec 15 w') ?_) | (refine callE (fun w' _ => ftSun_spec 9 w') ?_) | (refine callE (fun w' _ => ftFixed_spec 31 w') ?_) | (refine callE (fun w' _ => ftFixed_spec 29 w') ?_) | (refine callE (fun w' _ => ftFixed_spec 1 w') ?_) | (refine callE (fun w' _ => ftRule_spec 3 3 0 15 7200 0 w') ?_) | (refine callE (fun w' _ => ftRule_spec 10 1 0 31 7200 0 w') ?_) | (refine callE (fun w' _ => ftRule_spec 2 1 0 29 0 0 w') ?_) | (refine callE (fun w' _ => ftRule_spec 3 3 0 9 0 0 w') ?_) | (refine callE d1 ?_) | (refine callE d2 ?_) | (refine callE f1 ?_) | (refine callE f2 ?_) | (refine callE f3 ?_) | (refine bx ?_; intro bk) | (refine stA ?_)); first | refine ⟨_, EndsA, QFFtW0, ?_⟩ | refine fin ?_) | (refine jn ?_; (try intro F); (first | (refine bx ?_; intro bk) | (refine stA ?_) | (apply Stp_pu; first | exact PuFtW0 | exact PuA)); first | refine ⟨_, EndsA, QFFtW0, ?_⟩ | refine fin ?_) | (apply RD_W; rfl; intro bk))
 rename_i x1 x2 x3 x4 x5 be1 bz1 x8 be2 bz2 x11
 clear d1 d2 f1 f2 f3
 repeat (first | refine walk ?_ | (refine jg ?_; (try intro F); (first | (apply Stp_call (h := fun w' _ _ => eire_spec w'); rfl; rintro v O' ⟨br, be, bz, rfl, rfl⟩) | (refine callO (fun w' hw hO => eire_says br bz w' (hL.up hw) (hG.up hw) (hF.up hw) (zo_rd (litRd (l := [w38one, w38mar, w38oct]) DRule.len (Nat.le_refl 3) (by decide) (hO.of (A := .blk br _ _) (by repeat' constructor))) (hO.of (A := .blk bz _ _) (by repeat' constructor)) (litRd (l := [w38era1, w38era2]) DEra.len (Nat.le_refl 2) (by decide) (hO.of (A := .blk be _ _) (by repeat' constructor))))) ?_) | (refine callO (fun w' hw hO => one_says bz1 w' (hL.up hw) (hG.up hw) (zo_rd (nilRd _ _ _) (hO.of (A := .blk bz1 _ _) (by repeat' constructor)) (litRd (l := [w38eraI]) DEra.len (Nat.le_refl 1) (by decide) (hO.of (A := .blk be1 _ _) (by repeat' constructor))))) ?_) | (refine callO (fun w' hw hO => two_says bz2 w' (hL.up hw) (hG.up hw) (zo_rd (nilRd _ _ _) (hO.of (A := .blk bz2 _ _) (by repeat' constructor)) (litRd (l := [w38eraG, w38eraM]) DEra.len (Nat.le_refl 2) (by decide) (hO.of (A := .blk be2 _ _) (by repeat' constructor))))) ?_) | (refine bx ?_; intro bk) | (refine stA ?_)); refine fin ?_) | (refine jn ?_; (try intro F); (first | (refine bx ?_; intro bk) | (refine stA ?_) | (apply Stp_pu; exact PuA)); refine fin ?_) | (apply RD_W; rfl; intro bk))
 exact rtA
end Go.Proofs.YtonjepladadmhaaGreatDoor
namespace Go.Proofs.YtonjepladadmhaaGreatDoor
open Go Go.RowKit Go.Wk
def meansF (x : DDate) (y : Int) : Int × Bool :=
 if x.kind = 1 then (if leapB y = true ∧ 59 < x.day then dayNo y 1 1 + x.day - 1 + 1 else dayNo y 1 1 + x.day - 1, true)
 else ((onD y x.month (if x.week = 5 then ⟨2, x.day, 0⟩ else ⟨3, x.day, 7 * x.week - 6⟩)).1, decide (x.kind = 3) && decide ((onD y x.month (if x.week = 5 then ⟨2, x.day, 0⟩ else ⟨3, x.day, 7 * x.week - 6⟩)).2 = 0))
theorem mon_first (y m : Int) (h0 : 1 ≤ m) (h1 : m ≤ 12) : dayNo y m 1 - dayNo y 1 1 = dayNo 2001 m 1 - dayNo 2001 1 1 + (if leapB y = true ∧ 3 ≤ m then 1 else 0) := by
 have s : ∀ z : Int, ∀ k : Fin 12, 1 ≤ k.val → dayNo z ((k.val : Int) + 1) 1 = dayNo z k.val 1 + lenM z k.val := fun z k hk => dayNo_succ z k.val hk (by omega)
 have l2 : lenM y 2 = if leapB y then 29 else 28 := rfl
 have y1 := s y 1 (by decide)
 have y2 := s y 2 (by decide)
 have y3 := s y 3 (by decide)
 have y4 := s y 4 (by decide)
 have y5 := s y 5 (by decide)
 have y6 := s y 6 (by decide)
 have y7 := s y 7 (by decide)
 have y8 := s y 8 (by decide)
 have y9 := s y 9 (by decide)
 have y10 := s y 10 (by decide)
 have y11 := s y 11 (by decide)
 have z1 := s 2001 1 (by decide)
 have z2 := s 2001 2 (by decide)
 have z3 := s 2001 3 (by decide)
 have z4 := s 2001 4 (by decide)
 have z5 := s 2001 5 (by decide)
 have z6 := s 2001 6 (by decide)
 have z7 := s 2001 7 (by decide)
 have z8 := s 2001 8 (by decide)
 have z9 := s 2001 9 (by decide)
 have z10 := s 2001 10 (by decide)
 have z11 := s 2001 11 (by decide)
 have e : ∀ z : Int, lenM z 1 = 31 ∧ lenM z 3 = 31 ∧ lenM z 4 = 30 ∧ lenM z 5 = 31 ∧ lenM z 6 = 30 ∧ lenM z 7 = 31 ∧ lenM z 8 = 31 ∧ lenM z 9 = 30 ∧ lenM z 10 = 31 ∧ lenM z 11 = 30 := fun z => ⟨rfl, rfl, rfl, rfl, rfl, rfl, rfl, rfl, rfl, rfl⟩
 have f2 : lenM 2001 2 = 28 := rfl
 obtain ⟨a1, a3, a4, a5, a6, a7, a8, a9, a10, a11⟩ := e y
 obtain ⟨b1, b3, b4, b5, b6, b7, b8, b9, b10, b11⟩ := e 2001
 change dayNo y 2 1 = dayNo y 1 1 + lenM y 1 at y1
 change dayNo y 3 1 = dayNo y 2 1 + lenM y 2 at y2
 change dayNo y 4 1 = dayNo y 3 1 + lenM y 3 at y3
 change dayNo y 5 1 = dayNo y 4 1 + lenM y 4 at y4
 change dayNo y 6 1 = dayNo y 5 1 + lenM y 5 at y5
 change dayNo y 7 1 = dayNo y 6 1 + lenM y 6 at y6
 change dayNo y 8 1 = dayNo y 7 1 + lenM y 7 at y7
 change dayNo y 9 1 = dayNo y 8 1 + lenM y 8 at y8
 change dayNo y 10 1 = dayNo y 9 1 + lenM y 9 at y9
 change dayNo y 11 1 = dayNo y 10 1 + lenM y 10 at y10
 change dayNo y 12 1 = dayNo y 11 1 + lenM y 11 at y11
 change dayNo 2001 2 1 = dayNo 2001 1 1 + lenM 2001 1 at z1
 change dayNo 2001 3 1 = dayNo 2001 2 1 + lenM 2001 2 at z2
 change dayNo 2001 4 1 = dayNo 2001 3 1 + lenM 2001 3 at z3
 change dayNo 2001 5 1 = dayNo 2001 4 1 + lenM 2001 4 at z4
 change dayNo 2001 6 1 = dayNo 2001 5 1 + lenM 2001 5 at z5
 change dayNo 2001 7 1 = dayNo 2001 6 1 + lenM 2001 6 at z6
 change dayNo 2001 8 1 = dayNo 2001 7 1 + lenM 2001 7 at z7
 change dayNo 2001 9 1 = dayNo 2001 8 1 + lenM 2001 8 at z8
 change dayNo 2001 10 1 = dayNo 2001 9 1 + lenM 2001 9 at z9
 change dayNo 2001 11 1 = dayNo 2001 10 1 + lenM 2001 10 at z10
 change dayNo 2001 12 1 = dayNo 2001 11 1 + lenM 2001 11 at z11
 clear s e
 have hc : m = 1 ∨ m = 2 ∨ m = 3 ∨ m = 4 ∨ m = 5 ∨ m = 6 ∨ m = 7 ∨ m = 8 ∨ m = 9 ∨ m = 10 ∨ m = 11 ∨ m = 12 := by omega
 cases hl : leapB y with
 | true =>
  rw [hl, if_pos rfl] at l2
  rcases hc with rfl | rfl | rfl | rfl | rfl | rfl | rfl | rfl | rfl | rfl | rfl | rfl <;> simp only [Int.reduceLE, and_true, and_false, if_true, if_false] <;> omega
 | false =>
  rw [hl, if_neg (by decide)] at l2
  rw [if_neg (by rintro ⟨h, _⟩; cases h)]
  rcases hc with rfl | rfl | rfl | rfl | rfl | rfl | rfl | rfl | rfl | rfl | rfl | rfl <;> omega
theorem means_on {d : DDay} (h : DrDay d) {y m : Int} (hy : inY y = true) (h0 : 1 ≤ m) (h1 : m ≤ 12) : (dateF m d).2 = true ∧ ∀ sec, meansF { (dateF m d).1 with sec := sec } y = ((onD y m d).1, true) := by
 have hon := (h.on hy h0 h1).1
 obtain ⟨k, w, n⟩ := d
 simp only [DrDay] at h
 rcases h with ⟨rfl, a1, a2, rfl⟩ | ⟨rfl, a1, a2, a3, a4, a5⟩ | ⟨rfl, rfl, a3, a4⟩
 ·refine ⟨rfl, fun sec => ?_⟩
  rw [show dateF m ⟨2, w, 0⟩ = (⟨3, w, m, 5, 0⟩, true) from rfl]
  unfold meansF
  dsimp only
  rw [if_neg (by decide), if_pos rfl, hon]
  rfl
 ·rw [Int.tmod_eq_emod_of_nonneg (by omega)] at a5
  refine ⟨?_, fun sec => ?_⟩
  ·unfold dateF
   dsimp only
   rw [if_neg (by decide), if_neg (by decide), if_pos rfl, decide_eq_true a5, decide_eq_true (show n < 29 by omega)]
   rfl
  ·rw [show (dateF m ⟨3, w, n⟩).1 = ⟨3, w, m, n / 7 + 1, 0⟩ from rfl]
   unfold meansF
   dsimp only
   rw [if_neg (by decide)]
   have e7 : 7 * (n / 7 + 1) - 6 = n := by omega
   rw [if_neg (by omega), e7, hon]
   rfl
 ·have hl := lenM_28 2001 m h0 h1
  have hd : daysOk 2001 m n = true := by
   unfold daysOk
   rw [show inY 2001 = true from by decide, decide_eq_true (show (1 : Int) ≤ n by omega), decide_eq_true (show n ≤ lenM 2001 m by omega)]
   rfl
  refine ⟨?_, fun sec => ?_⟩
  ·unfold dateF
   dsimp only
   rw [if_pos rfl, hd]
  ·have hx : (onD y m ⟨1, 0, n⟩).1 = dayNo y m 1 + n - 1 := by
    unfold onD at hon ⊢
    split
    ·rename_i hh; rw [if_pos hh] at hon; cases hon
    ·rename_i hh
     rw [if_neg hh] at hon
     split
     ·rename_i h2; rw [if_pos h2] at hon; cases hon
     ·rename_i h2
      rw [if_neg h2] at hon
      split
      ·rename_i h3; rw [if_pos h3] at hon; cases hon
      ·unfold findD
       dsimp only
       rw [if_pos rfl]
   have hm := mon_first y m h0 h1
   have hlo : 3 ≤ m → 59 ≤ dayNo 2001 m 1 - dayNo 2001 1 1 := fun h3 => by
    have hc : m = 3 ∨ m = 4 ∨ m = 5 ∨ m = 6 ∨ m = 7 ∨ m = 8 ∨ m = 9 ∨ m = 10 ∨ m = 11 ∨ m = 12 := by omega
    rcases hc with rfl | rfl | rfl | rfl | rfl | rfl | rfl | rfl | rfl | rfl <;> decide
   have hhi : m < 3 → dayNo 2001 m 1 - dayNo 2001 1 1 ≤ 31 := fun h3 => by
    have hc : m = 1 ∨ m = 2 := by omega
    rcases hc with rfl | rfl <;> decide
   rw [show (dateF m ⟨1, 0, n⟩).1 = ⟨1, (if daysOk 2001 m n then dayNo 2001 m n else 0) - dayNo 2001 1 1 + 1, 0, 0, 0⟩ from rfl, hd, if_pos rfl]
   unfold meansF
   dsimp only
   rw [if_pos rfl, hx, dayNo_d 2001 m n]
   refine congrArg (·, true) ?_
   cases hl2 : leapB y with
   | true =>
    rw [hl2] at hm
    by_cases h3 : 3 ≤ m
    ·have := hlo h3
     rw [if_pos ⟨rfl, h3⟩] at hm
     rw [if_pos ⟨rfl, by omega⟩]
     omega
    ·have := hhi (by omega)
     rw [if_neg (fun hh => h3 hh.2)] at hm
     rw [if_neg (fun hh => by have := hh.2; omega)]
     omega
   | false =>
    rw [hl2, if_neg (by rintro ⟨hh, _⟩; cases hh)] at hm
    rw [if_neg (by rintro ⟨hh, _⟩; cases hh)]
    omega
attribute [local irreducible] W RL Does thenQ blockQ retQ Calls Pu Stp RD Qy Ay DoesIn
theorem PuFtM0 {G : Prop} (h : G := by (apply Pu_mul; rfl; rfl; (constructor <;> omega))) : G := h
theorem PuFtM1 {G : Prop} (h : G := by (first | exact PuFtM0 | (apply Pu_gtrB; rfl; rfl; exact g1))) : G := h
theorem PuFtM2 {G : Prop} (h : G := by (first | exact PuFtM0 | (apply Pu_eqlB; rfl; rfl; first | exact k1 | exact w5 | exact k3))) : G := h
theorem wkFtM0 {G G' : Prop} (k : G') (h : Hold G' → G := by intro k9; (first | refine und ?_ | (apply RL_pu; rfl; exact PuFtM2) | (refine js ?_; (first | (refine callE hd ?_) | (refine callE (fun w' _ => hlp w') ?_) | (refine callE hon2 ?_))) | refine walk1 ?_); exact k9.out) : G := h ⟨k⟩
theorem means_spec (x : DDate) (y : Int) (w : World) (hG : Glob w) (hy : inY y = true) (hx : -1000000 ≤ x.day ∧ x.day ≤ 1000000) (hwk : -1000000 ≤ x.week ∧ x.week ≤ 1000000) :
  Does Tryz.prog 28 [.agg x.enc.toArray, .int .i64 y] w (fun v O => v = .tuple #[.int .i64 (meansF x y).1, .bool (meansF x y).2] ∧ O = []) := by
 have hok : daysOk y 1 1 = true := by
  unfold daysOk
  rw [hy]
  rfl
 have hd := fun w' (hw : Bel w.heap.size w w') => days_spec y 1 1 w' (hG.up hw)
 rw [if_pos hok, if_pos hok] at hd
 have hdb := dayNo_bd hok
 have hlp := fun w' => leap_spec y w'
 unfold meansF
 generalize dayNo y 1 1 = fst at *
 generalize leapB y = lp at *
 obtain ⟨xk, xd, xm, xw, xs⟩ := x
 dsimp only at hx hwk ⊢
 by_cases hk : xk = 1
 ·subst hk
  rw [if_pos rfl]
  show Does _ _ [.agg #[.int .i64 1, .int .i64 xd, .int .i64 xm, .int .i64 xw, .int .i64 xs], .int .i64 y] w _
  refine Does_of_W Tryz.func28 rfl rfl rfl rfl ?_
  cases lp with
  | false =>
   rw [if_neg (by rintro ⟨h, _⟩; cases h)]
   repeat (first | refine und ?_ | (apply RL_pu; rfl; exact PuFtM0) | (refine js ?_; (first | (refine callE hd ?_) | (refine callE (fun w' _ => hlp w') ?_) | (refine bx ?_; intro bk))) | refine walk1 ?_)
   exact rtB
  | true =>
   by_cases h5 : 59 < xd
   ·have g1 : decide (59 < xd) = true := decide_eq_true h5
    rw [if_pos ⟨rfl, h5⟩]
    repeat (first | refine und ?_ | (apply RL_pu; rfl; exact PuFtM1) | (refine js ?_; (first | (refine callE hd ?_) | (refine callE (fun w' _ => hlp w') ?_) | (refine bx ?_; intro bk))) | refine walk1 ?_)
    exact rtB
   ·have g1 : decide (59 < xd) = false := decide_eq_false h5
    rw [if_neg (fun h => h5 h.2)]
    repeat (first | refine und ?_ | (apply RL_pu; rfl; exact PuFtM1) | (refine js ?_; (first | (refine callE hd ?_) | (refine callE (fun w' _ => hlp w') ?_) | (refine bx ?_; intro bk))) | refine walk1 ?_)
    exact rtB
 ·have k1 : decide (xk = 1) = false := decide_eq_false hk
  rw [if_neg hk]
  have hon := fun (d : DDay) w' (hw : Bel w.heap.size w w') => on_spec y xm d w' (hG.up hw)
  show Does _ _ [.agg #[.int .i64 xk, .int .i64 xd, .int .i64 xm, .int .i64 xw, .int .i64 xs], .int .i64 y] w _
  by_cases h5 : xw = 5
  ·have w5 : decide (xw = 5) = true := decide_eq_true h5
   rw [if_pos h5]
   have hon2 := hon ⟨2, xd, 0⟩
   generalize onD y xm ⟨2, xd, 0⟩ = o at *
   obtain ⟨o1, o2⟩ := o
   by_cases hk3 : xk = 3
   ·have k3 : decide (xk = 3) = true := decide_eq_true hk3
    refine Does_of_W Tryz.func28 rfl rfl rfl rfl ?_
    repeat (first | refine wkFtM0 ?_ | (refine js ?_; (refine bx ?_; intro bk)))
    exact ret_2 _ _ [] (.tmp rfl) (.tmp rfl) .nil ⟨by rw [k3, Bool.true_and], rfl⟩
   ·have k3 : decide (xk = 3) = false := decide_eq_false hk3
    refine Does_of_W Tryz.func28 rfl rfl rfl rfl ?_
    repeat (first | refine wkFtM0 ?_ | (refine js ?_; (refine bx ?_; intro bk)))
    exact ret_2 _ _ [] (.tmp rfl) (.tmp rfl) .nil ⟨by rw [k3, Bool.false_and], rfl⟩
  ·have w5 : decide (xw = 5) = false := decide_eq_false h5
   rw [if_neg h5]
   have hon2 := hon ⟨3, xd, 7 * xw - 6⟩
   generalize onD y xm ⟨3, xd, 7 * xw - 6⟩ = o at *
   obtain ⟨o1, o2⟩ := o
   by_cases hk3 : xk = 3
   ·have k3 : decide (xk = 3) = true := decide_eq_true hk3
    refine Does_of_W Tryz.func28 rfl rfl rfl rfl ?_
    repeat (first | refine wkFtM0 ?_ | (refine js ?_; (refine bx ?_; intro bk)))
    exact ret_2 _ _ [] (.tmp rfl) (.tmp rfl) .nil ⟨by rw [k3, Bool.true_and], rfl⟩
   ·have k3 : decide (xk = 3) = false := decide_eq_false hk3
    refine Does_of_W Tryz.func28 rfl rfl rfl rfl ?_
    repeat (first | refine wkFtM0 ?_ | (refine js ?_; (refine bx ?_; intro bk)))
    exact ret_2 _ _ [] (.tmp rfl) (.tmp rfl) .nil ⟨by rw [k3, Bool.false_and], rfl⟩
end Go.Proofs.YtonjepladadmhaaGreatDoor
namespace Go.Wk
open Go Go.RowKit
def beIn (least nominal : Int) (r : DRule) (i y : Int) : Nat → Option DEvent
 | 0 => none
 | k + 1 => match onR least r i y with
  | some e => if e.nominal < nominal then some e else beIn least nominal r i (y - 1) k
  | none => beIn least nominal r i (y - 1) k
def befGo (least nominal yr : Int) : List DRule → Nat → Option DEvent → Option DEvent
 | [], _, best => best
 | r :: l, i, best =>
  befGo least nominal yr l (i + 1) (match beIn least nominal r i (min (lastY r) (yr + 2)) 20 with
   | none => best
   | some e => match best with | none => some e | some b => if ordE b e < 0 then some e else some b)
def befD (l : List DRule) (nominal : Int) : Option DEvent := befGo (leastD l) nominal (yearOf nominal) l 0 none
def fiIn (least : Int) (r : DRule) (i y : Int) : Nat → Option DEvent
 | 0 => none
 | k + 1 => match onR least r i y with
  | some e => some e
  | none => fiIn least r i (y + 1) k
def firL (least : Int) : List DRule → Nat → List DEvent
 | [], _ => []
 | r :: l, i => (fiIn least r i (max r.from_ (-2000000000)) 9).toList ++ firL least l (i + 1)
def dR0 : DRule := ⟨ByteArray.empty, 0, 0, 0, ⟨0, 0, 0⟩, ⟨0, 0⟩, 0, ByteArray.empty⟩
def ruE (l : List DRule) (e : DEvent) : DRule := l.getD e.rule.toNat dR0
def fstB (l : List DRule) (all : Bool) (but : Int) (best : Option DEvent) (e : DEvent) : Option DEvent :=
 if (!all && decide ((ruE l e).save = but)) || (match best with | some b => decide (b.nominal ≤ e.nominal) | none => false) then best else some e
def fstD (l : List DRule) (all : Bool) (but : Int) : Option DEvent := (firL (leastD l) l 0).foldl (fstB l all but) none
def behS (l : List DRule) (e : DEvent) : Int × ByteArray := ((ruE l e).save, (ruE l e).letter)
def iniS (l : List DRule) : Int × ByteArray :=
 match fstD l true 0 with
 | none => (0, ByteArray.empty)
 | some e => match fstD l false (ruE l e).save with
  | some o => behS l o
  | none => behS l e
def befS (l : List DRule) (nominal : Int) : Int × ByteArray :=
 match befD l nominal with
 | some e => behS l e
 | none => iniS l
def instE (l : List DRule) (e : DEvent) (off : Int) : Int :=
 if (ruE l e).at_.base = 1 then e.nominal - max (leastD l) (-10800) - off
 else if (ruE l e).at_.base = 0 then e.nominal - (befS l e.nominal).1 - off
 else e.nominal
end Go.Wk
namespace Go.Proofs.YtonjepladadmhaaGreatDoor
open Go Go.RowKit Go.Wk
attribute [local irreducible] W RL Does thenQ blockQ retQ Calls Pu Stp RD Qy Ay DoesIn
theorem PuBfA0 {G : Prop} (h : G := by (first | exact PuI | (apply Pu_loadO1; rfl; first | exact c1 0 _ rfl | exact c2 0 _ rfl | exact c3 0 _ rfl) | (apply Pu_minK; rfl; rfl; exact hmn))) : G := h
theorem QyBfA0 {G : Prop} (h : G := by first | (apply Qy_y; rfl; exact PuBfA0) | exact QyA) : G := h
theorem QFBfA0 {G : Prop} (h : G := by repeat (first | exact QF.nil | (apply QF.mk; rfl; rfl; decide +kernel; exact QyBfA0))) : G := h
theorem PuBfA1 {G : Prop} (h : G := by (apply Pu_loadO1; rfl; first | exact c1 0 _ rfl | exact c2 0 _ rfl | exact c3 0 _ rfl)) : G := h
theorem QyBfA1 {G : Prop} (h : G := by first | (apply Qy_y; rfl; exact PuBfA1) | exact QyA) : G := h
theorem QFBfA1 {G : Prop} (h : G := by repeat (first | exact QF.nil | (apply QF.mk; rfl; rfl; decide +kernel; exact QyBfA1))) : G := h
theorem before1_spec (A : Option Addr) (c : Nat) (l : List DRule) (i : Nat) (r : DRule) (yr nominal : Int) (b1 b2 b3 : Nat) (w : World) (hG : Glob w) (hA : RdSl w A c DRule.enc 11 l) (hi : l[i]? = some r) (hn : l.length ≤ 1000000) (hR : ∀ r ∈ l, -4611686018427387904 ≤ r.save ∧ r.save ≤ 4611686018427387904)
  (hy : -2000000000 ≤ yr ∧ yr ≤ 2000000000) (hf : -4611686018427387904 ≤ r.to) (c1 : CellsAt w ⟨b1, 0, none⟩ [.slice A l.length c]) (c2 : CellsAt w ⟨b2, 0, none⟩ [.int .i64 yr]) (c3 : CellsAt w ⟨b3, 0, none⟩ [.int .i64 nominal]) :
  Does Tryz.prog 117 [.int .i64 i, .pointer (some ⟨b1, 0, none⟩), .pointer (some ⟨b2, 0, none⟩), .pointer (some ⟨b3, 0, none⟩)] w (fun v O => v = .tuple #[evV (beIn (leastD l) nominal r i (min (lastY r) (yr + 2)) 20), .bool (beIn (leastD l) nominal r i (min (lastY r) (yr + 2)) 20).isSome] ∧ O = []) := by
 have hlt : i < l.length := (List.getElem?_eq_some_iff.1 hi).1
 obtain ⟨y0, hy0⟩ : ∃ y0, min (lastY r) (yr + 2) = y0 := ⟨_, rfl⟩
 have hlb : -4611686018427387904 ≤ lastY r ∧ lastY r ≤ 2000000000 := by
  unfold lastY
  split <;> omega
 have hyb : -4611686018427387904 ≤ y0 ∧ y0 ≤ 2000000002 := by omega
 have hmn : (if yr + 2 < lastY r then yr + 2 else lastY r) = y0 := by rw [← hy0]; split <;> omega
 have hla := fun w' => lastY_spec r w'
 rw [hy0]
 obtain ⟨res, hres⟩ : ∃ res, beIn (leastD l) nominal r i y0 20 = res := ⟨_, rfl⟩
 rw [hres]
 have hon := fun y w' (hw : Bel w.heap.size w w') => evOn_spec A c l i y r w' (hG.up hw) (hA.up hw) hi hn hR
 obtain ⟨hna, hca⟩ := hA.rd i _ hi
 generalize leastD l = least at *
 generalize lastY r = ly at *
 clear hy0
 obtain ⟨nm, fr, to, mo, ⟨dk, dw, dd⟩, ⟨cs, cb⟩, sv, le⟩ := r
 change CellsAt w _ [.string nm, .int .i64 fr, .int .i64 to, .int .i64 mo, .int .i64 dk, .int .i64 dw, .int .i64 dd, .int .i64 cs, .int .i64 cb, .int .i64 sv, .string le] at hca
 refine Does_of_W Tryz.func117 rfl rfl rfl rfl ?_
 repeat (first | (apply RL_pu; rfl; exact PuBfA0) | (apply RD_Q; rfl; rfl; decide +kernel; rfl; rfl; exact QyBfA0) | refine walk1 ?_ | (refine jg ?_; (try intro F); (first | (refine callE (fun w' _ => hla w') ?_) | (refine bx ?_; intro bk) | (refine stA ?_)); first | refine ⟨_, EndsA, QFBfA0, ?_⟩ | refine fin ?_) | (refine jn ?_; (try intro F); (first | (refine bx ?_; intro bk) | (refine stA ?_) | (apply Stp_pu; first | exact PuBfA0 | exact PuA)); first | refine ⟨_, EndsA, QFBfA0, ?_⟩ | refine fin ?_) | (apply RD_W; rfl; intro bk))
 refine W_loopF [(0, .int .i64 i), (1, .pointer (some ⟨b1, 0, none⟩)), (2, .pointer (some ⟨b2, 0, none⟩)), (3, .pointer (some ⟨b3, 0, none⟩)), (7, .int .i64 y0), (5, .pointer (some ⟨bk, 0, none⟩))] [.blk bk [.int .i64 0, .int .i64 0, .int .i64 0] 84] (fun j : Nat => [(19, .int .i64 j)]) (fun _ => []) (fun j => j ≤ 20 ∧ beIn least nominal ⟨nm, fr, to, mo, ⟨dk, dw, dd⟩, ⟨cs, cb⟩, sv, le⟩ i (y0 - j) (20 - j) = res) (fun j => 20 - j) 0 SFA SOA ⟨Nat.zero_le _, by simpa using hres⟩ ?_
 rintro j ⟨hj, hi2⟩
 repeat (first | refine walk ?_ | (refine jn ?_; (try intro F); (first | (refine bx ?_; intro bk) | (refine stA ?_) | (apply Stp_pu; exact PuA)); refine fin ?_) | (apply RD_W; rfl; intro bk))
 refine W_cond rfl (fun h => ?_) (fun h => ?_)
 ·have hj20 : j < 20 := by have := of_decide_eq_true h; omega
  rw [show 20 - j = (19 - j) + 1 by omega, beIn] at hi2
  have ho := hon (y0 - j)
  generalize onR least _ i (y0 - j) = o at *
  cases o with
  | none =>
   simp only [evV, DEvent.enc, dEv0, Option.isSome] at ho
   repeat (first | (apply RL_pu; rfl; exact PuBfA1) | (apply RD_Q; rfl; rfl; decide +kernel; rfl; rfl; exact QyBfA1) | refine walk1 ?_ | (refine jg ?_; (try intro F); (first | (refine callE ho ?_) | (refine bx ?_; intro bk) | (refine stA ?_)); first | refine ⟨_, EndsA, QFBfA1, ?_⟩ | refine fin ?_) | (refine jn ?_; (try intro F); (first | (refine bx ?_; intro bk) | (refine stA ?_) | (apply Stp_pu; first | exact PuBfA1 | exact PuA)); first | refine ⟨_, EndsA, QFBfA1, ?_⟩ | refine fin ?_) | (apply RD_W; rfl; intro bk))
   exact ⟨j + 1, OA, ⟨OA, by rw [show 20 - (j + 1) = 19 - j by omega, show y0 - ((j + 1 : Nat) : Int) = y0 - j - 1 by omega]; exact hi2⟩, SFA, SOA⟩
  | some e =>
   obtain ⟨ey, er, en⟩ := e
   simp only [evV, DEvent.enc, Option.isSome] at ho hi2
   repeat (first | (apply RL_pu; rfl; exact PuBfA1) | (apply RD_Q; rfl; rfl; decide +kernel; rfl; rfl; exact QyBfA1) | refine walk1 ?_ | (refine jg ?_; (try intro F); (first | (refine callE ho ?_) | (refine bx ?_; intro bk) | (refine stA ?_)); first | refine ⟨_, EndsA, QFBfA1, ?_⟩ | refine fin ?_) | (refine jn ?_; (try intro F); (first | (refine bx ?_; intro bk) | (refine stA ?_) | (apply Stp_pu; first | exact PuBfA1 | exact PuA)); first | refine ⟨_, EndsA, QFBfA1, ?_⟩ | refine fin ?_) | (apply RD_W; rfl; intro bk))
   refine W_cond rfl (fun h2 => ?_) (fun h2 => ?_)
   ·rw [if_pos (of_decide_eq_true h2)] at hi2
    subst hi2
    repeat (first | refine walk ?_ | (refine jn ?_; (try intro F); (first | (refine bx ?_; intro bk) | (refine stA ?_) | (apply Stp_pu; exact PuA)); refine fin ?_) | (apply RD_W; rfl; intro bk))
    exact rtC
   ·rw [if_neg (of_decide_eq_false h2)] at hi2
    repeat (first | refine walk ?_ | (refine jn ?_; (try intro F); (first | (refine bx ?_; intro bk) | (refine stA ?_) | (apply Stp_pu; exact PuA)); refine fin ?_) | (apply RD_W; rfl; intro bk))
    exact ⟨j + 1, OA, ⟨OA, by rw [show 20 - (j + 1) = 19 - j by omega, show y0 - ((j + 1 : Nat) : Int) = y0 - j - 1 by omega]; exact hi2⟩, SFA, SOA⟩
 ·obtain rfl : j = 20 := by have := of_decide_eq_false h; omega
  obtain rfl : none = res := by rw [← hi2]; rfl
  repeat (first | refine walk ?_ | (refine jn ?_; (try intro F); (first | (refine bx ?_; intro bk) | (refine stA ?_) | (apply Stp_pu; exact PuA)); refine fin ?_) | (apply RD_W; rfl; intro bk))
  exact rtC
theorem before2_spec (a b : DEvent) (w : World) : Does Tryz.prog 118 [.agg (DEvent.enc a).toArray, .agg (DEvent.enc b).toArray] w (fun v O => v = .int .i64 (ordE b a) ∧ O = []) := by
 have h := fun w' => order_spec b a w'
 obtain ⟨y, r, n⟩ := a
 obtain ⟨y2, r2, n2⟩ := b
 show Does _ _ [.agg #[.int .i64 y, .int .i64 r, .int .i64 n], .agg #[.int .i64 y2, .int .i64 r2, .int .i64 n2]] w _
 refine Does_of_W Tryz.func118 rfl rfl rfl rfl ?_
 repeat (first | (refine js ?_; (first | (refine callE (fun w' _ => h w') ?_) | (refine bx ?_; intro bk))) | refine walk ?_)
 exact rtA
theorem bestB_spec (A : Option Addr) (c : Nat) (l : List DRule) (yr nominal : Int) (b1 b2 b3 : Nat) (w : World) (hG : Glob w) (hA : RdSl w A c DRule.enc 11 l) (hn : l.length ≤ 1000000) (hR : ∀ r ∈ l, (-4611686018427387904 ≤ r.save ∧ r.save ≤ 4611686018427387904) ∧ (r.from_ ≤ 4611686018427387904 ∧ -4611686018427387904 ≤ r.to))
  (hy : -2000000000 ≤ yr ∧ yr ≤ 2000000000) (c1 : CellsAt w ⟨b1, 0, none⟩ [.slice A l.length c]) (c2 : CellsAt w ⟨b2, 0, none⟩ [.int .i64 yr]) (c3 : CellsAt w ⟨b3, 0, none⟩ [.int .i64 nominal]) :
  Does Tryz.prog 83 [.slice A l.length c, .func (.func 117) #[] #[.pointer (some ⟨b1, 0, none⟩), .pointer (some ⟨b2, 0, none⟩), .pointer (some ⟨b3, 0, none⟩)], .func (.func 118) #[] #[]] w
   (fun v O => v = .tuple #[evV (befGo (leastD l) nominal yr l 0 none), .bool (befGo (leastD l) nominal yr l 0 none).isSome] ∧ O = []) := by
 have haf := fun (i : Nat) r (hi : l[i]? = some r) w' (hw : Bel w.heap.size w w') => before1_spec A c l i r yr nominal b1 b2 b3 w' (hG.up hw) (hA.up hw) hi hn (fun r hr => (hR r hr).1) hy (hR r (List.mem_of_getElem? hi)).2.2 (c1.up hw (Nat.le_refl _)) (c2.up hw (Nat.le_refl _)) (c3.up hw (Nat.le_refl _))
 obtain ⟨res, hres⟩ : ∃ res, befGo (leastD l) nominal yr l 0 none = res := ⟨_, rfl⟩
 rw [hres]
 generalize leastD l = least at *
 clear hA hR c1 c2 c3
 refine Does_of_W Tryz.func83 rfl rfl rfl rfl ?_
 repeat (first | (refine js ?_; (refine bx ?_; intro bk)) | refine walk ?_)
 rename_i b6
 refine W_loopF [(13, .slice A l.length c), (1, .func (.func 117) #[] #[.pointer (some ⟨b1, 0, none⟩), .pointer (some ⟨b2, 0, none⟩), .pointer (some ⟨b3, 0, none⟩)]), (2, .func (.func 118) #[] #[]), (8, .pointer (some ⟨bk, 0, none⟩)), (6, .pointer (some ⟨b6, 0, none⟩)), (14, .int .i64 l.length)] [.blk b6 [.int .i64 0, .int .i64 0, .int .i64 0] 84]
  (fun g : BG => [(15, .int .i64 g.k), (9, .bool g.b.isSome)]) (fun g => [.blk bk (evC g.b) 84]) (fun g => g.k ≤ l.length ∧ befGo least nominal yr (l.drop g.k) g.k g.b = res) (fun g => l.length - g.k) ⟨0, none⟩ SFA SOA ⟨Nat.zero_le _, hres⟩ ?_
 rintro ⟨k, b⟩ ⟨hk, hi⟩
 dsimp only at hk hi ⊢
 repeat (first | (refine js ?_; (refine bx ?_; intro bk)) | refine walk ?_)
 refine W_cond rfl (fun h => ?_) (fun h => ?_)
 ·have hlt : k < l.length := by simpa using h
  have ho := haf k _ (List.getElem?_eq_getElem hlt)
  rw [drop_cons hlt, befGo] at hi
  generalize beIn least nominal l[k] k (min (lastY l[k]) (yr + 2)) 20 = o at *
  have hord := fun e e2 w' => before2_spec e e2 w'
  rcases o with _ | ⟨ey, er, en⟩ <;> rcases b with _ | ⟨by_, br, bn⟩ <;> simp only [evV, evC, DEvent.enc, dEv0, Option.isSome] at ho hi ⊢
  ·repeat (first | refine und ?_ | (refine js ?_; (first | (apply Stp_callV (f := 117) (us := []) (vs := [.int .i64 k]) (cs := [.pointer (some ⟨b1, 0, none⟩), .pointer (some ⟨b2, 0, none⟩), .pointer (some ⟨b3, 0, none⟩)]) (h := fun w' hw _ => ho w' hw); rfl; rfl; rintro v O' ⟨rfl, rfl⟩) | (refine bx ?_; intro bk))) | refine walk ?_)
   exact ⟨⟨k + 1, none⟩, OA, ⟨OA, hi⟩, SFA, SOA⟩
  ·repeat (first | refine und ?_ | (refine js ?_; (first | (apply Stp_callV (f := 117) (us := []) (vs := [.int .i64 k]) (cs := [.pointer (some ⟨b1, 0, none⟩), .pointer (some ⟨b2, 0, none⟩), .pointer (some ⟨b3, 0, none⟩)]) (h := fun w' hw _ => ho w' hw); rfl; rfl; rintro v O' ⟨rfl, rfl⟩) | (refine bx ?_; intro bk))) | refine walk ?_)
   exact ⟨⟨k + 1, some ⟨by_, br, bn⟩⟩, OA, ⟨OA, hi⟩, SFA, SOA⟩
  ·repeat (first | refine und ?_ | (refine js ?_; (first | (apply Stp_callV (f := 117) (us := []) (vs := [.int .i64 k]) (cs := [.pointer (some ⟨b1, 0, none⟩), .pointer (some ⟨b2, 0, none⟩), .pointer (some ⟨b3, 0, none⟩)]) (h := fun w' hw _ => ho w' hw); rfl; rfl; rintro v O' ⟨rfl, rfl⟩) | (refine bx ?_; intro bk))) | refine walk ?_)
   exact ⟨⟨k + 1, some ⟨ey, er, en⟩⟩, OA, ⟨OA, hi⟩, SFA, SOA⟩
  ·repeat (first | refine und ?_ | (refine js ?_; (first | (apply Stp_callV (f := 117) (us := []) (vs := [.int .i64 k]) (cs := [.pointer (some ⟨b1, 0, none⟩), .pointer (some ⟨b2, 0, none⟩), .pointer (some ⟨b3, 0, none⟩)]) (h := fun w' hw _ => ho w' hw); rfl; rfl; rintro v O' ⟨rfl, rfl⟩) | (apply Stp_callV (f := 118) (us := []) (cs := []) (vs := [.agg #[.int .i64 ey, .int .i64 er, .int .i64 en], .agg #[.int .i64 by_, .int .i64 br, .int .i64 bn]]) (h := fun w' hw _ => hord ⟨ey, er, en⟩ ⟨by_, br, bn⟩ w'); rfl; rfl; rintro v O' ⟨rfl, rfl⟩) | (refine bx ?_; intro bk))) | refine walk ?_)
   refine W_cond rfl (fun h2 => ?_) (fun h2 => ?_)
   ·rw [if_pos (of_decide_eq_true h2)] at hi
    repeat (first | (refine js ?_; (refine bx ?_; intro bk)) | refine walk ?_)
    exact ⟨⟨k + 1, some ⟨ey, er, en⟩⟩, OA, ⟨OA, hi⟩, SFA, SOA⟩
   ·rw [if_neg (of_decide_eq_false h2)] at hi
    repeat (first | (refine js ?_; (refine bx ?_; intro bk)) | refine walk ?_)
    exact ⟨⟨k + 1, some ⟨by_, br, bn⟩⟩, OA, ⟨OA, hi⟩, SFA, SOA⟩
 ·obtain rfl : k = l.length := by have := of_decide_eq_false h; omega
  rw [List.drop_length, befGo] at hi
  subst hi
  rcases b with _ | ⟨by_, br, bn⟩ <;> simp only [evC, DEvent.enc, dEv0]
  ·repeat (first | (refine js ?_; (refine bx ?_; intro bk)) | refine walk ?_)
   exact rtC
  ·repeat (first | (refine js ?_; (refine bx ?_; intro bk)) | refine walk ?_)
   exact rtC
def RsOkB (l : List DRule) : Prop := ∀ r ∈ l, (-4611686018427387904 ≤ r.save ∧ r.save ≤ 4611686018427387904) ∧ (r.from_ ≤ 4611686018427387904 ∧ -4611686018427387904 ≤ r.to)
theorem evBefore_spec (A : Option Addr) (c : Nat) (l : List DRule) (nominal : Int) (w : World) (hG : Glob w) (hA : RdSl w A c DRule.enc 11 l) (hn : l.length ≤ 1000000) (hR : RsOkB l) (ht : -4611686018427387904 ≤ nominal ∧ nominal ≤ 4611686018427387904) :
  Does Tryz.prog 61 [.slice A l.length c, .int .i64 nominal] w (fun v O => v = .tuple #[evV (befD l nominal), .bool (befD l nominal).isSome] ∧ O = []) := by
 have hb := fun (b1 b2 b3 : Nat) w' (hw : Bel w.heap.size w w') c1 c2 c3 => bestB_spec A c l (yearOf nominal) nominal b1 b2 b3 w' (hG.up hw) (hA.up hw) hn hR (yearOf_bd nominal) c1 c2 c3
 change ∀ (b1 b2 b3 : Nat) w' (hw : Bel w.heap.size w w') c1 c2 c3, Does _ _ _ w' (fun v O => v = .tuple #[evV (befD l nominal), .bool (befD l nominal).isSome] ∧ O = []) at hb
 have hyr := fun w' (hw : Bel w.heap.size w w') => year_spec nominal ht w' (hG.up hw)
 generalize befD l nominal = res at *
 generalize yearOf nominal = yr at *
 refine Does_of_W Tryz.func61 rfl rfl rfl rfl ?_
 rcases res with _ | ⟨ey, er, en⟩ <;> simp only [evV, DEvent.enc, dEv0, Option.isSome] at hb ⊢
 ·repeat (first | (refine js ?_; (first | (refine callE hyr ?_) | (apply Stp_call (h := fun w' hw hH => hb _ _ _ w' hw (hH.cells (by repeat' constructor)) (hH.cells (by repeat' constructor)) (hH.cells (by repeat' constructor))); rfl; rintro v O' ⟨rfl, rfl⟩) | (refine bx ?_; intro bk))) | refine walk ?_)
  exact rtC
 ·repeat (first | (refine js ?_; (first | (refine callE hyr ?_) | (apply Stp_call (h := fun w' hw hH => hb _ _ _ w' hw (hH.cells (by repeat' constructor)) (hH.cells (by repeat' constructor)) (hH.cells (by repeat' constructor))); rfl; rintro v O' ⟨rfl, rfl⟩) | (refine bx ?_; intro bk))) | refine walk ?_)
  exact rtC
theorem ruE_at {l : List DRule} {e : DEvent} {r : DRule} (h : l[e.rule.toNat]? = some r) : ruE l e = r := by
 unfold ruE
 rw [List.getD_eq_getElem?_getD, h]; rfl
def stV (x : Int × ByteArray) : Value := .agg #[.int .i64 x.1, .string x.2]
theorem PuStB0 {G : Prop} (h : G := by (first | exact PuI | (apply Pu_loadO1; rfl; first | exact hca 9 _ rfl | exact hca 10 _ rfl))) : G := h
theorem QyStB0 {G : Prop} (h : G := by first | (apply Qy_y; rfl; exact PuStB0) | exact QyA) : G := h
theorem QFStB0 {G : Prop} (h : G := by repeat (first | exact QF.nil | (apply QF.mk; rfl; rfl; decide +kernel; exact QyStB0))) : G := h
theorem behind_spec19 (A : Option Addr) (c : Nat) (l : List DRule) (e : DEvent) (w : World) (hA : RdSl w A c DRule.enc 11 l) (he : 0 ≤ e.rule ∧ e.rule < l.length) :
  Does Tryz.prog 68 [.slice A l.length c, .agg e.enc.toArray] w (fun v O => v = stV (behS l e) ∧ O = []) := by
 obtain ⟨r, hr⟩ : ∃ r, l[e.rule.toNat]? = some r := ⟨_, List.getElem?_eq_getElem (by omega)⟩
 have hle := hA.le
 have hcp := hA.cap
 simp only [maxLen] at hcp
 unfold behS
 rw [ruE_at hr]
 obtain ⟨hna, hca⟩ := hA.rd _ _ hr
 obtain ⟨y, q, n⟩ := e
 dsimp only at he hr hca
 show Does _ _ [_, .agg #[.int .i64 y, .int .i64 q, .int .i64 n]] w _
 refine Does_of_W Tryz.func68 rfl rfl rfl rfl ?_
 repeat (first | (apply RL_pu; rfl; exact PuStB0) | (apply RD_Q; rfl; rfl; decide +kernel; rfl; rfl; exact QyStB0) | refine walk1 ?_ | (refine jn ?_; (try intro F); (first | (refine bx ?_; intro bk) | (refine stA ?_) | (apply Stp_pu; first | exact PuStB0 | exact PuA)); first | refine ⟨_, EndsA, QFStB0, ?_⟩ | refine fin ?_) | (apply RD_W; rfl; intro bk))
 exact ret_1 _ [] (.cellB rfl (by repeat' constructor) rfl rfl) .nil ⟨rfl, rfl⟩
theorem base19_spec (A : Option Addr) (c : Nat) (l : List DRule) (w : World) (hA : RdSl w A c DRule.enc 11 l) : Does Tryz.prog 74 [.slice A l.length c] w (fun v O => v = .int .i64 (max (leastD l) (-10800)) ∧ O = []) := by
 have hle := hA.le
 have hcp := hA.cap
 unfold maxLen at hcp
 generalize hres : leastD l = res
 unfold leastD at hres
 have hmx : (if res < -10800 then -10800 else res) = max res (-10800) := by split <;> omega
 refine Does_of_W Tryz.func74 rfl rfl rfl rfl ?_
 repeat (first | (refine js ?_; (refine bx ?_; intro bk)) | refine walk ?_)
 refine W_loopF [(6, _), (7, _)] [] (fun g : Nat × Int => [(3, .int .i64 g.2), (8, .int .i64 g.1)]) (fun _ => []) (fun g => g.1 ≤ l.length ∧ (l.drop g.1).foldl (fun m r => min m r.save) g.2 = res) (fun g => l.length - g.1) (0, 0) SFA SOA ⟨Nat.zero_le _, hres⟩ ?_
 rintro ⟨k, m⟩ ⟨hk, hi⟩
 dsimp only at hk hi ⊢
 repeat (first | (refine js ?_; (refine bx ?_; intro bk)) | refine walk ?_)
 refine W_cond rfl (fun h => ?_) (fun h => ?_)
 ·have hlt : k < l.length := by simpa using h
  obtain ⟨hna, hca⟩ := hA.rd k _ (List.getElem?_eq_getElem hlt)
  rw [drop_cons hlt] at hi
  generalize l[k] = r at *
  obtain ⟨nm, fr, to, mo, ⟨dk, dw, dd⟩, ⟨cs, cb⟩, sv, le⟩ := r
  simp only [DRule.enc, List.foldl_cons] at hca hi
  repeat (first | (apply RL_pu; rfl; (first | exact PuI | (apply Pu_minI; rfl; rfl))) | (refine js ?_; (refine bx ?_; intro bk)) | refine walk1 ?_)
  rw [show (if sv < m then sv else m) = min m sv by split <;> omega]
  exact ⟨(k + 1, min m sv), OA, ⟨OA, hi⟩, SFA, .nil⟩
 ·have hkl : k = l.length := by
   have := of_decide_eq_false h
   omega
  subst hkl
  rw [List.drop_length] at hi
  obtain rfl : m = res := hi
  repeat (first | (apply RL_pu; rfl; (apply Pu_maxK; rfl; rfl; exact hmx)) | (refine js ?_; (refine bx ?_; intro bk)) | refine walk1 ?_)
  exact rtA
theorem PuStB3 {G : Prop} (h : G := by (first | (apply Pu_lssB; rfl; rfl; exact b1) | (apply Pu_gtrB; rfl; rfl; exact b2))) : G := h
theorem sub_spec (a b : Int) (ha : -4000000000000000000 ≤ a ∧ a ≤ 4000000000000000000) (hb : -4000000000000000000 ≤ b ∧ b ≤ 4000000000000000000) (w : World) : Does Tryz.prog 73 [.int .i64 a, .int .i64 b] w (fun v O => v = .tuple #[.int .i64 (a - b), .bool true] ∧ O = []) := by
 refine Does_of_W Tryz.func73 rfl rfl rfl rfl ?_
 by_cases h : 0 < b
 ·have b1 : decide (a - b < a) = true := decide_eq_true (by omega)
  have b2 : decide (0 < b) = true := decide_eq_true h
  repeat (first | refine und ?_ | (apply RL_pu; rfl; exact PuStB3) | refine walk1 ?_)
  exact rtB
 ·have b1 : decide (a - b < a) = false := decide_eq_false (by omega)
  have b2 : decide (0 < b) = false := decide_eq_false h
  repeat (first | refine und ?_ | (apply RL_pu; rfl; exact PuStB3) | refine walk1 ?_)
  exact rtB
theorem inst1_spec (Z : It) (x t : Int) (b7 b8 : Nat) (wr : World) (hx : -2000000000000000000 ≤ x ∧ x ≤ 2000000000000000000) (ht : -2000000000000000000 ≤ t ∧ t ≤ 2000000000000000000) :
  DoesIn Tryz.prog 72 [.int .i64 x, .pointer (some ⟨b7, 0, none⟩), .pointer (some ⟨b8, 0, none⟩)] wr [Z, .blk b7 [.int .i64 t] 2, .blk b8 [.bool true] 4] (fun v O' => v = .tuple #[] ∧ O' = [Z, .blk b7 [.int .i64 (t - x)] 2, .blk b8 [.bool true] 4]) := by
 have hs := fun w' => sub_spec t x (by omega) (by omega) w'
 refine DoesIn_of_W Tryz.func72 rfl rfl rfl rfl ?_
 repeat (first | (refine js ?_; (refine callE (fun w' _ => hs w') ?_)) | refine walk ?_)
 exact ret_0 [Z, .blk b7 [.int .i64 (t - x)] 2, .blk b8 [.bool true] 4] SOA ⟨rfl, rfl⟩
end Go.Proofs.YtonjepladadmhaaGreatDoor
