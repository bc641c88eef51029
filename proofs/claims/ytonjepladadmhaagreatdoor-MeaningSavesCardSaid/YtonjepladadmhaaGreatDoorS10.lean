/- Contracts: civil. Contracts: dayform, clock. -/
import Derived.Test.YtonjepladadmhaaGreatDoorS09
set_option maxHeartbeats 4000000
set_option linter.unusedVariables false
set_option linter.unusedSimpArgs false
namespace Go.Proofs.YtonjepladadmhaaGreatDoor
open Go Go.RowKit Go.Wk
attribute [local irreducible] W RL Does thenQ blockQ retQ Calls Pu Stp RD Qy Ay DoesIn
theorem civIn_spec (y : Int) (w : World) : Does Tryz.prog 122 [.int .i64 y] w (fun v O => v = .bool (inY y) ∧ O = []) := by
 refine Does_of_W Tryz.func122 rfl rfl rfl rfl ?_
 repeat' (first | refine walk ?_ | refine und ?_ | (refine RL_gsplit rfl rfl rfl (fun hc => ?_) (fun hc => ?_)) | (refine RD_gsplit rfl rfl rfl (fun hc => ?_) (fun hc => ?_)) | (refine W_cond rfl (fun hc => ?_) (fun hc => ?_)))
 all_goals first | (refine ret_1 _ [] (.tmp rfl) .nil ⟨?_, rfl⟩; first | rfl | (simp only [*, Bool.true_and, Bool.false_and, Bool.true_or, Bool.false_or, Bool.not_true, Bool.not_false]; done) | (simp_all [inY]; done) | (simp_all [inY]; omega) | (simp_all [inY]; rw [Bool.eq_iff_iff]; simp; omega)) | (exfalso; simp_all [inY]; done) | (exfalso; simp_all [inY]; omega) | (exfalso; omega)
theorem PuCivil0 {G : Prop} (h : G := by (apply Pu_rem; rfl; rfl; decide)) : G := h
theorem leap_spec (y : Int) (w : World) : Does Tryz.prog 71 [.int .i64 y] w (fun v O => v = .bool (leapB y) ∧ O = []) := by
 rw [show leapB y = (decide (y.tmod 4 = 0) && (!decide (y.tmod 100 = 0) || decide (y.tmod 400 = 0))) by simp only [leapB, tmod_zero]]
 refine Does_of_W Tryz.func71 rfl rfl rfl rfl ?_
 repeat' (first | (apply RL_pu; rfl; exact PuCivil0) | refine walk1 ?_ | refine und ?_ | (refine RL_gsplit rfl rfl rfl (fun hc => ?_) (fun hc => ?_)) | (refine RD_gsplit rfl rfl rfl (fun hc => ?_) (fun hc => ?_)) | (refine W_cond rfl (fun hc => ?_) (fun hc => ?_)))
 all_goals exact clo1
theorem len_spec (y m : Int) (w : World) : Does Tryz.prog 120 [.int .i64 y, .int .i64 m] w (fun v O => v = .int .i64 (lenM y m) ∧ O = []) := by
 refine Does_of_W Tryz.func120 rfl rfl rfl rfl ?_
 repeat' (first | (refine js ?_; (refine callE (fun w' _ => leap_spec y w') ?_)) | refine walk ?_ | refine und ?_ | (refine RL_gsplit rfl rfl rfl (fun hc => ?_) (fun hc => ?_)) | (refine RD_gsplit rfl rfl rfl (fun hc => ?_) (fun hc => ?_)) | (refine W_cond rfl (fun hc => ?_) (fun hc => ?_)))
 all_goals first | (refine ret_1 _ [] (.tmp rfl) .nil ⟨?_, rfl⟩; first | rfl | (simp only [*, Bool.true_and, Bool.false_and, Bool.true_or, Bool.false_or, Bool.not_true, Bool.not_false]; done) | (simp_all [lenM]; done) | (simp_all [lenM]; omega) | (simp_all [lenM]; rw [Bool.eq_iff_iff]; simp; omega)) | (exfalso; simp_all [lenM]; done) | (exfalso; simp_all [lenM]; omega) | (exfalso; omega)
theorem PuCivil1 {G : Prop} (h : G := by (first | (apply Pu_quoT; rfl; rfl; omega; omega) | (apply Pu_rem; rfl; rfl; omega))) : G := h
theorem QyCivil1 {G : Prop} (h : G := by first | (apply Qy_y; rfl; exact PuCivil1) | exact QyA) : G := h
theorem QFCivil1 {G : Prop} (h : G := by repeat (first | exact QF.nil | (apply QF.mk; rfl; rfl; decide +kernel; exact QyCivil1))) : G := h
theorem split_spec (a b : Int) (h0 : 0 < b) (ha : -4611686018427387904 ≤ a ∧ a ≤ 4611686018427387904) (hb : b ≤ 4611686018427387904) (w : World) : Does Tryz.prog 123 [.int .i64 a, .int .i64 b] w (fun v O => v = .tuple #[.int .i64 (a / b), .int .i64 (a % b)] ∧ O = []) := by
 have h2 := Int.tmod_lt_of_pos a h0
 have h3 := Int.lt_tmod_of_pos a h0
 have h4 := tdiv_bd a b
 obtain ⟨h5, h6⟩ := split_eq a b h0
 refine Does_of_W Tryz.func123 rfl rfl rfl rfl ?_
 repeat' (first | (apply RL_pu; rfl; exact PuCivil1) | (apply RD_Q; rfl; rfl; decide +kernel; rfl; rfl; exact QyCivil1) | refine walk1 ?_ | (refine RD_Lw ?_; intro F; (apply Stp_pu; first | exact PuCivil1 | exact PuA); refine ⟨_, EndsA, QFCivil1, ?_⟩) | (refine W_cond rfl (fun hc => ?_) (fun hc => ?_)))
 ·obtain ⟨e1, e2⟩ := h5 (of_decide_eq_true hc)
  exact ret_2 _ _ [] (.tmp rfl) (.tmp rfl) .nil ⟨by rw [← e1, ← e2], rfl⟩
 ·obtain ⟨e1, e2⟩ := h6 (of_decide_eq_false hc)
  exact ret_2 _ _ [] (.tmp rfl) (.tmp rfl) .nil ⟨by rw [← e1, ← e2], rfl⟩
theorem wkday_spec (a : Int) (ha : -4611686018427387904 ≤ a ∧ a ≤ 4611686018427387904) (w : World) : Does Tryz.prog 294 [.int .i64 a] w (fun v O => v = .int .i64 (wkday a) ∧ O = []) := by
 have h2 := Int.tmod_lt_of_pos a (b := 7) (by decide)
 have h3 := Int.lt_tmod_of_pos a (b := 7) (by decide)
 refine Does_of_W Tryz.func294 rfl rfl rfl rfl ?_
 repeat (first | (apply RL_pu; rfl; exact PuCivil0) | (refine js ?_; (refine callE (fun w' _ => split_spec (a.tmod 7 + 4) 7 (by decide) (by omega) (by decide) w') ?_)) | refine walk1 ?_)
 refine ret_1 _ [] (.tmp rfl) .nil ⟨?_, rfl⟩
 have h := split_eq a 7 (by decide)
 have e : (a.tmod 7 + 4) % 7 = wkday a := by
  unfold wkday
  by_cases hn : a.tmod 7 < 0
  ·have := (h.1 hn).2
   omega
  ·have := (h.2 hn).2
   omega
 rw [e]
theorem bef_get {w : World} (hG : Glob w) (k : Nat) (hk : k < 12) : (beforeL.map fun n => Value.int .i64 n)[k * 1]? = some (.int .i64 (beforeL.getD k 0)) := by
 rw [Nat.mul_one, List.getElem?_map, List.getD_eq_getElem?_getD, List.getElem?_eq_getElem (show k < beforeL.length from hk)]
 rfl
theorem daysOk_bd {y m d : Int} (h : daysOk y m d = true) : (-2000000000 ≤ y ∧ y ≤ 2000000000) ∧ (1 ≤ m ∧ m ≤ 12) ∧ 1 ≤ d ∧ d ≤ 31 := by
 simp only [daysOk, inY, Bool.and_eq_true, decide_eq_true_eq] at h
 obtain ⟨⟨⟨h1, h2⟩, h3⟩, h4⟩ := h
 have h5 := lenM_bd y m
 refine ⟨⟨h1, h2⟩, ?_, h3, by omega⟩
 unfold lenM at h4
 split at h4 <;> omega
theorem PuCivil2 {G : Prop} (h : G := by (first | (apply Pu_mul; rfl; rfl; (constructor <;> omega)) | (apply Pu_quo64; rfl; rfl; omega; omega; omega) | (apply Pu_indexArr; rfl; rfl; omega; omega) | (apply Pu_loadO1'; rfl; exact hG.bef; exact hb))) : G := h
theorem QyCivil2 {G : Prop} (h : G := by first | (apply Qy_y; rfl; exact PuCivil2) | exact QyA) : G := h
theorem QFCivil2 {G : Prop} (h : G := by repeat (first | exact QF.nil | (apply QF.mk; rfl; rfl; decide +kernel; exact QyCivil2))) : G := h
theorem days_spec (y m d : Int) (w : World) (hG : Glob w) : Does Tryz.prog 70 [.int .i64 y, .int .i64 m, .int .i64 d] w (fun v O => v = .tuple #[.int .i64 (if daysOk y m d then dayNo y m d else 0), .int .i64 (if daysOk y m d then 0 else 3)] ∧ O = []) := by
 refine Does_of_W Tryz.func70 rfl rfl rfl rfl ?_
 by_cases hok : daysOk y m d = true
 ·obtain ⟨h1, h2, h3⟩ := daysOk_bd hok
  have hl := hok
  simp only [daysOk, Bool.and_eq_true, decide_eq_true_eq] at hl
  obtain ⟨⟨hy, _⟩, hd⟩ := hl
  rw [if_pos hok, if_pos hok]
  by_cases hm : m < 3
  ·have hb := bef_get hG (m + 12 - 3).toNat (by omega)
   have hq := beforeL_bd (m + 12 - 3).toNat
   rw [dayNo, if_pos hm, dayNoM]
   generalize beforeL.getD (m + 12 - 3).toNat 0 = q at *
   repeat' (first | (apply RL_pu; rfl; exact PuCivil2) | (refine js ?_; (first | (refine callE (fun w' _ => civIn_spec y w') ?_) | (refine callE (fun w' _ => len_spec y m w') ?_) | (refine callE (fun w' _ => split_spec (y - 1) 400 (by decide) (by omega) (by decide) w') ?_))) | refine walk1 ?_ | refine und ?_ | (refine RL_gsplit rfl rfl rfl (fun hc => ?_) (fun hc => ?_)) | (refine RD_gsplit rfl rfl rfl (fun hc => ?_) (fun hc => ?_)) | (refine W_cond rfl (fun hc => ?_) (fun hc => ?_)))
   all_goals exact clo2
  ·have hb := bef_get hG (m - 3).toNat (by omega)
   have hq := beforeL_bd (m - 3).toNat
   rw [dayNo, if_neg hm, dayNoM]
   generalize beforeL.getD (m - 3).toNat 0 = q at *
   repeat' (first | (apply RL_pu; rfl; exact PuCivil2) | (refine js ?_; (first | (refine callE (fun w' _ => civIn_spec y w') ?_) | (refine callE (fun w' _ => len_spec y m w') ?_) | (refine callE (fun w' _ => split_spec y 400 (by decide) (by omega) (by decide) w') ?_))) | refine walk1 ?_ | refine und ?_ | (refine RL_gsplit rfl rfl rfl (fun hc => ?_) (fun hc => ?_)) | (refine RD_gsplit rfl rfl rfl (fun hc => ?_) (fun hc => ?_)) | (refine W_cond rfl (fun hc => ?_) (fun hc => ?_)))
   all_goals exact clo2
 ·rw [if_neg hok, if_neg hok]
  repeat' (first | (refine js ?_; (first | (refine callE (fun w' _ => civIn_spec y w') ?_) | (refine callE (fun w' _ => len_spec y m w') ?_))) | refine walk ?_ | refine und ?_ | (refine RL_gsplit rfl rfl rfl (fun hc => ?_) (fun hc => ?_)) | (refine RD_gsplit rfl rfl rfl (fun hc => ?_) (fun hc => ?_)) | (refine W_cond rfl (fun hc => ?_) (fun hc => ?_)))
  all_goals first | (refine ret_2 _ _ [] (.tmp rfl) (.tmp rfl) .nil ⟨?_, rfl⟩; first | rfl | (simp only [*, Bool.true_and, Bool.false_and, Bool.true_or, Bool.false_or, Bool.not_true, Bool.not_false]; done) | (simp_all [daysOk]; done) | (simp_all [daysOk]; omega) | (simp_all [daysOk]; rw [Bool.eq_iff_iff]; simp; omega)) | (exfalso; simp_all [daysOk]; done) | (exfalso; simp_all [daysOk]; omega) | (exfalso; omega)
theorem year_core (n : Int) : n / 146097 + (n % 146097 + 719468) / 146097 = (n + 719468) / 146097 ∧ (n % 146097 + 719468) % 146097 = (n + 719468) % 146097 := by omega
theorem monN_le (r : Int) : ∀ m, monN r m ≤ m
 | 0 => Nat.le_refl _
 | m + 1 => by
  rw [monN]
  split
  ·exact Nat.le_refl _
  ·have := monN_le r m; omega
theorem PuCivil3 {G : Prop} (h : G := by (first | (apply Pu_mul; rfl; rfl; (constructor <;> omega)) | (apply Pu_quo64; rfl; rfl; omega; omega; omega))) : G := h
theorem QyCivil3 {G : Prop} (h : G := by first | (apply Qy_y; rfl; exact PuCivil3) | exact QyA) : G := h
theorem QFCivil3 {G : Prop} (h : G := by repeat (first | exact QF.nil | (apply QF.mk; rfl; rfl; decide +kernel; exact QyCivil3))) : G := h
theorem wkCivil0 {G G' : Prop} (k : G') (h : Hold G' → G := by intro k9; (first | (apply RL_pu; rfl; exact PuCivil3) | (apply RD_Q; rfl; rfl; decide +kernel; rfl; rfl; exact QyCivil3) | refine walk1 ?_ | (refine jn ?_; (try intro F); (apply Stp_pu; first | exact PuCivil3 | exact PuA); first | refine ⟨_, EndsA, QFCivil3, ?_⟩ | refine fin ?_)); exact k9.out) : G := h ⟨k⟩
theorem PuCivil4 {G : Prop} (h : G := by (first | (apply Pu_indexArr; rfl; rfl; omega; omega) | (apply Pu_loadO1'; rfl; exact hG.bef; exact hb))) : G := h
theorem QyCivil4 {G : Prop} (h : G := by first | (apply Qy_y; rfl; exact PuCivil4) | exact QyA) : G := h
theorem QFCivil4 {G : Prop} (h : G := by repeat (first | exact QF.nil | (apply QF.mk; rfl; rfl; decide +kernel; exact QyCivil4))) : G := h
theorem date_spec (n : Int) (hn : -1000000000000000000 ≤ n ∧ n ≤ 1000000000000000000) (w : World) (hG : Glob w) : Does Tryz.prog 138 [.int .i64 n] w (fun v O => (∃ m d, v = .tuple #[.int .i64 (dateY n), .int .i64 m, .int .i64 d]) ∧ O = []) := by
 obtain ⟨c1, c2⟩ := year_core n
 have c3 : 0 ≤ (n + 719468) % 146097 ∧ (n + 719468) % 146097 < 146097 := by omega
 obtain ⟨y1, y2, y3, y4⟩ := yearN_bd _ c3.1 c3.2
 have hD : dateY n = if 10 ≤ monN ((n + 719468) % 146097 - (yearN ((n + 719468) % 146097) * 365 + yearN ((n + 719468) % 146097) / 4 - yearN ((n + 719468) % 146097) / 100)) 11 then (n + 719468) / 146097 * 400 + yearN ((n + 719468) % 146097) + 1 else (n + 719468) / 146097 * 400 + yearN ((n + 719468) % 146097) := rfl
 refine Does_of_W Tryz.func138 rfl rfl rfl rfl ?_
 repeat (first | (apply RL_pu; rfl; exact PuCivil3) | (apply RD_Q; rfl; rfl; decide +kernel; rfl; rfl; exact QyCivil3) | refine walk1 ?_ | (refine jg ?_; (try intro F); (refine callE (fun w' _ => split_spec n 146097 (by decide) (by omega) (by decide) w') ?_); first | refine ⟨_, EndsA, QFCivil3, ?_⟩ | refine fin ?_) | (refine jn ?_; (try intro F); (apply Stp_pu; first | exact PuCivil3 | exact PuA); first | refine ⟨_, EndsA, QFCivil3, ?_⟩ | refine fin ?_))
 refine W_cond rfl (fun _ => ?_) (fun h => ?_)
 rotate_left
 ·have := of_decide_eq_false h
  omega
 repeat (first | refine walk ?_ | (refine jg ?_; (try intro F); (refine callE (fun w' _ => split_spec (n % 146097 + 719468) 146097 (by decide) (by omega) (by decide) w') ?_); refine fin ?_) | (refine jn ?_; (try intro F); (apply Stp_pu; exact PuA); refine fin ?_))
 rw [c1, c2]
 clear c1 c2
 generalize hcc : (n + 719468) / 146097 = c at *
 have hcb : -10000000000000 ≤ c ∧ c ≤ 10000000000000 := by omega
 generalize (n + 719468) % 146097 = r at *
 rw [show (r - r / 1460 + r / 36524 - r / 146096) / 365 = yearN r from rfl]
 generalize yearN r = y at *
 clear hn hcc
 generalize hq : r - (y * 365 + y / 4 - y / 100) = q at *
 repeat (first | (apply RL_pu; rfl; exact PuCivil3) | (apply RD_Q; rfl; rfl; decide +kernel; rfl; rfl; exact QyCivil3) | refine walkB1 ?_ | (refine jn ?_; (try intro F); (apply Stp_pu; first | exact PuCivil3 | exact PuA); first | refine ⟨_, EndsA, QFCivil3, ?_⟩ | refine fin ?_))
 rw [hq]
 refine W_post (fun fr' O' => Sub [(10, .int .i64 (monN q 11)), (5, .int .i64 c), (9, .int .i64 y), (6, .int .i64 q)] fr' ∧ SubO [] O') ?_ ?_
 ·apply W_block
  refine W_loopF [(5, .int .i64 c), (9, .int .i64 y), (6, .int .i64 q)] [] (fun k : Nat => [(10, .int .i64 k)]) (fun _ => []) (fun k => k ≤ 11 ∧ monN q k = monN q 11) (fun k => k) 11 SFA .nil ⟨Nat.le_refl _, rfl⟩ ?_
  rintro k ⟨hk, hm⟩
  have hb := bef_get hG k (by omega)
  have hstp : ∀ j, k = j + 1 → monN q k = if beforeL.getD k 0 ≤ q then k else monN q j := fun j h => by subst h; rw [monN]
  have h0 : k = 0 → beforeL.getD k 0 = 0 := fun h => by subst h; rfl
  generalize beforeL.getD k 0 = z at *
  repeat (first | (apply RL_pu; rfl; exact PuCivil4) | (apply RD_Q; rfl; rfl; decide +kernel; rfl; rfl; exact QyCivil4) | refine walk1 ?_ | (refine jn ?_; (try intro F); (apply Stp_pu; first | exact PuCivil4 | exact PuA); first | refine ⟨_, EndsA, QFCivil4, ?_⟩ | refine fin ?_))
  refine W_cond rfl (fun h => ?_) (fun h => ?_)
  ·have h1 := of_decide_eq_true h
   have hk1 : k ≠ 0 := fun e => by have := h0 e; omega
   obtain ⟨j, rfl⟩ : ∃ j, k = j + 1 := ⟨k - 1, by omega⟩
   have h2 := hstp j rfl
   rw [if_neg (by omega)] at h2
   repeat refine wkCivil0 ?_
   rw [show ((j + 1 : Nat) : Int) - 1 = (j : Int) by omega]
   exact ⟨j, OA, ⟨OA, by rw [← h2]; exact hm⟩, SFA, .nil⟩
  ·have h1 := of_decide_eq_false h
   have h2 : monN q k = k := by
    cases k with
    | zero => rfl
    | succ j =>
     have h2 := hstp j rfl
     rw [if_pos (by omega)] at h2
     exact h2
   repeat (first | refine walk ?_ | (refine jn ?_; (try intro F); (apply Stp_pu; exact PuA); refine fin ?_))
   rw [← hm, h2]
   exact ⟨rfl, SFA, .nil⟩
 rintro fr' O' ⟨hf, hO⟩
 apply thenQ_n
 refine W_sub hf hO ?_
 clear hf hO fr' O'
 have hml := monN_le q 11
 generalize monN q 11 = k at *
 have hb := bef_get hG k (by omega)
 have hbb := beforeL_bd k
 generalize beforeL.getD k 0 = z at *
 repeat (first | (apply RL_pu; rfl; exact PuCivil2) | (apply RD_Q; rfl; rfl; decide +kernel; rfl; rfl; exact QyCivil2) | refine walk1 ?_ | (refine jn ?_; (try intro F); (apply Stp_pu; first | exact PuCivil2 | exact PuA); first | refine ⟨_, EndsA, QFCivil2, ?_⟩ | refine fin ?_))
 refine W_cond rfl (fun h => ?_) (fun h => ?_)
 ·have h1 := of_decide_eq_true h
  rw [if_pos (by omega)] at hD
  repeat refine wkCivil0 ?_
  exact ret_3 _ _ _ [] (.tmp rfl) (.tmp rfl) (.tmp rfl) .nil ⟨⟨_, _, by rw [hD]⟩, rfl⟩
 ·have h1 := of_decide_eq_false h
  rw [if_neg (by omega)] at hD
  repeat refine wkCivil0 ?_
  exact ret_3 _ _ _ [] (.tmp rfl) (.tmp rfl) (.tmp rfl) .nil ⟨⟨_, _, by rw [hD]⟩, rfl⟩
theorem year_spec (t : Int) (ht : -4611686018427387904 ≤ t ∧ t ≤ 4611686018427387904) (w : World) (hG : Glob w) : Does Tryz.prog 82 [.int .i64 t] w (fun v O => v = .int .i64 (yearOf t) ∧ O = []) := by
 refine Does_of_W Tryz.func82 rfl rfl rfl rfl ?_
 repeat (first | (apply RL_pu; rfl; (first | (apply Pu_minI; rfl; rfl) | (apply Pu_maxJ; rfl; rfl))) | (refine js ?_; (first | (refine callE (fun w' _ => split_spec t 86400 (by decide) (by omega) (by decide) w') ?_) | (apply Stp_call (h := fun w' hw _ => date_spec (t / 86400) (by omega) w' (hG.up hw)); rfl; rintro v O' ⟨⟨m, d, rfl⟩, rfl⟩))) | refine walk1 ?_)
 refine ret_1 _ [] (.tmp rfl) .nil ⟨?_, rfl⟩
 unfold yearOf
 generalize dateY (t / 86400) = y
 congr 1
 split <;> split <;> omega
theorem PuDayf0 {G : Prop} (h : G := by (first | (apply Pu_mul; rfl; rfl; (constructor <;> omega)) | (apply Pu_quo64; rfl; rfl; omega; omega; omega))) : G := h
theorem behind_spec (x k : Int) (hx : -1000000000000000000 ≤ x ∧ x ≤ 1000000000000000000) (hk : 0 ≤ k ∧ k ≤ 6) (w : World) : Does Tryz.prog 292 [.int .i64 x, .int .i64 k] w (fun v O => v = .int .i64 (behindW x k) ∧ O = []) := by
 have hw := wkday_bd x
 refine Does_of_W Tryz.func292 rfl rfl rfl rfl ?_
 unfold behindW
 repeat' (first | (apply RL_pu; rfl; exact PuDayf0) | (refine js ?_; (refine callE (fun w' _ => wkday_spec x (by omega) w') ?_)) | refine walk1 ?_ | (refine W_cond rfl (fun hc => ?_) (fun hc => ?_)))
 all_goals exact clo1
theorem before_spec (x k : Int) (hx : -1000000000000000000 ≤ x ∧ x ≤ 1000000000000000000) (hk : 0 ≤ k ∧ k ≤ 6) (w : World) : Does Tryz.prog 290 [.int .i64 x, .int .i64 k] w (fun v O => v = .int .i64 (beforeW x k) ∧ O = []) := by
 have hw := wkday_bd x
 refine Does_of_W Tryz.func290 rfl rfl rfl rfl ?_
 unfold beforeW
 repeat' (first | (apply RL_pu; rfl; exact PuDayf0) | (refine js ?_; (refine callE (fun w' _ => wkday_spec x (by omega) w') ?_)) | refine walk1 ?_ | (refine W_cond rfl (fun hc => ?_) (fun hc => ?_)))
 all_goals exact clo1
def kindFn (k : Int) : FuncId := if k = 1 then 288 else if k = 2 then 289 else if k = 3 then 291 else 293
theorem kinds_spec (p q : Int) (d : DDay) (hp : -100000000000000000 ≤ p ∧ p ≤ 100000000000000000) (hq : -100000000000000000 ≤ q ∧ q ≤ 100000000000000000) (hk : 1 ≤ d.kind ∧ d.kind ≤ 4) (hw : 0 ≤ d.week ∧ d.week ≤ 6) (hd : 0 ≤ d.day ∧ d.day ≤ 31) (w : World) :
  Does Tryz.prog (kindFn d.kind) [.int .i64 p, .int .i64 q, .agg (DDay.enc d).toArray] w (fun v O => v = .int .i64 (findD p q d) ∧ O = []) := by
 obtain ⟨k, wk, dd⟩ := d
 simp only at hk hw hd ⊢
 have h4 : k = 1 ∨ k = 2 ∨ k = 3 ∨ k = 4 := by omega
 rcases h4 with rfl | rfl | rfl | rfl
 ·rw [show findD p q ⟨1, wk, dd⟩ = p + dd - 1 by simp [findD]]
  show Does _ 288 [.int .i64 p, .int .i64 q, .agg #[.int .i64 1, .int .i64 wk, .int .i64 dd]] w _
  refine Does_of_W Tryz.func288 rfl rfl rfl rfl ?_
  repeat' (first | (apply RL_pu; rfl; exact PuDayf0) | (refine js ?_; (refine bx ?_; intro bk)) | refine walk1 ?_ | (refine W_cond rfl (fun hc => ?_) (fun hc => ?_)))
  all_goals exact clo1
 ·rw [show findD p q ⟨2, wk, dd⟩ = beforeW q wk by simp [findD]]
  show Does _ 289 [.int .i64 p, .int .i64 q, .agg #[.int .i64 2, .int .i64 wk, .int .i64 dd]] w _
  refine Does_of_W Tryz.func289 rfl rfl rfl rfl ?_
  repeat' (first | (apply RL_pu; rfl; exact PuDayf0) | (refine js ?_; (first | (refine callE (fun w' _ => before_spec q wk (by omega) hw w') ?_) | (refine bx ?_; intro bk))) | refine walk1 ?_ | (refine W_cond rfl (fun hc => ?_) (fun hc => ?_)))
  all_goals exact clo1
 ·rw [show findD p q ⟨3, wk, dd⟩ = behindW (p + dd - 1) wk by simp [findD]]
  show Does _ 291 [.int .i64 p, .int .i64 q, .agg #[.int .i64 3, .int .i64 wk, .int .i64 dd]] w _
  refine Does_of_W Tryz.func291 rfl rfl rfl rfl ?_
  repeat' (first | (apply RL_pu; rfl; exact PuDayf0) | (refine js ?_; (first | (refine callE (fun w' _ => behind_spec (p + dd - 1) wk (by omega) hw w') ?_) | (refine bx ?_; intro bk))) | refine walk1 ?_ | (refine W_cond rfl (fun hc => ?_) (fun hc => ?_)))
  all_goals exact clo1
 ·rw [show findD p q ⟨4, wk, dd⟩ = beforeW (p + dd - 1) wk by simp [findD]]
  show Does _ 293 [.int .i64 p, .int .i64 q, .agg #[.int .i64 4, .int .i64 wk, .int .i64 dd]] w _
  refine Does_of_W Tryz.func293 rfl rfl rfl rfl ?_
  repeat' (first | (apply RL_pu; rfl; exact PuDayf0) | (refine js ?_; (first | (refine callE (fun w' _ => before_spec (p + dd - 1) wk (by omega) hw w') ?_) | (refine bx ?_; intro bk))) | refine walk1 ?_ | (refine W_cond rfl (fun hc => ?_) (fun hc => ?_)))
  all_goals exact clo1
theorem kin_at {w : World} (hG : Glob w) (k : Int) (hk : 1 ≤ k ∧ k ≤ 4) : CellsAt w ((⟨1, 0, none⟩ : Addr).add (k.toNat * 3)) [.bool (weekK k), .bool (dayK k), fnV (kindFn k)] := by
 intro j v hj
 have hk := hG.kin ((k.toNat - 1) * 3 + j) v
 have h4 : k = 1 ∨ k = 2 ∨ k = 3 ∨ k = 4 := by omega
 have hj3 : j < 3 := (List.getElem?_eq_some_iff.1 hj).1
 have h3 : j = 0 ∨ j = 1 ∨ j = 2 := by omega
 rcases h4 with rfl | rfl | rfl | rfl <;> rcases h3 with rfl | rfl | rfl <;> exact hk hj
theorem dcheck_spec (d : DDay) (w : World) (hG : Glob w) : Does Tryz.prog 40 [.agg (DDay.enc d).toArray] w (fun v O => v = .int .i64 (if dayChk d then 0 else 2) ∧ O = []) := by
 obtain ⟨k, wk, dd⟩ := d
 by_cases hk : 1 ≤ k ∧ k ≤ 4
 ·have hcell := kin_at hG k hk
  have e : dayChk ⟨k, wk, dd⟩ = !((!decide (wk = 0) && !weekK k) || decide (wk < 0) || decide (6 < wk) || (dayK k == decide (dd = 0)) || decide (dd < 0) || decide (31 < dd)) := by simp [dayChk, hk.1, hk.2]
  rw [e]
  generalize weekK k = b1 at *
  generalize dayK k = b2 at *
  show Does _ _ [.agg #[.int .i64 k, .int .i64 wk, .int .i64 dd]] w _
  refine Does_of_W Tryz.func40 rfl rfl rfl rfl ?_
  repeat' (first | (apply RL_pu; rfl; (first | exact PuDayf0 | (apply Pu_indexArr; rfl; rfl; omega; omega) | (apply Pu_loadON; rfl; exact hcell; rfl))) | (refine js ?_; (refine bx ?_; intro bk)) | refine walk1 ?_ | refine und ?_ | (refine RL_gsplit rfl rfl rfl (fun hc => ?_) (fun hc => ?_)) | (refine RD_gsplit rfl rfl rfl (fun hc => ?_) (fun hc => ?_)) | (refine W_cond rfl (fun hc => ?_) (fun hc => ?_)))
  all_goals exact clo1
 ·have e : dayChk ⟨k, wk, dd⟩ = false := by
   simp only [dayChk]
   have : (decide (1 ≤ k) && decide (k ≤ 4)) = false := by simp; omega
   rw [this]; rfl
  rw [e]
  show Does _ _ [.agg #[.int .i64 k, .int .i64 wk, .int .i64 dd]] w _
  refine Does_of_W Tryz.func40 rfl rfl rfl rfl ?_
  repeat' (first | (refine js ?_; (refine bx ?_; intro bk)) | refine walk ?_ | refine und ?_ | (refine RL_gsplit rfl rfl rfl (fun hc => ?_) (fun hc => ?_)) | (refine RD_gsplit rfl rfl rfl (fun hc => ?_) (fun hc => ?_)) | (refine W_cond rfl (fun hc => ?_) (fun hc => ?_)))
  all_goals exact clo1
theorem ccheck_spec (d : DClock) (w : World) : Does Tryz.prog 41 [.agg (DClock.enc d).toArray] w (fun v O => v = .int .i64 (if clkChk d then 0 else 2) ∧ O = []) := by
 obtain ⟨k, wk⟩ := d
 show Does _ _ [.agg #[.int .i64 k, .int .i64 wk]] w _
 refine Does_of_W Tryz.func41 rfl rfl rfl rfl ?_
 repeat' (first | (refine js ?_; (refine bx ?_; intro bk)) | refine walk ?_ | refine und ?_ | (refine RL_gsplit rfl rfl rfl (fun hc => ?_) (fun hc => ?_)) | (refine RD_gsplit rfl rfl rfl (fun hc => ?_) (fun hc => ?_)) | (refine W_cond rfl (fun hc => ?_) (fun hc => ?_)))
 all_goals first | (refine ret_1 _ [] (.tmp rfl) .nil ⟨?_, rfl⟩; first | rfl | (simp only [*, Bool.true_and, Bool.false_and, Bool.true_or, Bool.false_or, Bool.not_true, Bool.not_false]; done) | (simp_all [clkChk]; done) | (simp_all [clkChk]; omega) | (simp_all [clkChk]; rw [Bool.eq_iff_iff]; simp; omega)) | (exfalso; simp_all [clkChk]; done) | (exfalso; simp_all [clkChk]; omega) | (exfalso; omega)
theorem dayChk_bd {d : DDay} (h : dayChk d = true) : (1 ≤ d.kind ∧ d.kind ≤ 4) ∧ (0 ≤ d.week ∧ d.week ≤ 6) ∧ 0 ≤ d.day ∧ d.day ≤ 31 := by
 simp only [dayChk, Bool.and_eq_true, Bool.not_eq_true', Bool.or_eq_false_iff, decide_eq_true_eq, decide_eq_false_iff_not] at h
 omega
theorem dayNo_bd {y m d : Int} (h : daysOk y m d = true) : -1000000000000 ≤ dayNo y m d ∧ dayNo y m d ≤ 1000000000000 := by
 obtain ⟨h1, h2, h3⟩ := daysOk_bd h
 unfold dayNo dayNoM
 have hb := beforeL_bd
 split
 ·have := hb (m + 12 - 3).toNat
  omega
 ·have := hb (m - 3).toNat
  omega
theorem PuDayf2 {G : Prop} (h : G := by (first | exact PuDayf0 | (apply Pu_indexArr; rfl; rfl; omega; omega) | (apply Pu_loadO1'; rfl; exact hcell; rfl))) : G := h
theorem QyDayf2 {G : Prop} (h : G := by first | (apply Qy_y; rfl; exact PuDayf2) | exact QyA) : G := h
theorem QFDayf2 {G : Prop} (h : G := by repeat (first | exact QF.nil | (apply QF.mk; rfl; rfl; decide +kernel; exact QyDayf2))) : G := h
theorem on_spec (y m : Int) (d : DDay) (w : World) (hG : Glob w) : Does Tryz.prog 66 [.int .i64 y, .int .i64 m, .agg (DDay.enc d).toArray] w (fun v O => v = .tuple #[.int .i64 (onD y m d).1, .int .i64 (onD y m d).2] ∧ O = []) := by
 have hl := lenM_bd y m
 have hdc := fun w' hw => dcheck_spec d w' (Glob.up (w' := w') hG hw)
 by_cases hok : daysOk y m 1 = true
 ·have hdb := dayNo_bd hok
  by_cases hc : dayChk d = true
  ·obtain ⟨b1, b2, b3⟩ := dayChk_bd hc
   have hcell := kin_at hG d.kind b1
   have hks := fun w' => kinds_spec (dayNo y m 1) (dayNo y m 1 + lenM y m - 1) d (by omega) (by omega) b1 b2 b3 w'
   haveI : Body Tryz.prog (kindFn d.kind) := by
    unfold kindFn
    split
    ·infer_instance
    ·split
     ·infer_instance
     ·split <;> infer_instance
   have e : onD y m d = if lenM y m < d.day then (0, 4) else (findD (dayNo y m 1) (dayNo y m 1 + lenM y m - 1) d, 0) := by simp [onD, hok, hc]
   rw [e]
   clear e
   have ed := days_spec y m 1
   rw [if_pos hok, if_pos hok] at ed
   rw [hc] at hdc
   generalize findD (dayNo y m 1) (dayNo y m 1 + lenM y m - 1) d = res at *
   obtain ⟨k, wk, dd⟩ := d
   simp only at *
   generalize kindFn k = kf at *
   show Does _ _ [.int .i64 y, .int .i64 m, .agg #[.int .i64 k, .int .i64 wk, .int .i64 dd]] w _
   refine Does_of_W Tryz.func66 rfl rfl rfl rfl ?_
   repeat' (first | (apply RL_pu; rfl; exact PuDayf2) | (refine js ?_; (first | (apply Stp_callV (f := kf) (us := []) (cs := []) (vs := [.int .i64 (dayNo y m 1), .int .i64 (dayNo y m 1 + lenM y m - 1), .agg #[.int .i64 k, .int .i64 wk, .int .i64 dd]]) (h := fun w' hw _ => hks w'); rfl; rfl; rintro v O' ⟨rfl, rfl⟩) | (refine callE (fun w' hw => ed w' (hG.up hw)) ?_) | (refine callE hdc ?_) | (refine callE (fun w' hw => len_spec y m w') ?_) | (refine bx ?_; intro bk))) | (apply RD_Q; rfl; rfl; decide +kernel; rfl; rfl; exact QyDayf2) | refine walk1 ?_ | (refine RD_G0w ?_; intro F; (first | (apply Stp_callV (f := kf) (us := []) (cs := []) (vs := [.int .i64 (dayNo y m 1), .int .i64 (dayNo y m 1 + lenM y m - 1), .agg #[.int .i64 k, .int .i64 wk, .int .i64 dd]]) (h := fun w' hw _ => hks w'); rfl; rfl; rintro v O' ⟨rfl, rfl⟩) | (refine callE (fun w' hw => ed w' (hG.up hw)) ?_) | (refine callE hdc ?_) | (refine callE (fun w' hw => len_spec y m w') ?_)); refine ⟨_, EndsA, SubO.right _ _, ?_⟩) | (refine RD_Lw ?_; intro F; (first | (apply Stp_callV (f := kf) (us := []) (cs := []) (vs := [.int .i64 (dayNo y m 1), .int .i64 (dayNo y m 1 + lenM y m - 1), .agg #[.int .i64 k, .int .i64 wk, .int .i64 dd]]) (h := fun w' hw _ => hks w'); rfl; rfl; rintro v O' ⟨rfl, rfl⟩) | (refine callE (fun w' hw => ed w' (hG.up hw)) ?_) | (refine callE hdc ?_) | (refine callE (fun w' hw => len_spec y m w') ?_) | (refine bx ?_; intro bk) | (apply Stp_pu; first | exact PuDayf2 | exact PuA)); refine ⟨_, EndsA, QFDayf2, ?_⟩) | (refine W_cond rfl (fun hc => ?_) (fun hc => ?_)))
   ·have hr := hc
    rw [if_pos (of_decide_eq_true hr)]
    exact rtB
   ·have hr := hc
    rw [if_neg (of_decide_eq_false hr)]
    exact rtB
  ·have e : onD y m d = (0, 2) := by simp [onD, hok, hc]
   rw [e]
   have ed := days_spec y m 1
   rw [if_pos hok, if_pos hok] at ed
   rw [Bool.not_eq_true] at hc
   rw [hc] at hdc
   obtain ⟨k, wk, dd⟩ := d
   show Does _ _ [.int .i64 y, .int .i64 m, .agg #[.int .i64 k, .int .i64 wk, .int .i64 dd]] w _
   refine Does_of_W Tryz.func66 rfl rfl rfl rfl ?_
   repeat' (first | (refine js ?_; (first | (refine callE (fun w' hw => ed w' (hG.up hw)) ?_) | (refine callE hdc ?_) | (refine bx ?_; intro bk))) | refine walk ?_ | (refine RD_G0w ?_; intro F; (first | (refine callE (fun w' hw => ed w' (hG.up hw)) ?_) | (refine callE hdc ?_)); refine ⟨_, EndsA, SubO.right _ _, ?_⟩) | (refine RD_Lw ?_; intro F; (first | (refine callE (fun w' hw => ed w' (hG.up hw)) ?_) | (refine callE hdc ?_) | (refine bx ?_; intro bk) | (apply Stp_pu; exact PuA)); refine ⟨_, EndsA, QFA, ?_⟩) | (refine W_cond rfl (fun hc => ?_) (fun hc => ?_)))
   all_goals exact clo2
 ·have e : onD y m d = (0, 3) := by simp [onD, hok]
  rw [e]
  have ed := days_spec y m 1
  rw [if_neg hok, if_neg hok] at ed
  refine Does_of_W Tryz.func66 rfl rfl rfl rfl ?_
  repeat' (first | (refine js ?_; (first | (refine callE (fun w' hw => ed w' (hG.up hw)) ?_) | (refine bx ?_; intro bk))) | refine walk ?_ | (refine RD_G0w ?_; intro F; (refine callE (fun w' hw => ed w' (hG.up hw)) ?_); refine ⟨_, EndsA, SubO.right _ _, ?_⟩) | (refine RD_Lw ?_; intro F; (first | (refine callE (fun w' hw => ed w' (hG.up hw)) ?_) | (refine bx ?_; intro bk) | (apply Stp_pu; exact PuA)); refine ⟨_, EndsA, QFA, ?_⟩) | (refine W_cond rfl (fun hc => ?_) (fun hc => ?_)))
  all_goals exact clo2
theorem PuDayf3 {G : Prop} (h : G := by (apply Pu_rem; rfl; rfl; decide)) : G := h
theorem QyDayf3 {G : Prop} (h : G := by first | (apply Qy_y; rfl; exact PuDayf3) | exact QyA) : G := h
theorem QFDayf3 {G : Prop} (h : G := by repeat (first | exact QF.nil | (apply QF.mk; rfl; rfl; decide +kernel; exact QyDayf3))) : G := h
theorem always_spec (a b m : Int) (d : DDay) (w : World) (hG : Glob w) : Does Tryz.prog 303 [.int .i64 a, .int .i64 b, .int .i64 m, .agg (DDay.enc d).toArray] w (fun v O => v = .bool (alwaysD a b m d) ∧ O = []) := by
 have hdc := fun w' hw => dcheck_spec d w' (Glob.up (w' := w') hG hw)
 unfold alwaysD
 generalize dayChk d = c at *
 obtain ⟨k, wk, dd⟩ := d
 simp only at *
 show Does _ _ [.int .i64 a, .int .i64 b, .int .i64 m, .agg #[.int .i64 k, .int .i64 wk, .int .i64 dd]] w _
 refine Does_of_W Tryz.func303 rfl rfl rfl rfl ?_
 repeat' (first | (apply RL_pu; rfl; exact PuDayf3) | (refine js ?_; (first | (refine callE hdc ?_) | (refine callE (fun w' hw => len_spec 1 m w') ?_) | (refine callE (fun w' hw => len_spec (a.tmod 400) m w') ?_) | (refine bx ?_; intro bk))) | (apply RD_Q; rfl; rfl; decide +kernel; rfl; rfl; exact QyDayf3) | refine walk1 ?_ | (refine RD_G0w ?_; intro F; (first | (refine callE hdc ?_) | (refine callE (fun w' hw => len_spec 1 m w') ?_) | (refine callE (fun w' hw => len_spec (a.tmod 400) m w') ?_)); refine ⟨_, EndsA, SubO.right _ _, ?_⟩) | (refine RD_Lw ?_; intro F; (first | (refine callE hdc ?_) | (refine callE (fun w' hw => len_spec 1 m w') ?_) | (refine callE (fun w' hw => len_spec (a.tmod 400) m w') ?_) | (refine bx ?_; intro bk) | (apply Stp_pu; first | exact PuDayf3 | exact PuA)); refine ⟨_, EndsA, QFDayf3, ?_⟩) | refine und ?_ | (refine RL_gsplit rfl rfl rfl (fun hc => ?_) (fun hc => ?_)) | (refine RD_gsplit rfl rfl rfl (fun hc => ?_) (fun hc => ?_)) | (refine W_cond rfl (fun hc => ?_) (fun hc => ?_)))
 all_goals exact clo1
end Go.Proofs.YtonjepladadmhaaGreatDoor
