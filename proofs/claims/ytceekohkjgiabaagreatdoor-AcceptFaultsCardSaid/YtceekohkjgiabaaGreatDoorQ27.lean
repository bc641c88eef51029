/- Contracts: the reference of layer 1. Contracts: the reference of layers 2 and 6. Contract: the reference of layer 2: On. -/
import Derived.Test.YtceekohkjgiabaaGreatDoorQ26
import Derived.Test.YtceekohkjgiabaaGreatDoorQ11
import Derived.Test.YtceekohkjgiabaaGreatDoorQ10
set_option maxHeartbeats 4000000
set_option linter.unusedVariables false
set_option linter.unusedSimpArgs false
namespace Go.Proofs.YtceekohkjgiabaaGreatDoor
open Go Go.RowKit Go.Wk
attribute [local irreducible] W RL Does thenQ blockQ retQ Calls Pu Stp RD Qy Ay DoesIn
theorem rfloor_spec (a b : Int) (h0 : 0 < b) (ha : -4611686018427387904 ≤ a ∧ a ≤ 4611686018427387904) (hb : b ≤ 4611686018427387904) (w : World) : Does Tryz.prog 187 [.int .i64 a, .int .i64 b] w (fun v O => v = .int .i64 (a / b) ∧ O = []) := by
 have h2 := Int.tmod_lt_of_pos a h0
 have h3 := Int.lt_tmod_of_pos a h0
 have h4 := tdiv_bd a b
 obtain ⟨h5, h6⟩ := split_eq a b h0
 refine Does_of_W Tryz.func187 rfl rfl rfl rfl ?_
 repeat' (first | (apply RL_pu; rfl; (first | (apply Pu_quoT; rfl; rfl; omega; omega) | (apply Pu_rem; rfl; rfl; omega))) | refine walk1 ?_ | (refine W_cond rfl (fun hc => ?_) (fun hc => ?_)))
 ·obtain ⟨e1, e2⟩ := h5 (of_decide_eq_true hc)
  exact ret_1 _ [] (.tmp rfl) .nil ⟨by rw [← e1], rfl⟩
 ·obtain ⟨e1, e2⟩ := h6 (of_decide_eq_false hc)
  exact ret_1 _ [] (.tmp rfl) .nil ⟨by rw [← e1], rfl⟩
theorem PuRfA1 {G : Prop} (h : G := by (apply Pu_rem; rfl; rfl; decide)) : G := h
theorem rleap_spec (y : Int) (w : World) : Does Tryz.prog 215 [.int .i64 y] w (fun v O => v = .bool (leapB y) ∧ O = []) := by
 rw [show leapB y = ((decide (y.tmod 4 = 0) && !decide (y.tmod 100 = 0)) || decide (y.tmod 400 = 0)) by
  rw [Bool.eq_iff_iff, leapB_iff]
  simp only [tmod_zero, Bool.and_eq_true, Bool.or_eq_true, decide_eq_true_eq, Bool.not_eq_true', decide_eq_false_iff_not]
  omega]
 refine Does_of_W Tryz.func215 rfl rfl rfl rfl ?_
 repeat' (first | (apply RL_pu; rfl; exact PuRfA1) | refine walk1 ?_ | refine und ?_ | (refine RL_gsplit rfl rfl rfl (fun hc => ?_) (fun hc => ?_)) | (refine RD_gsplit rfl rfl rfl (fun hc => ?_) (fun hc => ?_)) | (refine W_cond rfl (fun hc => ?_) (fun hc => ?_)))
 all_goals exact clo1
theorem rlen_spec (y m : Int) (w : World) : Does Tryz.prog 178 [.int .i64 y, .int .i64 m] w (fun v O => v = .int .i64 (lenM y m) ∧ O = []) := by
 refine Does_of_W Tryz.func178 rfl rfl rfl rfl ?_
 repeat' (first | (refine js ?_; (refine callE (fun w' _ => rleap_spec y w') ?_)) | refine walk ?_ | (refine W_cond rfl (fun hc => ?_) (fun hc => ?_)))
 all_goals first | (refine ret_1 _ [] (.tmp rfl) .nil ⟨?_, rfl⟩; first | rfl | (simp only [*, Bool.true_and, Bool.false_and, Bool.true_or, Bool.false_or, Bool.not_true, Bool.not_false]; done) | (simp_all [lenM]; done) | (simp_all [lenM]; omega) | (simp_all [lenM]; rw [Bool.eq_iff_iff]; simp; omega)) | (exfalso; simp_all [lenM]; done) | (exfalso; simp_all [lenM]; omega) | (exfalso; omega)
theorem rsize_spec (y : Int) (w : World) : Does Tryz.prog 218 [.int .i64 y] w (fun v O => v = .int .i64 (sizeY y) ∧ O = []) := by
 refine Does_of_W Tryz.func218 rfl rfl rfl rfl ?_
 repeat' (first | (refine js ?_; (refine callE (fun w' _ => rleap_spec y w') ?_)) | refine walk ?_ | (refine W_cond rfl (fun hc => ?_) (fun hc => ?_)))
 all_goals first | (refine ret_1 _ [] (.tmp rfl) .nil ⟨?_, rfl⟩; first | rfl | (simp only [*, Bool.true_and, Bool.false_and, Bool.true_or, Bool.false_or, Bool.not_true, Bool.not_false]; done) | (simp_all [sizeY]; done) | (simp_all [sizeY]; omega) | (simp_all [sizeY]; rw [Bool.eq_iff_iff]; simp; omega)) | (exfalso; simp_all [sizeY]; done) | (exfalso; simp_all [sizeY]; omega) | (exfalso; omega)
theorem rin_spec (y : Int) (w : World) : Does Tryz.prog 216 [.int .i64 y] w (fun v O => v = .bool (inY y) ∧ O = []) := by
 refine Does_of_W Tryz.func216 rfl rfl rfl rfl ?_
 repeat' (first | refine walk ?_ | refine und ?_ | (refine RL_gsplit rfl rfl rfl (fun hc => ?_) (fun hc => ?_)) | (refine RD_gsplit rfl rfl rfl (fun hc => ?_) (fun hc => ?_)) | (refine W_cond rfl (fun hc => ?_) (fun hc => ?_)))
 all_goals first | (refine ret_1 _ [] (.tmp rfl) .nil ⟨?_, rfl⟩; first | rfl | (simp only [*, Bool.true_and, Bool.false_and, Bool.true_or, Bool.false_or, Bool.not_true, Bool.not_false]; done) | (simp_all [inY]; done) | (simp_all [inY]; omega) | (simp_all [inY]; rw [Bool.eq_iff_iff]; simp; omega)) | (exfalso; simp_all [inY]; done) | (exfalso; simp_all [inY]; omega) | (exfalso; omega)
structure RyG where
 i : Int
 d : Int
theorem PuRfA2 {G : Prop} (h : G := by (apply Pu_mul; rfl; rfl; (constructor <;> omega))) : G := h
theorem rfirst_spec (y : Int) (hy : -2000000000 ≤ y ∧ y ≤ 2000000000) (w : World) : Does Tryz.prog 217 [.int .i64 y] w (fun v O => v = .int .i64 (jan1 y) ∧ O = []) := by
 have hj : ∀ i, jan1 i = 365 * i + (i + 3) / 4 - (i + 99) / 100 + (i + 399) / 400 - 719528 := fun _ => rfl
 have hfl := fun w' => rfloor_spec y 400 (by decide) (by omega) (by decide) w'
 refine Does_of_W Tryz.func217 rfl rfl rfl rfl ?_
 repeat (first | (apply RL_pu; rfl; exact PuRfA2) | (refine js ?_; (refine callE (fun w' _ => hfl w') ?_)) | refine walk1 ?_)
 refine W_loopF [(0, .int .i64 y)] [] (fun g : RyG => [(4, .int .i64 g.d), (5, .int .i64 g.i)]) (fun _ => []) (fun g => y / 400 * 400 ≤ g.i ∧ g.i ≤ y ∧ g.d = jan1 g.i) (fun g => (y - g.i).toNat) ⟨y / 400 * 400, y / 400 * 146097 - 719528⟩ SFA SOA ⟨Int.le_refl _, by dsimp only; omega, (jan1_c _).symm⟩ ?_
 rintro ⟨i, d⟩ ⟨h1, h2, h3⟩
 dsimp only at h1 h2 h3 ⊢
 have hs := fun w' => rsize_spec i w'
 have hsb := sizeY_bd i
 have h4 := jan1_succ i
 have h5 := hj i
 repeat (first | refine walk ?_)
 refine W_cond rfl (fun hc => ?_) (fun hc => ?_)
 ·simp only [decide_eq_true_eq] at hc
  repeat (first | (apply RL_pu; rfl; exact PuRfA2) | (refine js ?_; (refine callE (fun w' _ => hs w') ?_)) | refine walk1 ?_)
  exact ⟨⟨i + 1, d + sizeY i⟩, OA, ⟨OA, OA, by dsimp only; omega⟩, SFA, SOA⟩
 ·simp only [decide_eq_false_iff_not] at hc
  obtain rfl : i = y := by omega
  repeat (first | refine walk ?_)
  exact ret_1 _ [] (.tmp rfl) .nil ⟨by rw [h3], rfl⟩
theorem rdayNo_bd (y m d : Int) (hy : -2000000000 ≤ y ∧ y ≤ 2000000000) (hd : -1000 ≤ d ∧ d ≤ 1000) : -1000000000000 ≤ dayNo y m d ∧ dayNo y m d ≤ 1000000000000 := by
 unfold dayNo dayNoM
 split
 ·have := beforeL_bd (m + 12 - 3).toNat; omega
 ·have := beforeL_bd (m - 3).toNat; omega
structure RdG where
 i : Nat
 d : Int
theorem PuRfA3 {G : Prop} (h : G := by (first | (apply Pu_lssB; rfl; rfl; exact b1) | (apply Pu_gtrB; rfl; rfl; exact b2))) : G := h
theorem PuRfA4 {G : Prop} (h : G := by (apply Pu_lssB; rfl; rfl; exact b1)) : G := h
theorem rdays_spec (y m d : Int) (w : World) : Does Tryz.prog 183 [.int .i64 y, .int .i64 m, .int .i64 d] w (fun v O => v = .tuple #[.int .i64 (if daysOk y m d then dayNo y m d else 0), .int .i64 (if daysOk y m d then 0 else 3)] ∧ O = []) := by
 have hi := fun w' => rin_spec y w'
 have hl := fun w' => rlen_spec y m w'
 refine Does_of_W Tryz.func183 rfl rfl rfl rfl ?_
 by_cases hok : daysOk y m d = true
 ·obtain ⟨h1, h2, h3⟩ := daysOk_bd hok
  have hk := hok
  simp only [daysOk, Bool.and_eq_true, decide_eq_true_eq] at hk
  obtain ⟨⟨hy, hd1⟩, hd2⟩ := hk
  rw [hy] at hi
  have b1 : decide (d < 1) = false := decide_eq_false (by omega)
  have b2 : decide (lenM y m < d) = false := decide_eq_false (by omega)
  have hf := fun w' => rfirst_spec y h1 w'
  rw [if_pos hok, if_pos hok]
  obtain ⟨n, rfl⟩ := Int.eq_ofNat_of_zero_le (show 0 ≤ m by omega)
  repeat (first | (apply RL_pu; rfl; exact PuRfA3) | (refine js ?_; (first | (refine callE (fun w' _ => hi w') ?_) | (refine callE (fun w' _ => hl w') ?_) | (refine callE (fun w' _ => hf w') ?_))) | refine walk1 ?_)
  refine W_loopF [(0, .int .i64 y), (1, .int .i64 n), (2, .int .i64 d)] [] (fun g : RdG => [(8, .int .i64 g.d), (9, .int .i64 g.i)]) (fun _ => []) (fun g => 1 ≤ g.i ∧ g.i ≤ n ∧ g.d = dayNo y g.i 1) (fun g => n - g.i) ⟨1, jan1 y⟩ SFA SOA ⟨Nat.le_refl _, by dsimp only; omega, jan1_dayNo y⟩ ?_
  rintro ⟨i, s⟩ ⟨h4, h5, h6⟩
  dsimp only at h4 h5 h6 ⊢
  have hli := fun w' => rlen_spec y i w'
  have hlb := lenM_bd y i
  have hsb := rdayNo_bd y i 1 h1 (by omega)
  repeat (first | refine walk ?_)
  refine W_cond rfl (fun hc => ?_) (fun hc => ?_)
  ·simp only [decide_eq_true_eq, Int.ofNat_lt] at hc
   have h7 := dayNo_succ y i h4 (by omega)
   repeat (first | (apply RL_pu; rfl; exact PuRfA2) | (refine js ?_; (refine callE (fun w' _ => hli w') ?_)) | refine walk1 ?_)
   exact ⟨⟨i + 1, s + lenM y i⟩, OA, ⟨OA, OA, by dsimp only; rw [h6, ← h7]; rfl⟩, SFA, SOA⟩
  ·simp only [decide_eq_false_iff_not, Int.ofNat_lt] at hc
   obtain rfl : i = n := by omega
   repeat (first | (apply RL_pu; rfl; exact PuRfA2) | refine walk1 ?_)
   exact ret_2 _ _ [] (.tmp rfl) (.tmp rfl) .nil ⟨by rw [dayNo_add, h6], rfl⟩
 ·rw [if_neg hok, if_neg hok]
  unfold daysOk at hok
  cases hy : inY y with
  | false =>
   rw [hy] at hi
   repeat (first | refine und ?_ | (refine js ?_; (refine callE (fun w' _ => hi w') ?_)) | refine walk ?_)
   exact rtB
  | true =>
   rw [hy] at hi hok
   by_cases hd : d < 1
   ·have b1 : decide (d < 1) = true := decide_eq_true hd
    repeat (first | refine und ?_ | (apply RL_pu; rfl; exact PuRfA4) | (refine js ?_; (refine callE (fun w' _ => hi w') ?_)) | refine walk1 ?_)
    exact rtB
   ·have b1 : decide (d < 1) = false := decide_eq_false hd
    have b2 : decide (lenM y m < d) = true := decide_eq_true (by simp only [Bool.true_and, Bool.and_eq_true, decide_eq_true_eq, not_and] at hok; have := hok (by omega); omega)
    repeat (first | (apply RL_pu; rfl; exact PuRfA3) | (refine js ?_; (first | (refine callE (fun w' _ => hi w') ?_) | (refine callE (fun w' _ => hl w') ?_))) | refine walk1 ?_)
    exact rtB
theorem rwkday_spec (a : Int) (w : World) : Does Tryz.prog 184 [.int .i64 a] w (fun v O => v = .int .i64 (wkday a) ∧ O = []) := by
 have h2 := Int.tmod_lt_of_pos a (b := 7) (by decide)
 have h3 := Int.lt_tmod_of_pos a (b := 7) (by decide)
 have h := split_eq a 7 (by decide)
 have e : (a.tmod 7 + 11).tmod 7 = wkday a := by
  rw [Int.tmod_eq_emod_of_nonneg (by omega)]
  unfold wkday
  by_cases hn : a.tmod 7 < 0
  ·have := (h.1 hn).2; omega
  ·have := (h.2 hn).2; omega
 rw [← e]
 refine Does_of_W Tryz.func184 rfl rfl rfl rfl ?_
 repeat (first | (apply RL_pu; rfl; exact PuRfA1) | refine walk1 ?_)
 exact rtA
theorem ryear_spec (n : Int) (hn : -1000000000000000 ≤ n ∧ n ≤ 1000000000000000) (w : World) : Does Tryz.prog 186 [.int .i64 n] w (fun v O => v = .tuple #[.int .i64 (dateY n), .int .i64 (n - jan1 (dateY n))] ∧ O = []) := by
 have hfl := fun w' => rfloor_spec n 146097 (by decide) (by omega) (by decide) w'
 refine Does_of_W Tryz.func186 rfl rfl rfl rfl ?_
 repeat (first | (apply RL_pu; rfl; exact PuRfA2) | (refine js ?_; (refine callE (fun w' _ => hfl w') ?_)) | refine walk1 ?_)
 refine W_loopF [] [] (fun g : RyG => [(5, .int .i64 g.d), (6, .int .i64 g.i)]) (fun _ => []) (fun g => 0 ≤ g.d ∧ g.d = n - jan1 g.i ∧ n / 146097 * 400 ≤ g.i ∧ g.i + g.d ≤ n / 146097 * 400 + 1000000) (fun g => g.d.toNat) ⟨n / 146097 * 400, n - n / 146097 * 146097 + 719528⟩ SFA SOA ⟨by dsimp only; omega, by dsimp only; rw [jan1_c]; omega, Int.le_refl _, by dsimp only; omega⟩ ?_
 rintro ⟨y, r⟩ ⟨h1, h2, h3, h4⟩
 dsimp only at h1 h2 h3 h4 ⊢
 have hs := fun w' => rsize_spec y w'
 have hsb := sizeY_bd y
 have h5 := jan1_succ y
 repeat (first | (refine js ?_; (refine callE (fun w' _ => hs w') ?_)) | refine walk ?_)
 refine W_cond rfl (fun hc => ?_) (fun hc => ?_)
 ·simp only [decide_eq_true_eq] at hc
  repeat (first | (apply RL_pu; rfl; exact PuRfA2) | (refine js ?_; (refine callE (fun w' _ => hs w') ?_)) | refine walk1 ?_)
  exact ⟨⟨y + 1, r - sizeY y⟩, OA, ⟨OA, by dsimp only; omega, OA, OA⟩, SFA, SOA⟩
 ·simp only [decide_eq_false_iff_not] at hc
  have hd := dateY_jan n
  obtain rfl : y = dateY n := jan1_uni (n := n) (by omega) (by omega) hd.1 hd.2
  repeat (first | refine walk ?_)
  exact ret_2 _ _ [] (.tmp rfl) (.tmp rfl) .nil ⟨by rw [h2], rfl⟩
theorem rYear_spec (t : Int) (ht : -4611686018427387904 ≤ t ∧ t ≤ 4611686018427387904) (w : World) : Does Tryz.prog 152 [.int .i64 t] w (fun v O => v = .int .i64 (yearOf t) ∧ O = []) := by
 unfold yearOf
 refine Does_of_W Tryz.func152 rfl rfl rfl rfl ?_
 have hfl := fun w' => rfloor_spec t 86400 (by decide) (by omega) (by decide) w'
 have hyr := fun w' => ryear_spec (t / 86400) (by omega) w'
 generalize dateY (t / 86400) = y at *
 by_cases h1 : y < -2000000000
 ·have b1 : decide (y < -2000000000) = true := decide_eq_true h1
  repeat (first | (apply RL_pu; rfl; exact PuRfA4) | (refine js ?_; (first | (refine callE (fun w' _ => hfl w') ?_) | (refine callE (fun w' _ => hyr w') ?_))) | refine walk1 ?_)
  exact ret_1 _ [] (.tmp rfl) .nil ⟨by congr 1; omega, rfl⟩
 have b1 : decide (y < -2000000000) = false := decide_eq_false h1
 by_cases h2 : 2000000000 < y
 ·have b2 : decide (2000000000 < y) = true := decide_eq_true h2
  repeat (first | (apply RL_pu; rfl; exact PuRfA3) | (refine js ?_; (first | (refine callE (fun w' _ => hfl w') ?_) | (refine callE (fun w' _ => hyr w') ?_))) | refine walk1 ?_)
  exact ret_1 _ [] (.tmp rfl) .nil ⟨by congr 1; omega, rfl⟩
 have b2 : decide (2000000000 < y) = false := decide_eq_false h2
 repeat (first | (apply RL_pu; rfl; exact PuRfA3) | (refine js ?_; (first | (refine callE (fun w' _ => hfl w') ?_) | (refine callE (fun w' _ => hyr w') ?_))) | refine walk1 ?_)
 exact ret_1 _ [] (.tmp rfl) .nil ⟨by congr 1; omega, rfl⟩
def inB (n a b : Int) : Bool := decide (a ≤ n) && decide (n ≤ b)
theorem r2in_spec (n a b : Int) (w : World) : Does Tryz.prog 176 [.int .i64 n, .int .i64 a, .int .i64 b] w (fun v O => v = .bool (inB n a b) ∧ O = []) := by
 refine Does_of_W Tryz.func176 rfl rfl rfl rfl ?_
 repeat' (first | refine walk ?_ | refine und ?_ | (refine RL_gsplit rfl rfl rfl (fun hc => ?_) (fun hc => ?_)) | (refine RD_gsplit rfl rfl rfl (fun hc => ?_) (fun hc => ?_)) | (refine W_cond rfl (fun hc => ?_) (fun hc => ?_)))
 all_goals first | (refine ret_1 _ [] (.tmp rfl) .nil ⟨?_, rfl⟩; first | rfl | (simp only [*, Bool.true_and, Bool.false_and, Bool.true_or, Bool.false_or, Bool.not_true, Bool.not_false]; done) | (simp_all [inB]; done) | (simp_all [inB]; omega) | (simp_all [inB]; rw [Bool.eq_iff_iff]; simp; omega)) | (exfalso; simp_all [inB]; done) | (exfalso; simp_all [inB]; omega) | (exfalso; omega)
theorem dayChk_eq (d : DDay) : dayChk d = ((decide (d.kind = 1) && decide (d.week = 0) && inB d.day 1 31) || (decide (d.kind = 2) && inB d.week 0 6 && decide (d.day = 0)) || ((decide (d.kind = 3) || decide (d.kind = 4)) && inB d.week 0 6 && inB d.day 1 31)) := by
 obtain ⟨k, w, n⟩ := d
 unfold dayChk weekK dayK inB
 dsimp only
 by_cases h : 1 ≤ k ∧ k ≤ 4
 ·obtain rfl | rfl | rfl | rfl : k = 1 ∨ k = 2 ∨ k = 3 ∨ k = 4 := by omega
  all_goals
   rw [Bool.eq_iff_iff]
   by_cases hn : n = 0
   ·subst hn; simp; try omega
   ·simp [hn]; try omega
 ·have h1 : decide (k = 1) = false := decide_eq_false (by omega)
  have h2 : decide (k = 2) = false := decide_eq_false (by omega)
  have h3 : decide (k = 3) = false := decide_eq_false (by omega)
  have h4 : decide (k = 4) = false := decide_eq_false (by omega)
  have h5 : (decide (1 ≤ k) && decide (k ≤ 4)) = false := by simp; omega
  rw [h1, h2, h3, h4, h5]
  simp
set_option maxHeartbeats 2000000 in
theorem r2chk_spec (d : DDay) (w : World) : Does Tryz.prog 177 [.agg (DDay.enc d).toArray] w (fun v O => v = .int .i64 (if dayChk d then 0 else 2) ∧ O = []) := by
 rw [dayChk_eq]
 have h1 := fun w' => r2in_spec d.week 0 6 w'
 have h2 := fun w' => r2in_spec d.day 1 31 w'
 generalize inB d.week 0 6 = x at *
 generalize inB d.day 1 31 = y at *
 obtain ⟨k, wk, n⟩ := d
 show Does _ _ [.agg #[.int .i64 k, .int .i64 wk, .int .i64 n]] w _
 refine Does_of_W Tryz.func177 rfl rfl rfl rfl ?_
 repeat' (first | (refine js ?_; (first | (refine callE (fun w' _ => h1 w') ?_) | (refine callE (fun w' _ => h2 w') ?_) | (refine bx ?_; intro bk))) | refine walk ?_ | (refine RD_G0w ?_; intro F; (first | (refine callE (fun w' _ => h1 w') ?_) | (refine callE (fun w' _ => h2 w') ?_)); refine ⟨_, EndsA, SubO.right _ _, ?_⟩) | (refine RD_Lw ?_; intro F; (first | (refine callE (fun w' _ => h1 w') ?_) | (refine callE (fun w' _ => h2 w') ?_) | (refine bx ?_; intro bk) | (apply Stp_pu; exact PuA)); refine ⟨_, EndsA, QFA, ?_⟩) | refine und ?_ | (refine RL_gsplit rfl rfl rfl (fun hc => ?_) (fun hc => ?_)) | (refine RD_gsplit rfl rfl rfl (fun hc => ?_) (fun hc => ?_)) | (refine W_cond rfl (fun hc => ?_) (fun hc => ?_)))
 all_goals exact clo1
theorem r6chk_spec (d : DClock) (w : World) : Does Tryz.prog 180 [.agg (DClock.enc d).toArray] w (fun v O => v = .int .i64 (if clkChk d then 0 else 2) ∧ O = []) := by
 obtain ⟨k, wk⟩ := d
 show Does _ _ [.agg #[.int .i64 k, .int .i64 wk]] w _
 refine Does_of_W Tryz.func180 rfl rfl rfl rfl ?_
 repeat' (first | (refine js ?_; (refine bx ?_; intro bk)) | refine walk ?_ | refine und ?_ | (refine RL_gsplit rfl rfl rfl (fun hc => ?_) (fun hc => ?_)) | (refine RD_gsplit rfl rfl rfl (fun hc => ?_) (fun hc => ?_)) | (refine W_cond rfl (fun hc => ?_) (fun hc => ?_)))
 all_goals first | (refine ret_1 _ [] (.tmp rfl) .nil ⟨?_, rfl⟩; first | rfl | (simp only [*, Bool.true_and, Bool.false_and, Bool.true_or, Bool.false_or, Bool.not_true, Bool.not_false]; done) | (simp_all [clkChk]; done) | (simp_all [clkChk]; omega) | (simp_all [clkChk]; rw [Bool.eq_iff_iff]; simp; omega)) | (exfalso; simp_all [clkChk]; done) | (exfalso; simp_all [clkChk]; omega) | (exfalso; omega)
theorem r2leap_spec (y : Int) (w : World) : Does Tryz.prog 179 [.int .i64 y] w (fun v O => v = .bool (leapB y) ∧ O = []) := by
 rw [show leapB y = (decide (y.tmod 4 = 0) && (!decide (y.tmod 100 = 0) || decide (y.tmod 400 = 0))) by simp only [leapB, tmod_zero]]
 refine Does_of_W Tryz.func179 rfl rfl rfl rfl ?_
 repeat' (first | (apply RL_pu; rfl; (apply Pu_rem; rfl; rfl; decide)) | refine walk1 ?_ | refine und ?_ | (refine RL_gsplit rfl rfl rfl (fun hc => ?_) (fun hc => ?_)) | (refine RD_gsplit rfl rfl rfl (fun hc => ?_) (fun hc => ?_)) | (refine W_cond rfl (fun hc => ?_) (fun hc => ?_)))
 all_goals exact clo1
theorem leapB_tmod (a : Int) : leapB (a.tmod 400) = leapB a := by
 have h := split_eq a 400 (by decide)
 have h2 : a.tmod 400 = a % 400 ∨ a.tmod 400 = a % 400 - 400 := by
  by_cases hn : a.tmod 400 < 0
  ·have := (h.1 hn).2; omega
  ·have := (h.2 hn).2; omega
 rw [Bool.eq_iff_iff, leapB_iff, leapB_iff]
 rcases h2 with e | e <;> rw [e] <;> omega
def alwB (a b m : Int) (d : DDay) : Bool := (inB m 1 12 && dayChk d) && ((decide (b < 1048576) && decide (b < a)) || decide (d.day ≤ lenM 2001 m) || (decide (m = 2) && decide (d.day = 29) && decide (a = b) && decide (b < 1048576) && leapB a))
theorem alwaysD_eq (a b m : Int) (d : DDay) : alwaysD a b m d = alwB a b m d := by
 unfold alwaysD alwB inB
 by_cases hm : 1 ≤ m ∧ m ≤ 12
 ·rw [decide_eq_true hm.1, decide_eq_true hm.2]
  cases hc : dayChk d with
  | false => rw [if_pos (.inr (.inr rfl))]; rfl
  | true =>
   have hb := dayChk_bd hc
   rw [if_neg (by simp; omega)]
   have hl : lenM 2001 m = lenM 1 m := by
    unfold lenM
    rw [show leapB 2001 = leapB 1 by decide]
   rw [hl]
   by_cases h1 : (b < 1048576 ∧ b < a) ∨ d.day ≤ lenM 1 m
   ·rw [if_pos h1]
    rcases h1 with ⟨h1, h2⟩ | h1
    ·rw [decide_eq_true h1, decide_eq_true h2]; rfl
    ·rw [decide_eq_true h1]; simp
   ·rw [if_neg h1]
    have h2 : (decide (b < 1048576) && decide (b < a)) = false := by simp; omega
    have h3 : decide (d.day ≤ lenM 1 m) = false := decide_eq_false (fun e => h1 (.inr e))
    rw [h2, h3]
    by_cases h4 : 1048576 ≤ b ∨ a ≠ b ∨ m ≠ 2
    ·rw [if_pos h4]
     symm
     simp
     omega
    ·rw [if_neg h4]
     obtain rfl : m = 2 := by omega
     have h5 : ¬ d.day ≤ 28 := fun e => h1 (.inr e)
     have h6 : lenM (a.tmod 400) 2 = if leapB a then 29 else 28 := by
      show (if leapB (a.tmod 400) then (29 : Int) else 28) = _
      rw [leapB_tmod]
     rw [h6, decide_eq_true (show a = b by omega), decide_eq_true (show b < 1048576 by omega)]
     cases leapB a with
     | true => simp; omega
     | false => simp; omega
 ·rw [if_pos (by omega)]
  have : (decide (1 ≤ m) && decide (m ≤ 12)) = false := by simp; omega
  rw [this]
  rfl
theorem ralways_spec (a b m : Int) (d : DDay) (w : World) : Does Tryz.prog 144 [.int .i64 a, .int .i64 b, .int .i64 m, .agg (DDay.enc d).toArray] w (fun v O => v = .bool (alwaysD a b m d) ∧ O = []) := by
 rw [alwaysD_eq]
 unfold alwB
 have h1 := fun w' => r2in_spec m 1 12 w'
 have h2 := fun w' => r2chk_spec d w'
 have h3 := fun w' => rlen_spec 2001 m w'
 have h4 := fun w' => r2leap_spec a w'
 generalize dayChk d = c at *
 generalize inB m 1 12 = x at *
 generalize leapB a = y at *
 generalize lenM 2001 m = z at *
 obtain ⟨k, wk, n⟩ := d
 show Does _ _ [.int .i64 a, .int .i64 b, .int .i64 m, .agg #[.int .i64 k, .int .i64 wk, .int .i64 n]] w _
 refine Does_of_W Tryz.func144 rfl rfl rfl rfl ?_
 repeat' (first | (refine js ?_; (first | (refine callE (fun w' _ => h1 w') ?_) | (refine callE (fun w' _ => h2 w') ?_) | (refine callE (fun w' _ => h3 w') ?_) | (refine callE (fun w' _ => h4 w') ?_) | (refine bx ?_; intro bk))) | refine walk ?_ | (refine RD_G0w ?_; intro F; (first | (refine callE (fun w' _ => h1 w') ?_) | (refine callE (fun w' _ => h2 w') ?_) | (refine callE (fun w' _ => h3 w') ?_) | (refine callE (fun w' _ => h4 w') ?_)); refine ⟨_, EndsA, SubO.right _ _, ?_⟩) | (refine RD_Lw ?_; intro F; (first | (refine callE (fun w' _ => h1 w') ?_) | (refine callE (fun w' _ => h2 w') ?_) | (refine callE (fun w' _ => h3 w') ?_) | (refine callE (fun w' _ => h4 w') ?_) | (refine bx ?_; intro bk) | (apply Stp_pu; exact PuA)); refine ⟨_, EndsA, QFA, ?_⟩) | refine und ?_ | (refine RL_gsplit rfl rfl rfl (fun hc => ?_) (fun hc => ?_)) | (refine RD_gsplit rfl rfl rfl (fun hc => ?_) (fun hc => ?_)) | (refine W_cond rfl (fun hc => ?_) (fun hc => ?_)))
 all_goals exact clo1
theorem behindW_step (x k : Int) (hk : 0 ≤ k ∧ k ≤ 6) (h : wkday x ≠ k) : behindW (x + 1) k = behindW x k ∧ x + 1 ≤ behindW x k := by
 unfold behindW wkday at *
 omega
theorem behindW_hit (x k : Int) (h : wkday x = k) : behindW x k = x := by
 unfold behindW
 rw [h]
 omega
theorem beforeW_step (x k : Int) (hk : 0 ≤ k ∧ k ≤ 6) (h : wkday x ≠ k) : beforeW (x - 1) k = beforeW x k ∧ beforeW x k ≤ x - 1 := by
 unfold beforeW wkday at *
 omega
theorem beforeW_hit (x k : Int) (h : wkday x = k) : beforeW x k = x := by
 unfold beforeW
 rw [h]
 omega
theorem lenM_in {y m : Int} (h : 1 ≤ m ∧ m ≤ 12) : 1 ≤ lenM y m := by
 unfold lenM
 rw [if_neg (by omega)]
 split
 ·split <;> omega
 ·split <;> omega
theorem PuRfC0 {G : Prop} (h : G := by (apply Pu_lssB; rfl; rfl; exact b1)) : G := h
theorem QyRfC0 {G : Prop} (h : G := by first | (apply Qy_y; rfl; exact PuRfC0) | exact QyA) : G := h
theorem QFRfC0 {G : Prop} (h : G := by repeat (first | exact QF.nil | (apply QF.mk; rfl; rfl; decide +kernel; exact QyRfC0))) : G := h
theorem PuRfC1 {G : Prop} (h : G := by (first | exact PuRfC0 | (apply Pu_gtrB; rfl; rfl; exact b2))) : G := h
theorem QyRfC1 {G : Prop} (h : G := by first | (apply Qy_y; rfl; exact PuRfC1) | exact QyA) : G := h
theorem QFRfC1 {G : Prop} (h : G := by repeat (first | exact QF.nil | (apply QF.mk; rfl; rfl; decide +kernel; exact QyRfC1))) : G := h
theorem PuRfC2 {G : Prop} (h : G := by (first | exact PuRfC0 | (apply Pu_gtrB; rfl; rfl; first | exact b2 | exact b3))) : G := h
theorem QyRfC2 {G : Prop} (h : G := by first | (apply Qy_y; rfl; exact PuRfC2) | exact QyA) : G := h
theorem QFRfC2 {G : Prop} (h : G := by repeat (first | exact QF.nil | (apply QF.mk; rfl; rfl; decide +kernel; exact QyRfC2))) : G := h
theorem wkRfC0 {G G' : Prop} (k : G') (h : Hold G' → G := by intro k9; (first | (apply RL_pu; rfl; exact PuRfC2) | (apply RD_Q; rfl; rfl; decide +kernel; rfl; rfl; exact QyRfC2) | refine walk1 ?_ | (refine jg ?_; (try intro F); (first | (refine callE (fun w' _ => h1 w') ?_) | (refine callE (fun w' _ => h2 w') ?_) | (refine callE (fun w' _ => h3 w') ?_) | (refine callE (fun w' _ => h4 w') ?_)); first | refine ⟨_, EndsA, QFRfC2, ?_⟩ | refine fin ?_) | (refine jn ?_; (try intro F); (apply Stp_pu; first | exact PuRfC2 | exact PuA); first | refine ⟨_, EndsA, QFRfC2, ?_⟩ | refine fin ?_)); exact k9.out) : G := h ⟨k⟩
theorem ron_spec (y m : Int) (d : DDay) (w : World) : Does Tryz.prog 150 [.int .i64 y, .int .i64 m, .agg (DDay.enc d).toArray] w (fun v O => v = .tuple #[.int .i64 (onD y m d).1, .int .i64 (onD y m d).2] ∧ O = []) := by
 have h1 := fun w' => r2in_spec m 1 12 w'
 have h2 := fun w' => r2chk_spec d w'
 have h3 := fun w' => rlen_spec y m w'
 have h4 := fun w' => rdays_spec y m 1 w'
 have hlb := lenM_bd y m
 unfold onD
 cases hm : inB m 1 12 with
 | false =>
  have hok : daysOk y m 1 = false := by
   cases hh : daysOk y m 1 with
   | false => rfl
   | true =>
    have := (daysOk_bd hh).2.1
    unfold inB at hm
    rw [decide_eq_true this.1, decide_eq_true this.2] at hm
    cases hm
  rw [hok, if_pos rfl]
  rw [hm] at h1
  obtain ⟨k, wk, n⟩ := d
  show Does _ _ [.int .i64 y, .int .i64 m, .agg #[.int .i64 k, .int .i64 wk, .int .i64 n]] w _
  refine Does_of_W Tryz.func150 rfl rfl rfl rfl ?_
  repeat (first | refine und ?_ | refine walk ?_ | (refine jg ?_; (try intro F); (first | (refine callE (fun w' _ => h1 w') ?_) | (refine callE (fun w' _ => h2 w') ?_) | (refine callE (fun w' _ => h3 w') ?_) | (refine callE (fun w' _ => h4 w') ?_) | (refine bx ?_; intro bk)); refine fin ?_) | (refine jn ?_; (try intro F); (first | (refine bx ?_; intro bk) | (apply Stp_pu; exact PuA)); refine fin ?_))
  exact rtB
 | true =>
 have hmb := hm
 unfold inB at hmb
 simp only [Bool.and_eq_true, decide_eq_true_eq] at hmb
 rw [hm] at h1
 by_cases hy1 : y < -2000000000
 ·have b1 : decide (y < -2000000000) = true := decide_eq_true hy1
  have hok : daysOk y m 1 = false := by
   cases hh : daysOk y m 1 with
   | false => rfl
   | true => have := (daysOk_bd hh).1; omega
  rw [hok, if_pos rfl]
  obtain ⟨k, wk, n⟩ := d
  show Does _ _ [.int .i64 y, .int .i64 m, .agg #[.int .i64 k, .int .i64 wk, .int .i64 n]] w _
  refine Does_of_W Tryz.func150 rfl rfl rfl rfl ?_
  repeat (first | refine und ?_ | (apply RL_pu; rfl; exact PuRfC0) | (apply RD_Q; rfl; rfl; decide +kernel; rfl; rfl; exact QyRfC0) | refine walk1 ?_ | (refine jg ?_; (try intro F); (first | (refine callE (fun w' _ => h1 w') ?_) | (refine callE (fun w' _ => h2 w') ?_) | (refine callE (fun w' _ => h3 w') ?_) | (refine callE (fun w' _ => h4 w') ?_) | (refine bx ?_; intro bk)); first | refine ⟨_, EndsA, QFRfC0, ?_⟩ | refine fin ?_) | (refine jn ?_; (try intro F); (first | (refine bx ?_; intro bk) | (apply Stp_pu; first | exact PuRfC0 | exact PuA)); first | refine ⟨_, EndsA, QFRfC0, ?_⟩ | refine fin ?_))
  exact rtB
 have b1 : decide (y < -2000000000) = false := decide_eq_false hy1
 by_cases hy2 : 2000000000 < y
 ·have b2 : decide (2000000000 < y) = true := decide_eq_true hy2
  have hok : daysOk y m 1 = false := by
   cases hh : daysOk y m 1 with
   | false => rfl
   | true => have := (daysOk_bd hh).1; omega
  rw [hok, if_pos rfl]
  obtain ⟨k, wk, n⟩ := d
  show Does _ _ [.int .i64 y, .int .i64 m, .agg #[.int .i64 k, .int .i64 wk, .int .i64 n]] w _
  refine Does_of_W Tryz.func150 rfl rfl rfl rfl ?_
  repeat (first | refine und ?_ | (apply RL_pu; rfl; exact PuRfC1) | (apply RD_Q; rfl; rfl; decide +kernel; rfl; rfl; exact QyRfC1) | refine walk1 ?_ | (refine jg ?_; (try intro F); (first | (refine callE (fun w' _ => h1 w') ?_) | (refine callE (fun w' _ => h2 w') ?_) | (refine callE (fun w' _ => h3 w') ?_) | (refine callE (fun w' _ => h4 w') ?_) | (refine bx ?_; intro bk)); first | refine ⟨_, EndsA, QFRfC1, ?_⟩ | refine fin ?_) | (refine jn ?_; (try intro F); (first | (refine bx ?_; intro bk) | (apply Stp_pu; first | exact PuRfC1 | exact PuA)); first | refine ⟨_, EndsA, QFRfC1, ?_⟩ | refine fin ?_))
  exact rtB
 have b2 : decide (2000000000 < y) = false := decide_eq_false hy2
 have hok : daysOk y m 1 = true := by
  have := lenM_in (y := y) hmb
  unfold daysOk inY
  rw [decide_eq_true (show -2000000000 ≤ y by omega), decide_eq_true (show y ≤ 2000000000 by omega), decide_eq_true (show 1 ≤ lenM y m from this)]
  rfl
 rw [hok, if_neg (by decide)]
 rw [if_pos hok, if_pos hok] at h4
 have hdb := dayNo_bd hok
 cases hc : dayChk d with
 | false =>
  rw [if_pos rfl]
  rw [hc] at h2
  obtain ⟨k, wk, n⟩ := d
  show Does _ _ [.int .i64 y, .int .i64 m, .agg #[.int .i64 k, .int .i64 wk, .int .i64 n]] w _
  refine Does_of_W Tryz.func150 rfl rfl rfl rfl ?_
  repeat (first | (apply RL_pu; rfl; exact PuRfC1) | (apply RD_Q; rfl; rfl; decide +kernel; rfl; rfl; exact QyRfC1) | refine walk1 ?_ | (refine jg ?_; (try intro F); (first | (refine callE (fun w' _ => h1 w') ?_) | (refine callE (fun w' _ => h2 w') ?_) | (refine callE (fun w' _ => h3 w') ?_) | (refine callE (fun w' _ => h4 w') ?_) | (refine bx ?_; intro bk)); first | refine ⟨_, EndsA, QFRfC1, ?_⟩ | refine fin ?_) | (refine jn ?_; (try intro F); (first | (refine bx ?_; intro bk) | (apply Stp_pu; first | exact PuRfC1 | exact PuA)); first | refine ⟨_, EndsA, QFRfC1, ?_⟩ | refine fin ?_))
  exact rtB
 | true =>
 rw [if_neg (by decide)]
 have hcb := dayChk_bd hc
 rw [hc] at h2
 generalize dayNo y m 1 = f at *
 generalize lenM y m = L at *
 obtain ⟨k, wk, n⟩ := d
 dsimp only at hcb ⊢
 replace h2 : ∀ w', Does Tryz.prog 177 [.agg #[.int .i64 k, .int .i64 wk, .int .i64 n]] w' (fun v O => v = .int .i64 0 ∧ O = []) := h2
 show Does _ _ [.int .i64 y, .int .i64 m, .agg #[.int .i64 k, .int .i64 wk, .int .i64 n]] w _
 refine Does_of_W Tryz.func150 rfl rfl rfl rfl ?_
 by_cases hn : L < n
 ·have b3 : decide (L < n) = true := decide_eq_true hn
  rw [if_pos hn]
  repeat (first | refine wkRfC0 ?_ | (refine jg ?_; (try intro F); (refine bx ?_; intro bk); first | refine ⟨_, EndsA, QFRfC2, ?_⟩ | refine fin ?_) | (refine jn ?_; (try intro F); (refine bx ?_; intro bk); first | refine ⟨_, EndsA, QFRfC2, ?_⟩ | refine fin ?_))
  exact rtB
 have b3 : decide (L < n) = false := decide_eq_false hn
 rw [if_neg hn]
 unfold findD
 dsimp only
 obtain rfl | rfl | rfl | rfl : k = 1 ∨ k = 2 ∨ k = 3 ∨ k = 4 := by omega
 ·repeat (first | refine wkRfC0 ?_ | (refine jg ?_; (try intro F); (refine bx ?_; intro bk); first | refine ⟨_, EndsA, QFRfC2, ?_⟩ | refine fin ?_) | (refine jn ?_; (try intro F); (refine bx ?_; intro bk); first | refine ⟨_, EndsA, QFRfC2, ?_⟩ | refine fin ?_))
  exact rtB
 ·rw [if_neg (by decide), if_pos rfl]
  repeat (first | refine wkRfC0 ?_ | (refine jg ?_; (try intro F); (refine bx ?_; intro bk); first | refine ⟨_, EndsA, QFRfC2, ?_⟩ | refine fin ?_) | (refine jn ?_; (try intro F); (refine bx ?_; intro bk); first | refine ⟨_, EndsA, QFRfC2, ?_⟩ | refine fin ?_))
  have hlo : beforeW (f + L - 1) wk ≤ f + L - 1 ∧ f + L - 8 ≤ beforeW (f + L - 1) wk := by unfold beforeW; omega
  obtain ⟨B, hB⟩ : ∃ B, beforeW (f + L - 1) wk = B := ⟨_, rfl⟩
  rw [hB] at hlo ⊢
  refine W_loopF [(5, .pointer (some ⟨bk, 0, none⟩))] [.blk bk [.int .i64 2, .int .i64 wk, .int .i64 n] 44] (fun x : Int => [(11, .int .i64 x)]) (fun _ => []) (fun x => beforeW x wk = B ∧ B ≤ x ∧ x ≤ f + L - 1) (fun x => (x - B).toNat) (f + L - 1) SFA SOA ⟨hB, hlo.1, Int.le_refl _⟩ ?_
  rintro x ⟨i1, i2, i3⟩
  have h5 := fun w' => rwkday_spec x w'
  have h6 := beforeW_step x wk hcb.2.1
  have h7 := beforeW_hit x wk
  repeat (first | refine walk ?_ | (refine jg ?_; (try intro F); (first | (refine callE (fun w' _ => h5 w') ?_) | (refine bx ?_; intro bk)); refine fin ?_) | (refine jn ?_; (try intro F); (first | (refine bx ?_; intro bk) | (apply Stp_pu; exact PuA)); refine fin ?_))
  refine W_cond rfl (fun hc => ?_) (fun hc => ?_)
  ·have hx := h6 (by simpa using hc)
   repeat (first | refine walk ?_ | (refine jn ?_; (try intro F); (first | (refine bx ?_; intro bk) | (apply Stp_pu; exact PuA)); refine fin ?_))
   exact ⟨x - 1, OA, ⟨by rw [hx.1]; exact i1, OA, OA⟩, SFA, SOA⟩
  ·have hx := h7 (by simpa using hc)
   repeat (first | refine walk ?_ | (refine jn ?_; (try intro F); (first | (refine bx ?_; intro bk) | (apply Stp_pu; exact PuA)); refine fin ?_))
   exact ret_2 _ _ [] (.tmp rfl) (.tmp rfl) .nil ⟨by rw [← i1, hx], rfl⟩
 ·rw [if_neg (by decide), if_neg (by decide), if_pos rfl]
  repeat (first | refine wkRfC0 ?_ | (refine jg ?_; (try intro F); (refine bx ?_; intro bk); first | refine ⟨_, EndsA, QFRfC2, ?_⟩ | refine fin ?_) | (refine jn ?_; (try intro F); (refine bx ?_; intro bk); first | refine ⟨_, EndsA, QFRfC2, ?_⟩ | refine fin ?_))
  have hlo : f + n - 1 ≤ behindW (f + n - 1) wk ∧ behindW (f + n - 1) wk ≤ f + n + 6 := by unfold behindW; omega
  obtain ⟨B, hB⟩ : ∃ B, behindW (f + n - 1) wk = B := ⟨_, rfl⟩
  rw [hB] at hlo ⊢
  refine W_loopF [(5, .pointer (some ⟨bk, 0, none⟩))] [.blk bk [.int .i64 3, .int .i64 wk, .int .i64 n] 44] (fun x : Int => [(10, .int .i64 x)]) (fun _ => []) (fun x => behindW x wk = B ∧ x ≤ B ∧ f + n - 1 ≤ x) (fun x => (B - x).toNat) (f + n - 1) SFA SOA ⟨hB, hlo.1, Int.le_refl _⟩ ?_
  rintro x ⟨i1, i2, i3⟩
  have h5 := fun w' => rwkday_spec x w'
  have h6 := behindW_step x wk hcb.2.1
  have h7 := behindW_hit x wk
  repeat (first | refine walk ?_ | (refine jg ?_; (try intro F); (first | (refine callE (fun w' _ => h5 w') ?_) | (refine bx ?_; intro bk)); refine fin ?_) | (refine jn ?_; (try intro F); (first | (refine bx ?_; intro bk) | (apply Stp_pu; exact PuA)); refine fin ?_))
  refine W_cond rfl (fun hc => ?_) (fun hc => ?_)
  ·have hx := h6 (by simpa using hc)
   repeat (first | refine walk ?_ | (refine jn ?_; (try intro F); (first | (refine bx ?_; intro bk) | (apply Stp_pu; exact PuA)); refine fin ?_))
   exact ⟨x + 1, OA, ⟨by rw [hx.1]; exact i1, OA, OA⟩, SFA, SOA⟩
  ·have hx := h7 (by simpa using hc)
   repeat (first | refine walk ?_ | (refine jn ?_; (try intro F); (first | (refine bx ?_; intro bk) | (apply Stp_pu; exact PuA)); refine fin ?_))
   exact ret_2 _ _ [] (.tmp rfl) (.tmp rfl) .nil ⟨by rw [← i1, hx], rfl⟩
 ·rw [if_neg (by decide), if_neg (by decide), if_neg (by decide)]
  repeat (first | refine wkRfC0 ?_ | (refine jg ?_; (try intro F); (refine bx ?_; intro bk); first | refine ⟨_, EndsA, QFRfC2, ?_⟩ | refine fin ?_) | (refine jn ?_; (try intro F); (refine bx ?_; intro bk); first | refine ⟨_, EndsA, QFRfC2, ?_⟩ | refine fin ?_))
  have hlo : beforeW (f + n - 1) wk ≤ f + n - 1 ∧ f + n - 8 ≤ beforeW (f + n - 1) wk := by unfold beforeW; omega
  obtain ⟨B, hB⟩ : ∃ B, beforeW (f + n - 1) wk = B := ⟨_, rfl⟩
  rw [hB] at hlo ⊢
  refine W_loopF [(5, .pointer (some ⟨bk, 0, none⟩))] [.blk bk [.int .i64 4, .int .i64 wk, .int .i64 n] 44] (fun x : Int => [(11, .int .i64 x)]) (fun _ => []) (fun x => beforeW x wk = B ∧ B ≤ x ∧ x ≤ f + n - 1) (fun x => (x - B).toNat) (f + n - 1) SFA SOA ⟨hB, hlo.1, Int.le_refl _⟩ ?_
  rintro x ⟨i1, i2, i3⟩
  have h5 := fun w' => rwkday_spec x w'
  have h6 := beforeW_step x wk hcb.2.1
  have h7 := beforeW_hit x wk
  repeat (first | refine walk ?_ | (refine jg ?_; (try intro F); (first | (refine callE (fun w' _ => h5 w') ?_) | (refine bx ?_; intro bk)); refine fin ?_) | (refine jn ?_; (try intro F); (first | (refine bx ?_; intro bk) | (apply Stp_pu; exact PuA)); refine fin ?_))
  refine W_cond rfl (fun hc => ?_) (fun hc => ?_)
  ·have hx := h6 (by simpa using hc)
   repeat (first | refine walk ?_ | (refine jn ?_; (try intro F); (first | (refine bx ?_; intro bk) | (apply Stp_pu; exact PuA)); refine fin ?_))
   exact ⟨x - 1, OA, ⟨by rw [hx.1]; exact i1, OA, OA⟩, SFA, SOA⟩
  ·have hx := h7 (by simpa using hc)
   repeat (first | refine walk ?_ | (refine jn ?_; (try intro F); (first | (refine bx ?_; intro bk) | (apply Stp_pu; exact PuA)); refine fin ?_))
   exact ret_2 _ _ [] (.tmp rfl) (.tmp rfl) .nil ⟨by rw [← i1, hx], rfl⟩
end Go.Proofs.YtceekohkjgiabaaGreatDoor
