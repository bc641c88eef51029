/- Contracts: footer.dates, footer.Date. Contract: footer.Date. Plain law: years by their first days (the reference of layer 1). Plain law: in which years events lie (layers 2, 17). Plain law: rules of drafts: their events lie in seasons (layers 2, 17). Plain functions: the drafts of layers 17 and 25. Plain law: close events, and the first event behind an instant. -/
import Derived.Test.YtonjepladadmhaaGreatDoorS10
import Derived.Test.YtonjepladadmhaaGreatDoorS19
import Derived.Test.YtonjepladadmhaaGreatDoorS15
import Derived.Test.YtonjepladadmhaaGreatDoorS09
import Derived.Test.YtonjepladadmhaaGreatDoorS02
import Derived.Test.YtonjepladadmhaaGreatDoorS01
import Derived.Test.YtonjepladadmhaaGreatDoorS08
set_option maxHeartbeats 4000000
set_option linter.unusedVariables false
set_option linter.unusedSimpArgs false
namespace Go.Proofs.YtonjepladadmhaaGreatDoor
open Go Go.RowKit Go.Wk
attribute [local irreducible] W RL Does thenQ blockQ retQ Calls Pu Stp RD Qy Ay DoesIn
def ftCells : List Value := [fnV 284, fnV 285, fnV 286, fnV 287]
def FtG (w : World) : Prop := CellsAt w ⟨0, 1, none⟩ ftCells
theorem FtG.up {w w' : World} (h : FtG w) (hb : Bel w.heap.size w w') : FtG w' := CellsAt.up h hb (Nat.le_refl _)
end Go.Proofs.YtonjepladadmhaaGreatDoor
namespace Go.Wk
open Go Go.RowKit
def jan1 (y : Int) : Int := 365 * y + (y + 3) / 4 - (y + 99) / 100 + (y + 399) / 400 - 719528
def sizeY (y : Int) : Int := if leapB y then 366 else 365
theorem leapB_iff (y : Int) : leapB y = true ↔ y % 4 = 0 ∧ (y % 100 ≠ 0 ∨ y % 400 = 0) := by
 unfold leapB
 simp
theorem jan1_succ (y : Int) : jan1 (y + 1) = jan1 y + sizeY y := by
 unfold sizeY
 have h := leapB_iff y
 by_cases hl : leapB y = true
 ·rw [if_pos hl]
  have := h.1 hl
  unfold jan1
  omega
 ·rw [if_neg hl]
  have : ¬ (y % 4 = 0 ∧ (y % 100 ≠ 0 ∨ y % 400 = 0)) := fun e => hl (h.2 e)
  unfold jan1
  omega
theorem sizeY_bd (y : Int) : 365 ≤ sizeY y ∧ sizeY y ≤ 366 := by unfold sizeY; split <;> omega
theorem jan1_dayNo (y : Int) : jan1 y = dayNo y 1 1 := by
 unfold dayNo dayNoM jan1
 rw [if_pos (by decide), show ((1 : Int) + 12 - 3).toNat = 10 by decide, show beforeL.getD 10 0 = 306 by decide]
 omega
theorem dayNo_succ (y : Int) (m : Nat) (h0 : 1 ≤ m) (h1 : m ≤ 11) : dayNo y ((m : Int) + 1) 1 = dayNo y m 1 + lenM y m := by
 have h := leapB_iff y
 have hm : m = 1 ∨ m = 2 ∨ m = 3 ∨ m = 4 ∨ m = 5 ∨ m = 6 ∨ m = 7 ∨ m = 8 ∨ m = 9 ∨ m = 10 ∨ m = 11 := by omega
 rcases hm with rfl | rfl | rfl | rfl | rfl | rfl | rfl | rfl | rfl | rfl | rfl
 ·show dayNoM (y - 1) 14 1 = dayNoM (y - 1) 13 1 + 31
  unfold dayNoM
  rw [show ((14 : Int) - 3).toNat = 11 by decide, show ((13 : Int) - 3).toNat = 10 by decide, show beforeL.getD 11 0 = 337 by decide, show beforeL.getD 10 0 = 306 by decide]
  omega
 ·show dayNoM y 3 1 = dayNoM (y - 1) 14 1 + (if leapB y then 29 else 28)
  unfold dayNoM
  rw [show ((14 : Int) - 3).toNat = 11 by decide, show ((3 : Int) - 3).toNat = 0 by decide, show beforeL.getD 11 0 = 337 by decide, show beforeL.getD 0 0 = 0 by decide]
  by_cases hl : leapB y = true
  ·rw [if_pos hl]
   have := h.1 hl
   omega
  ·rw [if_neg hl]
   have : ¬ (y % 4 = 0 ∧ (y % 100 ≠ 0 ∨ y % 400 = 0)) := fun e => hl (h.2 e)
   omega
 all_goals
  show dayNoM y _ 1 = dayNoM y _ 1 + _
  unfold dayNoM
 ·show y / 400 * 146097 + y % 400 * 365 + y % 400 / 4 - y % 400 / 100 + 31 + 1 - 1 - 719468 = y / 400 * 146097 + y % 400 * 365 + y % 400 / 4 - y % 400 / 100 + 0 + 1 - 1 - 719468 + 31
  omega
 ·show y / 400 * 146097 + y % 400 * 365 + y % 400 / 4 - y % 400 / 100 + 61 + 1 - 1 - 719468 = y / 400 * 146097 + y % 400 * 365 + y % 400 / 4 - y % 400 / 100 + 31 + 1 - 1 - 719468 + 30
  omega
 ·show y / 400 * 146097 + y % 400 * 365 + y % 400 / 4 - y % 400 / 100 + 92 + 1 - 1 - 719468 = y / 400 * 146097 + y % 400 * 365 + y % 400 / 4 - y % 400 / 100 + 61 + 1 - 1 - 719468 + 31
  omega
 ·show y / 400 * 146097 + y % 400 * 365 + y % 400 / 4 - y % 400 / 100 + 122 + 1 - 1 - 719468 = y / 400 * 146097 + y % 400 * 365 + y % 400 / 4 - y % 400 / 100 + 92 + 1 - 1 - 719468 + 30
  omega
 ·show y / 400 * 146097 + y % 400 * 365 + y % 400 / 4 - y % 400 / 100 + 153 + 1 - 1 - 719468 = y / 400 * 146097 + y % 400 * 365 + y % 400 / 4 - y % 400 / 100 + 122 + 1 - 1 - 719468 + 31
  omega
 ·show y / 400 * 146097 + y % 400 * 365 + y % 400 / 4 - y % 400 / 100 + 184 + 1 - 1 - 719468 = y / 400 * 146097 + y % 400 * 365 + y % 400 / 4 - y % 400 / 100 + 153 + 1 - 1 - 719468 + 31
  omega
 ·show y / 400 * 146097 + y % 400 * 365 + y % 400 / 4 - y % 400 / 100 + 214 + 1 - 1 - 719468 = y / 400 * 146097 + y % 400 * 365 + y % 400 / 4 - y % 400 / 100 + 184 + 1 - 1 - 719468 + 30
  omega
 ·show y / 400 * 146097 + y % 400 * 365 + y % 400 / 4 - y % 400 / 100 + 245 + 1 - 1 - 719468 = y / 400 * 146097 + y % 400 * 365 + y % 400 / 4 - y % 400 / 100 + 214 + 1 - 1 - 719468 + 31
  omega
 ·show y / 400 * 146097 + y % 400 * 365 + y % 400 / 4 - y % 400 / 100 + 275 + 1 - 1 - 719468 = y / 400 * 146097 + y % 400 * 365 + y % 400 / 4 - y % 400 / 100 + 245 + 1 - 1 - 719468 + 30
  omega
theorem monN_ten (q : Int) (h0 : 0 ≤ q) : 10 ≤ monN q 11 ↔ 306 ≤ q := by
 have b11 : beforeL.getD 11 0 = 337 := by decide
 have b10 : beforeL.getD 10 0 = 306 := by decide
 have hle : ∀ m, monN q m ≤ m := by
  intro m
  induction m with
  | zero => exact Nat.le_refl _
  | succ m ih => rw [monN]; split <;> omega
 rw [monN, monN]
 simp only [b11, show beforeL.getD (9 + 1) 0 = 306 from b10, show beforeL.getD (10 + 1) 0 = 337 from b11]
 have h9 := hle 9
 split
 ·constructor <;> intro <;> omega
 ·split
  ·constructor <;> intro <;> omega
  ·constructor <;> intro <;> omega
theorem jan1_mar (c y : Int) (h0 : 0 ≤ y) (h1 : y ≤ 399) : jan1 (c * 400 + y + 1) = c * 146097 + (y * 365 + y / 4 - y / 100) + 306 - 719468 := by
 have e1 : (c * 400 + y + 1 + 3) / 4 = 100 * c + y / 4 + 1 := by omega
 have e2 : (c * 400 + y + 1 + 99) / 100 = 4 * c + y / 100 + 1 := by omega
 have e3 : (c * 400 + y + 1 + 399) / 400 = c + 1 := by omega
 unfold jan1
 rw [e1, e2, e3]
 omega
theorem dateY_jan (n : Int) : jan1 (dateY n) ≤ n ∧ n < jan1 (dateY n + 1) := by
 have hD : dateY n = if 10 ≤ monN ((n + 719468) % 146097 - (yearN ((n + 719468) % 146097) * 365 + yearN ((n + 719468) % 146097) / 4 - yearN ((n + 719468) % 146097) / 100)) 11 then (n + 719468) / 146097 * 400 + yearN ((n + 719468) % 146097) + 1 else (n + 719468) / 146097 * 400 + yearN ((n + 719468) % 146097) := rfl
 have c3 : 0 ≤ (n + 719468) % 146097 ∧ (n + 719468) % 146097 < 146097 := by omega
 have hn : n = (n + 719468) / 146097 * 146097 + (n + 719468) % 146097 - 719468 := by omega
 have hb := yearN_bd _ c3.1 c3.2
 generalize (n + 719468) % 146097 = r at *
 generalize (n + 719468) / 146097 = c at *
 generalize yearN r = y at *
 obtain ⟨y1, y2, y3, y4⟩ := hb
 have ht := monN_ten _ y3
 have hm := jan1_mar c y y1 y2
 by_cases h : 10 ≤ monN (r - (y * 365 + y / 4 - y / 100)) 11
 ·rw [if_pos h] at hD
  have hq := ht.1 h
  have h2 := jan1_succ (c * 400 + y + 1)
  have h3 := sizeY_bd (c * 400 + y + 1)
  rw [hD, h2, hm]
  omega
 ·rw [if_neg h] at hD
  have hq : ¬ 306 ≤ r - (y * 365 + y / 4 - y / 100) := fun e => h (ht.2 e)
  have h2 := jan1_succ (c * 400 + y)
  have h3 := sizeY_bd (c * 400 + y)
  rw [hD]
  omega
theorem jan1_mono (a : Int) (k : Nat) : jan1 a + 365 * k ≤ jan1 (a + k) := by
 induction k with
 | zero => simp
 | succ k ih =>
  have := jan1_succ (a + k)
  have h2 := sizeY_bd (a + k)
  rw [show a + ((k + 1 : Nat) : Int) = a + k + 1 by omega, this]
  omega
theorem dayNo_year (y m : Int) : dayNo y m 1 + 365 ≤ dayNo (y + 1) m 1 := by
 unfold dayNo dayNoM
 split <;> omega
theorem dayNo_mono (y m : Int) (k : Nat) : dayNo y m 1 + 365 * k ≤ dayNo (y + k) m 1 := by
 induction k with
 | zero => simp
 | succ k ih =>
  have := dayNo_year (y + k) m
  rw [show y + ((k + 1 : Nat) : Int) = y + k + 1 by omega]
  omega
theorem dayNo_janN (y : Int) : ∀ (m : Nat), m ≤ 11 → jan1 y ≤ dayNo y ((m : Int) + 1) 1 ∧ dayNo y ((m : Int) + 1) 1 ≤ jan1 y + 31 * m
 | 0, _ => by rw [jan1_dayNo]; simp
 | m + 1, h => by
  have ih := dayNo_janN y m (by omega)
  have h1 := dayNo_succ y (m + 1) (by omega) (by omega)
  have h2 := lenM_bd y ((m + 1 : Nat) : Int)
  rw [h1]
  rw [show ((m + 1 : Nat) : Int) = (m : Int) + 1 by omega] at *
  omega
theorem dayNo_jan (y m : Int) (h0 : 1 ≤ m) (h1 : m ≤ 12) : jan1 y ≤ dayNo y m 1 ∧ dayNo y m 1 ≤ jan1 y + 341 := by
 have h := dayNo_janN y (m - 1).toNat (by omega)
 rw [show (((m - 1).toNat : Nat) : Int) + 1 = m by omega] at h
 omega
theorem onD_in {y m : Int} {d : DDay} (h : (onD y m d).2 = 0) : 1 ≤ m ∧ m ≤ 12 ∧ dayNo y m 1 - 6 ≤ (onD y m d).1 ∧ (onD y m d).1 ≤ dayNo y m 1 + 36 := by
 unfold onD at h ⊢
 by_cases h1 : daysOk y m 1 = false
 ·rw [if_pos h1] at h; simp at h
 rw [if_neg h1] at h ⊢
 by_cases h2 : dayChk d = false
 ·rw [if_pos h2] at h; simp at h
 rw [if_neg h2] at h ⊢
 by_cases h3 : lenM y m < d.day
 ·rw [if_pos h3] at h; simp at h
 rw [if_neg h3]
 have hl := lenM_bd y m
 have hm : 1 ≤ m ∧ m ≤ 12 := by
  simp only [daysOk, Bool.not_eq_false, Bool.and_eq_true, decide_eq_true_eq] at h1
  have h4 := h1.2
  unfold lenM at h4
  by_cases hb : m < 1 ∨ 12 < m
  ·rw [if_pos hb] at h4; omega
  ·omega
 have hd : dayChk d = true := by simpa using h2
 refine ⟨hm.1, hm.2, ?_⟩
 simp only [dayChk, dayK, weekK, Bool.and_eq_true, Bool.or_eq_false_iff, Bool.not_eq_true', decide_eq_true_eq, decide_eq_false_iff_not] at hd
 simp only [daysOk, Bool.not_eq_false, Bool.and_eq_true, decide_eq_true_eq] at h1
 obtain ⟨⟨k1, k2⟩, hk⟩ := hd
 have hdd : d.kind ≠ 2 → 1 ≤ d.day := by
  intro h5
  have e1 : (!decide (d.kind = 2)) = true := by simpa using h5
  obtain ⟨⟨⟨⟨⟨_, _⟩, _⟩, h7⟩, h8⟩, _⟩ := hk
  rw [e1] at h7
  simp at h7
  omega
 unfold findD beforeW behindW
 dsimp only
 split
 ·omega
 ·split
  ·omega
  ·split <;> omega
theorem onR_some {least : Int} {r : DRule} {i y : Int} {e : DEvent} (h : onR least r i y = some e) : e.year = y ∧ e.rule = i ∧ max r.from_ (-2000000000) ≤ y ∧ y ≤ 2000000000 ∧ -604799 ≤ r.at_.sec ∧ r.at_.sec ≤ 604799 ∧ (onD y r.month r.day).2 = 0 ∧ e.nominal = 86400 * (onD y r.month r.day).1 + (r.at_.sec + (if r.at_.base = 1 then max least (-10800) else 0)) := by
 unfold onR at h
 split at h
 ·cases h
 rename_i h1
 split at h
 ·cases h
 rename_i h2
 cases h
 have hc : clkChk r.at_ = true := by
  cases hc : clkChk r.at_
  ·exact absurd (.inr (.inr hc)) h1
  ·rfl
 simp only [clkChk, Bool.and_eq_true, decide_eq_true_eq] at hc
 have hl : ¬ lastY r < y := fun h => h1 (.inr (.inl h))
 have hl2 : lastY r ≤ 2000000000 := by unfold lastY; split <;> omega
 refine ⟨rfl, rfl, ?_, by omega, hc.1.1.1, hc.1.1.2, Decidable.not_not.1 h2, ?_⟩
 ·have : ¬ y < max r.from_ (-2000000000) := fun h => h1 (.inl h)
  omega
 ·dsimp only
  omega
theorem onR_in {least : Int} (hl : least ≤ 0) {r : DRule} {i y : Int} {e : DEvent} (h : onR least r i y = some e) : jan1 y * 86400 - 1700000 ≤ e.nominal ∧ e.nominal ≤ jan1 (y + 1) * 86400 + 1700000 := by
 obtain ⟨_, _, _, _, h3, h4, h5, h6⟩ := onR_some h
 obtain ⟨m1, m2, d1, d2⟩ := onD_in h5
 have hj := dayNo_jan y r.month m1 m2
 have hs := jan1_succ y
 have hz := sizeY_bd y
 have hm : -10800 ≤ (if r.at_.base = 1 then max least (-10800) else 0) ∧ (if r.at_.base = 1 then max least (-10800) else 0) ≤ 0 := by split <;> omega
 generalize (if r.at_.base = 1 then max least (-10800) else 0) = mx at *
 generalize (onD y r.month r.day).1 = D at *
 omega
theorem onR_mono {least : Int} {r : DRule} {i i' y y' : Int} {e e' : DEvent} (h : onR least r i y = some e) (h' : onR least r i' y' = some e') (hy : y < y') : e.nominal < e'.nominal := by
 obtain ⟨_, _, _, _, h3, h4, h5, h6⟩ := onR_some h
 obtain ⟨_, _, _, _, g3, g4, g5, g6⟩ := onR_some h'
 obtain ⟨m1, m2, d1, d2⟩ := onD_in h5
 obtain ⟨n1, n2, e1, e2⟩ := onD_in g5
 have hk := dayNo_mono y r.month (y' - y).toNat
 rw [show y + ((y' - y).toNat : Int) = y' by omega] at hk
 rw [h6, g6]
 generalize r.at_.sec + (if r.at_.base = 1 then max least (-10800) else 0) = s at *
 generalize (onD y r.month r.day).1 = D at *
 generalize (onD y' r.month r.day).1 = D' at *
 omega
theorem year_near {y y' : Int} (h : jan1 y * 86400 - 2100000 < jan1 (y' + 1) * 86400 + 2100000) : y ≤ y' + 1 := by
 by_cases hc : y ≤ y' + 1
 ·exact hc
 ·have := jan1_mono (y' + 1) (y - (y' + 1)).toNat
  rw [show y' + 1 + ((y - (y' + 1)).toNat : Int) = y by omega] at this
  omega
theorem yearOf_jan {t : Int} (h0 : -4000000000000 ≤ t) (h1 : t ≤ 4000000000000) : jan1 (yearOf t) * 86400 ≤ t ∧ t < jan1 (yearOf t + 1) * 86400 := by
 have h := dateY_jan (t / 86400)
 have hb : -1000000000 ≤ dateY (t / 86400) ∧ dateY (t / 86400) ≤ 1000000000 := by
  unfold jan1 at h
  omega
 have e : yearOf t = dateY (t / 86400) := by unfold yearOf; omega
 rw [e]
 omega
def mar1 (y : Int) : Int := y / 400 * 146097 + y % 400 * 365 + y % 400 / 4 - y % 400 / 100 - 719468
theorem mar1_succ (y : Int) : mar1 y + 365 ≤ mar1 (y + 1) ∧ mar1 (y + 1) ≤ mar1 y + 366 := by unfold mar1; omega
theorem mar1_mono (y : Int) : ∀ k : Nat, mar1 y + 365 * k ≤ mar1 (y + k)
 | 0 => by simp
 | k + 1 => by
  have h1 := mar1_mono y k
  have h2 := mar1_succ (y + k)
  rw [show y + ((k + 1 : Nat) : Int) = y + k + 1 by omega]
  omega
theorem mar1_lt {y z : Int} (h : y < z) : mar1 y + 365 ≤ mar1 z := by
 have h1 := mar1_mono y (z - y).toNat
 rw [show y + ((z - y).toNat : Int) = z by omega] at h1
 omega
theorem mar1_le {y z : Int} (h : y ≤ z) : mar1 y ≤ mar1 z := by
 by_cases he : y = z
 ·subst he; exact Int.le_refl _
 ·have := mar1_lt (y := y) (z := z) (by omega)
  omega
theorem dayNo_mar (y m d : Int) (h : 3 ≤ m) : dayNo y m d = mar1 y + beforeL.getD (m - 3).toNat 0 + d - 1 := by
 unfold dayNo dayNoM mar1
 rw [if_neg (by omega)]
 omega
theorem dayNo_feb (y : Int) : mar1 y - 29 ≤ dayNo y 2 1 ∧ dayNo y 2 1 ≤ mar1 y - 28 := by
 have h := mar1_succ (y - 1)
 rw [show y - 1 + 1 = y by omega] at h
 unfold dayNo dayNoM
 rw [if_pos (by omega), show beforeL.getD ((2 : Int) + 12 - 3).toNat 0 = 337 by decide]
 unfold mar1 at *
 omega
theorem lenM_28 (y m : Int) (h0 : 1 ≤ m) (h1 : m ≤ 12) : 28 ≤ lenM y m := by
 unfold lenM
 rw [if_neg (by omega)]
 split
 ·split <;> omega
 ·split <;> omega
def DrDay (d : DDay) : Prop := (d.kind = 2 ∧ 0 ≤ d.week ∧ d.week ≤ 6 ∧ d.day = 0) ∨ (d.kind = 3 ∧ 0 ≤ d.week ∧ d.week ≤ 6 ∧ 1 ≤ d.day ∧ d.day ≤ 22 ∧ d.day.tmod 7 = 1) ∨ (d.kind = 1 ∧ d.week = 0 ∧ 1 ≤ d.day ∧ d.day ≤ 28)
theorem DrDay.chk {d : DDay} (h : DrDay d) : dayChk d = true := by
 obtain ⟨k, w, n⟩ := d
 simp only [DrDay] at h
 rcases h with ⟨rfl, h1, h2, rfl⟩ | ⟨rfl, h1, h2, h3, h4, _⟩ | ⟨rfl, rfl, h3, h4⟩
 ·simp [dayChk, dayK, weekK]; omega
 ·simp [dayChk, dayK, weekK]; omega
 ·simp [dayChk, dayK, weekK]; omega
theorem DrDay.le28 {d : DDay} (h : DrDay d) : d.day ≤ 28 := by
 unfold DrDay at h
 omega
theorem DrDay.on {d : DDay} (h : DrDay d) {y m : Int} (hy : inY y = true) (h0 : 1 ≤ m) (h1 : m ≤ 12) : (onD y m d).2 = 0 ∧ dayNo y m 1 ≤ (onD y m d).1 ∧ (onD y m d).1 ≤ dayNo y m 1 + 30 := by
 have hl := lenM_28 y m h0 h1
 have hl2 := lenM_bd y m
 have h28 := h.le28
 have hd : daysOk y m 1 = true := by
  unfold daysOk
  rw [hy]
  simp
  omega
 unfold onD
 rw [if_neg (by rw [hd]; decide), if_neg (by rw [h.chk]; decide), if_neg (by omega)]
 refine ⟨rfl, ?_⟩
 dsimp only
 generalize dayNo y m 1 = D
 generalize lenM y m = L at *
 obtain ⟨k, w, n⟩ := d
 simp only [DrDay] at h
 unfold findD beforeW behindW
 dsimp only at h28 ⊢
 rcases h with ⟨rfl, h1, h2, rfl⟩ | ⟨rfl, h1, h2, h3, h4, _⟩ | ⟨rfl, rfl, h3, h4⟩
 ·rw [if_neg (by decide), if_pos rfl]; omega
 ·rw [if_neg (by decide), if_neg (by decide), if_pos rfl]; omega
 ·rw [if_pos rfl]; omega
structure DrRule (r : DRule) : Prop where
 f0 : 1900 ≤ r.from_
 f1 : r.from_ ≤ 2149
 ft : r.from_ ≤ r.to
 t1 : r.to ≤ 2149 ∨ r.to = 1048576
 mon : (2 ≤ r.month ∧ r.month ≤ 4) ∨ r.month = 6 ∨ (8 ≤ r.month ∧ r.month ≤ 10)
 day : DrDay r.day
 clk : 0 ≤ r.at_.sec ∧ r.at_.sec ≤ 86400 ∧ 0 ≤ r.at_.base ∧ r.at_.base ≤ 2
 save : -3600 ≤ r.save ∧ r.save ≤ 7200
 letter : r.letter ∈ [ByteArray.empty, ⟨#[83]⟩, ⟨#[68]⟩, ⟨#[68, 84]⟩]
def sea (m : Int) : Int := if m ≤ 4 then 0 else if m ≤ 7 then 1 else 2
def loS (m : Int) : Int := if m ≤ 4 then -29 else if m ≤ 7 then 92 else 153
def hiS (m : Int) : Int := if m ≤ 4 then 62 else if m ≤ 7 then 123 else 245
theorem DrRule.mon12 {r : DRule} (h : DrRule r) : 1 ≤ r.month ∧ r.month ≤ 12 := by have := h.mon; omega
theorem mon_bd {m : Int} (h : (2 ≤ m ∧ m ≤ 4) ∨ m = 6 ∨ (8 ≤ m ∧ m ≤ 10)) (y : Int) : mar1 y + loS m ≤ dayNo y m 1 ∧ dayNo y m 1 + 31 ≤ mar1 y + hiS m := by
 have hc : m = 2 ∨ m = 3 ∨ m = 4 ∨ m = 6 ∨ m = 8 ∨ m = 9 ∨ m = 10 := by omega
 have hf := dayNo_feb y
 rcases hc with rfl | rfl | rfl | rfl | rfl | rfl | rfl
 ·simp only [loS, hiS]
  omega
 all_goals
  rw [dayNo_mar _ _ _ (by decide)]
  simp only [loS, hiS, beforeL]
  simp
  omega
theorem DrRule.ev {r : DRule} (h : DrRule r) {least i y : Int} {e : DEvent} (hl : -3600 ≤ least ∧ least ≤ 0) (he : onR least r i y = some e) :
  e.year = y ∧ e.rule = i ∧ r.from_ ≤ y ∧ (r.to ≤ 2149 → y ≤ r.to) ∧ 86400 * (mar1 y + loS r.month) - 3600 ≤ e.nominal ∧ e.nominal ≤ 86400 * (mar1 y + hiS r.month) := by
 have hf0 := h.f0
 have hc := h.clk
 obtain ⟨m0, m1⟩ := h.mon12
 obtain ⟨b1, b2⟩ := mon_bd h.mon y
 unfold onR at he
 split at he
 ·cases he
 rename_i hy
 split at he
 ·cases he
 cases he
 have hyr : ¬ y < max r.from_ (-2000000000) := fun hh => hy (.inl hh)
 have hyl : ¬ lastY r < y := fun hh => hy (.inr (.inl hh))
 have hl2 : lastY r ≤ 2000000000 := by unfold lastY; split <;> omega
 have hyt : r.to ≤ 2149 → y ≤ r.to := fun hh => by
  have : lastY r = r.to := by unfold lastY; rw [if_neg (by omega)]; omega
  omega
 have hin : inY y = true := by
  unfold inY
  simp
  omega
 obtain ⟨_, o1, o2⟩ := h.day.on hin m0 m1
 refine ⟨rfl, rfl, by omega, hyt, ?_⟩
 dsimp only
 have hm : -3600 ≤ (if r.at_.base = 1 then max least (-10800) else 0) ∧ (if r.at_.base = 1 then max least (-10800) else 0) ≤ 0 := by split <;> omega
 generalize (if r.at_.base = 1 then max least (-10800) else 0) = mx at *
 generalize (onD y r.month r.day).1 = D at *
 omega
def Dist (a b : DRule) : Prop := a.to < b.from_ ∨ sea a.month ≠ sea b.month
theorem sea_far {a b : Int} (ha : (2 ≤ a ∧ a ≤ 4) ∨ a = 6 ∨ (8 ≤ a ∧ a ≤ 10)) (hb : (2 ≤ b ∧ b ≤ 4) ∨ b = 6 ∨ (8 ≤ b ∧ b ≤ 10)) (h : sea a ≠ sea b) : hiS a + 30 ≤ loS b ∨ hiS b + 30 ≤ loS a := by
 unfold sea at h
 unfold hiS loS
 split at h <;> split at h <;> (try split at h) <;> (try split at h) <;> omega
theorem loS_bd (m : Int) : -29 ≤ loS m ∧ hiS m ≤ 245 := by
 unfold loS hiS
 split
 ·omega
 ·split <;> omega
theorem DrRule.far {a b : DRule} (ha : DrRule a) (hb : DrRule b) {least i j y z : Int} {e f : DEvent} (hl : -3600 ≤ least ∧ least ≤ 0) (he : onR least a i y = some e) (hf : onR least b j z = some f) (hd : y = z → Dist a b ∨ Dist b a) :
  259200 ≤ e.nominal - f.nominal ∨ 259200 ≤ f.nominal - e.nominal := by
 obtain ⟨_, _, a1, a2, a3, a4⟩ := ha.ev hl he
 obtain ⟨_, _, b1, b2, b3, b4⟩ := hb.ev hl hf
 have la := loS_bd a.month
 have lb := loS_bd b.month
 rcases Int.lt_trichotomy y z with h | h | h
 ·have := mar1_lt h
  omega
 ·subst h
  have hs : sea a.month ≠ sea b.month := by
   have af := ha.f1
   have bf := hb.f1
   rcases hd rfl with (h | h) | (h | h)
   ·have := a2 (by omega); omega
   ·exact h
   ·have := b2 (by omega); omega
   ·exact fun hh => h hh.symm
  have := sea_far ha.mon hb.mon hs
  omega
 ·have := mar1_lt h
  omega
end Go.Wk
namespace Go.Proofs.YtonjepladadmhaaGreatDoor
open Go Go.RowKit Go.Wk
def atB (l : List Int) (i n : Int) : Int := if l.length = 0 then 0 else l.getD (i % (l.length : Int)).toNat 0 % n
theorem atB_range (l : List Int) (i n : Int) (hn : 0 < n) : 0 ≤ atB l i n ∧ atB l i n < n := by
 unfold atB
 split
 ·exact ⟨Int.le_refl 0, hn⟩
 ·exact ⟨Int.emod_nonneg _ (by omega), Int.emod_lt_of_pos _ hn⟩
def clockB (l : List Int) (i : Int) : DClock := ⟨atB l i 49 * 1800, atB l (i + 1) 3⟩
def dayB (l : List Int) (i : Int) : List DDay := [⟨2, atB l i 7, 0⟩, ⟨3, atB l i 7, 1 + 7 * atB l (i + 1) 4⟩, ⟨1, 0, 1 + atB l (i + 1) 28⟩]
def dayOf (l : List Int) (i : Int) : DDay := (dayB l i).getD (atB l (i + 2) 3).toNat ⟨0, 0, 0⟩
def letA : List ByteArray := [⟨#[83]⟩, ⟨#[68]⟩, ⟨#[68, 84]⟩]
def letB : List ByteArray := [⟨#[]⟩, ⟨#[83]⟩]
def ruleA (l : List Int) (i a b save : Int) : DRule := ⟨ByteArray.empty, a, b, 2 + atB l i 3, dayOf l (i + 3), clockB l (i + 6), save, letA.getD (atB l (i + 8) 3).toNat ByteArray.empty⟩
def ruleB (l : List Int) (i a b save : Int) : DRule := ⟨ByteArray.empty, a, b, 8 + atB l (i + 1) 3, dayOf l (i + 9), clockB l (i + 12), save, letB.getD (atB l (i + 14) 2).toNat ByteArray.empty⟩
def pairB (l : List Int) (i a b save : Int) : List DRule := if atB l (i + 2) 4 = 0 then [ruleA l i a b 0, ruleB l i a b save] else [ruleA l i a b save, ruleB l i a b 0]
theorem pairB_len (l : List Int) (i a b save : Int) : (pairB l i a b save).length = 2 := by
 unfold pairB
 split <;> rfl
def saves17 : List Int := [3600, 3600, 1800, 7200, -3600]
def save17 (l : List Int) : Int := saves17.getD (atB l 0 5).toNat 0
def one17 (l : List Int) (f : Int) : DRule := ⟨⟨#[]⟩, f, f, 6, ⟨1, 0, 1 + atB l 3 28⟩, clockB l 4, 0, ⟨#[83]⟩⟩
def m1 (l : List Int) : List DRule × Int := if atB l 2 3 = 0 then ([one17 l (1900 + atB l 1 80)], 1900 + atB l 1 80 + 1) else ([], 1900 + atB l 1 80)
def m2 (l : List Int) (o : List DRule) (f : Int) : List DRule × Int := if atB l 5 2 = 0 then (o ++ pairB l 7 f (f + atB l 6 12) (save17 l), f + atB l 6 12 + 1 + atB l 8 5) else (o, f)
def to17 (l : List Int) (f : Int) : Int := if 0 < atB l 10 3 then 1048576 else f + atB l 9 6
def m3 (l : List Int) (o : List DRule) (f : Int) : List DRule := o ++ pairB l 11 f (to17 l f) (save17 l)
def nameR (x : ByteArray) (r : DRule) : DRule := { r with name := x }
def made17 (l : List Int) (x : ByteArray) : List DRule := (m3 l (m2 l (m1 l).1 (m1 l).2).1 (m2 l (m1 l).1 (m1 l).2).2).map (nameR x)
theorem m1_rng (l : List Int) : (m1 l).1.length ≤ 1 ∧ 1900 ≤ (m1 l).2 ∧ (m1 l).2 ≤ 1980 := by
 have h1 := atB_range l 1 80 (by decide)
 unfold m1
 split <;> refine ⟨by simp, ?_, ?_⟩ <;> dsimp only <;> omega
theorem m2_rng (l : List Int) (o : List DRule) (f : Int) (ho : o.length ≤ 1) (h1 : 1900 ≤ f) (h2 : f ≤ 1980) : (m2 l o f).1.length ≤ 3 ∧ 1900 ≤ (m2 l o f).2 ∧ (m2 l o f).2 ≤ 2000 := by
 have h3 := atB_range l 6 12 (by decide)
 have h4 := atB_range l 8 5 (by decide)
 unfold m2
 split <;> refine ⟨?_, ?_, ?_⟩ <;> dsimp only <;> first | omega | (rw [List.length_append, pairB_len]; omega)
def pk (L : List Int) (n m : Int) : Int := if L.length = 0 then (n + 1) % m else L.getD ((n + 1) % (L.length : Int)).toNat 0 % m
def noTil : DUntil := ⟨false, 0, 0, ⟨0, 0, 0⟩, ⟨0, 0⟩⟩
structure DDr where
 sets : List (List Int)
 zones : Int
 links : Int
 L : List Int
def fmt25 : List ByteArray := [⟨#[76, 77, 84]⟩, ⟨#[71, 77, 84, 47, 66, 83, 84]⟩, ⟨#[67, 69, 37, 115, 84]⟩, ⟨#[37, 122]⟩]
def e0 (L : List Int) (n : Int) : DEra := ⟨(pk L n 53 - 26) * 1800, 0, 0, ⟨#[]⟩, fmt25.getD (pk L (n + 1) 4).toNat ByteArray.empty, noTil⟩
def setTil (u : DUntil) (e : DEra) : DEra := { e with til := u }
def DDr.made (d : DDr) : Nat := min d.sets.length 2
def DDr.nz (d : DDr) : Nat := (d.zones % 4).toNat
def DDr.nl (d : DDr) : Nat := (d.links % 4).toNat
theorem made17_len (l : List Int) (x : ByteArray) : (made17 l x).length ≤ 5 := by
 obtain ⟨q1, q2, q3⟩ := m1_rng l
 obtain ⟨q4, q5, q6⟩ := m2_rng l (m1 l).1 (m1 l).2 q1 q2 q3
 rw [made17, List.length_map, m3, List.length_append, pairB_len]
 omega
def LeastE' (P : DEvent → Prop) : Option DEvent → Prop
 | none => ∀ e, ¬ P e
 | some e => P e ∧ ∀ e', P e' → ltE e' e = false
def NearP' (M : List DEvent) (e : DEvent) : Prop := ∃ x ∈ M, ltE x e = true ∧ e.nominal - x.nominal < 259200
theorem closeE_least' : ∀ (M : List DEvent), DescE M → M.Nodup → LeastE' (fun e => e ∈ M ∧ NearP' M e) (closeE M)
 | [], _, _ => fun e he => by simp at he
 | [a], _, _ => fun e he => by
  obtain ⟨h1, x, h2, h3, _⟩ := he
  rw [List.mem_singleton] at h1 h2
  subst h1 h2
  rw [swoE.irrefl] at h3
  cases h3
 | a :: b :: l, hd, hn => by
  obtain ⟨d1, d2⟩ := List.pairwise_cons.1 hd
  obtain ⟨n1, n2⟩ := List.nodup_cons.1 hn
  obtain ⟨d3, _⟩ := List.pairwise_cons.1 d2
  have ih := closeE_least' (b :: l) d2 n2
  have hlt : ∀ x ∈ b :: l, ltE x a = true := fun x hx => by
   cases h : ltE x a
   ·have := totE a x (d1 x hx) h
    subst this
    exact absurd hx n1
   ·rfl
  have hrest : ∀ e ∈ b :: l, NearP' (a :: b :: l) e ↔ NearP' (b :: l) e := fun e he => by
   constructor
   ·rintro ⟨x, hx, h1, h2⟩
    rcases List.mem_cons.1 hx with rfl | hx
    ·rw [d1 e he] at h1; cases h1
    ·exact ⟨x, hx, h1, h2⟩
   ·rintro ⟨x, hx, h1, h2⟩
    exact ⟨x, List.mem_cons_of_mem _ hx, h1, h2⟩
  have ha : NearP' (a :: b :: l) a ↔ a.nominal - b.nominal < 259200 := by
   constructor
   ·rintro ⟨x, hx, h1, h2⟩
    rcases List.mem_cons.1 hx with rfl | hx
    ·rw [swoE.irrefl] at h1; cases h1
    ·have hxb : x.nominal ≤ b.nominal := by
      rcases List.mem_cons.1 hx with rfl | hx
      ·exact Int.le_refl _
      ·have h3 := d3 x hx
       simp only [ltE, ordE_lt, decide_eq_false_iff_not] at h3
       omega
     omega
   ·intro h
    exact ⟨b, List.mem_cons_of_mem _ List.mem_cons_self, hlt b List.mem_cons_self, h⟩
  rw [closeE]
  cases hc : closeE (b :: l) with
  | none =>
   rw [hc] at ih
   rw [Option.none_or]
   by_cases hab : a.nominal - b.nominal < 259200
   ·rw [if_pos hab]
    refine ⟨⟨List.mem_cons_self, ha.2 hab⟩, fun e he => ?_⟩
    rcases List.mem_cons.1 he.1 with rfl | h
    ·exact swoE.irrefl _
    ·exact absurd ⟨h, (hrest e h).1 he.2⟩ (ih e)
   ·rw [if_neg hab]
    intro e he
    rcases List.mem_cons.1 he.1 with rfl | h
    ·exact hab (ha.1 he.2)
    ·exact ih e ⟨h, (hrest e h).1 he.2⟩
  | some c =>
   rw [hc] at ih
   rw [Option.some_or]
   obtain ⟨⟨c1, c2⟩, c3⟩ := ih
   refine ⟨⟨List.mem_cons_of_mem _ c1, (hrest c c1).2 c2⟩, fun e he => ?_⟩
   rcases List.mem_cons.1 he.1 with rfl | h
   ·exact d1 c c1
   ·exact c3 e ⟨h, (hrest e h).1 he.2⟩
theorem mem_yearC' (L y : Int) : ∀ (l : List DRule) (i : Nat) (e : DEvent), e ∈ yearC L y l i ↔ ∃ (j : Nat) (r : DRule), l[j]? = some r ∧ onR L r ((i + j : Nat) : Int) y = some e
 | [], i, e => by simp [yearC]
 | r :: l, i, e => by
  rw [yearC, List.mem_append, mem_yearC' L y l (i + 1) e, Option.mem_toList]
  constructor
  ·rintro (h | ⟨j, r', h1, h2⟩)
   ·exact ⟨0, r, rfl, h⟩
   ·exact ⟨j + 1, r', by simpa using h1, by rw [show i + (j + 1) = i + 1 + j by omega]; exact h2⟩
  ·rintro ⟨j, r', h1, h2⟩
   cases j with
   | zero => simp only [List.getElem?_cons_zero, Option.some.injEq] at h1; subst h1; exact .inl h2
   | succ j => exact .inr ⟨j, r', by simpa using h1, by rw [show i + 1 + j = i + (j + 1) by omega]; exact h2⟩
theorem mem_allC' (l : List DRule) (L f : Int) : ∀ (k : Nat) (e : DEvent), e ∈ allC l L f k ↔ ∃ q : Nat, q < k ∧ e ∈ yearC L (f + q) l 0
 | 0, e => by simp [allC]
 | k + 1, e => by
  rw [allC, List.mem_append, mem_allC' l L f k e]
  constructor
  ·rintro (⟨q, h1, h2⟩ | h)
   ·exact ⟨q, by omega, h2⟩
   ·exact ⟨k, by omega, h⟩
  ·rintro ⟨q, h1, h2⟩
   by_cases hq : q = k
   ·subst hq; exact .inr h2
   ·exact .inl ⟨q, by omega, h2⟩
theorem yearC_nodup' (L y : Int) : ∀ (l : List DRule) (i : Nat), (yearC L y l i).Nodup
 | [], _ => List.nodup_nil
 | r :: l, i => by
  rw [yearC]
  refine List.nodup_append.2 ⟨?_, yearC_nodup' L y l (i + 1), ?_⟩
  ·cases onR L r i y <;> simp
  ·intro a ha b hb hab
   subst hab
   obtain ⟨j, r', _, h2⟩ := (mem_yearC' L y l (i + 1) a).1 hb
   have e1 := (onR_some (Option.mem_toList.1 ha)).2.1
   have e2 := (onR_some h2).2.1
   omega
theorem allC_nodup' (l : List DRule) (L f : Int) : ∀ k, (allC l L f k).Nodup
 | 0 => List.nodup_nil
 | k + 1 => by
  rw [allC]
  refine List.nodup_append.2 ⟨allC_nodup' l L f k, yearC_nodup' _ _ _ _, ?_⟩
  intro a ha b hb hab
  subst hab
  obtain ⟨q, h1, h2⟩ := (mem_allC' l L f k a).1 ha
  obtain ⟨j, r, _, h3⟩ := (mem_yearC' _ _ _ _ _).1 h2
  obtain ⟨j', r', _, h4⟩ := (mem_yearC' _ _ _ _ _).1 hb
  have e1 := (onR_some h3).1
  have e2 := (onR_some h4).1
  omega
theorem evIn_sound' (least nominal : Int) (r : DRule) (i : Int) : ∀ (k : Nat) (y : Int) (e : DEvent), evIn least nominal r i y k = some e → ∃ q : Nat, onR least r i (y + q) = some e ∧ nominal < e.nominal
 | 0, _, _, h => by cases h
 | k + 1, y, e, h => by
  rw [evIn] at h
  have ih := evIn_sound' least nominal r i k (y + 1) e
  have lift : (∃ q : Nat, onR least r i (y + 1 + q) = some e ∧ nominal < e.nominal) → ∃ q : Nat, onR least r i (y + q) = some e ∧ nominal < e.nominal := by
   rintro ⟨q, hq⟩
   exact ⟨q + 1, by rw [show y + ((q + 1 : Nat) : Int) = y + 1 + q by omega]; exact hq⟩
  cases he : onR least r i y with
  | none => rw [he] at h; exact lift (ih h)
  | some e' =>
   rw [he] at h
   dsimp only at h
   by_cases hc : nominal < e'.nominal
   ·rw [if_pos hc] at h
    cases h
    exact ⟨0, by simpa using he, hc⟩
   ·rw [if_neg hc] at h
    exact lift (ih h)
theorem evIn_full' (least nominal : Int) (r : DRule) (i : Int) : ∀ (k : Nat) (y : Int) (q : Nat) (e : DEvent), q < k → onR least r i (y + q) = some e → nominal < e.nominal → ∃ e', evIn least nominal r i y k = some e' ∧ e'.nominal ≤ e.nominal
 | 0, _, _, _, h, _, _ => absurd h (by omega)
 | k + 1, y, q, e, h, h1, h2 => by
  rw [evIn]
  cases he : onR least r i y with
  | none =>
   cases q with
   | zero => rw [show y + ((0 : Nat) : Int) = y by omega, he] at h1; cases h1
   | succ q => exact evIn_full' least nominal r i k (y + 1) q e (by omega) (by rw [show y + 1 + (q : Int) = y + ((q + 1 : Nat) : Int) by omega]; exact h1) h2
  | some e' =>
   dsimp only
   by_cases hc : nominal < e'.nominal
   ·rw [if_pos hc]
    refine ⟨e', rfl, ?_⟩
    cases q with
    | zero => rw [show y + ((0 : Nat) : Int) = y by omega, he] at h1; cases h1; exact Int.le_refl _
    | succ q => exact Int.le_of_lt (onR_mono he h1 (by omega))
   ·rw [if_neg hc]
    cases q with
    | zero => rw [show y + ((0 : Nat) : Int) = y by omega, he] at h1; cases h1; exact absurd h2 hc
    | succ q => exact evIn_full' least nominal r i k (y + 1) q e (by omega) (by rw [show y + 1 + (q : Int) = y + ((q + 1 : Nat) : Int) by omega]; exact h1) h2
theorem afterGo_sound' (least nominal yr : Int) : ∀ (l : List DRule) (i : Nat) (b : Option DEvent) (e : DEvent), afterGo least nominal yr l i b = some e → b = some e ∨ ∃ (j : Nat) (r : DRule), l[j]? = some r ∧ evIn least nominal r ((i + j : Nat) : Int) (max (max r.from_ (-2000000000)) (yr - 2)) 20 = some e
 | [], _, _, _, h => .inl h
 | r :: l, i, b, e, h => by
  rw [afterGo] at h
  rcases afterGo_sound' least nominal yr l (i + 1) _ e h with h1 | ⟨j, r', h1, h2⟩
  ·cases he : evIn least nominal r i (max (max r.from_ (-2000000000)) (yr - 2)) 20 with
   | none => rw [he] at h1; exact .inl h1
   | some e' =>
    rw [he] at h1
    have hr : ∀ x, e' = x → ∃ (j : Nat) (r' : DRule), (r :: l)[j]? = some r' ∧ evIn least nominal r' ((i + j : Nat) : Int) (max (max r'.from_ (-2000000000)) (yr - 2)) 20 = some x := fun x hx => ⟨0, r, rfl, by rw [← hx]; exact he⟩
    cases b with
    | none => cases h1; exact .inr (hr _ rfl)
    | some b =>
     dsimp only at h1
     split at h1
     ·cases h1; exact .inr (hr _ rfl)
     ·exact .inl h1
  ·exact .inr ⟨j + 1, r', by simpa using h1, by rw [show i + (j + 1) = i + 1 + j by omega]; exact h2⟩
theorem afterGo_le' (least nominal yr : Int) : ∀ (l : List DRule) (i : Nat) (b : DEvent), ∃ e, afterGo least nominal yr l i (some b) = some e ∧ e.nominal ≤ b.nominal
 | [], _, b => ⟨b, rfl, Int.le_refl _⟩
 | r :: l, i, b => by
  rw [afterGo]
  cases he : evIn least nominal r i (max (max r.from_ (-2000000000)) (yr - 2)) 20 with
  | none => exact afterGo_le' least nominal yr l (i + 1) b
  | some e' =>
   dsimp only
   split
   ·rename_i hlt
    obtain ⟨e, h1, h2⟩ := afterGo_le' least nominal yr l (i + 1) e'
    have : e'.nominal ≤ b.nominal := by
     unfold ordE at hlt
     split at hlt
     ·omega
     ·split at hlt
      ·omega
      ·omega
    exact ⟨e, h1, by omega⟩
   ·exact afterGo_le' least nominal yr l (i + 1) b
theorem afterGo_full' (least nominal yr : Int) : ∀ (l : List DRule) (i : Nat) (b : Option DEvent) (j : Nat) (r : DRule) (e' : DEvent), l[j]? = some r → evIn least nominal r ((i + j : Nat) : Int) (max (max r.from_ (-2000000000)) (yr - 2)) 20 = some e' → ∃ e, afterGo least nominal yr l i b = some e ∧ e.nominal ≤ e'.nominal
 | [], _, _, _, _, _, h, _ => by simp at h
 | r0 :: l, i, b, 0, r, e', h, h2 => by
  simp only [List.getElem?_cons_zero, Option.some.injEq] at h
  subst h
  rw [afterGo, show evIn least nominal r0 (i : Int) (max (max r0.from_ (-2000000000)) (yr - 2)) 20 = some e' from h2]
  cases b with
  | none => exact afterGo_le' least nominal yr l (i + 1) e'
  | some b =>
   dsimp only
   split
   ·exact afterGo_le' least nominal yr l (i + 1) e'
   ·rename_i hlt
    obtain ⟨e, g1, g2⟩ := afterGo_le' least nominal yr l (i + 1) b
    refine ⟨e, g1, ?_⟩
    unfold ordE at hlt
    split at hlt
    ·omega
    ·split at hlt <;> omega
 | r0 :: l, i, b, j + 1, r, e', h, h2 => by
  rw [afterGo]
  exact afterGo_full' least nominal yr l (i + 1) _ j r e' (by simpa using h) (by rw [show i + 1 + j = i + (j + 1) by omega]; exact h2)
end Go.Proofs.YtonjepladadmhaaGreatDoor
