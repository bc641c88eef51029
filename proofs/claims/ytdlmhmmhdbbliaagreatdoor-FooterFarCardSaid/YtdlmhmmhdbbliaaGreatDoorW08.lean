/- Parts of the proof. -/
import Derived.Test.YtdlmhmmhdbbliaaGreatDoorW06
import Derived.Test.YtdlmhmmhdbbliaaGreatDoorW01
import Derived.Sort.LotA
set_option maxHeartbeats 4000000
set_option linter.unusedVariables false
set_option linter.unusedSimpArgs false
namespace Go.Wk
open Go Go.RowKit
def jan1 (y : Int) : Int := 365 * y + (y + 3) / 4 - (y + 99) / 100 + (y + 399) / 400 - 719528
def Zqa (y : Int) : Int := if Zeb y then 366 else 365
theorem Zl6 (y : Int) : Zeb y = true ↔ y % 4 = 0 /\ (y % 100 ≠ 0 \/ y % 400 = 0) := by
 unfold Zeb
 simp
theorem Zex (y : Int) : jan1 (y + 1) = jan1 y + Zqa y := by
 unfold Zqa
 have h := Zl6 y
 by_cases hl : Zeb y = true
 ·rw [if_pos hl]
  have := h.1 hl
  unfold jan1
  omega
 ·rw [if_neg hl]
  have : ¬ (y % 4 = 0 /\ (y % 100 ≠ 0 \/ y % 400 = 0)) := fun e => hl (h.2 e)
  unfold jan1
  omega
theorem Zht (y : Int) : 365 <= Zqa y /\ Zqa y <= 366 := by unfold Zqa; split <;> omega
theorem ZgI (y : Int) : jan1 y = Zam y 1 1 := by
 unfold Zam ZbQ jan1
 rw [if_pos (by decide), show ((1 : Int) + 12 - 3).toNat = 10 by decide, show ZaJ.getD 10 0 = 306 by decide]
 omega
theorem ZjU (y : Int) (m : Nat) (h0 : 1 <= m) (h1 : m <= 11) : Zam y ((m : Int) + 1) 1 = Zam y m 1 + lenM y m := by
 have h := Zl6 y
 have hm : m = 1 \/ m = 2 \/ m = 3 \/ m = 4 \/ m = 5 \/ m = 6 \/ m = 7 \/ m = 8 \/ m = 9 \/ m = 10 \/ m = 11 := by omega
 rcases hm with rfl | rfl | rfl | rfl | rfl | rfl | rfl | rfl | rfl | rfl | rfl
 ·show ZbQ (y - 1) 14 1 = ZbQ (y - 1) 13 1 + 31
  unfold ZbQ
  rw [show ((14 : Int) - 3).toNat = 11 by decide, show ((13 : Int) - 3).toNat = 10 by decide, show ZaJ.getD 11 0 = 337 by decide, show ZaJ.getD 10 0 = 306 by decide]
  omega
 ·show ZbQ y 3 1 = ZbQ (y - 1) 14 1 + (if Zeb y then 29 else 28)
  unfold ZbQ
  rw [show ((14 : Int) - 3).toNat = 11 by decide, show ((3 : Int) - 3).toNat = 0 by decide, show ZaJ.getD 11 0 = 337 by decide, show ZaJ.getD 0 0 = 0 by decide]
  by_cases hl : Zeb y = true
  ·rw [if_pos hl]
   have := h.1 hl
   omega
  ·rw [if_neg hl]
   have : ¬ (y % 4 = 0 /\ (y % 100 ≠ 0 \/ y % 400 = 0)) := fun e => hl (h.2 e)
   omega
 all_goals
  show ZbQ y _ 1 = ZbQ y _ 1 + _
  unfold ZbQ
 ·show y / 400 * 146097 + y % 400 * 365 + y % 400 / 4 - y % 400 / 100 + 31 + 1 - 1 - 719468 = y / 400 * 146097 + y % 400 * 365 + y % 400 / 4 - y % 400 / 100 + 0 + 1 - 1 - 719468 + 31
  omega
 ·show y / 400 * 146097 + y % 400 * 365 + y % 400 / 4 - y % 400 / 100 + 61 + 1 - 1 - 719468 = y / 400 * 146097 + y % 400 * 365 + y % 400 / 4 - y % 400 / 100 + 31 + 1 - 1 - 719468 + 30
  omega
 ·show y / 400 * 146097 + y % 400 * 365 + y % 400 / 4 - y % 400 / 100 + 92 + 1 - 1 - 719468 = y / 400 * 146097 + y % 400 * 365 + y % 400 / 4 - y % 400 / 100 + 61 + 1 - 1 - 719468 + 31
  omega
 ·show y / 400 * 146097 + y % 400 * 365 + y % 400 / 4 - y % 400 / 100 + 122 + 1 - 1 - 719468 = y / 400 * 146097 + y % 400 * 365 + y % 400 / 4 - y % 400 / 100 + 92 + 1 - 1 - 719468 + 30
  omega
 ·show y / 400 * 146097 + y % 400 * 365 + y % 400 / 4 - y % 400 / 100 + 153 + 1 - 1 - 719468 = y / 400 * 146097 + y % 400 * 365 + y % 400 / 4 - y % 400 / 100 + 122 + 1 - 1 - 719468 + 31
  omega
 ·show y / 400 * 146097 + y % 400 * 365 + y % 400 / 4 - y % 400 / 100 + 184 + 1 - 1 - 719468 = y / 400 * 146097 + y % 400 * 365 + y % 400 / 4 - y % 400 / 100 + 153 + 1 - 1 - 719468 + 31
  omega
 ·show y / 400 * 146097 + y % 400 * 365 + y % 400 / 4 - y % 400 / 100 + 214 + 1 - 1 - 719468 = y / 400 * 146097 + y % 400 * 365 + y % 400 / 4 - y % 400 / 100 + 184 + 1 - 1 - 719468 + 30
  omega
 ·show y / 400 * 146097 + y % 400 * 365 + y % 400 / 4 - y % 400 / 100 + 245 + 1 - 1 - 719468 = y / 400 * 146097 + y % 400 * 365 + y % 400 / 4 - y % 400 / 100 + 214 + 1 - 1 - 719468 + 31
  omega
 ·show y / 400 * 146097 + y % 400 * 365 + y % 400 / 4 - y % 400 / 100 + 275 + 1 - 1 - 719468 = y / 400 * 146097 + y % 400 * 365 + y % 400 / 4 - y % 400 / 100 + 245 + 1 - 1 - 719468 + 30
  omega
theorem Zva (q : Int) (h0 : 0 <= q) : 10 <= monN q 11 ↔ 306 <= q := by
 have b11 : ZaJ.getD 11 0 = 337 := by decide
 have b10 : ZaJ.getD 10 0 = 306 := by decide
 have hle : ∀ m, monN q m <= m := by
  intro m
  induction m with
  | zero => exact Nat.le_refl _
  | succ m ih => rw [monN]; split <;> omega
 rw [monN, monN]
 simp only [b11, show ZaJ.getD (9 + 1) 0 = 306 from b10, show ZaJ.getD (10 + 1) 0 = 337 from b11]
 have h9 := hle 9
 split
 ·constructor <;> intro <;> omega
 ·split
  ·constructor <;> intro <;> omega
  ·constructor <;> intro <;> omega
theorem Zvk (c y : Int) (h0 : 0 <= y) (h1 : y <= 399) : jan1 (c * 400 + y + 1) = c * 146097 + (y * 365 + y / 4 - y / 100) + 306 - 719468 := by
 have e1 : (c * 400 + y + 1 + 3) / 4 = 100 * c + y / 4 + 1 := by omega
 have e2 : (c * 400 + y + 1 + 99) / 100 = 4 * c + y / 100 + 1 := by omega
 have e3 : (c * 400 + y + 1 + 399) / 400 = c + 1 := by omega
 unfold jan1
 rw [e1, e2, e3]
 omega
theorem Zmx (n : Int) : jan1 (ZgQ n) <= n /\ n < jan1 (ZgQ n + 1) := by
 have hD : ZgQ n = if 10 <= monN ((n + 719468) % 146097 - (ZcD ((n + 719468) % 146097) * 365 + ZcD ((n + 719468) % 146097) / 4 - ZcD ((n + 719468) % 146097) / 100)) 11 then (n + 719468) / 146097 * 400 + ZcD ((n + 719468) % 146097) + 1 else (n + 719468) / 146097 * 400 + ZcD ((n + 719468) % 146097) := rfl
 have c3 : 0 <= (n + 719468) % 146097 /\ (n + 719468) % 146097 < 146097 := by omega
 have hn : n = (n + 719468) / 146097 * 146097 + (n + 719468) % 146097 - 719468 := by omega
 have hb := ZoH _ c3.1 c3.2
 generalize (n + 719468) % 146097 = r at *
 generalize (n + 719468) / 146097 = c at *
 generalize ZcD r = y at *
 obtain ⟨y1, y2, y3, y4⟩ := hb
 have ht := Zva _ y3
 have hm := Zvk c y y1 y2
 by_cases h : 10 <= monN (r - (y * 365 + y / 4 - y / 100)) 11
 ·rw [if_pos h] at hD
  have hq := ht.1 h
  have h2 := Zex (c * 400 + y + 1)
  have h3 := Zht (c * 400 + y + 1)
  rw [hD, h2, hm]
  omega
 ·rw [if_neg h] at hD
  have hq : ¬ 306 <= r - (y * 365 + y / 4 - y / 100) := fun e => h (ht.2 e)
  have h2 := Zex (c * 400 + y)
  have h3 := Zht (c * 400 + y)
  rw [hD]
  omega
theorem Zcq (a : Int) (k : Nat) : jan1 a + 365 * k <= jan1 (a + k) := by
 induction k with
 | zero => simp
 | succ k ih =>
  have := Zex (a + k)
  have h2 := Zht (a + k)
  rw [show a + ((k + 1 : Nat) : Int) = a + k + 1 by omega, this]
  omega
theorem ZqT (y m : Int) : Zam y m 1 + 365 <= Zam (y + 1) m 1 := by
 unfold Zam ZbQ
 split <;> omega
theorem ZqU (y m : Int) (k : Nat) : Zam y m 1 + 365 * k <= Zam (y + k) m 1 := by
 induction k with
 | zero => simp
 | succ k ih =>
  have := ZqT (y + k) m
  rw [show y + ((k + 1 : Nat) : Int) = y + k + 1 by omega]
  omega
theorem ZjV (y : Int) : ∀ (m : Nat), m <= 11 -> jan1 y <= Zam y ((m : Int) + 1) 1 /\ Zam y ((m : Int) + 1) 1 <= jan1 y + 31 * m
 | 0, _ => by rw [ZgI]; simp
 | m + 1, h => by
  have ih := ZjV y m (by omega)
  have h1 := ZjU y (m + 1) (by omega) (by omega)
  have h2 := ZgG y ((m + 1 : Nat) : Int)
  rw [h1]
  rw [show ((m + 1 : Nat) : Int) = (m : Int) + 1 by omega] at *
  omega
theorem Zmw (y m : Int) (h0 : 1 <= m) (h1 : m <= 12) : jan1 y <= Zam y m 1 /\ Zam y m 1 <= jan1 y + 341 := by
 have h := ZjV y (m - 1).toNat (by omega)
 rw [show (((m - 1).toNat : Nat) : Int) + 1 = m by omega] at h
 omega
theorem Zr9 {y m : Int} {d : DDay} (h : (onD y m d).2 = 0) : 1 <= m /\ m <= 12 /\ Zam y m 1 - 6 <= (onD y m d).1 /\ (onD y m d).1 <= Zam y m 1 + 36 := by
 unfold onD at h ⊢
 by_cases h1 : ZaH y m 1 = false
 ·rw [if_pos h1] at h; simp at h
 rw [if_neg h1] at h ⊢
 by_cases h2 : ZbK d = false
 ·rw [if_pos h2] at h; simp at h
 rw [if_neg h2] at h ⊢
 by_cases h3 : lenM y m < d.day
 ·rw [if_pos h3] at h; simp at h
 rw [if_neg h3]
 have hl := ZgG y m
 have hm : 1 <= m /\ m <= 12 := by
  simp only [ZaH, Bool.not_eq_false, Bool.and_eq_true, decide_eq_true_eq] at h1
  have h4 := h1.2
  unfold lenM at h4
  by_cases hb : m < 1 \/ 12 < m
  ·rw [if_pos hb] at h4; omega
  ·omega
 have hd : ZbK d = true := by simpa using h2
 refine ⟨hm.1, hm.2, ?_⟩
 simp only [ZbK, dayK, Zlp, Bool.and_eq_true, Bool.or_eq_false_iff, Bool.not_eq_true', decide_eq_true_eq, decide_eq_false_iff_not] at hd
 simp only [ZaH, Bool.not_eq_false, Bool.and_eq_true, decide_eq_true_eq] at h1
 obtain ⟨⟨k1, k2⟩, hk⟩ := hd
 have hdd : d.kind ≠ 2 -> 1 <= d.day := by
  intro h5
  have e1 : (!decide (d.kind = 2)) = true := by simpa using h5
  obtain ⟨⟨⟨⟨⟨_, _⟩, _⟩, h7⟩, h8⟩, _⟩ := hk
  rw [e1] at h7
  simp at h7
  omega
 unfold Zec ZdZ ZeC
 dsimp only
 split
 ·omega
 ·split
  ·omega
  ·split <;> omega
theorem Zbr {least : Int} {r : Zaa} {i y : Int} {e : Zad} (h : onR least r i y = some e) : e.year = y /\ e.rule = i /\ max r.from_ (-2000000000) <= y /\ y <= 2000000000 /\ -604799 <= r.at_.sec /\ r.at_.sec <= 604799 /\ (onD y r.month r.day).2 = 0 /\ e.nominal = 86400 * (onD y r.month r.day).1 + (r.at_.sec + (if r.at_.base = 1 then max least (-10800) else 0)) := by
 unfold onR at h
 split at h
 ·cases h
 rename_i h1
 split at h
 ·cases h
 rename_i h2
 cases h
 have hc : ZaL r.at_ = true := by
  cases hc : ZaL r.at_
  ·exact absurd (.inr (.inr hc)) h1
  ·rfl
 simp only [ZaL, Bool.and_eq_true, decide_eq_true_eq] at hc
 have hl : ¬ lastY r < y := fun h => h1 (.inr (.inl h))
 have hl2 : lastY r <= 2000000000 := by unfold lastY; split <;> omega
 refine ⟨rfl, rfl, ?_, by omega, hc.1.1.1, hc.1.1.2, Decidable.not_not.1 h2, ?_⟩
 ·have : ¬ y < max r.from_ (-2000000000) := fun h => h1 (.inl h)
  omega
 ·dsimp only
  omega
theorem Zv3 {least : Int} (hl : least <= 0) {r : Zaa} {i y : Int} {e : Zad} (h : onR least r i y = some e) : jan1 y * 86400 - 1700000 <= e.nominal /\ e.nominal <= jan1 (y + 1) * 86400 + 1700000 := by
 obtain ⟨_, _, _, _, h3, h4, h5, h6⟩ := Zbr h
 obtain ⟨m1, m2, d1, d2⟩ := Zr9 h5
 have hj := Zmw y r.month m1 m2
 have hs := Zex y
 have hz := Zht y
 have hm : -10800 <= (if r.at_.base = 1 then max least (-10800) else 0) /\ (if r.at_.base = 1 then max least (-10800) else 0) <= 0 := by split <;> omega
 generalize (if r.at_.base = 1 then max least (-10800) else 0) = mx at *
 generalize (onD y r.month r.day).1 = D at *
 omega
theorem ZdN {least : Int} {r : Zaa} {i i' y y' : Int} {e e' : Zad} (h : onR least r i y = some e) (h' : onR least r i' y' = some e') (hy : y < y') : e.nominal < e'.nominal := by
 obtain ⟨_, _, _, _, h3, h4, h5, h6⟩ := Zbr h
 obtain ⟨_, _, _, _, g3, g4, g5, g6⟩ := Zbr h'
 obtain ⟨m1, m2, d1, d2⟩ := Zr9 h5
 obtain ⟨n1, n2, e1, e2⟩ := Zr9 g5
 have hk := ZqU y r.month (y' - y).toNat
 rw [show y + ((y' - y).toNat : Int) = y' by omega] at hk
 rw [h6, g6]
 generalize r.at_.sec + (if r.at_.base = 1 then max least (-10800) else 0) = s at *
 generalize (onD y r.month r.day).1 = D at *
 generalize (onD y' r.month r.day).1 = D' at *
 omega
theorem Zll {y y' : Int} (h : jan1 y * 86400 - 2100000 < jan1 (y' + 1) * 86400 + 2100000) : y <= y' + 1 := by
 by_cases hc : y <= y' + 1
 ·exact hc
 ·have := Zcq (y' + 1) (y - (y' + 1)).toNat
  rw [show y' + 1 + ((y - (y' + 1)).toNat : Int) = y by omega] at this
  omega
theorem Zp0 {t : Int} (h0 : -40000000000000000 <= t) (h1 : t <= 40000000000000000) : jan1 (Zax t) * 86400 <= t /\ t < jan1 (Zax t + 1) * 86400 := by
 have h := Zmx (t / 86400)
 have hb : -2000000000 <= ZgQ (t / 86400) /\ ZgQ (t / 86400) <= 2000000000 := by
  unfold jan1 at h
  omega
 have e : Zax t = ZgQ (t / 86400) := by unfold Zax; omega
 rw [e]
 omega
def mar1 (y : Int) : Int := y / 400 * 146097 + y % 400 * 365 + y % 400 / 4 - y % 400 / 100 - 719468
theorem ZlU (y : Int) : mar1 y + 365 <= mar1 (y + 1) /\ mar1 (y + 1) <= mar1 y + 366 := by unfold mar1; omega
theorem ZlV (y : Int) : ∀ k : Nat, mar1 y + 365 * k <= mar1 (y + k)
 | 0 => by simp
 | k + 1 => by
  have h1 := ZlV y k
  have h2 := ZlU (y + k)
  rw [show y + ((k + 1 : Nat) : Int) = y + k + 1 by omega]
  omega
theorem Zdh {y z : Int} (h : y < z) : mar1 y + 365 <= mar1 z := by
 have h1 := ZlV y (z - y).toNat
 rw [show y + ((z - y).toNat : Int) = z by omega] at h1
 omega
theorem ZfB {y z : Int} (h : y <= z) : mar1 y <= mar1 z := by
 by_cases he : y = z
 ·subst he; exact Int.le_refl _
 ·have := Zdh (y := y) (z := z) (by omega)
  omega
theorem Zmv (y m d : Int) (h : 3 <= m) : Zam y m d = mar1 y + ZaJ.getD (m - 3).toNat 0 + d - 1 := by
 unfold Zam ZbQ mar1
 rw [if_neg (by omega)]
 omega
theorem Zs3 (y : Int) : mar1 y - 29 <= Zam y 2 1 /\ Zam y 2 1 <= mar1 y - 28 := by
 have h := ZlU (y - 1)
 rw [show y - 1 + 1 = y by omega] at h
 unfold Zam ZbQ
 rw [if_pos (by omega), show ZaJ.getD ((2 : Int) + 12 - 3).toNat 0 = 337 by decide]
 unfold mar1 at *
 omega
theorem ZfE (y m : Int) (h0 : 1 <= m) (h1 : m <= 12) : 28 <= lenM y m := by
 unfold lenM
 rw [if_neg (by omega)]
 split
 ·split <;> omega
 ·split <;> omega
def Zd6 (d : DDay) : Prop := (d.kind = 2 /\ 0 <= d.week /\ d.week <= 6 /\ d.day = 0) \/ (d.kind = 3 /\ 0 <= d.week /\ d.week <= 6 /\ 1 <= d.day /\ d.day <= 22 /\ d.day.tmod 7 = 1) \/ (d.kind = 1 /\ d.week = 0 /\ 1 <= d.day /\ d.day <= 28)
theorem Zd6.chk {d : DDay} (h : Zd6 d) : ZbK d = true := by
 obtain ⟨k, w, n⟩ := d
 simp only [Zd6] at h
 rcases h with ⟨rfl, h1, h2, rfl⟩ | ⟨rfl, h1, h2, h3, h4, _⟩ | ⟨rfl, rfl, h3, h4⟩
 ·simp [ZbK, dayK, Zlp]; omega
 ·simp [ZbK, dayK, Zlp]; omega
 ·simp [ZbK, dayK, Zlp]; omega
theorem Zd6.le28 {d : DDay} (h : Zd6 d) : d.day <= 28 := by
 unfold Zd6 at h
 omega
theorem Zd6.on {d : DDay} (h : Zd6 d) {y m : Int} (hy : inY y = true) (h0 : 1 <= m) (h1 : m <= 12) : (onD y m d).2 = 0 /\ Zam y m 1 <= (onD y m d).1 /\ (onD y m d).1 <= Zam y m 1 + 30 := by
 have hl := ZfE y m h0 h1
 have hl2 := ZgG y m
 have h28 := h.le28
 have hd : ZaH y m 1 = true := by
  unfold ZaH
  rw [hy]
  simp
  omega
 unfold onD
 rw [if_neg (by rw [hd]; decide), if_neg (by rw [h.chk]; decide), if_neg (by omega)]
 refine ⟨rfl, ?_⟩
 dsimp only
 generalize Zam y m 1 = D
 generalize lenM y m = L at *
 obtain ⟨k, w, n⟩ := d
 simp only [Zd6] at h
 unfold Zec ZdZ ZeC
 dsimp only at h28 ⊢
 rcases h with ⟨rfl, h1, h2, rfl⟩ | ⟨rfl, h1, h2, h3, h4, _⟩ | ⟨rfl, rfl, h3, h4⟩
 ·rw [if_neg (by decide), if_pos rfl]; omega
 ·rw [if_neg (by decide), if_neg (by decide), if_pos rfl]; omega
 ·rw [if_pos rfl]; omega
structure DrRule (r : Zaa) : Prop where
 f0 : 1900 <= r.from_
 f1 : r.from_ <= 2149
 ft : r.from_ <= r.to
 t1 : r.to <= 2149 \/ r.to = 1048576
 mon : (2 <= r.month /\ r.month <= 4) \/ r.month = 6 \/ (8 <= r.month /\ r.month <= 10)
 day : Zd6 r.day
 clk : 0 <= r.at_.sec /\ r.at_.sec <= 86400 /\ 0 <= r.at_.base /\ r.at_.base <= 2
 save : -3600 <= r.save /\ r.save <= 7200
 letter : r.letter ∈ [ByteArray.empty, ⟨#[83]⟩, ⟨#[68]⟩, ⟨#[68, 84]⟩]
def sea (m : Int) : Int := if m <= 4 then 0 else if m <= 7 then 1 else 2
def loS (m : Int) : Int := if m <= 4 then -29 else if m <= 7 then 92 else 153
def hiS (m : Int) : Int := if m <= 4 then 62 else if m <= 7 then 123 else 245
theorem DrRule.mon12 {r : Zaa} (h : DrRule r) : 1 <= r.month /\ r.month <= 12 := by have := h.mon; omega
theorem ZyA {m : Int} (h : (2 <= m /\ m <= 4) \/ m = 6 \/ (8 <= m /\ m <= 10)) (y : Int) : mar1 y + loS m <= Zam y m 1 /\ Zam y m 1 + 31 <= mar1 y + hiS m := by
 have hc : m = 2 \/ m = 3 \/ m = 4 \/ m = 6 \/ m = 8 \/ m = 9 \/ m = 10 := by omega
 have hf := Zs3 y
 rcases hc with rfl | rfl | rfl | rfl | rfl | rfl | rfl
 ·simp only [loS, hiS]
  omega
 all_goals
  rw [Zmv _ _ _ (by decide)]
  simp only [loS, hiS, ZaJ]
  simp
  omega
theorem DrRule.ev {r : Zaa} (h : DrRule r) {least i y : Int} {e : Zad} (hl : -3600 <= least /\ least <= 0) (he : onR least r i y = some e) :
  e.year = y /\ e.rule = i /\ r.from_ <= y /\ (r.to <= 2149 -> y <= r.to) /\ 86400 * (mar1 y + loS r.month) - 3600 <= e.nominal /\ e.nominal <= 86400 * (mar1 y + hiS r.month) := by
 have hf0 := h.f0
 have hc := h.clk
 obtain ⟨m0, m1⟩ := h.mon12
 obtain ⟨b1, b2⟩ := ZyA h.mon y
 unfold onR at he
 split at he
 ·cases he
 rename_i hy
 split at he
 ·cases he
 cases he
 have hyr : ¬ y < max r.from_ (-2000000000) := fun hh => hy (.inl hh)
 have hyl : ¬ lastY r < y := fun hh => hy (.inr (.inl hh))
 have hl2 : lastY r <= 2000000000 := by unfold lastY; split <;> omega
 have hyt : r.to <= 2149 -> y <= r.to := fun hh => by
  have : lastY r = r.to := by unfold lastY; rw [if_neg (by omega)]; omega
  omega
 have hin : inY y = true := by
  unfold inY
  simp
  omega
 obtain ⟨_, o1, o2⟩ := h.day.on hin m0 m1
 refine ⟨rfl, rfl, by omega, hyt, ?_⟩
 dsimp only
 have hm : -3600 <= (if r.at_.base = 1 then max least (-10800) else 0) /\ (if r.at_.base = 1 then max least (-10800) else 0) <= 0 := by split <;> omega
 generalize (if r.at_.base = 1 then max least (-10800) else 0) = mx at *
 generalize (onD y r.month r.day).1 = D at *
 omega
def Dist (a b : Zaa) : Prop := a.to < b.from_ \/ sea a.month ≠ sea b.month
theorem Znr {a b : Int} (ha : (2 <= a /\ a <= 4) \/ a = 6 \/ (8 <= a /\ a <= 10)) (hb : (2 <= b /\ b <= 4) \/ b = 6 \/ (8 <= b /\ b <= 10)) (h : sea a ≠ sea b) : hiS a + 30 <= loS b \/ hiS b + 30 <= loS a := by
 unfold sea at h
 unfold hiS loS
 split at h <;> split at h <;> (try split at h) <;> (try split at h) <;> omega
theorem Zdu (m : Int) : -29 <= loS m /\ hiS m <= 245 := by
 unfold loS hiS
 split
 ·omega
 ·split <;> omega
theorem DrRule.far {a b : Zaa} (ha : DrRule a) (hb : DrRule b) {least i j y z : Int} {e f : Zad} (hl : -3600 <= least /\ least <= 0) (he : onR least a i y = some e) (hf : onR least b j z = some f) (hd : y = z -> Dist a b \/ Dist b a) :
  259200 <= e.nominal - f.nominal \/ 259200 <= f.nominal - e.nominal := by
 obtain ⟨_, _, a1, a2, a3, a4⟩ := ha.ev hl he
 obtain ⟨_, _, b1, b2, b3, b4⟩ := hb.ev hl hf
 have la := Zdu a.month
 have lb := Zdu b.month
 rcases Int.lt_trichotomy y z with h | h | h
 ·have := Zdh h
  omega
 ·subst h
  have hs : sea a.month ≠ sea b.month := by
   have af := ha.f1
   have bf := hb.f1
   rcases hd rfl with (h | h) | (h | h)
   ·have := a2 (by omega); omega
   ·exact h
   ·have := b2 (by omega); omega
   ·exact fun hh => h hh.symm
  have := Znr ha.mon hb.mon hs
  omega
 ·have := Zdh h
  omega
end Go.Wk
namespace Go.Proofs.YtdlmhmmhdbbliaaGreatDoor
open Go Go.RowKit Go.Wk
def atB (l : List Int) (i n : Int) : Int := if l.length = 0 then 0 else l.getD (i % (l.length : Int)).toNat 0 % n
theorem Zap (l : List Int) (i n : Int) (hn : 0 < n) : 0 <= atB l i n /\ atB l i n < n := by
 unfold atB
 split
 ·exact ⟨Int.le_refl 0, hn⟩
 ·exact ⟨Int.emod_nonneg _ (by omega), Int.emod_lt_of_pos _ hn⟩
def Zd9 (l : List Int) (i : Int) : ZeK := ⟨atB l i 49 * 1800, atB l (i + 1) 3⟩
def dayB (l : List Int) (i : Int) : List DDay := [⟨2, atB l i 7, 0⟩, ⟨3, atB l i 7, 1 + 7 * atB l (i + 1) 4⟩, ⟨1, 0, 1 + atB l (i + 1) 28⟩]
def Zhp (l : List Int) (i : Int) : DDay := (dayB l i).getD (atB l (i + 2) 3).toNat ⟨0, 0, 0⟩
def letA : List ByteArray := [⟨#[83]⟩, ⟨#[68]⟩, ⟨#[68, 84]⟩]
def letB : List ByteArray := [⟨#[]⟩, ⟨#[83]⟩]
def Znt (l : List Int) (i a b save : Int) : Zaa := ⟨ByteArray.empty, a, b, 2 + atB l i 3, Zhp l (i + 3), Zd9 l (i + 6), save, letA.getD (atB l (i + 8) 3).toNat ByteArray.empty⟩
def Zqe (l : List Int) (i a b save : Int) : Zaa := ⟨ByteArray.empty, a, b, 8 + atB l (i + 1) 3, Zhp l (i + 9), Zd9 l (i + 12), save, letB.getD (atB l (i + 14) 2).toNat ByteArray.empty⟩
def ZfS (l : List Int) (i a b save : Int) : List Zaa := if atB l (i + 2) 4 = 0 then [Znt l i a b 0, Zqe l i a b save] else [Znt l i a b save, Zqe l i a b 0]
theorem ZcS (l : List Int) (i a b save : Int) : (ZfS l i a b save).length = 2 := by
 unfold ZfS
 split <;> rfl
def Zgy : List Int := [3600, 3600, 1800, 7200, -3600]
def Zbw (l : List Int) : Int := Zgy.getD (atB l 0 5).toNat 0
def Zxl (l : List Int) (f : Int) : Zaa := ⟨⟨#[]⟩, f, f, 6, ⟨1, 0, 1 + atB l 3 28⟩, Zd9 l 4, 0, ⟨#[83]⟩⟩
def m1 (l : List Int) : List Zaa × Int := if atB l 2 3 = 0 then ([Zxl l (1900 + atB l 1 80)], 1900 + atB l 1 80 + 1) else ([], 1900 + atB l 1 80)
def m2 (l : List Int) (o : List Zaa) (f : Int) : List Zaa × Int := if atB l 5 2 = 0 then (o ++ ZfS l 7 f (f + atB l 6 12) (Zbw l), f + atB l 6 12 + 1 + atB l 8 5) else (o, f)
def to17 (l : List Int) (f : Int) : Int := if 0 < atB l 10 3 then 1048576 else f + atB l 9 6
def m3 (l : List Int) (o : List Zaa) (f : Int) : List Zaa := o ++ ZfS l 11 f (to17 l f) (Zbw l)
def Zcw (x : ByteArray) (r : Zaa) : Zaa := { r with name := x }
def ZbV (l : List Int) (x : ByteArray) : List Zaa := (m3 l (m2 l (m1 l).1 (m1 l).2).1 (m2 l (m1 l).1 (m1 l).2).2).map (Zcw x)
theorem Zl0 (l : List Int) : (m1 l).1.length <= 1 /\ 1900 <= (m1 l).2 /\ (m1 l).2 <= 1980 := by
 have h1 := Zap l 1 80 (by decide)
 unfold m1
 split <;> refine ⟨by simp, ?_, ?_⟩ <;> dsimp only <;> omega
theorem Zo9 (l : List Int) (o : List Zaa) (f : Int) (ho : o.length <= 1) (h1 : 1900 <= f) (h2 : f <= 1980) : (m2 l o f).1.length <= 3 /\ 1900 <= (m2 l o f).2 /\ (m2 l o f).2 <= 2000 := by
 have h3 := Zap l 6 12 (by decide)
 have h4 := Zap l 8 5 (by decide)
 unfold m2
 split <;> refine ⟨?_, ?_, ?_⟩ <;> dsimp only <;> first | omega | (rw [List.length_append, ZcS]; omega)
def Zxr : ZaT := ⟨false, 0, 0, ⟨0, 0, 0⟩, ⟨0, 0⟩⟩
theorem Zqv (l : List Int) (x : ByteArray) : (ZbV l x).length <= 5 := by
 obtain ⟨q1, q2, q3⟩ := Zl0 l
 obtain ⟨q4, q5, q6⟩ := Zo9 l (m1 l).1 (m1 l).2 q1 q2 q3
 rw [ZbV, List.length_map, m3, List.length_append, ZcS]
 omega
theorem ZgC (a b : Zad) : ordE a b < 0 ↔ a.nominal < b.nominal \/ (a.nominal = b.nominal /\ (a.rule < b.rule \/ (a.rule = b.rule /\ a.year < b.year))) := by
 unfold ordE
 repeat' split
 all_goals omega
def ltE (x y : Zad) : Bool := decide (ordE x y < 0)
theorem swoE : Go.Sort.SWO ltE where
 irrefl x := by simp only [ltE, ZgC, decide_eq_false_iff_not]; omega
 trans x y z h1 h2 := by simp only [ltE, ZgC, decide_eq_true_eq] at *; omega
 ntrans x y z h1 h2 := by simp only [ltE, ZgC, decide_eq_false_iff_not] at *; omega
theorem totE (x y : Zad) (h1 : ltE x y = false) (h2 : ltE y x = false) : x = y := by
 simp only [ltE, ZgC, decide_eq_false_iff_not] at h1 h2
 obtain ⟨a, b, c⟩ := x
 obtain ⟨d, e, f⟩ := y
 simp only [Zad.mk.injEq]
 simp only at h1 h2
 omega
def ZdE (least y : Int) : List Zaa -> Nat -> List Zad
 | [], _ => []
 | r :: l, i => (onR least r i y).toList ++ ZdE least y l (i + 1)
def allC (l : List Zaa) (least from_ : Int) : Nat -> List Zad
 | 0 => []
 | k + 1 => allC l least from_ k ++ ZdE least (from_ + k) l 0
def insF (a : List Zad) (e : Zad) : List Zad := insE e a
theorem Zgw (least y : Int) : ∀ (l : List Zaa) (i : Nat) (acc : List Zad), Zkn least y l i acc = (ZdE least y l i).foldl insF acc
 | [], _, _ => rfl
 | r :: l, i, acc => by
  rw [Zkn, ZdE, Zgw least y l]
  cases onR least r i y with
  | none => rfl
  | some e => rfl
theorem Zid (e : Zad) : ∀ l, (insE e l).Perm (e :: l)
 | [] => .refl _
 | x :: l => by
  rw [insE]
  split
  ·exact .refl _
  ·exact ((Zid e l).cons x).trans (.swap _ _ _)
theorem Zmb : ∀ (xs acc : List Zad), (xs.foldl insF acc).Perm (xs ++ acc)
 | [], _ => .refl _
 | x :: xs, acc => by
  rw [List.foldl_cons]
  refine (Zmb xs _).trans ?_
  refine ((Zid x acc).append_left xs).trans ?_
  exact List.perm_middle
theorem Zd1 (l : List Zaa) (least from_ : Int) : ∀ k, (Zfo l least from_ k).Perm (allC l least from_ k)
 | 0 => .refl _
 | k + 1 => by
  rw [Zfo, allC, Zgw]
  refine (Zmb _ _).trans ?_
  refine List.perm_append_comm.trans ?_
  exact (Zd1 l least from_ k).append_right _
def Zrk (l : List Zad) : Prop := l.Pairwise fun a b => ltE a b = false
theorem Zmd (e : Zad) : ∀ l, Zrk l -> Zrk (insE e l)
 | [], _ => List.pairwise_singleton _ _
 | x :: l, h => by
  obtain ⟨h1, h2⟩ := List.pairwise_cons.1 h
  rw [insE]
  split
  ·rename_i hlt
   have hx : ltE x e = true := decide_eq_true hlt
   have hex : ltE e x = false := by
    cases h3 : ltE e x
    ·rfl
    ·have := swoE.trans x e x hx h3
     rw [swoE.irrefl] at this
     cases this
   refine List.pairwise_cons.2 ⟨fun b hb => ?_, h⟩
   rcases List.mem_cons.1 hb with rfl | hb
   ·exact hex
   ·exact swoE.ntrans e x b hex (h1 b hb)
  ·rename_i hlt
   have hx : ltE x e = false := decide_eq_false hlt
   refine List.pairwise_cons.2 ⟨fun b hb => ?_, Zmd e l h2⟩
   rcases List.mem_cons.1 ((Zid e l).mem_iff.1 hb) with rfl | hb
   ·exact hx
   ·exact h1 b hb
theorem Zmc : ∀ (xs acc : List Zad), Zrk acc -> Zrk (xs.foldl insF acc)
 | [], _, h => h
 | x :: xs, acc, h => Zmc xs _ (Zmd x acc h)
theorem ZfI (l : List Zaa) (least from_ : Int) : ∀ k, Zrk (Zfo l least from_ k)
 | 0 => List.Pairwise.nil
 | k + 1 => by
  rw [Zfo, Zgw]
  exact Zmc _ _ (ZfI l least from_ k)
theorem ZuP (l : List Zaa) (least from_ : Int) (k : Nat) : (allC l least from_ k).mergeSort (fun x y => !ltE y x) = (Zfo l least from_ k).reverse := by
 refine List.Perm.eq_of_pairwise (le := fun x y => (!ltE y x) = true) ?_ ?_ ?_ ?_
 ·intro a b _ _ h1 h2
  simp only [Bool.not_eq_true'] at h1 h2
  exact totE a b h2 h1
 ·refine List.pairwise_mergeSort ?_ ?_ _
  ·intro a b c h1 h2
   simp only [Bool.not_eq_true'] at h1 h2 ⊢
   exact swoE.ntrans c b a h2 h1
  ·intro a b
   cases h : ltE b a with
   | false => simp
   | true =>
    have : ltE a b = false := by
     cases h3 : ltE a b
     ·rfl
     ·have := swoE.trans a b a h3 h
      rw [swoE.irrefl] at this
      cases this
    simp [this]
 ·rw [List.pairwise_reverse]
  exact (ZfI l least from_ k).imp fun h => by rw [h]; rfl
 ·exact (List.mergeSort_perm _ _).trans ((Zd1 l least from_ k).symm.trans (List.reverse_perm _).symm)
def ZcC : List Zad -> Option Zad
 | a :: b :: l => if b.nominal - a.nominal < 259200 then some b else ZcC (b :: l)
 | _ => none
theorem ZiD (x y : Zad) : ∀ l : List Zad, ZcC (l ++ [x, y]) = (ZcC (l ++ [x])).or (if y.nominal - x.nominal < 259200 then some y else none)
 | [] => by simp [ZcC]
 | [a] => by
  simp only [List.cons_append, List.nil_append, ZcC]
  by_cases h : x.nominal - a.nominal < 259200 <;> simp [h]
 | a :: b :: l => by
  have ih := ZiD x y (b :: l)
  simp only [List.cons_append, ZcC] at ih ⊢
  by_cases h : b.nominal - a.nominal < 259200
  ·simp [h]
  ·simp only [if_neg h]
   exact ih
theorem Zj0 : ∀ l : List Zad, ZcC l.reverse = Zhh l
 | [] => rfl
 | [_] => rfl
 | a :: b :: l => by
  have ih := Zj0 (b :: l)
  rw [List.reverse_cons] at ih
  rw [Zhh, <- ih, List.reverse_cons, List.reverse_cons, List.append_assoc]
  exact ZiD b a l.reverse
theorem ZmJ (l : List Zaa) : ZcC ((allC l (Zah l) 1850 701).mergeSort fun x y => !ltE y x) = ZiL l := by
 rw [ZuP, Zj0]; rfl
def Zyf (P : Zad -> Prop) : Option Zad -> Prop
 | none => ∀ e, ¬ P e
 | some e => P e /\ ∀ e', P e' -> ltE e' e = false
def ZpW (M : List Zad) (e : Zad) : Prop := ∃ x ∈ M, ltE x e = true /\ e.nominal - x.nominal < 259200
theorem Zgb : ∀ (M : List Zad), Zrk M -> M.Nodup -> Zyf (fun e => e ∈ M /\ ZpW M e) (Zhh M)
 | [], _, _ => fun e he => by simp at he
 | [a], _, _ => fun e he => by
  obtain ⟨h1, x, h2, h3, _⟩ := he
  rw [List.mem_singleton] at h1 h2
  subst h1 h2
  rw [swoE.irrefl] at h3
  cases h3
 | a :: b :: l, hd, hn => by
  obtain ⟨d1, d2⟩ := List.pairwise_cons.1 hd
  obtain ⟨n1, n2⟩ := List.nodup_cons.1 hn
  obtain ⟨d3, _⟩ := List.pairwise_cons.1 d2
  have ih := Zgb (b :: l) d2 n2
  have hlt : ∀ x ∈ b :: l, ltE x a = true := fun x hx => by
   cases h : ltE x a
   ·have := totE a x (d1 x hx) h
    subst this
    exact absurd hx n1
   ·rfl
  have hrest : ∀ e ∈ b :: l, ZpW (a :: b :: l) e ↔ ZpW (b :: l) e := fun e he => by
   constructor
   ·rintro ⟨x, hx, h1, h2⟩
    rcases List.mem_cons.1 hx with rfl | hx
    ·rw [d1 e he] at h1; cases h1
    ·exact ⟨x, hx, h1, h2⟩
   ·rintro ⟨x, hx, h1, h2⟩
    exact ⟨x, List.mem_cons_of_mem _ hx, h1, h2⟩
  have ha : ZpW (a :: b :: l) a ↔ a.nominal - b.nominal < 259200 := by
   constructor
   ·rintro ⟨x, hx, h1, h2⟩
    rcases List.mem_cons.1 hx with rfl | hx
    ·rw [swoE.irrefl] at h1; cases h1
    ·have hxb : x.nominal <= b.nominal := by
      rcases List.mem_cons.1 hx with rfl | hx
      ·exact Int.le_refl _
      ·have h3 := d3 x hx
       simp only [ltE, ZgC, decide_eq_false_iff_not] at h3
       omega
     omega
   ·intro h
    exact ⟨b, List.mem_cons_of_mem _ List.mem_cons_self, hlt b List.mem_cons_self, h⟩
  rw [Zhh]
  cases hc : Zhh (b :: l) with
  | none =>
   rw [hc] at ih
   rw [Option.none_or]
   by_cases hab : a.nominal - b.nominal < 259200
   ·rw [if_pos hab]
    refine ⟨⟨List.mem_cons_self, ha.2 hab⟩, fun e he => ?_⟩
    rcases List.mem_cons.1 he.1 with rfl | h
    ·exact swoE.irrefl _
    ·exact absurd ⟨h, (hrest e h).1 he.2⟩ (ih e)
   ·rw [if_neg hab]
    intro e he
    rcases List.mem_cons.1 he.1 with rfl | h
    ·exact hab (ha.1 he.2)
    ·exact ih e ⟨h, (hrest e h).1 he.2⟩
  | some c =>
   rw [hc] at ih
   rw [Option.some_or]
   obtain ⟨⟨c1, c2⟩, c3⟩ := ih
   refine ⟨⟨List.mem_cons_of_mem _ c1, (hrest c c1).2 c2⟩, fun e he => ?_⟩
   rcases List.mem_cons.1 he.1 with rfl | h
   ·exact d1 c c1
   ·exact c3 e ⟨h, (hrest e h).1 he.2⟩
theorem Zdt (L y : Int) : ∀ (l : List Zaa) (i : Nat) (e : Zad), e ∈ ZdE L y l i ↔ ∃ (j : Nat) (r : Zaa), l[j]? = some r /\ onR L r ((i + j : Nat) : Int) y = some e
 | [], i, e => by simp [ZdE]
 | r :: l, i, e => by
  rw [ZdE, List.mem_append, Zdt L y l (i + 1) e, Option.mem_toList]
  constructor
  ·rintro (h | ⟨j, r', h1, h2⟩)
   ·exact ⟨0, r, rfl, h⟩
   ·exact ⟨j + 1, r', by simpa using h1, by rw [show i + (j + 1) = i + 1 + j by omega]; exact h2⟩
  ·rintro ⟨j, r', h1, h2⟩
   cases j with
   | zero => simp only [List.getElem?_cons_zero, Option.some.injEq] at h1; subst h1; exact .inl h2
   | succ j => exact .inr ⟨j, r', by simpa using h1, by rw [show i + 1 + j = i + (j + 1) by omega]; exact h2⟩
theorem Zh2 (l : List Zaa) (L f : Int) : ∀ (k : Nat) (e : Zad), e ∈ allC l L f k ↔ ∃ q : Nat, q < k /\ e ∈ ZdE L (f + q) l 0
 | 0, e => by simp [allC]
 | k + 1, e => by
  rw [allC, List.mem_append, Zh2 l L f k e]
  constructor
  ·rintro (⟨q, h1, h2⟩ | h)
   ·exact ⟨q, by omega, h2⟩
   ·exact ⟨k, by omega, h⟩
  ·rintro ⟨q, h1, h2⟩
   by_cases hq : q = k
   ·subst hq; exact .inr h2
   ·exact .inl ⟨q, by omega, h2⟩
theorem Zg3 (L y : Int) : ∀ (l : List Zaa) (i : Nat), (ZdE L y l i).Nodup
 | [], _ => List.nodup_nil
 | r :: l, i => by
  rw [ZdE]
  refine List.nodup_append.2 ⟨?_, Zg3 L y l (i + 1), ?_⟩
  ·cases onR L r i y <;> simp
  ·intro a ha b hb hab
   subst hab
   obtain ⟨j, r', _, h2⟩ := (Zdt L y l (i + 1) a).1 hb
   have e1 := (Zbr (Option.mem_toList.1 ha)).2.1
   have e2 := (Zbr h2).2.1
   omega
theorem ZiN (l : List Zaa) (L f : Int) : ∀ k, (allC l L f k).Nodup
 | 0 => List.nodup_nil
 | k + 1 => by
  rw [allC]
  refine List.nodup_append.2 ⟨ZiN l L f k, Zg3 _ _ _ _, ?_⟩
  intro a ha b hb hab
  subst hab
  obtain ⟨q, h1, h2⟩ := (Zh2 l L f k a).1 ha
  obtain ⟨j, r, _, h3⟩ := (Zdt _ _ _ _ _).1 h2
  obtain ⟨j', r', _, h4⟩ := (Zdt _ _ _ _ _).1 hb
  have e1 := (Zbr h3).1
  have e2 := (Zbr h4).1
  omega
theorem Zit (least nominal : Int) (r : Zaa) (i : Int) : ∀ (k : Nat) (y : Int) (e : Zad), evIn least nominal r i y k = some e -> ∃ q : Nat, onR least r i (y + q) = some e /\ nominal < e.nominal
 | 0, _, _, h => by cases h
 | k + 1, y, e, h => by
  rw [evIn] at h
  have ih := Zit least nominal r i k (y + 1) e
  have lift : (∃ q : Nat, onR least r i (y + 1 + q) = some e /\ nominal < e.nominal) -> ∃ q : Nat, onR least r i (y + q) = some e /\ nominal < e.nominal := by
   rintro ⟨q, hq⟩
   exact ⟨q + 1, by rw [show y + ((q + 1 : Nat) : Int) = y + 1 + q by omega]; exact hq⟩
  cases he : onR least r i y with
  | none => rw [he] at h; exact lift (ih h)
  | some e' =>
   rw [he] at h
   dsimp only at h
   by_cases hc : nominal < e'.nominal
   ·rw [if_pos hc] at h
    cases h
    exact ⟨0, by simpa using he, hc⟩
   ·rw [if_neg hc] at h
    exact lift (ih h)
theorem Zfp (least nominal yr : Int) : ∀ (l : List Zaa) (i : Nat) (b : Option Zad) (e : Zad), Zcy least nominal yr l i b = some e -> b = some e \/ ∃ (j : Nat) (r : Zaa), l[j]? = some r /\ evIn least nominal r ((i + j : Nat) : Int) (max (max r.from_ (-2000000000)) (yr - 2)) 20 = some e
 | [], _, _, _, h => .inl h
 | r :: l, i, b, e, h => by
  rw [Zcy] at h
  rcases Zfp least nominal yr l (i + 1) _ e h with h1 | ⟨j, r', h1, h2⟩
  ·cases he : evIn least nominal r i (max (max r.from_ (-2000000000)) (yr - 2)) 20 with
   | none => rw [he] at h1; exact .inl h1
   | some e' =>
    rw [he] at h1
    have hr : ∀ x, e' = x -> ∃ (j : Nat) (r' : Zaa), (r :: l)[j]? = some r' /\ evIn least nominal r' ((i + j : Nat) : Int) (max (max r'.from_ (-2000000000)) (yr - 2)) 20 = some x := fun x hx => ⟨0, r, rfl, by rw [<- hx]; exact he⟩
    cases b with
    | none => cases h1; exact .inr (hr _ rfl)
    | some b =>
     dsimp only at h1
     split at h1
     ·cases h1; exact .inr (hr _ rfl)
     ·exact .inl h1
  ·exact .inr ⟨j + 1, r', by simpa using h1, by rw [show i + (j + 1) = i + 1 + j by omega]; exact h2⟩
theorem ZkL : ∀ (l : List Zaa) (m : Int), l.foldl (fun m r => min m r.save) m <= m /\ (∀ r ∈ l, l.foldl (fun m r => min m r.save) m <= r.save) /\ (l.foldl (fun m r => min m r.save) m = m \/ ∃ r ∈ l, l.foldl (fun m r => min m r.save) m = r.save)
 | [], m => ⟨Int.le_refl _, (fun r h => by cases h), .inl rfl⟩
 | a :: l, m => by
  obtain ⟨h1, h2, h3⟩ := ZkL l (min m a.save)
  rw [List.foldl_cons]
  refine ⟨by omega, fun r hr => ?_, ?_⟩
  ·rcases List.mem_cons.1 hr with rfl | hr
   ·omega
   ·exact h2 r hr
  ·rcases h3 with h3 | ⟨r, h4, h5⟩
   ·by_cases hm : m <= a.save
    ·exact .inl (by omega)
    ·exact .inr ⟨a, List.mem_cons_self, by omega⟩
   ·exact .inr ⟨r, List.mem_cons_of_mem _ h4, h5⟩
theorem ZgB {s : Int} (hs : s ≠ 0) : ∀ (l : List Zaa) (x : Int), (x = 0 \/ x = s) -> (∀ r ∈ l, r.save = 0 \/ r.save = s) -> (x = s \/ ∃ r ∈ l, r.save = s) -> Zcu l x = (s, true)
 | [], x, _, _, h => by
  rcases h with rfl | ⟨r, hr, _⟩
  ·simp [Zcu, hs]
  ·cases hr
 | a :: l, x, hx, ha, h => by
  have hal : ∀ r ∈ l, r.save = 0 \/ r.save = s := fun r hr => ha r (List.mem_cons_of_mem _ hr)
  rw [Zcu]
  rcases ha a List.mem_cons_self with h0 | h0
  ·rw [if_pos h0]
   refine ZgB hs l x hx hal ?_
   rcases h with h | ⟨r, hr, hh⟩
   ·exact .inl h
   ·rcases List.mem_cons.1 hr with rfl | hr
    ·exact absurd (hh.symm.trans h0) hs
    ·exact .inr ⟨r, hr, hh⟩
  ·rw [if_neg (by clear h; omega), if_neg (by clear h; omega), h0]
   exact ZgB hs l s (.inr rfl) hal (.inl rfl)
structure Zbh (l : List Zaa) : Prop where
 rule : ∀ r ∈ l, DrRule r
 dist : l.Pairwise Dist
 saves : ∃ s, s ≠ 0 /\ (∀ r ∈ l, r.save = 0 \/ r.save = s) /\ (∃ r ∈ l, r.save = 0) /\ ∃ r ∈ l, r.save = s
 last : Zh9 l = true
theorem Zbh.least {l : List Zaa} (h : Zbh l) : -3600 <= Zah l /\ Zah l <= 0 := by
 obtain ⟨h1, h2, h3⟩ := ZkL l 0
 unfold Zah
 refine ⟨?_, h1⟩
 rcases h3 with h3 | ⟨r, h4, h5⟩
 ·omega
 ·have := (h.rule r h4).save
  omega
theorem Zbh.other {l : List Zaa} (h : Zbh l) : ∃ s, s ≠ 0 /\ -3600 <= s /\ s <= 7200 /\ ZcT l = (s, true) /\ (Zah l = 0 \/ Zah l = s) /\ ∀ r ∈ l, r.save = 0 \/ r.save = s := by
 obtain ⟨s, h0, h1, _, r, h3, h4⟩ := h.saves
 have hr := (h.rule r h3).save
 refine ⟨s, h0, by omega, by omega, ZgB h0 l 0 (.inl rfl) h1 (.inr ⟨r, h3, h4⟩), ?_, h1⟩
 obtain ⟨_, _, h7⟩ := ZkL l 0
 unfold Zah
 rcases h7 with h7 | ⟨q, h8, h9⟩
 ·exact .inl h7
 ·have := h1 q h8
  omega
theorem _root_.Go.Wk.DrRule.err {r : Zaa} (h : DrRule r) {least : Int} (hl : -3600 <= least /\ least <= 0) : Zb9 r least = 0 := by
 have h0 := h.f0
 have h1 := h.f1
 have h2 := h.ft
 have h3 := h.t1
 have h4 := h.clk
 have h5 := h.save
 obtain ⟨m0, m1⟩ := h.mon12
 have e1 : (Zb6 r.from_ && (Zb6 r.to || decide (r.to = 1048576))) = true := by
  simp [Zb6]
  omega
 have e2 : ZfH r.from_ r.to r.month r.day = true := by
  unfold ZfH
  rw [if_neg (by rw [h.day.chk]; simp; omega), if_pos (.inr (by have := ZfE 1 r.month m0 m1; have := h.day.le28; omega))]
 have e3 : ZfM r.at_ least = true := by
  unfold ZfM ZaL
  simp
  split <;> omega
 have e4 : (decide (r.letter = ByteArray.empty) || Zh8 r.letter) = true := by
  have hl := h.letter
  simp only [List.mem_cons, List.not_mem_nil, or_false] at hl
  rcases hl with e | e | e | e <;> rw [e] <;> decide
 unfold Zb9
 rw [if_neg (by rw [e1]; decide), if_neg (by omega), if_neg (by rw [e2]; decide), if_neg (by rw [e3]; decide), if_neg (by simp; omega), if_neg (by rw [e4]; decide)]
theorem Zfl {least : Int} : ∀ (l : List Zaa) (k : Nat), (∀ r ∈ l, Zb9 r least = 0) -> Zbb least l k = none
 | [], _, _ => rfl
 | a :: l, k, h => by
  rw [Zbb, if_pos (h a List.mem_cons_self)]
  exact Zfl l (k + 1) fun r hr => h r (List.mem_cons_of_mem _ hr)
theorem Zbh.chk {l : List Zaa} (h : Zbh l) : Ze9 l = (0, 0) := by
 have hl := h.least
 obtain ⟨s, s0, _, _, _, s1, s2⟩ := h.other
 obtain ⟨_, _, _, ⟨r, h3, h4⟩, _⟩ := h.saves
 unfold Ze9
 rw [Zfl l 0 fun r hr => (h.rule r hr).err hl]
 dsimp only
 have ha : (l.any fun r => decide (r.save = 0)) = true := List.any_eq_true.2 ⟨r, h3, by simp [h4]⟩
 rw [if_neg, if_neg (by rw [h.last]; decide)]
 rintro (hh | ⟨h5, h6⟩)
 ·rw [ha] at hh; cases hh
 ·obtain ⟨q, h7, h8⟩ := List.any_eq_true.1 h6
  have := s2 q h7
  simp at h8
  omega
theorem ZkJ {α : Type} {R : α -> α -> Prop} {l : List α} (h : l.Pairwise R) {j k : Nat} {a b : α} (ha : l[j]? = some a) (hb : l[k]? = some b) (hn : j ≠ k) : R a b \/ R b a := by
 obtain ⟨h1, rfl⟩ := List.getElem?_eq_some_iff.1 ha
 obtain ⟨h2, rfl⟩ := List.getElem?_eq_some_iff.1 hb
 rcases Nat.lt_or_ge j k with h3 | h3
 ·exact .inl (List.pairwise_iff_getElem.1 h _ _ h1 h2 h3)
 ·exact .inr (List.pairwise_iff_getElem.1 h _ _ h2 h1 (by omega))
theorem Zbh.far2 {l : List Zaa} (h : Zbh l) {j k : Nat} {a b : Zaa} {y z : Int} {e f : Zad} (ha : l[j]? = some a) (hb : l[k]? = some b) (he : onR (Zah l) a j y = some e) (hf : onR (Zah l) b k z = some f) (hn : e ≠ f) :
  259200 <= e.nominal - f.nominal \/ 259200 <= f.nominal - e.nominal := by
 refine (h.rule a (List.mem_of_getElem? ha)).far (h.rule b (List.mem_of_getElem? hb)) h.least he hf fun hyz => ?_
 subst hyz
 refine ZkJ h.dist ha hb fun hjk => hn ?_
 subst hjk
 rw [ha] at hb
 cases hb
 exact Option.some.inj (he.symm.trans hf)
theorem Zbh.apart {l : List Zaa} (h : Zbh l) : ZiL l = none := by
 have hc := Zgb (Zfo l (Zah l) 1850 701) (ZfI _ _ _ _) ((Zd1 l (Zah l) 1850 701).nodup_iff.2 (ZiN l (Zah l) 1850 701))
 unfold ZiL
 cases he : Zhh (Zfo l (Zah l) 1850 701) with
 | none => rfl
 | some e =>
  rw [he] at hc
  obtain ⟨⟨h1, x, h2, h3, h4⟩, _⟩ := hc
  have hm : ∀ x, x ∈ Zfo l (Zah l) 1850 701 -> ∃ (j : Nat) (r : Zaa) (y : Int), l[j]? = some r /\ onR (Zah l) r j y = some x := fun x hx => by
   rw [(Zd1 l (Zah l) 1850 701).mem_iff, Zh2] at hx
   obtain ⟨q, _, hq⟩ := hx
   obtain ⟨j, r, hj, hr⟩ := (Zdt _ _ _ _ _).1 hq
   rw [Nat.zero_add] at hr
   exact ⟨j, r, _, hj, hr⟩
  obtain ⟨j, a, y, ja, ea⟩ := hm e h1
  obtain ⟨k, b, z, kb, eb⟩ := hm x h2
  have hne : e ≠ x := fun hh => by
   subst hh
   rw [swoE.irrefl] at h3
   cases h3
  have := h.far2 ja kb ea eb hne
  simp only [ltE, ZgC, decide_eq_true_eq] at h3
  omega
theorem Zbh.fault {rs : List Zaa} {x : ByteArray} (h : Zbh (ofB rs x)) (hx : setB x = true) : ZcE rs x = none := by
 unfold ZcE
 rw [if_neg (by rw [hx]; decide), h.chk, if_neg (by simp), h.apart]
theorem Zbh.farD_of {l : List Zaa} (h : Zbh l) (n : Int) (hn : ∀ (j : Nat) (r : Zaa) (y : Int) (e : Zad), l[j]? = some r -> onR (Zah l) r j y = some e -> ¬ (n - 259200 < e.nominal /\ e.nominal < n + 259200)) : farD l n = true := by
 unfold farD
 cases ha : Zgf l (n - 259200) with
 | none => rfl
 | some e =>
  rcases Zfp _ _ _ l 0 none e ha with hh | ⟨j, r, hj, hr⟩
  ·cases hh
  ·obtain ⟨q, h1, h2⟩ := Zit _ _ _ _ _ _ _ hr
   rw [Nat.zero_add] at h1
   have := hn j r _ e hj h1
   simp
   omega
theorem Zpm (l : List Int) (i : Int) : Zd6 (Zhp l i) := by
 have h1 := Zap l i 7 (by decide)
 have h2 := Zap l (i + 1) 4 (by decide)
 have h3 := Zap l (i + 1) 28 (by decide)
 have h4 := Zap l (i + 2) 3 (by decide)
 have hc : atB l (i + 2) 3 = 0 \/ atB l (i + 2) 3 = 1 \/ atB l (i + 2) 3 = 2 := by omega
 unfold Zhp dayB Zd6
 rcases hc with e | e | e <;> rw [e]
 ·exact .inl ⟨rfl, h1.1, by show atB l i 7 <= 6; omega, rfl⟩
 ·refine .inr (.inl ⟨rfl, h1.1, ?_, ?_, ?_, ?_⟩)
  ·show atB l i 7 <= 6; omega
  ·show 1 <= 1 + 7 * atB l (i + 1) 4; omega
  ·show 1 + 7 * atB l (i + 1) 4 <= 22; omega
  ·show (1 + 7 * atB l (i + 1) 4).tmod 7 = 1
   rw [Int.tmod_eq_emod_of_nonneg (by omega)]; omega
 ·refine .inr (.inr ⟨rfl, rfl, ?_, ?_⟩)
  ·show 1 <= 1 + atB l (i + 1) 28; omega
  ·show 1 + atB l (i + 1) 28 <= 28; omega
theorem ZiE (l : List Int) (i : Int) : 0 <= (Zd9 l i).sec /\ (Zd9 l i).sec <= 86400 /\ 0 <= (Zd9 l i).base /\ (Zd9 l i).base <= 2 := by
 have h1 := Zap l i 49 (by decide)
 have h2 := Zap l (i + 1) 3 (by decide)
 unfold Zd9
 dsimp only
 omega
theorem Zo0 {r : Zaa} (h : Zd6 r.day) : Zd8 r = true := by
 unfold Zd6 at h
 unfold Zd8
 rcases h with ⟨h1, _⟩ | ⟨h1, h2, h3, h4, h5, h6⟩ | ⟨h1, h2, h3, h4⟩
 ·rw [if_pos h1]
 ·rw [if_neg (by omega), if_pos h1, h6]
  simp
  omega
 ·rw [if_neg (by omega), if_neg (by omega), if_pos h1]
  simp
  omega
theorem Zvf (k : Int) (h0 : 0 <= k) (h1 : k < 3) : letA.getD k.toNat ByteArray.empty ∈ [ByteArray.empty, ⟨#[83]⟩, ⟨#[68]⟩, ⟨#[68, 84]⟩] := by
 have hc : k = 0 \/ k = 1 \/ k = 2 := by omega
 rcases hc with rfl | rfl | rfl
 ·exact .tail _ (.head _)
 ·exact .tail _ (.tail _ (.head _))
 ·exact .tail _ (.tail _ (.tail _ (.head _)))
theorem Zve (k : Int) (h0 : 0 <= k) (h1 : k < 2) : letB.getD k.toNat ByteArray.empty ∈ [ByteArray.empty, ⟨#[83]⟩, ⟨#[68]⟩, ⟨#[68, 84]⟩] := by
 have hc : k = 0 \/ k = 1 := by omega
 rcases hc with rfl | rfl
 ·exact .head _
 ·exact .tail _ (.head _)
theorem ZoT (l : List Int) (i a b s : Int) (h0 : 1900 <= a) (h1 : a <= 2149) (h2 : a <= b) (h3 : b <= 2149 \/ b = 1048576) (h4 : -3600 <= s /\ s <= 7200) : DrRule (Znt l i a b s) := by
 have r1 := Zap l i 3 (by decide)
 have r2 := Zap l (i + 8) 3 (by decide)
 exact ⟨h0, h1, h2, h3, .inl (by show 2 <= 2 + atB l i 3 /\ 2 + atB l i 3 <= 4; omega), Zpm l (i + 3), ZiE l (i + 6), h4, Zvf _ r2.1 r2.2⟩
theorem ZoS (l : List Int) (i a b s : Int) (h0 : 1900 <= a) (h1 : a <= 2149) (h2 : a <= b) (h3 : b <= 2149 \/ b = 1048576) (h4 : -3600 <= s /\ s <= 7200) : DrRule (Zqe l i a b s) := by
 have r1 := Zap l (i + 1) 3 (by decide)
 have r2 := Zap l (i + 14) 2 (by decide)
 exact ⟨h0, h1, h2, h3, .inr (.inr (by show 8 <= 8 + atB l (i + 1) 3 /\ 8 + atB l (i + 1) 3 <= 10; omega)), Zpm l (i + 9), ZiE l (i + 12), h4, Zve _ r2.1 r2.2⟩
theorem Zo1 (l : List Int) (i a b s : Int) (h0 : 1900 <= a) (h1 : a <= 2149) (h2 : a <= b) (h3 : b <= 2149 \/ b = 1048576) (h4 : -3600 <= s /\ s <= 7200) :
  ∃ p q, ZfS l i a b s = [p, q] /\ DrRule p /\ DrRule q /\ p.from_ = a /\ p.to = b /\ q.from_ = a /\ q.to = b /\ sea p.month = 0 /\ sea q.month = 2 /\ ((p.save = 0 /\ q.save = s) \/ (p.save = s /\ q.save = 0)) := by
 have r1 := Zap l i 3 (by decide)
 have r2 := Zap l (i + 1) 3 (by decide)
 have e1 : ∀ t, sea (Znt l i a b t).month = 0 := fun t => by
  show sea (2 + atB l i 3) = 0
  unfold sea; rw [if_pos (by omega)]
 have e2 : ∀ t, sea (Zqe l i a b t).month = 2 := fun t => by
  show sea (8 + atB l (i + 1) 3) = 2
  unfold sea; rw [if_neg (by omega), if_neg (by omega)]
 unfold ZfS
 split
 ·exact ⟨_, _, rfl, ZoT l i a b 0 h0 h1 h2 h3 (by decide), ZoS l i a b s h0 h1 h2 h3 h4, rfl, rfl, rfl, rfl, e1 0, e2 s, .inl ⟨rfl, rfl⟩⟩
 ·exact ⟨_, _, rfl, ZoT l i a b s h0 h1 h2 h3 h4, ZoS l i a b 0 h0 h1 h2 h3 (by decide), rfl, rfl, rfl, rfl, e1 s, e2 0, .inr ⟨rfl, rfl⟩⟩
structure ZuA (s f : Int) (o : List Zaa) : Prop where
 rule : ∀ r ∈ o, DrRule r /\ r.to < f /\ r.to <= 2149 /\ (r.save = 0 \/ r.save = s)
 dist : o.Pairwise Dist
theorem ZuA.two {s f : Int} {o : List Zaa} {p q : Zaa} (h : ZuA s f o) (hp : p.from_ = f) (hq : q.from_ = f) (h1 : sea p.month = 0) (h2 : sea q.month = 2) : (o ++ [p, q]).Pairwise Dist := by
 refine List.pairwise_append.2 ⟨h.dist, ?_, fun a ha b hb => .inl ?_⟩
 ·refine List.pairwise_cons.2 ⟨fun b hb => ?_, List.pairwise_singleton _ _⟩
  rw [List.mem_singleton] at hb
  subst hb
  exact .inr (by rw [h1, h2]; decide)
 ·have := (h.rule a ha).2.1
  simp only [List.mem_cons, List.not_mem_nil, or_false] at hb
  rcases hb with rfl | rfl
  ·rw [hp]; exact this
  ·rw [hq]; exact this
theorem Zjs (l : List Int) : Zbw l ≠ 0 /\ -3600 <= Zbw l /\ Zbw l <= 7200 := by
 have h := Zap l 0 5 (by decide)
 have hc : atB l 0 5 = 0 \/ atB l 0 5 = 1 \/ atB l 0 5 = 2 \/ atB l 0 5 = 3 \/ atB l 0 5 = 4 := by omega
 unfold Zbw
 rcases hc with e | e | e | e | e <;> rw [e] <;> decide
theorem ZyC (l : List Int) : ZuA (Zbw l) (m1 l).2 (m1 l).1 := by
 have h1 := Zap l 1 80 (by decide)
 have h3 := Zap l 3 28 (by decide)
 unfold m1
 split
 ·refine ⟨fun r hr => ?_, List.pairwise_singleton _ _⟩
  rw [List.mem_singleton] at hr
  subst hr
  refine ⟨⟨?_, ?_, Int.le_refl _, .inl ?_, .inr (.inl rfl), .inr (.inr ⟨rfl, rfl, ?_, ?_⟩), ZiE l 4, by show (-3600 : Int) <= 0 /\ (0 : Int) <= 7200; decide, List.Mem.tail _ (.head _)⟩, ?_, ?_, .inl rfl⟩
  ·show 1900 <= 1900 + atB l 1 80; omega
  ·show 1900 + atB l 1 80 <= 2149; omega
  ·show 1900 + atB l 1 80 <= 2149; omega
  ·show 1 <= 1 + atB l 3 28; omega
  ·show 1 + atB l 3 28 <= 28; omega
  ·show 1900 + atB l 1 80 < 1900 + atB l 1 80 + 1; omega
  ·show 1900 + atB l 1 80 <= 2149; omega
 ·exact ⟨fun r hr => (by cases hr), List.Pairwise.nil⟩
theorem ZyB (l : List Int) (o : List Zaa) (f : Int) (h : ZuA (Zbw l) f o) (h1 : 1900 <= f) (h2 : f <= 1980) : ZuA (Zbw l) (m2 l o f).2 (m2 l o f).1 := by
 have h6 := Zap l 6 12 (by decide)
 have h8 := Zap l 8 5 (by decide)
 obtain ⟨_, s1, s2⟩ := Zjs l
 unfold m2
 split
 ·obtain ⟨p, q, e, hp, hq, p1, p2, q1, q2, sp, sq, hs⟩ := Zo1 l 7 f (f + atB l 6 12) (Zbw l) h1 (by omega) (by omega) (.inl (by omega)) ⟨s1, s2⟩
  rw [e]
  refine ⟨fun r hr => ?_, h.two p1 q1 sp sq⟩
  dsimp only at hr ⊢
  rw [List.mem_append] at hr
  rcases hr with hr | hr
  ·obtain ⟨a, b, c, d⟩ := h.rule r hr
   exact ⟨a, by omega, c, d⟩
  ·simp only [List.mem_cons, List.not_mem_nil, or_false] at hr
   rcases hr with rfl | rfl
   ·exact ⟨hp, by omega, by omega, by omega⟩
   ·exact ⟨hq, by omega, by omega, by omega⟩
 ·exact h
theorem ZsB {o : List Zaa} {p q : Zaa} (ho : ∀ r ∈ o, r.to <= 2149) (hpq : p.to = q.to) (hs : (p.save = 0 /\ q.save ≠ 0) \/ (p.save ≠ 0 /\ q.save = 0)) (hm : p.month ≠ q.month) (h1 : Zd8 p = true) (h2 : Zd8 q = true) : Zh9 (o ++ [p, q]) = true := by
 have e : o.filter (fun r => decide (r.to = 1048576)) = [] := List.filter_eq_nil_iff.2 fun r hr => by
  have := ho r hr
  simp
  omega
 unfold Zh9
 rw [List.filter_append, e, List.nil_append]
 by_cases h : q.to = 1048576
 ·rw [List.filter_cons, if_pos (by simp; omega), List.filter_cons, if_pos (by simp; omega), List.filter_nil]
  dsimp only
  rw [h1, h2]
  rcases hs with ⟨a, b⟩ | ⟨a, b⟩ <;> simp [a, b, hm]
 ·rw [List.filter_cons, if_neg (by simp; omega), List.filter_cons, if_neg (by simp; omega), List.filter_nil]
theorem _root_.Go.Wk.DrRule.named (x : ByteArray) {r : Zaa} (h : DrRule r) : DrRule (Zcw x r) := ⟨h.f0, h.f1, h.ft, h.t1, h.mon, h.day, h.clk, h.save, h.letter⟩
theorem Zqu (l : List Int) (x : ByteArray) : Zbh (ZbV l x) := by
 obtain ⟨_, a1, a2⟩ := Zl0 l
 have p1 := ZyC l
 obtain ⟨_, b1, b2⟩ := Zo9 l (m1 l).1 (m1 l).2 (by have := (Zl0 l).1; exact this) a1 a2
 have p2 := ZyB l _ _ p1 a1 a2
 obtain ⟨s0, s1, s2⟩ := Zjs l
 have h9 := Zap l 9 6 (by decide)
 unfold ZbV m3
 generalize (m2 l (m1 l).1 (m1 l).2).2 = f at *
 generalize (m2 l (m1 l).1 (m1 l).2).1 = o at *
 have ht : f <= to17 l f /\ (to17 l f <= 2149 \/ to17 l f = 1048576) := by unfold to17; split <;> omega
 obtain ⟨p, q, e, hp, hq, e1, e2, e3, e4, sp, sq, hs⟩ := Zo1 l 11 f (to17 l f) (Zbw l) b1 (by omega) ht.1 ht.2 ⟨s1, s2⟩
 rw [e]
 have hd := p2.two e1 e3 sp sq
 have hall : ∀ r ∈ o ++ [p, q], DrRule r /\ (r.save = 0 \/ r.save = Zbw l) := fun r hr => by
  rw [List.mem_append] at hr
  rcases hr with hr | hr
  ·obtain ⟨a, _, _, d⟩ := p2.rule r hr
   exact ⟨a, d⟩
  ·simp only [List.mem_cons, List.not_mem_nil, or_false] at hr
   rcases hr with rfl | rfl
   ·exact ⟨hp, by omega⟩
   ·exact ⟨hq, by omega⟩
 have mp : Zcw x p ∈ (o ++ [p, q]).map (Zcw x) := List.mem_map.2 ⟨p, by simp, rfl⟩
 have mq : Zcw x q ∈ (o ++ [p, q]).map (Zcw x) := List.mem_map.2 ⟨q, by simp, rfl⟩
 refine ⟨fun r hr => ?_, List.pairwise_map.2 hd, ⟨Zbw l, s0, fun r hr => ?_, ?_, ?_⟩, ?_⟩
 ·obtain ⟨r', h1, rfl⟩ := List.mem_map.1 hr
  exact (hall r' h1).1.named x
 ·obtain ⟨r', h1, rfl⟩ := List.mem_map.1 hr
  exact (hall r' h1).2
 ·rcases hs with ⟨h1, _⟩ | ⟨_, h1⟩
  ·exact ⟨_, mp, h1⟩
  ·exact ⟨_, mq, h1⟩
 ·rcases hs with ⟨_, h1⟩ | ⟨h1, _⟩
  ·exact ⟨_, mq, h1⟩
  ·exact ⟨_, mp, h1⟩
 ·rw [List.map_append]
  refine ZsB (p := Zcw x p) (q := Zcw x q) (fun r hr => ?_) (e2.trans e4.symm) ?_ ?_ (Zo0 (r := Zcw x p) hp.day) (Zo0 (r := Zcw x q) hq.day)
  ·obtain ⟨r', h1, rfl⟩ := List.mem_map.1 hr
   exact (p2.rule r' h1).2.2.1
  ·show (p.save = 0 /\ q.save ≠ 0) \/ (p.save ≠ 0 /\ q.save = 0)
   omega
  ·show p.month ≠ q.month
   intro hh
   rw [hh, sq] at sp
   cases sp
theorem Zeu (l : List Int) (x : ByteArray) : ∀ r ∈ ZbV l x, r.name = x := fun r hr => by
 obtain ⟨r', _, rfl⟩ := List.mem_map.1 hr
 rfl
end Go.Proofs.YtdlmhmmhdbbliaaGreatDoor
