/- The year of a day of 400 years: its bounds, day by day in the kernel. -/
import Derived.Test.YtonjepladadmhaaGreatDoorR01
set_option maxHeartbeats 4000000
set_option linter.unusedVariables false
set_option linter.unusedSimpArgs false
namespace Go.Wk
open Go Go.RowKit
def yN (r : Nat) : Nat := (r - r / 1460 + r / 36524 - r / 146096) / 365
def okYN (r : Nat) : Bool := Nat.ble (yN r) 399 && Nat.ble (yN r * 365 + yN r / 4 - yN r / 100) r && Nat.ble (r - (yN r * 365 + yN r / 4 - yN r / 100)) 366 && (Nat.blt r ((yN r + 1) * 365 + (yN r + 1) / 4 - (yN r + 1) / 100) || Nat.beq (yN r) 399)
def allYN : Nat → Nat → Bool
 | 0, _ => true
 | k + 1, r => okYN r && allYN k (r + 1)
theorem allYN_get : ∀ (k r i : Nat), allYN k r = true → i < k → okYN (r + i) = true
 | 0, _, _, _, h => by omega
 | k + 1, r, i, h, hi => by
  rw [allYN, Bool.and_eq_true] at h
  cases i with
  | zero => exact h.1
  | succ i =>
   have := allYN_get k (r + 1) i h.2 (by omega)
   rwa [show r + 1 + i = r + (i + 1) by omega] at this
theorem allYN_all : ∀ c, c < 1461 → allYN (if c = 1460 then 97 else 100) (100 * c) = true := by decide +kernel
theorem yearN_nat (r : Nat) : yearN (r : Int) = (yN r : Nat) := by
 unfold yearN yN
 omega
theorem yearN_all (k : Nat) (h1 : k < 146097) : okYN k = true := by
 have h := allYN_get _ (100 * (k / 100)) (k % 100) (allYN_all _ (by omega)) (by split <;> omega)
 rwa [show 100 * (k / 100) + k % 100 = k by omega] at h
theorem yearN_bd (r : Int) (h0 : 0 ≤ r) (h1 : r < 146097) : 0 ≤ yearN r ∧ yearN r ≤ 399 ∧ 0 ≤ r - (yearN r * 365 + yearN r / 4 - yearN r / 100) ∧ r - (yearN r * 365 + yearN r / 4 - yearN r / 100) ≤ 366 := by
 obtain ⟨k, rfl⟩ := Int.eq_ofNat_of_zero_le h0
 have h := yearN_all k (by omega)
 simp only [okYN, Bool.and_eq_true, Nat.ble_eq] at h
 rw [yearN_nat]
 omega
end Go.Wk
