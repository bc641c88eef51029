/- Plain functions: dates, days of months, times of day (layers 1, 2, 6). -/
import Derived.Test.YtbjkhnlnedfceaaGreatDoorQ02
set_option maxHeartbeats 4000000
set_option linter.unusedVariables false
set_option linter.unusedSimpArgs false
namespace Go.Wk
open Go Go.RowKit
def leapB (y : Int) : Bool := decide (y % 4 = 0) && (!decide (y % 100 = 0) || decide (y % 400 = 0))
def lenM (y m : Int) : Int := if m < 1 ∨ 12 < m then 0 else if m = 2 then (if leapB y then 29 else 28) else if m = 4 ∨ m = 6 ∨ m = 9 ∨ m = 11 then 30 else 31
def inY (y : Int) : Bool := decide (-2000000000 ≤ y) && decide (y ≤ 2000000000)
def beforeL : List Int := [0, 31, 61, 92, 122, 153, 184, 214, 245, 275, 306, 337]
def dayNoM (y m d : Int) : Int := y / 400 * 146097 + y % 400 * 365 + y % 400 / 4 - y % 400 / 100 + beforeL.getD (m - 3).toNat 0 + d - 1 - 719468
def dayNo (y m d : Int) : Int := if m < 3 then dayNoM (y - 1) (m + 12) d else dayNoM y m d
def daysOk (y m d : Int) : Bool := inY y && decide (1 ≤ d) && decide (d ≤ lenM y m)
def wkday (n : Int) : Int := (n + 4) % 7
theorem lenM_bd (y m : Int) : 0 ≤ lenM y m ∧ lenM y m ≤ 31 := by
 unfold lenM
 split
 ·omega
 ·split
  ·split <;> omega
  ·split <;> omega
theorem wkday_bd (n : Int) : 0 ≤ wkday n ∧ wkday n ≤ 6 := by unfold wkday; omega
theorem beforeL_bd (k : Nat) : 0 ≤ beforeL.getD k 0 ∧ beforeL.getD k 0 ≤ 337 := by
 by_cases h : k < 12
 ·have : k = 0 ∨ k = 1 ∨ k = 2 ∨ k = 3 ∨ k = 4 ∨ k = 5 ∨ k = 6 ∨ k = 7 ∨ k = 8 ∨ k = 9 ∨ k = 10 ∨ k = 11 := by omega
  rcases this with rfl | rfl | rfl | rfl | rfl | rfl | rfl | rfl | rfl | rfl | rfl | rfl <;> decide
 ·rw [List.getD_eq_getElem?_getD, List.getElem?_eq_none (by simp [beforeL]; omega)]
  decide
def yearN (r : Int) : Int := (r - r / 1460 + r / 36524 - r / 146096) / 365
def monN (r : Int) : Nat → Nat
 | 0 => 0
 | m + 1 => if beforeL.getD (m + 1) 0 ≤ r then m + 1 else monN r m
def dateY (n : Int) : Int :=
 let c := (n + 719468) / 146097
 let r := (n + 719468) % 146097
 let y := yearN r
 let q := r - (y * 365 + y / 4 - y / 100)
 if 10 ≤ monN q 11 then c * 400 + y + 1 else c * 400 + y
def yearOf (t : Int) : Int := min (max (dateY (t / 86400)) (-2000000000)) 2000000000
def weekK (k : Int) : Bool := !decide (k = 1)
def dayK (k : Int) : Bool := !decide (k = 2)
def dayChk (d : DDay) : Bool := decide (1 ≤ d.kind) && decide (d.kind ≤ 4) && !((!decide (d.week = 0) && !weekK d.kind) || decide (d.week < 0) || decide (6 < d.week) || (dayK d.kind == decide (d.day = 0)) || decide (d.day < 0) || decide (31 < d.day))
def behindW (x w : Int) : Int := x + (w - wkday x + 7) % 7
def beforeW (x w : Int) : Int := x - (wkday x - w + 7) % 7
def findD (first last : Int) (d : DDay) : Int := if d.kind = 1 then first + d.day - 1 else if d.kind = 2 then beforeW last d.week else if d.kind = 3 then behindW (first + d.day - 1) d.week else beforeW (first + d.day - 1) d.week
def onD (y m : Int) (d : DDay) : Int × Int :=
 if daysOk y m 1 = false then (0, 3) else if dayChk d = false then (0, 2) else if lenM y m < d.day then (0, 4) else (findD (dayNo y m 1) (dayNo y m 1 + lenM y m - 1) d, 0)
def alwaysD (from_ to m : Int) (d : DDay) : Bool :=
 if m < 1 ∨ 12 < m ∨ dayChk d = false then false
 else if (to < 1048576 ∧ to < from_) ∨ d.day ≤ lenM 1 m then true
 else if 1048576 ≤ to ∨ from_ ≠ to ∨ m ≠ 2 then false
 else decide (d.day ≤ lenM (from_.tmod 400) m)
def clkChk (c : DClock) : Bool := decide (-604799 ≤ c.sec) && decide (c.sec ≤ 604799) && decide (0 ≤ c.base) && decide (c.base ≤ 2)
end Go.Wk
