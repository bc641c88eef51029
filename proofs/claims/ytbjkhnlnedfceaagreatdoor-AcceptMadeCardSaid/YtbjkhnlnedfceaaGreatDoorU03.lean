/- Plain law: years by their first days (the reference of layer 1). Plain functions: names, sets of rules (layers 7, 16). Plain functions: numeric abbreviations, formats, ends of eras, links, forms (layers 20, 21, 22, 15, 24). Plain law: in which years events lie (layers 2, 17). Plain law: rules of drafts: their events lie in seasons (layers 2, 17). Plain functions: the drafts of layers 17 and 25. -/
import Derived.Test.YtbjkhnlnedfceaaGreatDoorU02
import Derived.Test.YtbjkhnlnedfceaaGreatDoorU01
set_option maxHeartbeats 4000000
set_option linter.unusedVariables false
set_option linter.unusedSimpArgs false
namespace Go.Wk
open Go Go.RowKit
def byteK (c : Nat) : Nat := if (65 ≤ c ∧ c ≤ 90) ∨ (97 ≤ c ∧ c ≤ 122) then 1 else if 48 ≤ c ∧ c ≤ 57 then 2 else if c = 95 then 4 else if c = 45 then 8 else if c = 46 ∨ c = 43 then 16 else 0
def okBytes (some_ : Nat) (l : List UInt8) : Bool := l.all fun c => !decide (byteK c.toNat &&& some_ = 0)
def nameB (least most some_ : Nat) (l : List UInt8) : Bool := decide (least ≤ l.length) && decide (l.length ≤ most) && okBytes some_ l
def cutSl : List UInt8 → List UInt8 → List (List UInt8)
 | [], acc => [acc]
 | c :: l, acc => if c = 47 then acc :: cutSl l [] else cutSl l (acc ++ [c])
def partB (l : List UInt8) : Bool := nameB 1 14 31 l && !(match l with | c :: _ => decide (c = 46) || decide (c = 45) | [] => false)
def zoneB (s : ByteArray) : Bool := decide (s.size ≤ 60) && (cutSl s.data.toList []).all partB
def setB (s : ByteArray) : Bool := nameB 1 30 15 s.data.toList && nameB 1 1 1 (s.data.toList.take 1)
def letterB (s : ByteArray) : Bool := nameB 1 4 1 s.data.toList
def abbrB (s : ByteArray) : Bool := nameB 3 6 1 s.data.toList
def leastD (l : List DRule) : Int := l.foldl (fun m r => min m r.save) 0
def otherGo : List DRule → Int → Int × Bool
 | [], x => (x, !decide (x = 0))
 | r :: l, x => if r.save = 0 then otherGo l x else if x ≠ 0 ∧ r.save ≠ x then (0, false) else otherGo l r.save
def otherD (l : List DRule) : Int × Bool := otherGo l 0
def namedY (y : Int) : Bool := decide (1850 ≤ y) && decide (y ≤ 2149)
def timedB (c : DClock) (least : Int) : Bool := clkChk c && (let n := if c.base = 1 then c.sec + least else c.sec; decide (-86400 ≤ n) && decide (n ≤ 172800))
def ruleErr (r : DRule) (least : Int) : Int :=
 if (namedY r.from_ && (namedY r.to || decide (r.to = 1048576))) = false then 3
 else if r.to < r.from_ then 12
 else if alwaysD r.from_ r.to r.month r.day = false then 3
 else if timedB r.at_ least = false then 3
 else if (decide (-10800 ≤ r.save) && decide (r.save ≤ 10800)) = false then 14
 else if (decide (r.letter = ByteArray.empty) || letterB r.letter) = false then 15
 else 0
def posixB (r : DRule) : Bool := if r.day.kind = 2 then true else if r.day.kind = 3 then decide (r.day.day.tmod 7 = 1) && decide (r.day.day < 29) else if r.day.kind = 1 then !decide (r.month = 2) || !decide (r.day.day = 29) else false
def lastB (l : List DRule) : Bool :=
 match l.filter fun r => decide (r.to = 1048576) with
 | [] => true
 | [a, b] => (decide (a.save = 0) != decide (b.save = 0)) && !decide (a.month = b.month) && posixB a && posixB b
 | _ => false
def firstBad (least : Int) : List DRule → Nat → Option (Nat × Int)
 | [], _ => none
 | r :: l, k => if ruleErr r least = 0 then firstBad least l (k + 1) else some (k, ruleErr r least)
def rsChk (l : List DRule) : Nat × Int :=
 match firstBad (leastD l) l 0 with
 | some x => x
 | none =>
  if (l.any fun r => decide (r.save = 0)) = false ∨ (leastD l < 0 ∧ (l.any fun r => !decide (r.save = 0) && !decide (r.save = leastD l)) = true) then (0, 14)
  else if lastB l = false then (0, 16)
  else (0, 0)
def dig2 (n : Int) : List UInt8 := [UInt8.ofNat (48 + (n / 10).toNat), UInt8.ofNat (48 + (n % 10).toNat)]
def textN (off : Int) : List UInt8 :=
 if off ≤ -86400 ∨ 86400 ≤ off then []
 else
  let x := if off < 0 then -off else off
  (if off < 0 then (45 : UInt8) else 43) :: (dig2 (x / 3600) ++ (if x % 3600 = 0 then [] else dig2 (x / 60 % 60)) ++ (if x % 60 = 0 then [] else dig2 (x % 60)))
def numU (l : List UInt8) : Option Int := if l.isEmpty then none else if l.all (fun c => decide (48 ≤ c) && decide (c ≤ 57)) then some (l.foldl (fun n c => n * 10 + ((c.toNat : Int) - 48)) 0) else none
def parseGo (l : List UInt8) : List Int → Nat → Int → Option Int
 | [], _, off => some off
 | u :: us, i, off => if l.length ≤ 1 + 2 * i then some off else match numU ((l.drop (1 + 2 * i)).take 2) with | none => none | some n => parseGo l us (i + 1) (off + n * u)
def parseN (l : List UInt8) : Option Int :=
 match parseGo l [3600, 60, 1] 0 0 with
 | none => none
 | some o => let off := if l.head? = some 45 then -o else o
  if l.isEmpty ∨ textN off ≠ l then none else some off
def i64ok (n : Int) : Bool := decide (-9223372036854775808 ≤ n) && decide (n ≤ 9223372036854775807)
def joinN (off : Int) : List Int → Option (List (List UInt8))
 | [] => some []
 | x :: l => if i64ok (off + x) = false ∨ textN (off + x) = [] then none else match joinN off l with | none => none | some r => some (textN (off + x) :: r)
def slashed : List (List UInt8) → List UInt8
 | [] => []
 | [x] => x
 | x :: l => x ++ 47 :: slashed l
def expandN (e : DEra) (l : List DRule) : List UInt8 × Int :=
 let j := fun s => match joinN e.off s with | none => ([], (3 : Int)) | some r => (slashed r, 0)
 if e.kind = 0 then j [0]
 else if e.kind = 1 then j [e.save]
 else if e.kind = 2 then (if (otherD l).2 then j [0, (otherD l).1] else if (l.any fun r => !decide (r.save = 0)) then ([], 14) else j [0])
 else ([], 2)
def cutAt (p : List UInt8) : List UInt8 → List UInt8 → Option (List UInt8 × List UInt8)
 | [], acc => if p = [] then some (acc, []) else none
 | c :: l, acc => if p.isPrefixOf (c :: l) then some (acc, (c :: l).drop p.length) else cutAt p l (acc ++ [c])
def letterL (l : List UInt8) : Bool := l.all fun c => decide (byteK c.toNat = 1)
def aroundF (f : List UInt8) : Option (List UInt8 × List UInt8) :=
 match cutAt [37, 115] f [] with
 | none => none
 | some (a, b) => if letterL (a ++ b) ∧ (a ++ b).length ≤ 5 then some (a, b) else none
def abbrL (l : List UInt8) : Bool := nameB 3 6 1 l
def kindF (f : List UInt8) : Int :=
 let two := cutAt [47] f []
 if abbrL f then 1
 else if (match two with | some (a, b) => abbrL a && abbrL b | none => false) then 2
 else if (aroundF f).isSome then 3
 else if f = [37, 122] then 4
 else if (parseN f).isSome || (match two with | some (a, b) => (parseN a).isSome && (parseN b).isSome | none => false) then 5
 else 0
def partsF (f : List UInt8) : Option (List UInt8 × List UInt8) :=
 match cutAt [47] f [] with
 | none => none
 | some (a, b) => if kindF f = 2 ∨ kindF f = 5 then some (a, b) else none
def abbrF (f : List UInt8) (off save : Int) (letter : List UInt8) : List UInt8 × Int :=
 match partsF f with
 | some (a, b) => (if save = 0 then a else b, 0)
 | none =>
  if kindF f = 3 then (match aroundF f with | some (a, b) => if abbrL (a ++ letter ++ b) then (a ++ letter ++ b, 0) else ([], 15) | none => ([], 15))
  else if kindF f = 4 then (if i64ok (off + save) = true ∧ textN (off + save) ≠ [] then (textN (off + save), 0) else ([], 15))
  else if kindF f = 1 ∨ kindF f = 5 then (f, 0)
  else ([], 15)
def firstErr (f : List UInt8) : List (List UInt8) → Int
 | [] => 0
 | x :: l => if (abbrF f 0 0 x).2 = 0 then firstErr f l else (abbrF f 0 0 x).2
def fmtChk (e : DEra) (l : List DRule) : Int :=
 let f := e.format.data.toList
 if kindF f = 0 then 15
 else if kindF f = 3 then firstErr f (if e.kind = 2 then l.map (fun r => r.letter.data.toList) else [[]])
 else if kindF f = 4 ∨ kindF f = 5 then (if (expandN e l).2 ≠ 0 ∨ (kindF f = 5 ∧ (expandN e l).1 ≠ f) then 15 else 0)
 else 0
def untilChk (u : DUntil) (least : Int) : Int :=
 if least < -10800 ∨ 0 < least then 2
 else if u.is = false then 4
 else if u.year < 1850 ∨ 2149 < u.year ∨ clkChk u.at_ = false then 3
 else
  let sec := if u.at_.base = 1 then u.at_.sec + least else u.at_.sec
  if (onD u.year u.month u.day).2 ≠ 0 ∨ sec < -86400 ∨ 172800 < sec then 3 else 0
def nominalU (u : DUntil) (least : Int) : Int × Int :=
 if untilChk u least ≠ 0 then (0, untilChk u least) else (86400 * (onD u.year u.month u.day).1 + u.at_.sec + (if u.at_.base = 1 then least else 0), 0)
structure DEvent where
 year : Int
 rule : Int
 nominal : Int
 deriving DecidableEq
def DEvent.enc (e : DEvent) : List Value := [.int .i64 e.year, .int .i64 e.rule, .int .i64 e.nominal]
def dEv0 : DEvent := ⟨0, 0, 0⟩
def lastY (r : DRule) : Int := if r.to = 1048576 then 2000000000 else min r.to 2000000000
def onR (least : Int) (r : DRule) (i y : Int) : Option DEvent :=
 if y < max r.from_ (-2000000000) ∨ lastY r < y ∨ clkChk r.at_ = false then none
 else if (onD y r.month r.day).2 ≠ 0 then none
 else some ⟨y, i, 86400 * (onD y r.month r.day).1 + r.at_.sec + (if r.at_.base = 1 then max least (-10800) else 0)⟩
def ordE (a b : DEvent) : Int := if a.nominal < b.nominal then -1 else if b.nominal < a.nominal then 1 else if a.rule < b.rule then -1 else if b.rule < a.rule then 1 else if a.year < b.year then -1 else if b.year < a.year then 1 else 0
theorem onR_some {least : Int} {r : DRule} {i y : Int} {e : DEvent} (h : onR least r i y = some e) : e.year = y ∧ e.rule = i ∧ max r.from_ (-2000000000) ≤ y ∧ y ≤ 2000000000 ∧ -604799 ≤ r.at_.sec ∧ r.at_.sec ≤ 604799 ∧ (onD y r.month r.day).2 = 0 ∧ e.nominal = 86400 * (onD y r.month r.day).1 + (r.at_.sec + (if r.at_.base = 1 then max least (-10800) else 0)) := by
 unfold onR at h
 split at h
 ·cases h
 rename_i h1
 split at h
 ·cases h
 rename_i h2
 cases h
 have hc : clkChk r.at_ = true := by
  cases hc : clkChk r.at_
  ·exact absurd (.inr (.inr hc)) h1
  ·rfl
 simp only [clkChk, Bool.and_eq_true, decide_eq_true_eq] at hc
 have hl : ¬ lastY r < y := fun h => h1 (.inr (.inl h))
 have hl2 : lastY r ≤ 2000000000 := by unfold lastY; split <;> omega
 refine ⟨rfl, rfl, ?_, by omega, hc.1.1.1, hc.1.1.2, Decidable.not_not.1 h2, ?_⟩
 ·have : ¬ y < max r.from_ (-2000000000) := fun h => h1 (.inl h)
  omega
 ·dsimp only
  omega
def mar1 (y : Int) : Int := y / 400 * 146097 + y % 400 * 365 + y % 400 / 4 - y % 400 / 100 - 719468
theorem mar1_succ (y : Int) : mar1 y + 365 ≤ mar1 (y + 1) ∧ mar1 (y + 1) ≤ mar1 y + 366 := by unfold mar1; omega
theorem mar1_mono (y : Int) : ∀ k : Nat, mar1 y + 365 * k ≤ mar1 (y + k)
 | 0 => by simp
 | k + 1 => by
  have h1 := mar1_mono y k
  have h2 := mar1_succ (y + k)
  rw [show y + ((k + 1 : Nat) : Int) = y + k + 1 by omega]
  omega
theorem mar1_lt {y z : Int} (h : y < z) : mar1 y + 365 ≤ mar1 z := by
 have h1 := mar1_mono y (z - y).toNat
 rw [show y + ((z - y).toNat : Int) = z by omega] at h1
 omega
theorem mar1_le {y z : Int} (h : y ≤ z) : mar1 y ≤ mar1 z := by
 by_cases he : y = z
 ·subst he; exact Int.le_refl _
 ·have := mar1_lt (y := y) (z := z) (by omega)
  omega
theorem dayNo_mar (y m d : Int) (h : 3 ≤ m) : dayNo y m d = mar1 y + beforeL.getD (m - 3).toNat 0 + d - 1 := by
 unfold dayNo dayNoM mar1
 rw [if_neg (by omega)]
 omega
theorem dayNo_feb (y : Int) : mar1 y - 29 ≤ dayNo y 2 1 ∧ dayNo y 2 1 ≤ mar1 y - 28 := by
 have h := mar1_succ (y - 1)
 rw [show y - 1 + 1 = y by omega] at h
 unfold dayNo dayNoM
 rw [if_pos (by omega), show beforeL.getD ((2 : Int) + 12 - 3).toNat 0 = 337 by decide]
 unfold mar1 at *
 omega
theorem lenM_28 (y m : Int) (h0 : 1 ≤ m) (h1 : m ≤ 12) : 28 ≤ lenM y m := by
 unfold lenM
 rw [if_neg (by omega)]
 split
 ·split <;> omega
 ·split <;> omega
def DrDay (d : DDay) : Prop := (d.kind = 2 ∧ 0 ≤ d.week ∧ d.week ≤ 6 ∧ d.day = 0) ∨ (d.kind = 3 ∧ 0 ≤ d.week ∧ d.week ≤ 6 ∧ 1 ≤ d.day ∧ d.day ≤ 22 ∧ d.day.tmod 7 = 1) ∨ (d.kind = 1 ∧ d.week = 0 ∧ 1 ≤ d.day ∧ d.day ≤ 28)
theorem DrDay.chk {d : DDay} (h : DrDay d) : dayChk d = true := by
 obtain ⟨k, w, n⟩ := d
 simp only [DrDay] at h
 rcases h with ⟨rfl, h1, h2, rfl⟩ | ⟨rfl, h1, h2, h3, h4, _⟩ | ⟨rfl, rfl, h3, h4⟩
 ·simp [dayChk, dayK, weekK]; omega
 ·simp [dayChk, dayK, weekK]; omega
 ·simp [dayChk, dayK, weekK]; omega
theorem DrDay.le28 {d : DDay} (h : DrDay d) : d.day ≤ 28 := by
 unfold DrDay at h
 omega
theorem DrDay.on {d : DDay} (h : DrDay d) {y m : Int} (hy : inY y = true) (h0 : 1 ≤ m) (h1 : m ≤ 12) : (onD y m d).2 = 0 ∧ dayNo y m 1 ≤ (onD y m d).1 ∧ (onD y m d).1 ≤ dayNo y m 1 + 30 := by
 have hl := lenM_28 y m h0 h1
 have hl2 := lenM_bd y m
 have h28 := h.le28
 have hd : daysOk y m 1 = true := by
  unfold daysOk
  rw [hy]
  simp
  omega
 unfold onD
 rw [if_neg (by rw [hd]; decide), if_neg (by rw [h.chk]; decide), if_neg (by omega)]
 refine ⟨rfl, ?_⟩
 dsimp only
 generalize dayNo y m 1 = D
 generalize lenM y m = L at *
 obtain ⟨k, w, n⟩ := d
 simp only [DrDay] at h
 unfold findD beforeW behindW
 dsimp only at h28 ⊢
 rcases h with ⟨rfl, h1, h2, rfl⟩ | ⟨rfl, h1, h2, h3, h4, _⟩ | ⟨rfl, rfl, h3, h4⟩
 ·rw [if_neg (by decide), if_pos rfl]; omega
 ·rw [if_neg (by decide), if_neg (by decide), if_pos rfl]; omega
 ·rw [if_pos rfl]; omega
structure DrRule (r : DRule) : Prop where
 f0 : 1900 ≤ r.from_
 f1 : r.from_ ≤ 2149
 ft : r.from_ ≤ r.to
 t1 : r.to ≤ 2149 ∨ r.to = 1048576
 mon : (2 ≤ r.month ∧ r.month ≤ 4) ∨ r.month = 6 ∨ (8 ≤ r.month ∧ r.month ≤ 10)
 day : DrDay r.day
 clk : 0 ≤ r.at_.sec ∧ r.at_.sec ≤ 86400 ∧ 0 ≤ r.at_.base ∧ r.at_.base ≤ 2
 save : -3600 ≤ r.save ∧ r.save ≤ 7200
 letter : r.letter ∈ [ByteArray.empty, ⟨#[83]⟩, ⟨#[68]⟩, ⟨#[68, 84]⟩]
def sea (m : Int) : Int := if m ≤ 4 then 0 else if m ≤ 7 then 1 else 2
def loS (m : Int) : Int := if m ≤ 4 then -29 else if m ≤ 7 then 92 else 153
def hiS (m : Int) : Int := if m ≤ 4 then 62 else if m ≤ 7 then 123 else 245
theorem DrRule.mon12 {r : DRule} (h : DrRule r) : 1 ≤ r.month ∧ r.month ≤ 12 := by have := h.mon; omega
theorem mon_bd {m : Int} (h : (2 ≤ m ∧ m ≤ 4) ∨ m = 6 ∨ (8 ≤ m ∧ m ≤ 10)) (y : Int) : mar1 y + loS m ≤ dayNo y m 1 ∧ dayNo y m 1 + 31 ≤ mar1 y + hiS m := by
 have hc : m = 2 ∨ m = 3 ∨ m = 4 ∨ m = 6 ∨ m = 8 ∨ m = 9 ∨ m = 10 := by omega
 have hf := dayNo_feb y
 rcases hc with rfl | rfl | rfl | rfl | rfl | rfl | rfl
 ·simp only [loS, hiS]
  omega
 all_goals
  rw [dayNo_mar _ _ _ (by decide)]
  simp only [loS, hiS, beforeL]
  simp
  omega
theorem DrRule.ev {r : DRule} (h : DrRule r) {least i y : Int} {e : DEvent} (hl : -3600 ≤ least ∧ least ≤ 0) (he : onR least r i y = some e) :
  e.year = y ∧ e.rule = i ∧ r.from_ ≤ y ∧ (r.to ≤ 2149 → y ≤ r.to) ∧ 86400 * (mar1 y + loS r.month) - 3600 ≤ e.nominal ∧ e.nominal ≤ 86400 * (mar1 y + hiS r.month) := by
 have hf0 := h.f0
 have hc := h.clk
 obtain ⟨m0, m1⟩ := h.mon12
 obtain ⟨b1, b2⟩ := mon_bd h.mon y
 unfold onR at he
 split at he
 ·cases he
 rename_i hy
 split at he
 ·cases he
 cases he
 have hyr : ¬ y < max r.from_ (-2000000000) := fun hh => hy (.inl hh)
 have hyl : ¬ lastY r < y := fun hh => hy (.inr (.inl hh))
 have hl2 : lastY r ≤ 2000000000 := by unfold lastY; split <;> omega
 have hyt : r.to ≤ 2149 → y ≤ r.to := fun hh => by
  have : lastY r = r.to := by unfold lastY; rw [if_neg (by omega)]; omega
  omega
 have hin : inY y = true := by
  unfold inY
  simp
  omega
 obtain ⟨_, o1, o2⟩ := h.day.on hin m0 m1
 refine ⟨rfl, rfl, by omega, hyt, ?_⟩
 dsimp only
 have hm : -3600 ≤ (if r.at_.base = 1 then max least (-10800) else 0) ∧ (if r.at_.base = 1 then max least (-10800) else 0) ≤ 0 := by split <;> omega
 generalize (if r.at_.base = 1 then max least (-10800) else 0) = mx at *
 generalize (onD y r.month r.day).1 = D at *
 omega
def Dist (a b : DRule) : Prop := a.to < b.from_ ∨ sea a.month ≠ sea b.month
theorem sea_far {a b : Int} (ha : (2 ≤ a ∧ a ≤ 4) ∨ a = 6 ∨ (8 ≤ a ∧ a ≤ 10)) (hb : (2 ≤ b ∧ b ≤ 4) ∨ b = 6 ∨ (8 ≤ b ∧ b ≤ 10)) (h : sea a ≠ sea b) : hiS a + 30 ≤ loS b ∨ hiS b + 30 ≤ loS a := by
 unfold sea at h
 unfold hiS loS
 split at h <;> split at h <;> (try split at h) <;> (try split at h) <;> omega
theorem loS_bd (m : Int) : -29 ≤ loS m ∧ hiS m ≤ 245 := by
 unfold loS hiS
 split
 ·omega
 ·split <;> omega
theorem DrRule.far {a b : DRule} (ha : DrRule a) (hb : DrRule b) {least i j y z : Int} {e f : DEvent} (hl : -3600 ≤ least ∧ least ≤ 0) (he : onR least a i y = some e) (hf : onR least b j z = some f) (hd : y = z → Dist a b ∨ Dist b a) :
  259200 ≤ e.nominal - f.nominal ∨ 259200 ≤ f.nominal - e.nominal := by
 obtain ⟨_, _, a1, a2, a3, a4⟩ := ha.ev hl he
 obtain ⟨_, _, b1, b2, b3, b4⟩ := hb.ev hl hf
 have la := loS_bd a.month
 have lb := loS_bd b.month
 rcases Int.lt_trichotomy y z with h | h | h
 ·have := mar1_lt h
  omega
 ·subst h
  have hs : sea a.month ≠ sea b.month := by
   have af := ha.f1
   have bf := hb.f1
   rcases hd rfl with (h | h) | (h | h)
   ·have := a2 (by omega); omega
   ·exact h
   ·have := b2 (by omega); omega
   ·exact fun hh => h hh.symm
  have := sea_far ha.mon hb.mon hs
  omega
 ·have := mar1_lt h
  omega
end Go.Wk
namespace Go.Proofs.YtbjkhnlnedfceaaGreatDoor
open Go Go.RowKit Go.Wk
def atB (l : List Int) (i n : Int) : Int := if l.length = 0 then 0 else l.getD (i % (l.length : Int)).toNat 0 % n
theorem atB_range (l : List Int) (i n : Int) (hn : 0 < n) : 0 ≤ atB l i n ∧ atB l i n < n := by
 unfold atB
 split
 ·exact ⟨Int.le_refl 0, hn⟩
 ·exact ⟨Int.emod_nonneg _ (by omega), Int.emod_lt_of_pos _ hn⟩
def clockB (l : List Int) (i : Int) : DClock := ⟨atB l i 49 * 1800, atB l (i + 1) 3⟩
def dayB (l : List Int) (i : Int) : List DDay := [⟨2, atB l i 7, 0⟩, ⟨3, atB l i 7, 1 + 7 * atB l (i + 1) 4⟩, ⟨1, 0, 1 + atB l (i + 1) 28⟩]
def dayOf (l : List Int) (i : Int) : DDay := (dayB l i).getD (atB l (i + 2) 3).toNat ⟨0, 0, 0⟩
def letA : List ByteArray := [⟨#[83]⟩, ⟨#[68]⟩, ⟨#[68, 84]⟩]
def letB : List ByteArray := [⟨#[]⟩, ⟨#[83]⟩]
def ruleA (l : List Int) (i a b save : Int) : DRule := ⟨ByteArray.empty, a, b, 2 + atB l i 3, dayOf l (i + 3), clockB l (i + 6), save, letA.getD (atB l (i + 8) 3).toNat ByteArray.empty⟩
def ruleB (l : List Int) (i a b save : Int) : DRule := ⟨ByteArray.empty, a, b, 8 + atB l (i + 1) 3, dayOf l (i + 9), clockB l (i + 12), save, letB.getD (atB l (i + 14) 2).toNat ByteArray.empty⟩
def pairB (l : List Int) (i a b save : Int) : List DRule := if atB l (i + 2) 4 = 0 then [ruleA l i a b 0, ruleB l i a b save] else [ruleA l i a b save, ruleB l i a b 0]
theorem pairB_len (l : List Int) (i a b save : Int) : (pairB l i a b save).length = 2 := by
 unfold pairB
 split <;> rfl
def saves17 : List Int := [3600, 3600, 1800, 7200, -3600]
def save17 (l : List Int) : Int := saves17.getD (atB l 0 5).toNat 0
def one17 (l : List Int) (f : Int) : DRule := ⟨⟨#[]⟩, f, f, 6, ⟨1, 0, 1 + atB l 3 28⟩, clockB l 4, 0, ⟨#[83]⟩⟩
def m1 (l : List Int) : List DRule × Int := if atB l 2 3 = 0 then ([one17 l (1900 + atB l 1 80)], 1900 + atB l 1 80 + 1) else ([], 1900 + atB l 1 80)
def m2 (l : List Int) (o : List DRule) (f : Int) : List DRule × Int := if atB l 5 2 = 0 then (o ++ pairB l 7 f (f + atB l 6 12) (save17 l), f + atB l 6 12 + 1 + atB l 8 5) else (o, f)
def to17 (l : List Int) (f : Int) : Int := if 0 < atB l 10 3 then 1048576 else f + atB l 9 6
def m3 (l : List Int) (o : List DRule) (f : Int) : List DRule := o ++ pairB l 11 f (to17 l f) (save17 l)
def nameR (x : ByteArray) (r : DRule) : DRule := { r with name := x }
def made17 (l : List Int) (x : ByteArray) : List DRule := (m3 l (m2 l (m1 l).1 (m1 l).2).1 (m2 l (m1 l).1 (m1 l).2).2).map (nameR x)
theorem m1_rng (l : List Int) : (m1 l).1.length ≤ 1 ∧ 1900 ≤ (m1 l).2 ∧ (m1 l).2 ≤ 1980 := by
 have h1 := atB_range l 1 80 (by decide)
 unfold m1
 split <;> refine ⟨by simp, ?_, ?_⟩ <;> dsimp only <;> omega
theorem m2_rng (l : List Int) (o : List DRule) (f : Int) (ho : o.length ≤ 1) (h1 : 1900 ≤ f) (h2 : f ≤ 1980) : (m2 l o f).1.length ≤ 3 ∧ 1900 ≤ (m2 l o f).2 ∧ (m2 l o f).2 ≤ 2000 := by
 have h3 := atB_range l 6 12 (by decide)
 have h4 := atB_range l 8 5 (by decide)
 unfold m2
 split <;> refine ⟨?_, ?_, ?_⟩ <;> dsimp only <;> first | omega | (rw [List.length_append, pairB_len]; omega)
def setN25 : List ByteArray := [⟨#[82]⟩, ⟨#[69, 117, 45, 120]⟩]
def zoneN25 : List ByteArray := [⟨#[65, 47, 66]⟩, ⟨#[67]⟩, ⟨#[68, 45, 101, 47, 70, 47, 71]⟩]
def linkN25 : List ByteArray := [⟨#[88]⟩, ⟨#[65, 47, 89]⟩, ⟨#[90, 95, 49]⟩]
def pk (L : List Int) (n m : Int) : Int := if L.length = 0 then (n + 1) % m else L.getD ((n + 1) % (L.length : Int)).toNat 0 % m
theorem pk_range (L : List Int) (n m : Int) (hm : 0 < m) : 0 ≤ pk L n m ∧ pk L n m < m := by
 unfold pk
 split
 ·exact ⟨Int.emod_nonneg _ (by omega), Int.emod_lt_of_pos _ hm⟩
 ·exact ⟨Int.emod_nonneg _ (by omega), Int.emod_lt_of_pos _ hm⟩
def fmt21 : List ByteArray := [⟨#[76, 77, 84]⟩, ⟨#[67, 69, 84, 47, 67, 69, 83, 84]⟩, ⟨#[69, 69, 37, 115, 84]⟩, ⟨#[37, 122]⟩, ⟨#[]⟩]
def noTil : DUntil := ⟨false, 0, 0, ⟨0, 0, 0⟩, ⟨0, 0⟩⟩
def era21 (off kind : Int) : DEra := ⟨(off - 24) * 1800, 2, 0, ⟨#[82]⟩, fmt21.getD kind.toNat ByteArray.empty, noTil⟩
structure DDr where
 sets : List (List Int)
 zones : Int
 links : Int
 L : List Int
def fmt25 : List ByteArray := [⟨#[76, 77, 84]⟩, ⟨#[71, 77, 84, 47, 66, 83, 84]⟩, ⟨#[67, 69, 37, 115, 84]⟩, ⟨#[37, 122]⟩]
def e0 (L : List Int) (n : Int) : DEra := ⟨(pk L n 53 - 26) * 1800, 0, 0, ⟨#[]⟩, fmt25.getD (pk L (n + 1) 4).toNat ByteArray.empty, noTil⟩
def eraN (L : List Int) (made : Nat) (n : Int) : DEra := { era21 (pk L (n + 1 + 1 + 1 + 1) 49) (pk L (n + 1 + 1 + 1 + 1 + 1) 4) with set := setN25.getD (pk L (n + 1 + 1 + 1) made).toNat ByteArray.empty }
def eraF (L : List Int) (n : Int) : DEra := { e0 L n with kind := 1, save := (1 + pk L (n + 1 + 1 + 1) 4) * 1800 }
def era25 (L : List Int) (made : Nat) (n : Int) (k : Nat) : DEra × Int :=
 if 0 < k ∧ 1 < pk L (n + 1 + 1) 5 ∧ 0 < made then (eraN L made n, n + 1 + 1 + 1 + 1 + 1 + 1) else if pk L (n + 1 + 1) 5 = 1 then (eraF L n, n + 1 + 1 + 1 + 1) else (e0 L n, n + 1 + 1 + 1)
def eras25 (L : List Int) (made : Nat) (n : Int) : Nat → List DEra × Int
 | 0 => ([], n)
 | k + 1 => ((eras25 L made n k).1 ++ [(era25 L made (eras25 L made n k).2 k).1], (era25 L made (eras25 L made n k).2 k).2)
def til25 (L : List Int) (n y : Int) : DUntil := ⟨true, y, 12, ⟨1, 0, 5 + pk L (n + 1) 20⟩, ⟨pk L (n + 1 + 1) 49 * 1800, pk L (n + 1 + 1 + 1) 3⟩⟩
def eraZ : DEra := ⟨0, 0, 0, ByteArray.empty, ByteArray.empty, noTil⟩
def setTil (u : DUntil) (e : DEra) : DEra := { e with til := u }
def tils25 (L : List Int) (n y : Int) (es : List DEra) : Nat → List DEra × Int
 | 0 => (es, y)
 | k + 1 => ((tils25 L n y es k).1.set k (setTil (til25 L (n + 4 * k) ((tils25 L n y es k).2 + (1 + pk L (n + 4 * k) 40))) ((tils25 L n y es k).1.getD k eraZ)), (tils25 L n y es k).2 + (1 + pk L (n + 4 * k) 40))
def cnt25 (L : List Int) (n : Int) : Nat := (1 + pk L (n + 1) 4).toNat
def zone25 (L : List Int) (made : Nat) (n : Int) (i : Nat) : DZone × Int :=
 (⟨zoneN25.getD i ByteArray.empty, (tils25 L (eras25 L made (n + 1 + 1) (cnt25 L n)).2 (1860 + pk L n 60) (eras25 L made (n + 1 + 1) (cnt25 L n)).1 (cnt25 L n - 1)).1⟩, (eras25 L made (n + 1 + 1) (cnt25 L n)).2 + 4 * (cnt25 L n - 1 : Nat))
def zones25 (L : List Int) (made : Nat) : Nat → List DZone × Int
 | 0 => ([], 0)
 | i + 1 => ((zones25 L made i).1 ++ [(zone25 L made (zones25 L made i).2 i).1], (zone25 L made (zones25 L made i).2 i).2)
def link25 (L : List Int) (zs : List DZone) (n : Int) (i : Nat) : DLink × Int :=
 (⟨if 0 < i ∧ pk L (n + 1) 2 = 0 then linkN25.getD (i - 1) ByteArray.empty else (zs.getD (pk L n zs.length).toNat ⟨ByteArray.empty, []⟩).name, linkN25.getD i ByteArray.empty⟩, if 0 < i then n + 1 + 1 else n + 1)
def links25 (L : List Int) (zs : List DZone) (n : Int) : Nat → List DLink × Int
 | 0 => ([], n)
 | i + 1 => ((links25 L zs n i).1 ++ [(link25 L zs (links25 L zs n i).2 i).1], (link25 L zs (links25 L zs n i).2 i).2)
def rules25 (sets : List (List Int)) : Nat → List DRule
 | 0 => []
 | k + 1 => rules25 sets k ++ made17 (sets.getD k []) (setN25.getD k ByteArray.empty)
def DDr.made (d : DDr) : Nat := min d.sets.length 2
def DDr.nz (d : DDr) : Nat := (d.zones % 4).toNat
def DDr.nl (d : DDr) : Nat := (d.links % 4).toNat
def made25 (d : DDr) : DSource :=
 ⟨rules25 d.sets d.made, (zones25 d.L d.made d.nz).1, if d.nz = 0 then [] else (links25 d.L (zones25 d.L d.made d.nz).1 (zones25 d.L d.made d.nz).2 d.nl).1, []⟩
theorem made17_len (l : List Int) (x : ByteArray) : (made17 l x).length ≤ 5 := by
 obtain ⟨q1, q2, q3⟩ := m1_rng l
 obtain ⟨q4, q5, q6⟩ := m2_rng l (m1 l).1 (m1 l).2 q1 q2 q3
 rw [made17, List.length_map, m3, List.length_append, pairB_len]
 omega
theorem rules25_len (sets : List (List Int)) : ∀ k, (rules25 sets k).length ≤ 5 * k
 | 0 => Nat.le_refl _
 | k + 1 => by
  have := rules25_len sets k
  have h2 := made17_len (sets.getD k []) (setN25.getD k ByteArray.empty)
  rw [rules25, List.length_append]
  omega
theorem era25_rng (L : List Int) (made : Nat) (n : Int) (k : Nat) : n ≤ (era25 L made n k).2 ∧ (era25 L made n k).2 ≤ n + 6 := by
 unfold era25
 split
 ·constructor <;> dsimp only <;> omega
 ·split <;> constructor <;> dsimp only <;> omega
theorem eras25_rng (L : List Int) (made : Nat) (n : Int) : ∀ k : Nat, (eras25 L made n k).1.length = k ∧ n ≤ (eras25 L made n k).2 ∧ (eras25 L made n k).2 ≤ n + 6 * k
 | 0 => ⟨rfl, Int.le_refl _, by simp [eras25]⟩
 | k + 1 => by
  obtain ⟨h1, h2, h3⟩ := eras25_rng L made n k
  obtain ⟨h4, h5⟩ := era25_rng L made (eras25 L made n k).2 k
  refine ⟨by simp [eras25, h1], ?_, ?_⟩ <;> simp only [eras25] <;> omega
theorem tils25_len (L : List Int) (n y : Int) (es : List DEra) : ∀ k, (tils25 L n y es k).1.length = es.length
 | 0 => rfl
 | k + 1 => by rw [tils25, List.length_set, tils25_len L n y es k]
theorem tils25_year (L : List Int) (n y : Int) (es : List DEra) : ∀ k : Nat, y ≤ (tils25 L n y es k).2 ∧ (tils25 L n y es k).2 ≤ y + 40 * k
 | 0 => by simp [tils25]
 | k + 1 => by
  obtain ⟨h1, h2⟩ := tils25_year L n y es k
  have h3 := pk_range L (n + 4 * k) 40 (by decide)
  simp only [tils25]
  omega
theorem cnt25_rng (L : List Int) (n : Int) : 1 ≤ cnt25 L n ∧ cnt25 L n ≤ 4 := by
 have := pk_range L (n + 1) 4 (by decide)
 unfold cnt25
 omega
theorem zone25_rng (L : List Int) (made : Nat) (n : Int) (i : Nat) : n ≤ (zone25 L made n i).2 ∧ (zone25 L made n i).2 ≤ n + 38 ∧ (zone25 L made n i).1.eras.length = cnt25 L n := by
 obtain ⟨h1, h2⟩ := cnt25_rng L n
 obtain ⟨h3, h4, h5⟩ := eras25_rng L made (n + 1 + 1) (cnt25 L n)
 refine ⟨?_, ?_, ?_⟩
 ·simp only [zone25]; omega
 ·simp only [zone25]; omega
 ·simp only [zone25, tils25_len, h3]
theorem zones25_rng (L : List Int) (made : Nat) : ∀ i : Nat, (zones25 L made i).1.length = i ∧ 0 ≤ (zones25 L made i).2 ∧ (zones25 L made i).2 ≤ 38 * i
 | 0 => by simp [zones25]
 | i + 1 => by
  obtain ⟨h1, h2, h3⟩ := zones25_rng L made i
  obtain ⟨h4, h5, h6⟩ := zone25_rng L made (zones25 L made i).2 i
  refine ⟨by simp [zones25, h1], ?_, ?_⟩ <;> simp only [zones25] <;> omega
theorem links25_rng (L : List Int) (zs : List DZone) (n : Int) : ∀ i : Nat, (links25 L zs n i).1.length = i ∧ n ≤ (links25 L zs n i).2 ∧ (links25 L zs n i).2 ≤ n + 2 * i
 | 0 => by simp [links25]
 | i + 1 => by
  obtain ⟨h1, h2, h3⟩ := links25_rng L zs n i
  have h4 : (links25 L zs n i).2 ≤ (link25 L zs (links25 L zs n i).2 i).2 ∧ (link25 L zs (links25 L zs n i).2 i).2 ≤ (links25 L zs n i).2 + 2 := by
   unfold link25
   dsimp only
   split <;> omega
  refine ⟨by simp [links25, h1], ?_, ?_⟩ <;> simp only [links25] <;> omega
end Go.Proofs.YtbjkhnlnedfceaaGreatDoor
