/- Plain law: years by their first days (the reference of layer 1). Plain functions: names, sets of rules (layers 7, 16). Plain functions: numeric abbreviations, formats, ends of eras, links, forms (layers 20, 21, 22, 15, 24). Plain law: in which years events lie (layers 2, 17). Plain law: rules of drafts: their events lie in seasons (layers 2, 17). -/
import Derived.Test.YtbjkhnlnedfceaaGreatDoorQ04
import Derived.Test.YtbjkhnlnedfceaaGreatDoorQ03
set_option maxHeartbeats 4000000
set_option linter.unusedVariables false
set_option linter.unusedSimpArgs false
namespace Go.Wk
open Go Go.RowKit
def jan1 (y : Int) : Int := 365 * y + (y + 3) / 4 - (y + 99) / 100 + (y + 399) / 400 - 719528
def sizeY (y : Int) : Int := if leapB y then 366 else 365
theorem leapB_iff (y : Int) : leapB y = true ↔ y % 4 = 0 ∧ (y % 100 ≠ 0 ∨ y % 400 = 0) := by
 unfold leapB
 simp
theorem jan1_succ (y : Int) : jan1 (y + 1) = jan1 y + sizeY y := by
 unfold sizeY
 have h := leapB_iff y
 by_cases hl : leapB y = true
 ·rw [if_pos hl]
  have := h.1 hl
  unfold jan1
  omega
 ·rw [if_neg hl]
  have : ¬ (y % 4 = 0 ∧ (y % 100 ≠ 0 ∨ y % 400 = 0)) := fun e => hl (h.2 e)
  unfold jan1
  omega
theorem sizeY_bd (y : Int) : 365 ≤ sizeY y ∧ sizeY y ≤ 366 := by unfold sizeY; split <;> omega
theorem jan1_dayNo (y : Int) : jan1 y = dayNo y 1 1 := by
 unfold dayNo dayNoM jan1
 rw [if_pos (by decide), show ((1 : Int) + 12 - 3).toNat = 10 by decide, show beforeL.getD 10 0 = 306 by decide]
 omega
theorem dayNo_succ (y : Int) (m : Nat) (h0 : 1 ≤ m) (h1 : m ≤ 11) : dayNo y ((m : Int) + 1) 1 = dayNo y m 1 + lenM y m := by
 have h := leapB_iff y
 have hm : m = 1 ∨ m = 2 ∨ m = 3 ∨ m = 4 ∨ m = 5 ∨ m = 6 ∨ m = 7 ∨ m = 8 ∨ m = 9 ∨ m = 10 ∨ m = 11 := by omega
 rcases hm with rfl | rfl | rfl | rfl | rfl | rfl | rfl | rfl | rfl | rfl | rfl
 ·show dayNoM (y - 1) 14 1 = dayNoM (y - 1) 13 1 + 31
  unfold dayNoM
  rw [show ((14 : Int) - 3).toNat = 11 by decide, show ((13 : Int) - 3).toNat = 10 by decide, show beforeL.getD 11 0 = 337 by decide, show beforeL.getD 10 0 = 306 by decide]
  omega
 ·show dayNoM y 3 1 = dayNoM (y - 1) 14 1 + (if leapB y then 29 else 28)
  unfold dayNoM
  rw [show ((14 : Int) - 3).toNat = 11 by decide, show ((3 : Int) - 3).toNat = 0 by decide, show beforeL.getD 11 0 = 337 by decide, show beforeL.getD 0 0 = 0 by decide]
  by_cases hl : leapB y = true
  ·rw [if_pos hl]
   have := h.1 hl
   omega
  ·rw [if_neg hl]
   have : ¬ (y % 4 = 0 ∧ (y % 100 ≠ 0 ∨ y % 400 = 0)) := fun e => hl (h.2 e)
   omega
 all_goals
  show dayNoM y _ 1 = dayNoM y _ 1 + _
  unfold dayNoM
 ·show y / 400 * 146097 + y % 400 * 365 + y % 400 / 4 - y % 400 / 100 + 31 + 1 - 1 - 719468 = y / 400 * 146097 + y % 400 * 365 + y % 400 / 4 - y % 400 / 100 + 0 + 1 - 1 - 719468 + 31
  omega
 ·show y / 400 * 146097 + y % 400 * 365 + y % 400 / 4 - y % 400 / 100 + 61 + 1 - 1 - 719468 = y / 400 * 146097 + y % 400 * 365 + y % 400 / 4 - y % 400 / 100 + 31 + 1 - 1 - 719468 + 30
  omega
 ·show y / 400 * 146097 + y % 400 * 365 + y % 400 / 4 - y % 400 / 100 + 92 + 1 - 1 - 719468 = y / 400 * 146097 + y % 400 * 365 + y % 400 / 4 - y % 400 / 100 + 61 + 1 - 1 - 719468 + 31
  omega
 ·show y / 400 * 146097 + y % 400 * 365 + y % 400 / 4 - y % 400 / 100 + 122 + 1 - 1 - 719468 = y / 400 * 146097 + y % 400 * 365 + y % 400 / 4 - y % 400 / 100 + 92 + 1 - 1 - 719468 + 30
  omega
 ·show y / 400 * 146097 + y % 400 * 365 + y % 400 / 4 - y % 400 / 100 + 153 + 1 - 1 - 719468 = y / 400 * 146097 + y % 400 * 365 + y % 400 / 4 - y % 400 / 100 + 122 + 1 - 1 - 719468 + 31
  omega
 ·show y / 400 * 146097 + y % 400 * 365 + y % 400 / 4 - y % 400 / 100 + 184 + 1 - 1 - 719468 = y / 400 * 146097 + y % 400 * 365 + y % 400 / 4 - y % 400 / 100 + 153 + 1 - 1 - 719468 + 31
  omega
 ·show y / 400 * 146097 + y % 400 * 365 + y % 400 / 4 - y % 400 / 100 + 214 + 1 - 1 - 719468 = y / 400 * 146097 + y % 400 * 365 + y % 400 / 4 - y % 400 / 100 + 184 + 1 - 1 - 719468 + 30
  omega
 ·show y / 400 * 146097 + y % 400 * 365 + y % 400 / 4 - y % 400 / 100 + 245 + 1 - 1 - 719468 = y / 400 * 146097 + y % 400 * 365 + y % 400 / 4 - y % 400 / 100 + 214 + 1 - 1 - 719468 + 31
  omega
 ·show y / 400 * 146097 + y % 400 * 365 + y % 400 / 4 - y % 400 / 100 + 275 + 1 - 1 - 719468 = y / 400 * 146097 + y % 400 * 365 + y % 400 / 4 - y % 400 / 100 + 245 + 1 - 1 - 719468 + 30
  omega
theorem monN_ten (q : Int) (h0 : 0 ≤ q) : 10 ≤ monN q 11 ↔ 306 ≤ q := by
 have b11 : beforeL.getD 11 0 = 337 := by decide
 have b10 : beforeL.getD 10 0 = 306 := by decide
 have hle : ∀ m, monN q m ≤ m := by
  intro m
  induction m with
  | zero => exact Nat.le_refl _
  | succ m ih => rw [monN]; split <;> omega
 rw [monN, monN]
 simp only [b11, show beforeL.getD (9 + 1) 0 = 306 from b10, show beforeL.getD (10 + 1) 0 = 337 from b11]
 have h9 := hle 9
 split
 ·constructor <;> intro <;> omega
 ·split
  ·constructor <;> intro <;> omega
  ·constructor <;> intro <;> omega
theorem jan1_mar (c y : Int) (h0 : 0 ≤ y) (h1 : y ≤ 399) : jan1 (c * 400 + y + 1) = c * 146097 + (y * 365 + y / 4 - y / 100) + 306 - 719468 := by
 have e1 : (c * 400 + y + 1 + 3) / 4 = 100 * c + y / 4 + 1 := by omega
 have e2 : (c * 400 + y + 1 + 99) / 100 = 4 * c + y / 100 + 1 := by omega
 have e3 : (c * 400 + y + 1 + 399) / 400 = c + 1 := by omega
 unfold jan1
 rw [e1, e2, e3]
 omega
theorem dateY_jan (n : Int) : jan1 (dateY n) ≤ n ∧ n < jan1 (dateY n + 1) := by
 have hD : dateY n = if 10 ≤ monN ((n + 719468) % 146097 - (yearN ((n + 719468) % 146097) * 365 + yearN ((n + 719468) % 146097) / 4 - yearN ((n + 719468) % 146097) / 100)) 11 then (n + 719468) / 146097 * 400 + yearN ((n + 719468) % 146097) + 1 else (n + 719468) / 146097 * 400 + yearN ((n + 719468) % 146097) := rfl
 have c3 : 0 ≤ (n + 719468) % 146097 ∧ (n + 719468) % 146097 < 146097 := by omega
 have hn : n = (n + 719468) / 146097 * 146097 + (n + 719468) % 146097 - 719468 := by omega
 have hb := yearN_bd _ c3.1 c3.2
 generalize (n + 719468) % 146097 = r at *
 generalize (n + 719468) / 146097 = c at *
 generalize yearN r = y at *
 obtain ⟨y1, y2, y3, y4⟩ := hb
 have ht := monN_ten _ y3
 have hm := jan1_mar c y y1 y2
 by_cases h : 10 ≤ monN (r - (y * 365 + y / 4 - y / 100)) 11
 ·rw [if_pos h] at hD
  have hq := ht.1 h
  have h2 := jan1_succ (c * 400 + y + 1)
  have h3 := sizeY_bd (c * 400 + y + 1)
  rw [hD, h2, hm]
  omega
 ·rw [if_neg h] at hD
  have hq : ¬ 306 ≤ r - (y * 365 + y / 4 - y / 100) := fun e => h (ht.2 e)
  have h2 := jan1_succ (c * 400 + y)
  have h3 := sizeY_bd (c * 400 + y)
  rw [hD]
  omega
theorem jan1_mono (a : Int) (k : Nat) : jan1 a + 365 * k ≤ jan1 (a + k) := by
 induction k with
 | zero => simp
 | succ k ih =>
  have := jan1_succ (a + k)
  have h2 := sizeY_bd (a + k)
  rw [show a + ((k + 1 : Nat) : Int) = a + k + 1 by omega, this]
  omega
def byteK (c : Nat) : Nat := if (65 ≤ c ∧ c ≤ 90) ∨ (97 ≤ c ∧ c ≤ 122) then 1 else if 48 ≤ c ∧ c ≤ 57 then 2 else if c = 95 then 4 else if c = 45 then 8 else if c = 46 ∨ c = 43 then 16 else 0
def okBytes (some_ : Nat) (l : List UInt8) : Bool := l.all fun c => !decide (byteK c.toNat &&& some_ = 0)
def nameB (least most some_ : Nat) (l : List UInt8) : Bool := decide (least ≤ l.length) && decide (l.length ≤ most) && okBytes some_ l
def cutSl : List UInt8 → List UInt8 → List (List UInt8)
 | [], acc => [acc]
 | c :: l, acc => if c = 47 then acc :: cutSl l [] else cutSl l (acc ++ [c])
def partB (l : List UInt8) : Bool := nameB 1 14 31 l && !(match l with | c :: _ => decide (c = 46) || decide (c = 45) | [] => false)
def zoneB (s : ByteArray) : Bool := decide (s.size ≤ 60) && (cutSl s.data.toList []).all partB
def setB (s : ByteArray) : Bool := nameB 1 30 15 s.data.toList && nameB 1 1 1 (s.data.toList.take 1)
def letterB (s : ByteArray) : Bool := nameB 1 4 1 s.data.toList
def abbrB (s : ByteArray) : Bool := nameB 3 6 1 s.data.toList
def leastD (l : List DRule) : Int := l.foldl (fun m r => min m r.save) 0
def otherGo : List DRule → Int → Int × Bool
 | [], x => (x, !decide (x = 0))
 | r :: l, x => if r.save = 0 then otherGo l x else if x ≠ 0 ∧ r.save ≠ x then (0, false) else otherGo l r.save
def otherD (l : List DRule) : Int × Bool := otherGo l 0
def namedY (y : Int) : Bool := decide (1850 ≤ y) && decide (y ≤ 2149)
def timedB (c : DClock) (least : Int) : Bool := clkChk c && (let n := if c.base = 1 then c.sec + least else c.sec; decide (-86400 ≤ n) && decide (n ≤ 172800))
def ruleErr (r : DRule) (least : Int) : Int :=
 if (namedY r.from_ && (namedY r.to || decide (r.to = 1048576))) = false then 3
 else if r.to < r.from_ then 12
 else if alwaysD r.from_ r.to r.month r.day = false then 3
 else if timedB r.at_ least = false then 3
 else if (decide (-10800 ≤ r.save) && decide (r.save ≤ 10800)) = false then 14
 else if (decide (r.letter = ByteArray.empty) || letterB r.letter) = false then 15
 else 0
def posixB (r : DRule) : Bool := if r.day.kind = 2 then true else if r.day.kind = 3 then decide (r.day.day.tmod 7 = 1) && decide (r.day.day < 29) else if r.day.kind = 1 then !decide (r.month = 2) || !decide (r.day.day = 29) else false
def lastB (l : List DRule) : Bool :=
 match l.filter fun r => decide (r.to = 1048576) with
 | [] => true
 | [a, b] => (decide (a.save = 0) != decide (b.save = 0)) && !decide (a.month = b.month) && posixB a && posixB b
 | _ => false
def firstBad (least : Int) : List DRule → Nat → Option (Nat × Int)
 | [], _ => none
 | r :: l, k => if ruleErr r least = 0 then firstBad least l (k + 1) else some (k, ruleErr r least)
def rsChk (l : List DRule) : Nat × Int :=
 match firstBad (leastD l) l 0 with
 | some x => x
 | none =>
  if (l.any fun r => decide (r.save = 0)) = false ∨ (leastD l < 0 ∧ (l.any fun r => !decide (r.save = 0) && !decide (r.save = leastD l)) = true) then (0, 14)
  else if lastB l = false then (0, 16)
  else (0, 0)
def dig2 (n : Int) : List UInt8 := [UInt8.ofNat (48 + (n / 10).toNat), UInt8.ofNat (48 + (n % 10).toNat)]
def textN (off : Int) : List UInt8 :=
 if off ≤ -86400 ∨ 86400 ≤ off then []
 else
  let x := if off < 0 then -off else off
  (if off < 0 then (45 : UInt8) else 43) :: (dig2 (x / 3600) ++ (if x % 3600 = 0 then [] else dig2 (x / 60 % 60)) ++ (if x % 60 = 0 then [] else dig2 (x % 60)))
def numU (l : List UInt8) : Option Int := if l.isEmpty then none else if l.all (fun c => decide (48 ≤ c) && decide (c ≤ 57)) then some (l.foldl (fun n c => n * 10 + ((c.toNat : Int) - 48)) 0) else none
def parseGo (l : List UInt8) : List Int → Nat → Int → Option Int
 | [], _, off => some off
 | u :: us, i, off => if l.length ≤ 1 + 2 * i then some off else match numU ((l.drop (1 + 2 * i)).take 2) with | none => none | some n => parseGo l us (i + 1) (off + n * u)
def parseN (l : List UInt8) : Option Int :=
 match parseGo l [3600, 60, 1] 0 0 with
 | none => none
 | some o => let off := if l.head? = some 45 then -o else o
  if l.isEmpty ∨ textN off ≠ l then none else some off
def i64ok (n : Int) : Bool := decide (-9223372036854775808 ≤ n) && decide (n ≤ 9223372036854775807)
def joinN (off : Int) : List Int → Option (List (List UInt8))
 | [] => some []
 | x :: l => if i64ok (off + x) = false ∨ textN (off + x) = [] then none else match joinN off l with | none => none | some r => some (textN (off + x) :: r)
def slashed : List (List UInt8) → List UInt8
 | [] => []
 | [x] => x
 | x :: l => x ++ 47 :: slashed l
def expandN (e : DEra) (l : List DRule) : List UInt8 × Int :=
 let j := fun s => match joinN e.off s with | none => ([], (3 : Int)) | some r => (slashed r, 0)
 if e.kind = 0 then j [0]
 else if e.kind = 1 then j [e.save]
 else if e.kind = 2 then (if (otherD l).2 then j [0, (otherD l).1] else if (l.any fun r => !decide (r.save = 0)) then ([], 14) else j [0])
 else ([], 2)
def cutAt (p : List UInt8) : List UInt8 → List UInt8 → Option (List UInt8 × List UInt8)
 | [], acc => if p = [] then some (acc, []) else none
 | c :: l, acc => if p.isPrefixOf (c :: l) then some (acc, (c :: l).drop p.length) else cutAt p l (acc ++ [c])
def letterL (l : List UInt8) : Bool := l.all fun c => decide (byteK c.toNat = 1)
def aroundF (f : List UInt8) : Option (List UInt8 × List UInt8) :=
 match cutAt [37, 115] f [] with
 | none => none
 | some (a, b) => if letterL (a ++ b) ∧ (a ++ b).length ≤ 5 then some (a, b) else none
def abbrL (l : List UInt8) : Bool := nameB 3 6 1 l
def kindF (f : List UInt8) : Int :=
 let two := cutAt [47] f []
 if abbrL f then 1
 else if (match two with | some (a, b) => abbrL a && abbrL b | none => false) then 2
 else if (aroundF f).isSome then 3
 else if f = [37, 122] then 4
 else if (parseN f).isSome || (match two with | some (a, b) => (parseN a).isSome && (parseN b).isSome | none => false) then 5
 else 0
def partsF (f : List UInt8) : Option (List UInt8 × List UInt8) :=
 match cutAt [47] f [] with
 | none => none
 | some (a, b) => if kindF f = 2 ∨ kindF f = 5 then some (a, b) else none
def abbrF (f : List UInt8) (off save : Int) (letter : List UInt8) : List UInt8 × Int :=
 match partsF f with
 | some (a, b) => (if save = 0 then a else b, 0)
 | none =>
  if kindF f = 3 then (match aroundF f with | some (a, b) => if abbrL (a ++ letter ++ b) then (a ++ letter ++ b, 0) else ([], 15) | none => ([], 15))
  else if kindF f = 4 then (if i64ok (off + save) = true ∧ textN (off + save) ≠ [] then (textN (off + save), 0) else ([], 15))
  else if kindF f = 1 ∨ kindF f = 5 then (f, 0)
  else ([], 15)
def firstErr (f : List UInt8) : List (List UInt8) → Int
 | [] => 0
 | x :: l => if (abbrF f 0 0 x).2 = 0 then firstErr f l else (abbrF f 0 0 x).2
def fmtChk (e : DEra) (l : List DRule) : Int :=
 let f := e.format.data.toList
 if kindF f = 0 then 15
 else if kindF f = 3 then firstErr f (if e.kind = 2 then l.map (fun r => r.letter.data.toList) else [[]])
 else if kindF f = 4 ∨ kindF f = 5 then (if (expandN e l).2 ≠ 0 ∨ (kindF f = 5 ∧ (expandN e l).1 ≠ f) then 15 else 0)
 else 0
def untilChk (u : DUntil) (least : Int) : Int :=
 if least < -10800 ∨ 0 < least then 2
 else if u.is = false then 4
 else if u.year < 1850 ∨ 2149 < u.year ∨ clkChk u.at_ = false then 3
 else
  let sec := if u.at_.base = 1 then u.at_.sec + least else u.at_.sec
  if (onD u.year u.month u.day).2 ≠ 0 ∨ sec < -86400 ∨ 172800 < sec then 3 else 0
def nominalU (u : DUntil) (least : Int) : Int × Int :=
 if untilChk u least ≠ 0 then (0, untilChk u least) else (86400 * (onD u.year u.month u.day).1 + u.at_.sec + (if u.at_.base = 1 then least else 0), 0)
structure DEvent where
 year : Int
 rule : Int
 nominal : Int
 deriving DecidableEq
def DEvent.enc (e : DEvent) : List Value := [.int .i64 e.year, .int .i64 e.rule, .int .i64 e.nominal]
def dEv0 : DEvent := ⟨0, 0, 0⟩
def lastY (r : DRule) : Int := if r.to = 1048576 then 2000000000 else min r.to 2000000000
def onR (least : Int) (r : DRule) (i y : Int) : Option DEvent :=
 if y < max r.from_ (-2000000000) ∨ lastY r < y ∨ clkChk r.at_ = false then none
 else if (onD y r.month r.day).2 ≠ 0 then none
 else some ⟨y, i, 86400 * (onD y r.month r.day).1 + r.at_.sec + (if r.at_.base = 1 then max least (-10800) else 0)⟩
def ordE (a b : DEvent) : Int := if a.nominal < b.nominal then -1 else if b.nominal < a.nominal then 1 else if a.rule < b.rule then -1 else if b.rule < a.rule then 1 else if a.year < b.year then -1 else if b.year < a.year then 1 else 0
theorem dayNo_year (y m : Int) : dayNo y m 1 + 365 ≤ dayNo (y + 1) m 1 := by
 unfold dayNo dayNoM
 split <;> omega
theorem dayNo_mono (y m : Int) (k : Nat) : dayNo y m 1 + 365 * k ≤ dayNo (y + k) m 1 := by
 induction k with
 | zero => simp
 | succ k ih =>
  have := dayNo_year (y + k) m
  rw [show y + ((k + 1 : Nat) : Int) = y + k + 1 by omega]
  omega
theorem dayNo_janN (y : Int) : ∀ (m : Nat), m ≤ 11 → jan1 y ≤ dayNo y ((m : Int) + 1) 1 ∧ dayNo y ((m : Int) + 1) 1 ≤ jan1 y + 31 * m
 | 0, _ => by rw [jan1_dayNo]; simp
 | m + 1, h => by
  have ih := dayNo_janN y m (by omega)
  have h1 := dayNo_succ y (m + 1) (by omega) (by omega)
  have h2 := lenM_bd y ((m + 1 : Nat) : Int)
  rw [h1]
  rw [show ((m + 1 : Nat) : Int) = (m : Int) + 1 by omega] at *
  omega
theorem dayNo_jan (y m : Int) (h0 : 1 ≤ m) (h1 : m ≤ 12) : jan1 y ≤ dayNo y m 1 ∧ dayNo y m 1 ≤ jan1 y + 341 := by
 have h := dayNo_janN y (m - 1).toNat (by omega)
 rw [show (((m - 1).toNat : Nat) : Int) + 1 = m by omega] at h
 omega
theorem onD_in {y m : Int} {d : DDay} (h : (onD y m d).2 = 0) : 1 ≤ m ∧ m ≤ 12 ∧ dayNo y m 1 - 6 ≤ (onD y m d).1 ∧ (onD y m d).1 ≤ dayNo y m 1 + 36 := by
 unfold onD at h ⊢
 by_cases h1 : daysOk y m 1 = false
 ·rw [if_pos h1] at h; simp at h
 rw [if_neg h1] at h ⊢
 by_cases h2 : dayChk d = false
 ·rw [if_pos h2] at h; simp at h
 rw [if_neg h2] at h ⊢
 by_cases h3 : lenM y m < d.day
 ·rw [if_pos h3] at h; simp at h
 rw [if_neg h3]
 have hl := lenM_bd y m
 have hm : 1 ≤ m ∧ m ≤ 12 := by
  simp only [daysOk, Bool.not_eq_false, Bool.and_eq_true, decide_eq_true_eq] at h1
  have h4 := h1.2
  unfold lenM at h4
  by_cases hb : m < 1 ∨ 12 < m
  ·rw [if_pos hb] at h4; omega
  ·omega
 have hd : dayChk d = true := by simpa using h2
 refine ⟨hm.1, hm.2, ?_⟩
 simp only [dayChk, dayK, weekK, Bool.and_eq_true, Bool.or_eq_false_iff, Bool.not_eq_true', decide_eq_true_eq, decide_eq_false_iff_not] at hd
 simp only [daysOk, Bool.not_eq_false, Bool.and_eq_true, decide_eq_true_eq] at h1
 obtain ⟨⟨k1, k2⟩, hk⟩ := hd
 have hdd : d.kind ≠ 2 → 1 ≤ d.day := by
  intro h5
  have e1 : (!decide (d.kind = 2)) = true := by simpa using h5
  obtain ⟨⟨⟨⟨⟨_, _⟩, _⟩, h7⟩, h8⟩, _⟩ := hk
  rw [e1] at h7
  simp at h7
  omega
 unfold findD beforeW behindW
 dsimp only
 split
 ·omega
 ·split
  ·omega
  ·split <;> omega
theorem onR_some {least : Int} {r : DRule} {i y : Int} {e : DEvent} (h : onR least r i y = some e) : e.year = y ∧ e.rule = i ∧ max r.from_ (-2000000000) ≤ y ∧ y ≤ 2000000000 ∧ -604799 ≤ r.at_.sec ∧ r.at_.sec ≤ 604799 ∧ (onD y r.month r.day).2 = 0 ∧ e.nominal = 86400 * (onD y r.month r.day).1 + (r.at_.sec + (if r.at_.base = 1 then max least (-10800) else 0)) := by
 unfold onR at h
 split at h
 ·cases h
 rename_i h1
 split at h
 ·cases h
 rename_i h2
 cases h
 have hc : clkChk r.at_ = true := by
  cases hc : clkChk r.at_
  ·exact absurd (.inr (.inr hc)) h1
  ·rfl
 simp only [clkChk, Bool.and_eq_true, decide_eq_true_eq] at hc
 have hl : ¬ lastY r < y := fun h => h1 (.inr (.inl h))
 have hl2 : lastY r ≤ 2000000000 := by unfold lastY; split <;> omega
 refine ⟨rfl, rfl, ?_, by omega, hc.1.1.1, hc.1.1.2, Decidable.not_not.1 h2, ?_⟩
 ·have : ¬ y < max r.from_ (-2000000000) := fun h => h1 (.inl h)
  omega
 ·dsimp only
  omega
theorem onR_in {least : Int} (hl : least ≤ 0) {r : DRule} {i y : Int} {e : DEvent} (h : onR least r i y = some e) : jan1 y * 86400 - 1700000 ≤ e.nominal ∧ e.nominal ≤ jan1 (y + 1) * 86400 + 1700000 := by
 obtain ⟨_, _, _, _, h3, h4, h5, h6⟩ := onR_some h
 obtain ⟨m1, m2, d1, d2⟩ := onD_in h5
 have hj := dayNo_jan y r.month m1 m2
 have hs := jan1_succ y
 have hz := sizeY_bd y
 have hm : -10800 ≤ (if r.at_.base = 1 then max least (-10800) else 0) ∧ (if r.at_.base = 1 then max least (-10800) else 0) ≤ 0 := by split <;> omega
 generalize (if r.at_.base = 1 then max least (-10800) else 0) = mx at *
 generalize (onD y r.month r.day).1 = D at *
 omega
theorem onR_mono {least : Int} {r : DRule} {i i' y y' : Int} {e e' : DEvent} (h : onR least r i y = some e) (h' : onR least r i' y' = some e') (hy : y < y') : e.nominal < e'.nominal := by
 obtain ⟨_, _, _, _, h3, h4, h5, h6⟩ := onR_some h
 obtain ⟨_, _, _, _, g3, g4, g5, g6⟩ := onR_some h'
 obtain ⟨m1, m2, d1, d2⟩ := onD_in h5
 obtain ⟨n1, n2, e1, e2⟩ := onD_in g5
 have hk := dayNo_mono y r.month (y' - y).toNat
 rw [show y + ((y' - y).toNat : Int) = y' by omega] at hk
 rw [h6, g6]
 generalize r.at_.sec + (if r.at_.base = 1 then max least (-10800) else 0) = s at *
 generalize (onD y r.month r.day).1 = D at *
 generalize (onD y' r.month r.day).1 = D' at *
 omega
theorem year_near {y y' : Int} (h : jan1 y * 86400 - 2100000 < jan1 (y' + 1) * 86400 + 2100000) : y ≤ y' + 1 := by
 by_cases hc : y ≤ y' + 1
 ·exact hc
 ·have := jan1_mono (y' + 1) (y - (y' + 1)).toNat
  rw [show y' + 1 + ((y - (y' + 1)).toNat : Int) = y by omega] at this
  omega
theorem yearOf_jan {t : Int} (h0 : -4000000000000 ≤ t) (h1 : t ≤ 4000000000000) : jan1 (yearOf t) * 86400 ≤ t ∧ t < jan1 (yearOf t + 1) * 86400 := by
 have h := dateY_jan (t / 86400)
 have hb : -1000000000 ≤ dateY (t / 86400) ∧ dateY (t / 86400) ≤ 1000000000 := by
  unfold jan1 at h
  omega
 have e : yearOf t = dateY (t / 86400) := by unfold yearOf; omega
 rw [e]
 omega
def mar1 (y : Int) : Int := y / 400 * 146097 + y % 400 * 365 + y % 400 / 4 - y % 400 / 100 - 719468
theorem mar1_succ (y : Int) : mar1 y + 365 ≤ mar1 (y + 1) ∧ mar1 (y + 1) ≤ mar1 y + 366 := by unfold mar1; omega
theorem mar1_mono (y : Int) : ∀ k : Nat, mar1 y + 365 * k ≤ mar1 (y + k)
 | 0 => by simp
 | k + 1 => by
  have h1 := mar1_mono y k
  have h2 := mar1_succ (y + k)
  rw [show y + ((k + 1 : Nat) : Int) = y + k + 1 by omega]
  omega
theorem mar1_lt {y z : Int} (h : y < z) : mar1 y + 365 ≤ mar1 z := by
 have h1 := mar1_mono y (z - y).toNat
 rw [show y + ((z - y).toNat : Int) = z by omega] at h1
 omega
theorem mar1_le {y z : Int} (h : y ≤ z) : mar1 y ≤ mar1 z := by
 by_cases he : y = z
 ·subst he; exact Int.le_refl _
 ·have := mar1_lt (y := y) (z := z) (by omega)
  omega
theorem dayNo_mar (y m d : Int) (h : 3 ≤ m) : dayNo y m d = mar1 y + beforeL.getD (m - 3).toNat 0 + d - 1 := by
 unfold dayNo dayNoM mar1
 rw [if_neg (by omega)]
 omega
theorem dayNo_feb (y : Int) : mar1 y - 29 ≤ dayNo y 2 1 ∧ dayNo y 2 1 ≤ mar1 y - 28 := by
 have h := mar1_succ (y - 1)
 rw [show y - 1 + 1 = y by omega] at h
 unfold dayNo dayNoM
 rw [if_pos (by omega), show beforeL.getD ((2 : Int) + 12 - 3).toNat 0 = 337 by decide]
 unfold mar1 at *
 omega
theorem lenM_28 (y m : Int) (h0 : 1 ≤ m) (h1 : m ≤ 12) : 28 ≤ lenM y m := by
 unfold lenM
 rw [if_neg (by omega)]
 split
 ·split <;> omega
 ·split <;> omega
def DrDay (d : DDay) : Prop := (d.kind = 2 ∧ 0 ≤ d.week ∧ d.week ≤ 6 ∧ d.day = 0) ∨ (d.kind = 3 ∧ 0 ≤ d.week ∧ d.week ≤ 6 ∧ 1 ≤ d.day ∧ d.day ≤ 22 ∧ d.day.tmod 7 = 1) ∨ (d.kind = 1 ∧ d.week = 0 ∧ 1 ≤ d.day ∧ d.day ≤ 28)
theorem DrDay.chk {d : DDay} (h : DrDay d) : dayChk d = true := by
 obtain ⟨k, w, n⟩ := d
 simp only [DrDay] at h
 rcases h with ⟨rfl, h1, h2, rfl⟩ | ⟨rfl, h1, h2, h3, h4, _⟩ | ⟨rfl, rfl, h3, h4⟩
 ·simp [dayChk, dayK, weekK]; omega
 ·simp [dayChk, dayK, weekK]; omega
 ·simp [dayChk, dayK, weekK]; omega
theorem DrDay.le28 {d : DDay} (h : DrDay d) : d.day ≤ 28 := by
 unfold DrDay at h
 omega
theorem DrDay.on {d : DDay} (h : DrDay d) {y m : Int} (hy : inY y = true) (h0 : 1 ≤ m) (h1 : m ≤ 12) : (onD y m d).2 = 0 ∧ dayNo y m 1 ≤ (onD y m d).1 ∧ (onD y m d).1 ≤ dayNo y m 1 + 30 := by
 have hl := lenM_28 y m h0 h1
 have hl2 := lenM_bd y m
 have h28 := h.le28
 have hd : daysOk y m 1 = true := by
  unfold daysOk
  rw [hy]
  simp
  omega
 unfold onD
 rw [if_neg (by rw [hd]; decide), if_neg (by rw [h.chk]; decide), if_neg (by omega)]
 refine ⟨rfl, ?_⟩
 dsimp only
 generalize dayNo y m 1 = D
 generalize lenM y m = L at *
 obtain ⟨k, w, n⟩ := d
 simp only [DrDay] at h
 unfold findD beforeW behindW
 dsimp only at h28 ⊢
 rcases h with ⟨rfl, h1, h2, rfl⟩ | ⟨rfl, h1, h2, h3, h4, _⟩ | ⟨rfl, rfl, h3, h4⟩
 ·rw [if_neg (by decide), if_pos rfl]; omega
 ·rw [if_neg (by decide), if_neg (by decide), if_pos rfl]; omega
 ·rw [if_pos rfl]; omega
structure DrRule (r : DRule) : Prop where
 f0 : 1900 ≤ r.from_
 f1 : r.from_ ≤ 2149
 ft : r.from_ ≤ r.to
 t1 : r.to ≤ 2149 ∨ r.to = 1048576
 mon : (2 ≤ r.month ∧ r.month ≤ 4) ∨ r.month = 6 ∨ (8 ≤ r.month ∧ r.month ≤ 10)
 day : DrDay r.day
 clk : 0 ≤ r.at_.sec ∧ r.at_.sec ≤ 86400 ∧ 0 ≤ r.at_.base ∧ r.at_.base ≤ 2
 save : -3600 ≤ r.save ∧ r.save ≤ 7200
 letter : r.letter ∈ [ByteArray.empty, ⟨#[83]⟩, ⟨#[68]⟩, ⟨#[68, 84]⟩]
def sea (m : Int) : Int := if m ≤ 4 then 0 else if m ≤ 7 then 1 else 2
def loS (m : Int) : Int := if m ≤ 4 then -29 else if m ≤ 7 then 92 else 153
def hiS (m : Int) : Int := if m ≤ 4 then 62 else if m ≤ 7 then 123 else 245
theorem DrRule.mon12 {r : DRule} (h : DrRule r) : 1 ≤ r.month ∧ r.month ≤ 12 := by have := h.mon; omega
theorem mon_bd {m : Int} (h : (2 ≤ m ∧ m ≤ 4) ∨ m = 6 ∨ (8 ≤ m ∧ m ≤ 10)) (y : Int) : mar1 y + loS m ≤ dayNo y m 1 ∧ dayNo y m 1 + 31 ≤ mar1 y + hiS m := by
 have hc : m = 2 ∨ m = 3 ∨ m = 4 ∨ m = 6 ∨ m = 8 ∨ m = 9 ∨ m = 10 := by omega
 have hf := dayNo_feb y
 rcases hc with rfl | rfl | rfl | rfl | rfl | rfl | rfl
 ·simp only [loS, hiS]
  omega
 all_goals
  rw [dayNo_mar _ _ _ (by decide)]
  simp only [loS, hiS, beforeL]
  simp
  omega
theorem DrRule.ev {r : DRule} (h : DrRule r) {least i y : Int} {e : DEvent} (hl : -3600 ≤ least ∧ least ≤ 0) (he : onR least r i y = some e) :
  e.year = y ∧ e.rule = i ∧ r.from_ ≤ y ∧ (r.to ≤ 2149 → y ≤ r.to) ∧ 86400 * (mar1 y + loS r.month) - 3600 ≤ e.nominal ∧ e.nominal ≤ 86400 * (mar1 y + hiS r.month) := by
 have hf0 := h.f0
 have hc := h.clk
 obtain ⟨m0, m1⟩ := h.mon12
 obtain ⟨b1, b2⟩ := mon_bd h.mon y
 unfold onR at he
 split at he
 ·cases he
 rename_i hy
 split at he
 ·cases he
 cases he
 have hyr : ¬ y < max r.from_ (-2000000000) := fun hh => hy (.inl hh)
 have hyl : ¬ lastY r < y := fun hh => hy (.inr (.inl hh))
 have hl2 : lastY r ≤ 2000000000 := by unfold lastY; split <;> omega
 have hyt : r.to ≤ 2149 → y ≤ r.to := fun hh => by
  have : lastY r = r.to := by unfold lastY; rw [if_neg (by omega)]; omega
  omega
 have hin : inY y = true := by
  unfold inY
  simp
  omega
 obtain ⟨_, o1, o2⟩ := h.day.on hin m0 m1
 refine ⟨rfl, rfl, by omega, hyt, ?_⟩
 dsimp only
 have hm : -3600 ≤ (if r.at_.base = 1 then max least (-10800) else 0) ∧ (if r.at_.base = 1 then max least (-10800) else 0) ≤ 0 := by split <;> omega
 generalize (if r.at_.base = 1 then max least (-10800) else 0) = mx at *
 generalize (onD y r.month r.day).1 = D at *
 omega
def Dist (a b : DRule) : Prop := a.to < b.from_ ∨ sea a.month ≠ sea b.month
theorem sea_far {a b : Int} (ha : (2 ≤ a ∧ a ≤ 4) ∨ a = 6 ∨ (8 ≤ a ∧ a ≤ 10)) (hb : (2 ≤ b ∧ b ≤ 4) ∨ b = 6 ∨ (8 ≤ b ∧ b ≤ 10)) (h : sea a ≠ sea b) : hiS a + 30 ≤ loS b ∨ hiS b + 30 ≤ loS a := by
 unfold sea at h
 unfold hiS loS
 split at h <;> split at h <;> (try split at h) <;> (try split at h) <;> omega
theorem loS_bd (m : Int) : -29 ≤ loS m ∧ hiS m ≤ 245 := by
 unfold loS hiS
 split
 ·omega
 ·split <;> omega
theorem DrRule.far {a b : DRule} (ha : DrRule a) (hb : DrRule b) {least i j y z : Int} {e f : DEvent} (hl : -3600 ≤ least ∧ least ≤ 0) (he : onR least a i y = some e) (hf : onR least b j z = some f) (hd : y = z → Dist a b ∨ Dist b a) :
  259200 ≤ e.nominal - f.nominal ∨ 259200 ≤ f.nominal - e.nominal := by
 obtain ⟨_, _, a1, a2, a3, a4⟩ := ha.ev hl he
 obtain ⟨_, _, b1, b2, b3, b4⟩ := hb.ev hl hf
 have la := loS_bd a.month
 have lb := loS_bd b.month
 rcases Int.lt_trichotomy y z with h | h | h
 ·have := mar1_lt h
  omega
 ·subst h
  have hs : sea a.month ≠ sea b.month := by
   have af := ha.f1
   have bf := hb.f1
   rcases hd rfl with (h | h) | (h | h)
   ·have := a2 (by omega); omega
   ·exact h
   ·have := b2 (by omega); omega
   ·exact fun hh => h hh.symm
  have := sea_far ha.mon hb.mon hs
  omega
 ·have := mar1_lt h
  omega
end Go.Wk
