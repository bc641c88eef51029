/- Parts of the proof. -/
import Derived.Test.YtbjomhdhkpgbaaaGreatDoorW05
import Derived.Test.YtbjomhdhkpgbaaaGreatDoorW04
import Derived.Test.YtbjomhdhkpgbaaaGreatDoorW01
set_option maxHeartbeats 4000000
set_option linter.unusedVariables false
set_option linter.unusedSimpArgs false
namespace Go.Proofs.YtbjomhdhkpgbaaaGreatDoor
open Go Go.RowKit Go.Wk
attribute [local irreducible] W RL Does Zap Zak retQ Calls Pu Stp RD Qy Ay
def ofB (l : List Zab) (x : ByteArray) : List Zab := l.filter fun r => decide (r.name = x)
def ZhC {α : Type} (e sz : Nat) (enc : α -> List Value) (l : List α) (v : Value) (O : List It) : Prop := ∃ A c, v = .slice A l.length c /\ O = [.row (.slice A l.length c) e sz l.length (l.flatMap enc)]
def ZaV : List Zab -> List ByteArray -> List ByteArray
 | [], acc => acc
 | r :: l, acc => if memB r.name acc then ZaV l acc else ZaV l (acc ++ [r.name])
theorem Zil (x y : ByteArray) : ∀ l : List ByteArray, memB x (l ++ [y]) = (memB x l || decide (y = x))
 | [] => by simp [memB]
 | z :: l => by simp [memB, Zil x y l, Bool.or_assoc]
theorem Zcx (A : Option Addr) (c : Nat) (x : List Zab) (w : World) (hA : RdSl w A c Zab.enc 11 x) (hn : x.length <= 1000000) :
  Does Tryz.prog 63 [.slice A x.length c] w (ZhC 56 11 Zab.enc x) := by
 refine Zaa Tryz.func63 rfl rfl rfl rfl ?_
 repeat (first | (refine js ?_; (refine bx ?_; intro bk)) | refine walk ?_)
 refine Zaf rfl (fun h1 => ?_) (fun h1 => ?_)
 ·obtain rfl := hA.none h1
  refine Zdw 56 11 ?_
  repeat (first | (refine js ?_; (refine bx ?_; intro bk)) | refine walk ?_)
  exact ret_1 _ [.row (.slice none 0 0) 56 11 0 []] (.tmp rfl) SOA ⟨none, 0, rfl, rfl⟩
 repeat (first | (refine js ?_; (first | (apply Zds; rfl; rfl; (intro A' c'; (focus repeat' constructor)); (intro w' hw _; exact (hA.up hw).rd.raw Zab.len (by decide)); exact ZaI Zab.len x; exact ZcH oneR x; (simp only [maxLen]; omega); omega; intro A' c' hc1 hc2 hc3) | (refine bx ?_; intro bk))) | refine walk ?_)
 exact ret_1 _ _ (.tmp rfl) (.refl _) ⟨A', c', rfl, rfl⟩
theorem Zcw (A : Option Addr) (c : Nat) (x : List ByteArray) (w : World) (hA : RdSl w A c ZaK 1 x) (hn : x.length <= 1000000) :
  Does Tryz.prog 65 [.slice A x.length c] w (ZhC 9 1 ZaK x) := by
 refine Zaa Tryz.func65 rfl rfl rfl rfl ?_
 repeat (first | (refine js ?_; (refine bx ?_; intro bk)) | refine walk ?_)
 refine Zaf rfl (fun h1 => ?_) (fun h1 => ?_)
 ·obtain rfl := hA.none h1
  refine Zdw 9 1 ?_
  repeat (first | (refine js ?_; (refine bx ?_; intro bk)) | refine walk ?_)
  exact ret_1 _ [.row (.slice none 0 0) 9 1 0 []] (.tmp rfl) SOA ⟨none, 0, rfl, rfl⟩
 repeat (first | (refine js ?_; (first | (apply Zds; rfl; rfl; (intro A' c'; (focus repeat' constructor)); (intro w' hw _; exact (hA.up hw).rd.raw ZaK.len (by decide)); exact ZaI ZaK.len x; exact ZcH oneS x; (simp only [maxLen]; omega); omega; intro A' c' hc1 hc2 hc3) | (refine bx ?_; intro bk))) | refine walk ?_)
 exact ret_1 _ _ (.tmp rfl) (.refl _) ⟨A', c', rfl, rfl⟩
theorem Zcy (A : Option Addr) (c : Nat) (x : List DEra) (w : World) (hA : RdSl w A c DEra.enc 13 x) (hn : x.length <= 1000000) :
  Does Tryz.prog 66 [.slice A x.length c] w (ZhC 54 13 DEra.enc x) := by
 refine Zaa Tryz.func66 rfl rfl rfl rfl ?_
 repeat (first | (refine js ?_; (refine bx ?_; intro bk)) | refine walk ?_)
 refine Zaf rfl (fun h1 => ?_) (fun h1 => ?_)
 ·obtain rfl := hA.none h1
  refine Zdw 54 13 ?_
  repeat (first | (refine js ?_; (refine bx ?_; intro bk)) | refine walk ?_)
  exact ret_1 _ [.row (.slice none 0 0) 54 13 0 []] (.tmp rfl) SOA ⟨none, 0, rfl, rfl⟩
 repeat (first | (refine js ?_; (first | (apply Zds; rfl; rfl; (intro A' c'; (focus repeat' constructor)); (intro w' hw _; exact (hA.up hw).rd.raw DEra.len (by decide)); exact ZaI DEra.len x; exact ZcH oneE x; (simp only [maxLen]; omega); omega; intro A' c' hc1 hc2 hc3) | (refine bx ?_; intro bk))) | refine walk ?_)
 exact ret_1 _ _ (.tmp rfl) (.refl _) ⟨A', c', rfl, rfl⟩
theorem Zed (A : Option Addr) (c : Nat) (x : List ZbE) (w : World) (hA : RdSl w A c ZbE.enc 2 x) (hn : x.length <= 1000000) :
  Does Tryz.prog 64 [.slice A x.length c] w (ZhC 69 2 ZbE.enc x) := by
 refine Zaa Tryz.func64 rfl rfl rfl rfl ?_
 repeat (first | (refine js ?_; (refine bx ?_; intro bk)) | refine walk ?_)
 refine Zaf rfl (fun h1 => ?_) (fun h1 => ?_)
 ·obtain rfl := hA.none h1
  refine Zdw 69 2 ?_
  repeat (first | (refine js ?_; (refine bx ?_; intro bk)) | refine walk ?_)
  exact ret_1 _ [.row (.slice none 0 0) 69 2 0 []] (.tmp rfl) SOA ⟨none, 0, rfl, rfl⟩
 repeat (first | (refine js ?_; (first | (apply Zds; rfl; rfl; (intro A' c'; (focus repeat' constructor)); (intro w' hw _; exact (hA.up hw).rd.raw ZbE.len (by decide)); exact ZaI ZbE.len x; exact ZcH oneL x; (simp only [maxLen]; omega); omega; intro A' c' hc1 hc2 hc3) | (refine bx ?_; intro bk))) | refine walk ?_)
 exact ret_1 _ _ (.tmp rfl) (.refl _) ⟨A', c', rfl, rfl⟩
end Go.Proofs.YtbjomhdhkpgbaaaGreatDoor
namespace Go.Wk
open Go Go.RowKit
def Zv7 (y : Int) : Bool := decide (y % 4 = 0) && (!decide (y % 100 = 0) || decide (y % 400 = 0))
def lenM (y m : Int) : Int := if m < 1 \/ 12 < m then 0 else if m = 2 then (if Zv7 y then 29 else 28) else if m = 4 \/ m = 6 \/ m = 9 \/ m = 11 then 30 else 31
def inY (y : Int) : Bool := decide (-2000000000 <= y) && decide (y <= 2000000000)
def Zbe : List Int := [0, 31, 61, 92, 122, 153, 184, 214, 245, 275, 306, 337]
def Zhq (y m d : Int) : Int := y / 400 * 146097 + y % 400 * 365 + y % 400 / 4 - y % 400 / 100 + Zbe.getD (m - 3).toNat 0 + d - 1 - 719468
def ZbY (y m d : Int) : Int := if m < 3 then Zhq (y - 1) (m + 12) d else Zhq y m d
def Zb8 (y m d : Int) : Bool := inY y && decide (1 <= d) && decide (d <= lenM y m)
def ZlL (n : Int) : Int := (n + 4) % 7
theorem ZkU (y m : Int) : 0 <= lenM y m /\ lenM y m <= 31 := by
 unfold lenM
 split
 ·omega
 ·split
  ·split <;> omega
  ·split <;> omega
theorem ZpD (n : Int) : 0 <= ZlL n /\ ZlL n <= 6 := by unfold ZlL; omega
theorem Zfc (k : Nat) : 0 <= Zbe.getD k 0 /\ Zbe.getD k 0 <= 337 := by
 by_cases h : k < 12
 ·have : k = 0 \/ k = 1 \/ k = 2 \/ k = 3 \/ k = 4 \/ k = 5 \/ k = 6 \/ k = 7 \/ k = 8 \/ k = 9 \/ k = 10 \/ k = 11 := by omega
  rcases this with rfl | rfl | rfl | rfl | rfl | rfl | rfl | rfl | rfl | rfl | rfl | rfl <;> decide
 ·rw [List.getD_eq_getElem?_getD, List.getElem?_eq_none (by simp [Zbe]; omega)]
  decide
def Zev (r : Int) : Int := (r - r / 1460 + r / 36524 - r / 146096) / 365
def monN (r : Int) : Nat -> Nat
 | 0 => 0
 | m + 1 => if Zbe.getD (m + 1) 0 <= r then m + 1 else monN r m
def Zwu (n : Int) : Int :=
 let c := (n + 719468) / 146097
 let r := (n + 719468) % 146097
 let y := Zev r
 let q := r - (y * 365 + y / 4 - y / 100)
 if 10 <= monN q 11 then c * 400 + y + 1 else c * 400 + y
def Zez (t : Int) : Int := min (max (Zwu (t / 86400)) (-2000000000)) 2000000000
def ZnL (k : Int) : Bool := !decide (k = 1)
def dayK (k : Int) : Bool := !decide (k = 2)
def Zdp (d : DDay) : Bool := decide (1 <= d.kind) && decide (d.kind <= 4) && !((!decide (d.week = 0) && !ZnL d.kind) || decide (d.week < 0) || decide (6 < d.week) || (dayK d.kind == decide (d.day = 0)) || decide (d.day < 0) || decide (31 < d.day))
def ZfO (x w : Int) : Int := x + (w - ZlL x + 7) % 7
def ZeV (x w : Int) : Int := x - (ZlL x - w + 7) % 7
def Zfm (first last : Int) (d : DDay) : Int := if d.kind = 1 then first + d.day - 1 else if d.kind = 2 then ZeV last d.week else if d.kind = 3 then ZfO (first + d.day - 1) d.week else ZeV (first + d.day - 1) d.week
def onD (y m : Int) (d : DDay) : Int × Int :=
 if Zb8 y m 1 = false then (0, 3) else if Zdp d = false then (0, 2) else if lenM y m < d.day then (0, 4) else (Zfm (ZbY y m 1) (ZbY y m 1 + lenM y m - 1) d, 0)
def ZfQ (from_ to m : Int) (d : DDay) : Bool :=
 if m < 1 \/ 12 < m \/ Zdp d = false then false
 else if (to < 1048576 /\ to < from_) \/ d.day <= lenM 1 m then true
 else if 1048576 <= to \/ from_ ≠ to \/ m ≠ 2 then false
 else decide (d.day <= lenM (from_.tmod 400) m)
def ZaP (c : Zb1) : Bool := decide (-604799 <= c.sec) && decide (c.sec <= 604799) && decide (0 <= c.base) && decide (c.base <= 2)
def Zdv (c : Nat) : Nat := if (65 <= c /\ c <= 90) \/ (97 <= c /\ c <= 122) then 1 else if 48 <= c /\ c <= 57 then 2 else if c = 95 then 4 else if c = 45 then 8 else if c = 46 \/ c = 43 then 16 else 0
def ZcU (some_ : Nat) (l : List UInt8) : Bool := l.all fun c => !decide (Zdv c.toNat &&& some_ = 0)
def Zdg (least most some_ : Nat) (l : List UInt8) : Bool := decide (least <= l.length) && decide (l.length <= most) && ZcU some_ l
def Zgo : List UInt8 -> List UInt8 -> List (List UInt8)
 | [], acc => [acc]
 | c :: l, acc => if c = 47 then acc :: Zgo l [] else Zgo l (acc ++ [c])
def ZvQ (l : List UInt8) : Bool := Zdg 1 14 31 l && !(match l with | c :: _ => decide (c = 46) || decide (c = 45) | [] => false)
def Zhx (s : ByteArray) : Bool := decide (s.size <= 60) && (Zgo s.data.toList []).all ZvQ
def setB (s : ByteArray) : Bool := Zdg 1 30 15 s.data.toList && Zdg 1 1 1 (s.data.toList.take 1)
def Zir (s : ByteArray) : Bool := Zdg 1 4 1 s.data.toList
def ZrR (s : ByteArray) : Bool := Zdg 3 6 1 s.data.toList
def Zaj (l : List Zab) : Int := l.foldl (fun m r => min m r.save) 0
def ZcT : List Zab -> Int -> Int × Bool
 | [], x => (x, !decide (x = 0))
 | r :: l, x => if r.save = 0 then ZcT l x else if x ≠ 0 /\ r.save ≠ x then (0, false) else ZcT l r.save
def Zbi (l : List Zab) : Int × Bool := ZcT l 0
def Zco (y : Int) : Bool := decide (1850 <= y) && decide (y <= 2149)
def Zep (c : Zb1) (least : Int) : Bool := ZaP c && (let n := if c.base = 1 then c.sec + least else c.sec; decide (-86400 <= n) && decide (n <= 172800))
def Zce (r : Zab) (least : Int) : Int :=
 if (Zco r.from_ && (Zco r.to || decide (r.to = 1048576))) = false then 3
 else if r.to < r.from_ then 12
 else if ZfQ r.from_ r.to r.month r.day = false then 3
 else if Zep r.at_ least = false then 3
 else if (decide (-10800 <= r.save) && decide (r.save <= 10800)) = false then 14
 else if (decide (r.letter = ByteArray.empty) || Zir r.letter) = false then 15
 else 0
def Zcn (r : Zab) : Bool := if r.day.kind = 2 then true else if r.day.kind = 3 then decide (r.day.day.tmod 7 = 1) && decide (r.day.day < 29) else if r.day.kind = 1 then !decide (r.month = 2) || !decide (r.day.day = 29) else false
def ZhA (l : List Zab) : Bool :=
 match l.filter fun r => decide (r.to = 1048576) with
 | [] => true
 | [a, b] => (decide (a.save = 0) != decide (b.save = 0)) && !decide (a.month = b.month) && Zcn a && Zcn b
 | _ => false
def Zbj (least : Int) : List Zab -> Nat -> Option (Nat × Int)
 | [], _ => none
 | r :: l, k => if Zce r least = 0 then Zbj least l (k + 1) else some (k, Zce r least)
def ZdZ (l : List Zab) : Nat × Int :=
 match Zbj (Zaj l) l 0 with
 | some x => x
 | none =>
  if (l.any fun r => decide (r.save = 0)) = false \/ (Zaj l < 0 /\ (l.any fun r => !decide (r.save = 0) && !decide (r.save = Zaj l)) = true) then (0, 14)
  else if ZhA l = false then (0, 16)
  else (0, 0)
def dig2 (n : Int) : List UInt8 := [UInt8.ofNat (48 + (n / 10).toNat), UInt8.ofNat (48 + (n % 10).toNat)]
def ZaW (off : Int) : List UInt8 :=
 if off <= -86400 \/ 86400 <= off then []
 else
  let x := if off < 0 then -off else off
  (if off < 0 then (45 : UInt8) else 43) :: (dig2 (x / 3600) ++ (if x % 3600 = 0 then [] else dig2 (x / 60 % 60)) ++ (if x % 60 = 0 then [] else dig2 (x % 60)))
def numU (l : List UInt8) : Option Int := if l.isEmpty then none else if l.all (fun c => decide (48 <= c) && decide (c <= 57)) then some (l.foldl (fun n c => n * 10 + ((c.toNat : Int) - 48)) 0) else none
def ZfD (l : List UInt8) : List Int -> Nat -> Int -> Option Int
 | [], _, off => some off
 | u :: us, i, off => if l.length <= 1 + 2 * i then some off else match numU ((l.drop (1 + 2 * i)).take 2) with | none => none | some n => ZfD l us (i + 1) (off + n * u)
def ZbT (l : List UInt8) : Option Int :=
 match ZfD l [3600, 60, 1] 0 0 with
 | none => none
 | some o => let off := if l.head? = some 45 then -o else o
  if l.isEmpty \/ ZaW off ≠ l then none else some off
def Zdu (n : Int) : Bool := decide (-9223372036854775808 <= n) && decide (n <= 9223372036854775807)
def Zd7 (off : Int) : List Int -> Option (List (List UInt8))
 | [] => some []
 | x :: l => if Zdu (off + x) = false \/ ZaW (off + x) = [] then none else match Zd7 off l with | none => none | some r => some (ZaW (off + x) :: r)
def Zcc : List (List UInt8) -> List UInt8
 | [] => []
 | [x] => x
 | x :: l => x ++ 47 :: Zcc l
def Zbb (e : DEra) (l : List Zab) : List UInt8 × Int :=
 let j := fun s => match Zd7 e.off s with | none => ([], (3 : Int)) | some r => (Zcc r, 0)
 if e.kind = 0 then j [0]
 else if e.kind = 1 then j [e.save]
 else if e.kind = 2 then (if (Zbi l).2 then j [0, (Zbi l).1] else if (l.any fun r => !decide (r.save = 0)) then ([], 14) else j [0])
 else ([], 2)
def ZcX (p : List UInt8) : List UInt8 -> List UInt8 -> Option (List UInt8 × List UInt8)
 | [], acc => if p = [] then some (acc, []) else none
 | c :: l, acc => if p.isPrefixOf (c :: l) then some (acc, (c :: l).drop p.length) else ZcX p l (acc ++ [c])
def Zdj (l : List UInt8) : Bool := l.all fun c => decide (Zdv c.toNat = 1)
def Zch (f : List UInt8) : Option (List UInt8 × List UInt8) :=
 match ZcX [37, 115] f [] with
 | none => none
 | some (a, b) => if Zdj (a ++ b) /\ (a ++ b).length <= 5 then some (a, b) else none
def Zc3 (l : List UInt8) : Bool := Zdg 3 6 1 l
def ZaN (f : List UInt8) : Int :=
 let two := ZcX [47] f []
 if Zc3 f then 1
 else if (match two with | some (a, b) => Zc3 a && Zc3 b | none => false) then 2
 else if (Zch f).isSome then 3
 else if f = [37, 122] then 4
 else if (ZbT f).isSome || (match two with | some (a, b) => (ZbT a).isSome && (ZbT b).isSome | none => false) then 5
 else 0
def Zbn (f : List UInt8) : Option (List UInt8 × List UInt8) :=
 match ZcX [47] f [] with
 | none => none
 | some (a, b) => if ZaN f = 2 \/ ZaN f = 5 then some (a, b) else none
def Zca (f : List UInt8) (off save : Int) (letter : List UInt8) : List UInt8 × Int :=
 match Zbn f with
 | some (a, b) => (if save = 0 then a else b, 0)
 | none =>
  if ZaN f = 3 then (match Zch f with | some (a, b) => if Zc3 (a ++ letter ++ b) then (a ++ letter ++ b, 0) else ([], 15) | none => ([], 15))
  else if ZaN f = 4 then (if Zdu (off + save) = true /\ ZaW (off + save) ≠ [] then (ZaW (off + save), 0) else ([], 15))
  else if ZaN f = 1 \/ ZaN f = 5 then (f, 0)
  else ([], 15)
def Zd8 (f : List UInt8) : List (List UInt8) -> Int
 | [] => 0
 | x :: l => if (Zca f 0 0 x).2 = 0 then Zd8 f l else (Zca f 0 0 x).2
def Zdm (e : DEra) (l : List Zab) : Int :=
 let f := e.format.data.toList
 if ZaN f = 0 then 15
 else if ZaN f = 3 then Zd8 f (if e.kind = 2 then l.map (fun r => r.letter.data.toList) else [[]])
 else if ZaN f = 4 \/ ZaN f = 5 then (if (Zbb e l).2 ≠ 0 \/ (ZaN f = 5 /\ (Zbb e l).1 ≠ f) then 15 else 0)
 else 0
def ZaR (u : ZaY) (least : Int) : Int :=
 if least < -10800 \/ 0 < least then 2
 else if u.is = false then 4
 else if u.year < 1850 \/ 2149 < u.year \/ ZaP u.at_ = false then 3
 else
  let sec := if u.at_.base = 1 then u.at_.sec + least else u.at_.sec
  if (onD u.year u.month u.day).2 ≠ 0 \/ sec < -86400 \/ 172800 < sec then 3 else 0
def ZaS (u : ZaY) (least : Int) : Int × Int :=
 if ZaR u least ≠ 0 then (0, ZaR u least) else (86400 * (onD u.year u.month u.day).1 + u.at_.sec + (if u.at_.base = 1 then least else 0), 0)
structure Zag where
 year : Int
 rule : Int
 nominal : Int
 deriving DecidableEq
def Zag.enc (e : Zag) : List Value := [.int .i64 e.year, .int .i64 e.rule, .int .i64 e.nominal]
def dEv0 : Zag := ⟨0, 0, 0⟩
def lastY (r : Zab) : Int := if r.to = 1048576 then 2000000000 else min r.to 2000000000
def onR (least : Int) (r : Zab) (i y : Int) : Option Zag :=
 if y < max r.from_ (-2000000000) \/ lastY r < y \/ ZaP r.at_ = false then none
 else if (onD y r.month r.day).2 ≠ 0 then none
 else some ⟨y, i, 86400 * (onD y r.month r.day).1 + r.at_.sec + (if r.at_.base = 1 then max least (-10800) else 0)⟩
def ordE (a b : Zag) : Int := if a.nominal < b.nominal then -1 else if b.nominal < a.nominal then 1 else if a.rule < b.rule then -1 else if b.rule < a.rule then 1 else if a.year < b.year then -1 else if b.year < a.year then 1 else 0
end Go.Wk
namespace Go.Proofs.YtbjomhdhkpgbaaaGreatDoor
open Go Go.RowKit Go.Wk
def ZbP (x : ByteArray) : List Za6 -> Nat -> Option Nat
 | [], _ => none
 | z :: l, k => if z.name = x then some k else ZbP x l (k + 1)
def Zcp (x : ByteArray) : List ZbE -> Nat -> Option Nat
 | [], _ => none
 | z :: l, k => if z.name = x then some k else Zcp x l (k + 1)
def ZcW (s : Zac) : Nat -> List ByteArray -> ByteArray -> Nat × Int
 | 0, _, _ => (0, 11)
 | fuel + 1, seen, x =>
  match ZbP x s.zones 0 with
  | some i => (i, 0)
  | none => match Zcp x s.links 0 with
   | none => (0, 9)
   | some i => if memB x seen then (0, 11) else ZcW s fuel (x :: seen) ((s.links[i]?).map (·.target) |>.getD ByteArray.empty)
def Za9 (s : Zac) : List Za6 -> Nat -> Option (Zar × Int)
 | [], _ => none
 | z :: l, i => if Zhx z.name = false then some (⟨2, i, 0⟩, 9) else if ZbP z.name s.zones 0 ≠ some i then some (⟨2, i, 0⟩, 10) else Za9 s l (i + 1)
def Zbu (s : Zac) : List ZbE -> Nat -> Option (Zar × Int)
 | [], _ => none
 | l :: ls, i =>
  if Zhx l.name = false then some (⟨3, i, 0⟩, 9)
  else if (ZbP l.name s.zones 0).isSome \/ Zcp l.name s.links 0 ≠ some i then some (⟨3, i, 0⟩, 10)
  else if (ZbP l.target s.zones 0).isNone /\ (Zcp l.target s.links 0).isNone then some (⟨3, i, 0⟩, 9)
  else Zbu s ls (i + 1)
def Zbt (s : Zac) : List ZbE -> Nat -> Option (Zar × Int)
 | [], _ => none
 | l :: ls, i => if (ZcW s (s.links.length + 1) [] l.name).2 = 11 then some (⟨3, i, 0⟩, 11) else Zbt s ls (i + 1)
def ZcZ (s : Zac) : Option (Zar × Int) := (Za9 s s.zones 0).or ((Zbu s s.links 0).or (Zbt s s.links 0))
def insE (e : Zag) : List Zag -> List Zag
 | [] => [e]
 | x :: l => if ordE x e < 0 then e :: x :: l else x :: insE e l
def ZeA (least y : Int) : List Zab -> Nat -> List Zag -> List Zag
 | [], _, acc => acc
 | r :: l, i, acc => ZeA least y l (i + 1) (match onR least r i y with | some e => insE e acc | none => acc)
def ZdA (l : List Zab) (least from_ : Int) : Nat -> List Zag
 | 0 => []
 | k + 1 => ZeA least (from_ + k) l 0 (ZdA l least from_ k)
def Zhr : List Zag -> Option Zag
 | [] => none
 | [_] => none
 | a :: b :: l => (Zhr (b :: l)).or (if a.nominal - b.nominal < 259200 then some a else none)
def Zfu (l : List Zab) : Option Zag := Zhr (ZdA l (Zaj l) 1850 701)
def evIn (least nominal : Int) (r : Zab) (i y : Int) : Nat -> Option Zag
 | 0 => none
 | k + 1 => match onR least r i y with
  | some e => if nominal < e.nominal then some e else evIn least nominal r i (y + 1) k
  | none => evIn least nominal r i (y + 1) k
def ZbX (least nominal yr : Int) : List Zab -> Nat -> Option Zag -> Option Zag
 | [], _, best => best
 | r :: l, i, best =>
  ZbX least nominal yr l (i + 1) (match evIn least nominal r i (max (max r.from_ (-2000000000)) (yr - 2)) 20 with
   | none => best
   | some e => match best with | none => some e | some b => if ordE e b < 0 then some e else some b)
def ZeX (l : List Zab) (nominal : Int) : Option Zag := ZbX (Zaj l) nominal (Zez nominal) l 0 none
def farD (l : List Zab) (nominal : Int) : Bool :=
 match ZeX l (nominal - 259200) with
 | none => true
 | some e => decide (259200 <= e.nominal - nominal)
def Zeq (s : Zac) : Option (Zar × Int) :=
 if 2000 < s.rules.length then some (⟨1, 2000, 0⟩, 7)
 else if 500 < s.zones.length then some (⟨2, 500, 0⟩, 7)
 else match s.zones.findIdx? fun z => decide (60 < z.eras.length) with
  | some i => some (⟨2, i, 60⟩, 7)
  | none => if 1000 < s.links.length then some (⟨3, 1000, 0⟩, 7) else if 2000 < s.shifts.length then some (⟨4, 2000, 0⟩, 7) else none
def ZdL (set : ByteArray) : List Zab -> Nat -> Nat -> Zar
 | [], _, _ => ⟨0, 0, 0⟩
 | r :: l, i, k => if r.name = set then (match i with | 0 => ⟨1, k, 0⟩ | i + 1 => ZdL set l i (k + 1)) else ZdL set l i (k + 1)
def Zcd (rs : List Zab) (x : ByteArray) : Option (Nat × Int) :=
 if setB x = false then some (0, 9)
 else if (ZdZ (ofB rs x)).2 ≠ 0 then some (ZdZ (ofB rs x))
 else match Zfu (ofB rs x) with | some e => some (e.rule.toNat, 13) | none => none
def ZdI (rs : List Zab) : List ByteArray -> Option (Zar × Int)
 | [] => none
 | x :: l => match Zcd rs x with | some (i, e) => some (ZdL x rs i 0, e) | none => ZdI rs l
def Zhy (s : Zac) : Option (Zar × Int) := ZdI s.rules (ZaV s.rules [])
def Zbq (s : Zac) : List ByteArray -> List ByteArray -> Nat -> Option (Zar × Int)
 | [], _, _ => none
 | x :: l, seen, i =>
  let r := ofB s.rules x
  if r = [] then some (⟨4, i, 0⟩, 9)
  else if memB x seen then some (⟨4, i, 0⟩, 10)
  else if Zaj r ≠ 0 \/ (Zbi r).2 = false then some (⟨4, i, 0⟩, 14)
  else Zbq s l (seen ++ [x]) (i + 1)
def ZaD (rs : List Zab) (e : DEra) : List Zab := if e.kind = 2 then ofB rs e.set else []
def ZaG (rs : List Zab) (e : DEra) : List (Int × ByteArray) := if e.kind = 1 then [(e.save, ByteArray.empty)] else if e.kind = 2 then (ZaD rs e).map fun r => (r.save, r.letter) else [(0, ByteArray.empty)]
def Zby (off save : Int) : Bool := decide (-54000 <= off + save) && decide (off + save <= 54000)
def dU0 : ZaY := ⟨false, 0, 0, ⟨0, 0, 0⟩, ⟨0, 0⟩⟩
def ZeC (e : DEra) : Bool := (!decide (e.kind = 1) && !decide (e.save = 0)) || (!decide (e.kind = 2) && !decide (e.set = ByteArray.empty)) || (!e.til.is && !decide ({ e.til with is := false } = dU0))
def ZcO (rs : List Zab) (e : DEra) (first : Bool) : Int :=
 if e.kind < 0 \/ 2 < e.kind then 2
 else if first = true /\ e.kind = 2 then 12
 else if e.kind = 2 /\ ZaD rs e = [] then 9
 else if e.kind = 1 /\ (e.save < 1 \/ 10800 < e.save) then 14
 else if Zby e.off 0 = false \/ ((ZaG rs e).any fun x => !Zby e.off x.1) = true then 3
 else if ZeC e then 2
 else Zdm e (ZaD rs e)
def dE0 : DEra := ⟨0, 0, 0, ByteArray.empty, ByteArray.empty, dU0⟩
def Zft (rs : List Zab) (l : List DEra) (k : Nat) : Int :=
 let e := l.getD k dE0
 if e.til.is ≠ decide (k + 1 < l.length) then 12
 else if e.til.is = false then 0
 else
  let least := Zaj (ZaD rs e)
  if ZaR e.til least ≠ 0 then ZaR e.til least
  else
   let n := (ZaS e.til least).1
   let b := l.getD (k - 1) dE0
   if 0 < k /\ ((ZaS b.til (Zaj (ZaD rs b))).2 ≠ 0 \/ n - (ZaS b.til (Zaj (ZaD rs b))).1 < 259200) then 12
   else if e.kind = 2 /\ farD (ZaD rs e) n = false then 13
   else 0
def addP (x : Int × List UInt8) (l : List (Int × List UInt8)) : List (Int × List UInt8) := if x ∈ l then l else l ++ [x]
def addA (x : List UInt8) (l : List (List UInt8)) : List (List UInt8) := if x ∈ l then l else l ++ [x]
def stGo (e : DEra) : List (Int × ByteArray) -> List (Int × List UInt8) × List (List UInt8) -> List (Int × List UInt8) × List (List UInt8)
 | [], acc => acc
 | x :: l, acc =>
  let a := (Zca e.format.data.toList e.off x.1 x.2.data.toList).1
  stGo e l (addP (e.off + x.1, a) acc.1, addA a acc.2)
def erGo (rs : List Zab) : List DEra -> List (Int × List UInt8) × List (List UInt8) -> List (Int × List UInt8) × List (List UInt8)
 | [], acc => acc
 | e :: l, acc => erGo rs l (stGo e (ZaG rs e) acc)
def Zdb : List (List UInt8) -> Nat
 | [] => 0
 | x :: l => x.length + 1 + Zdb l
def Zfs (rs : List Zab) (z : Za6) : Bool := decide ((erGo rs z.eras ([], [])).1.length <= 120) && decide (Zdb (erGo rs z.eras ([], [])).2 <= 250)
def Zcf (rs : List Zab) (l : List DEra) (i : Nat) : Nat -> Nat -> Option (Zar × Int)
 | 0, _ => none
 | f + 1, k =>
  if ZcO rs (l.getD k dE0) (decide (k = 0)) ≠ 0 then some (⟨2, i, k⟩, ZcO rs (l.getD k dE0) (decide (k = 0)))
  else if Zft rs l k ≠ 0 then some (⟨2, i, k⟩, Zft rs l k)
  else Zcf rs l i f (k + 1)
def Zbz (rs : List Zab) : List Za6 -> Nat -> Option (Zar × Int)
 | [], _ => none
 | z :: l, i =>
  if z.eras = [] then some (⟨2, i, 0⟩, 4)
  else match Zcf rs z.eras i z.eras.length 0 with
   | some x => some x
   | none => if Zfs rs z = false then some (⟨2, i, 0⟩, 7) else Zbz rs l (i + 1)
def accD (s : Zac) : Option (Zar × Int) := (Zeq s).or ((Zhy s).or ((Zbq s s.shifts [] 0).or ((ZcZ s).or (Zbz s.rules s.zones 0))))
def Za0 (form : Int) (s : Zac) : Option (Zar × Int) :=
 if form < 1 \/ 3 < form then some (⟨0, 0, 0⟩, 2)
 else match s.rules.findIdx? fun r => decide (r.save < 0) && decide (form = 3) with
  | some i => some (⟨1, i, 0⟩, 17)
  | none =>
   let wrong := fun e : DEra => (decide (ZaN e.format.data.toList = 4) && !decide (form = 1)) || (decide (ZaN e.format.data.toList = 5) && decide (form = 1))
   match s.zones.findIdx? fun z => z.eras.any wrong with
   | some i => some (⟨2, i, (((s.zones[i]?).map fun z => ((z.eras.findIdx? wrong).getD 0)).getD 0)⟩, 17)
   | none => if 0 < s.shifts.length /\ form ≠ 3 then some (⟨4, 0, 0⟩, 17) else none
def Zb7 (s : Zac) : List Int := if (accD s).isSome then [] else [1, 2, 3].filter fun f => (Za0 f s).isNone
def mvC (c : Zb1) (x : Int) : Zb1 := if c.base = 1 then ⟨c.sec - x, c.base⟩ else c
def shR (x : Int) (r : Zab) : Zab := { r with at_ := mvC r.at_ x, save := r.save + x }
def shN (set : ByteArray) (x : Int) (r : Zab) : Zab := if r.name = set then shR x r else r
def shU (u : ZaY) (x : Int) : ZaY := if u.is = true then { u with at_ := mvC u.at_ x } else u
def ZeR (set : ByteArray) (e : DEra) : Prop := e.kind = 2 /\ e.set = set
instance (set : ByteArray) (e : DEra) : Decidable (ZeR set e) := inferInstanceAs (Decidable (e.kind = 2 /\ e.set = set))
def shE (set : ByteArray) (x : Int) (e : DEra) : DEra := if ZeR set e then { e with off := e.off - x, til := shU e.til x } else e
def Zcb (f : ByteArray) : ByteArray := match Zbn f.data.toList with
 | some (a, b) => ⟨(b ++ 47 :: a).toArray⟩
 | none => f
def Zb4 (set : ByteArray) (e : DEra) : DEra := if ZeR set e then { e with format := Zcb e.format } else e
def Za4 (f : DEra -> DEra) (z : Za6) : Za6 := ⟨z.name, z.eras.map f⟩
def erasS (f : DEra -> DEra) (s : Zac) : Zac := ⟨s.rules, s.zones.map (Za4 f), s.links, s.shifts⟩
def shiftS (set : ByteArray) (x : Int) (s : Zac) : Zac := ⟨s.rules.map (shN set x), s.zones.map (Za4 (shE set x)), s.links, s.shifts⟩
def byS (s : Zac) (set : ByteArray) (x : Int) : Zac := erasS (Zb4 set) (shiftS set x s)
def pctB : ByteArray := ⟨#[37, 122]⟩
def unGo : List ByteArray -> Zac -> Zac
 | [], s => s
 | x :: l, s => unGo l (byS s x (-(Zbi (ofB s.rules x)).1))
def ZaA (s : Zac) : Zac := { unGo s.shifts s with shifts := [] }
def numB (rs : List Zab) (e : DEra) : ByteArray := ⟨(Zbb e (ZaD rs e)).1.toArray⟩
def Zcg (e : DEra) : DEra := if ZaN e.format.data.toList = 5 then { e with format := pctB } else e
def ZaL (s : Zac) : Zac := erasS Zcg s
def expE (rs : List Zab) (e : DEra) : DEra := if e.format = pctB then { e with format := numB rs e } else e
def ZbW (s : Zac) : Zac := erasS (expE s.rules) s
def Zer : List ByteArray -> Zac -> Zac
 | [], s => s
 | x :: l, s => if Zaj (ofB s.rules x) < 0 then Zer l { byS s x (-Zaj (ofB s.rules x)) with shifts := s.shifts ++ [x] } else Zer l s
def Zrb (s : Zac) : Zac := Zer (ZaV s.rules []) s
def toD (form : Int) (s : Zac) : Zac :=
 let v := ZaL (ZaA s)
 if form = 1 then v else if form = 2 then ZbW v else Zrb (ZbW v)
theorem Zk4 {f : DEra -> DEra} {s : Zac} (h : ∀ z ∈ s.zones, ∀ e ∈ z.eras, f e = e) : erasS f s = s := by
 have hz : s.zones.map (Za4 f) = s.zones := by
  refine (List.map_congr_left fun z hz => ?_).trans (List.map_id _)
  unfold Za4
  rw [(List.map_congr_left fun e he => h z hz e he : z.eras.map f = z.eras.map id), List.map_id]
  rfl
 unfold erasS
 rw [hz]
theorem Zyi (c : Zb1) : mvC c 0 = c := by
 unfold mvC
 split
 ·rw [Int.sub_zero]
 ·rfl
theorem Zs2 (c : Zb1) (x y : Int) : mvC (mvC c x) y = mvC c (x + y) := by
 unfold mvC
 by_cases h : c.base = 1
 ·rw [if_pos h, if_pos h, if_pos h]
  dsimp only
  rw [Int.sub_sub]
 ·rw [if_neg h, if_neg h, if_neg h]
theorem Zjq (r : Zab) : shR 0 r = r := by
 unfold shR
 rw [Zyi, Int.add_zero]
theorem Zx0 (r : Zab) (x y : Int) : shR y (shR x r) = shR (x + y) r := by
 unfold shR
 dsimp only
 rw [Zs2, Int.add_assoc]
theorem Zzc (u : ZaY) : shU u 0 = u := by
 unfold shU
 rw [Zyi]
 split <;> rfl
theorem ZxZ (u : ZaY) (x y : Int) : shU (shU u x) y = shU u (x + y) := by
 unfold shU
 by_cases h : u.is = true
 ·rw [if_pos h, if_pos h, if_pos h]
  dsimp only
  rw [Zs2]
 ·rw [if_neg h, if_neg h, if_neg h]
def inM (n : Int) : Bool := decide (-1000000000 <= n) && decide (n <= 1000000000)
theorem ZbO {n : Int} : inM n = true ↔ -1000000000 <= n /\ n <= 1000000000 := by unfold inM; simp
def rulM (r : Zab) : Bool := inM r.save && inM r.at_.sec
def eraM (e : DEra) : Bool := inM e.off && (inM e.save && (inM e.til.at_.sec && decide (e.format.size <= 1000)))
def srcM (s : Zac) : Bool := s.rules.all rulM && s.zones.all fun z => z.eras.all eraM
def hasN (s : Zac) (x : ByteArray) : Bool := s.rules.any fun r => decide (r.name = x)
def rngB (s : Zac) (x : ByteArray) (y : Int) : Bool := hasN s x && (srcM s && inM y)
def unB : List ByteArray -> Zac -> Bool
 | [], _ => true
 | x :: l, s => rngB s x (-(Zbi (ofB s.rules x)).1) && unB l (byS s x (-(Zbi (ofB s.rules x)).1))
def reB : List ByteArray -> Zac -> Bool
 | [], _ => true
 | x :: l, s => if Zaj (ofB s.rules x) < 0 then rngB s x (-Zaj (ofB s.rules x)) && reB l { byS s x (-Zaj (ofB s.rules x)) with shifts := s.shifts ++ [x] } else reB l s
def conE (rs : List Zab) (e : DEra) : Bool := !decide (ZaN e.format.data.toList = 5) || (decide ((Zbb e (ZaD rs e)).2 = 0) && decide ((Zbb e (ZaD rs e)).1 = e.format.data.toList))
def conB (s : Zac) : Bool := s.zones.all fun z => z.eras.all (conE s.rules)
def expZ (rs : List Zab) (e : DEra) : Bool := !decide (e.format = pctB) || decide ((Zbb e (ZaD rs e)).2 = 0)
def expB (s : Zac) : Bool := s.zones.all fun z => z.eras.all (expZ s.rules)
def toB (form : Int) (s : Zac) : Bool :=
 unB s.shifts s && (srcM (ZaA s) && (conB (ZaA s) && (decide (form = 1) || (srcM (ZaL (ZaA s)) && (expB (ZaL (ZaA s)) && (decide (form = 2) || (srcM (ZbW (ZaL (ZaA s))) && reB (ZaV (ZbW (ZaL (ZaA s))).rules []) (ZbW (ZaL (ZaA s))))))))))
theorem ZjZ (a : List Value) : ∀ (vs cs : List Value) (j : Nat), lay (a ++ cs) (a.length + j) vs = a ++ lay cs j vs
 | [], _, _ => rfl
 | v :: r, cs, j => by
  rw [lay, lay, List.set_append_right _ _ (by omega), Nat.add_sub_cancel_left, Nat.add_assoc, ZjZ a r _ (j + 1)]
theorem ZmD (c : List Value) : ∀ (vs a : List Value) (j : Nat), j + vs.length <= a.length -> lay (a ++ c) j vs = lay a j vs ++ c
 | [], _, _, _ => rfl
 | v :: r, a, j, h => by
  simp only [List.length_cons] at h
  rw [lay, lay, List.set_append_left _ _ (by omega), ZmD c r _ (j + 1) (by rw [List.length_set]; omega)]
theorem Zdn {α : Type} {enc : α -> List Value} {sz : Nat} (hsz : ∀ x, (enc x).length = sz) (off : Nat) (vs : List Value) (hb : off + vs.length <= sz) (x y : α) (he : lay (enc x) off vs = enc y) : ∀ (l : List α) (k : Nat), l[k]? = some x -> lay (l.flatMap enc) (k * sz + off) vs = (l.set k y).flatMap enc
 | [], k, h => by simp at h
 | z :: l, 0, h => by
  simp only [List.getElem?_cons_zero, Option.some.injEq] at h
  subst h
  rw [List.flatMap_cons, List.set_cons_zero, List.flatMap_cons, <- he, Nat.zero_mul, Nat.zero_add, ZmD _ _ _ _ (by rw [hsz]; exact hb)]
 | z :: l, k + 1, h => by
  have ih := Zdn hsz off vs hb x y he l k (by simpa using h)
  rw [List.flatMap_cons, List.set_cons_succ, List.flatMap_cons, <- ih, show (k + 1) * sz + off = (enc z).length + (k * sz + off) by rw [hsz, Nat.add_mul]; omega, ZjZ]
end Go.Proofs.YtbjomhdhkpgbaaaGreatDoor
namespace Go.Wk
open Go Go.RowKit
theorem walkB1 {G G' : Prop} (k : G') (h : Hold G' -> G := by intro k; (first | (apply Go.Wk.RL_pu; rfl; exact Go.Wk.PuA) | (apply Go.Wk.RL_st0; refine Go.Wk.stA ?_) | apply Go.Wk.W_seq | apply Go.Wk.W_region | apply Go.Wk.RL_nil | apply Go.Wk.thenQ_n | apply Go.Wk.W_skip | apply Go.Wk.W_ret | apply Go.Wk.W_exit | apply Go.Wk.thenQ_r | apply Go.Wk.thenQ_e | apply Go.Wk.blockQ_n | apply Go.Wk.blockQ_r | apply Go.Wk.blockQ_hit | (apply Go.Wk.blockQ_miss; rfl) | (apply Go.Wk.W_true; rfl) | (apply Go.Wk.W_false; rfl) | (apply Go.Wk.RL_yes; rfl; rfl; rfl) | (apply Go.Wk.RL_no; rfl; rfl; rfl; rfl; rfl) | (apply Go.Wk.W_draw; rfl; decide +kernel) | apply Go.Wk.RD_done | (apply Go.Wk.RD_Q; rfl; rfl; decide +kernel; rfl; rfl; exact Go.Wk.QyA) | (apply Go.Wk.RD_N; rfl; rfl; decide +kernel; rfl; rfl; rfl) | (apply Go.Wk.RD_A; rfl; rfl; decide +kernel; rfl; rfl; first | exact Go.Wk.Ay_alloc | exact Go.Wk.Ay_buildSlice0 | (apply Go.Wk.Ay_buildSliceC; rfl; rfl; rfl; rfl; exact Go.Wk.NfA) | (apply Go.Wk.Ay_buildSliceNf; rfl; rfl; rfl; exact Go.Wk.NfA))); exact k.out) : G := h ⟨k⟩
theorem ZlM {G G' : Prop} (k : G') (h : Hold G' -> G := by intro k; refine Go.Wk.walkB1 ?_; (repeat refine Go.Wk.walkB1 ?_); exact k.out) : G := h ⟨k⟩
end Go.Wk
