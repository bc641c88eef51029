/- Parts of the proof. -/
import Derived.Test.YtbjomhdhkpgbaaaGreatDoorY05
import Derived.Test.YtbjomhdhkpgbaaaGreatDoorY04
import Derived.Test.YtbjomhdhkpgbaaaGreatDoorY01
set_option maxHeartbeats 4000000
set_option linter.unusedVariables false
set_option linter.unusedSimpArgs false
namespace Go.Proofs.YtbjomhdhkpgbaaaGreatDoor
open Go Go.RowKit Go.Wk
attribute [local irreducible] W RL Does Zap Zak retQ Calls Pu Stp RD Qy Ay
def ofB (l : List DRule) (x : ByteArray) : List DRule := l.filter fun r => decide (r.name = x)
def ZhD {α : Type} (e sz : Nat) (enc : α -> List Value) (l : List α) (v : Value) (O : List It) : Prop := ∃ A c, v = .slice A l.length c /\ O = [.row (.slice A l.length c) e sz l.length (l.flatMap enc)]
def ZaP : List DRule -> List ByteArray -> List ByteArray
 | [], acc => acc
 | r :: l, acc => if memB r.name acc then ZaP l acc else ZaP l (acc ++ [r.name])
theorem Zio (x y : ByteArray) : ∀ l : List ByteArray, memB x (l ++ [y]) = (memB x l || decide (y = x))
 | [] => by simp [memB]
 | z :: l => by simp [memB, Zio x y l, Bool.or_assoc]
theorem Zcs (A : Option Addr) (c : Nat) (x : List DRule) (w : World) (hA : RdSl w A c DRule.enc 11 x) (hn : x.length <= 1000000) :
  Does Tryz.prog 63 [.slice A x.length c] w (ZhD 56 11 DRule.enc x) := by
 refine Zaa Tryz.func63 rfl rfl rfl rfl ?_
 repeat (first | (refine js ?_; (refine bx ?_; intro bk)) | refine walk ?_)
 refine Zah rfl (fun h1 => ?_) (fun h1 => ?_)
 ·obtain rfl := hA.none h1
  refine Zdu 56 11 ?_
  repeat (first | (refine js ?_; (refine bx ?_; intro bk)) | refine walk ?_)
  exact ret_1 _ [.row (.slice none 0 0) 56 11 0 []] (.tmp rfl) SOA ⟨none, 0, rfl, rfl⟩
 repeat (first | (refine js ?_; (first | (apply Zdo; rfl; rfl; (intro A' c'; (focus repeat' constructor)); (intro w' hw _; exact (hA.up hw).rd.raw DRule.len (by decide)); exact ZaE DRule.len x; exact ZcC oneR x; (simp only [maxLen]; omega); omega; intro A' c' hc1 hc2 hc3) | (refine bx ?_; intro bk))) | refine walk ?_)
 exact ret_1 _ _ (.tmp rfl) (.refl _) ⟨A', c', rfl, rfl⟩
theorem Zcr (A : Option Addr) (c : Nat) (x : List ByteArray) (w : World) (hA : RdSl w A c ZaI 1 x) (hn : x.length <= 1000000) :
  Does Tryz.prog 65 [.slice A x.length c] w (ZhD 9 1 ZaI x) := by
 refine Zaa Tryz.func65 rfl rfl rfl rfl ?_
 repeat (first | (refine js ?_; (refine bx ?_; intro bk)) | refine walk ?_)
 refine Zah rfl (fun h1 => ?_) (fun h1 => ?_)
 ·obtain rfl := hA.none h1
  refine Zdu 9 1 ?_
  repeat (first | (refine js ?_; (refine bx ?_; intro bk)) | refine walk ?_)
  exact ret_1 _ [.row (.slice none 0 0) 9 1 0 []] (.tmp rfl) SOA ⟨none, 0, rfl, rfl⟩
 repeat (first | (refine js ?_; (first | (apply Zdo; rfl; rfl; (intro A' c'; (focus repeat' constructor)); (intro w' hw _; exact (hA.up hw).rd.raw ZaI.len (by decide)); exact ZaE ZaI.len x; exact ZcC oneS x; (simp only [maxLen]; omega); omega; intro A' c' hc1 hc2 hc3) | (refine bx ?_; intro bk))) | refine walk ?_)
 exact ret_1 _ _ (.tmp rfl) (.refl _) ⟨A', c', rfl, rfl⟩
theorem Zct (A : Option Addr) (c : Nat) (x : List DEra) (w : World) (hA : RdSl w A c DEra.enc 13 x) (hn : x.length <= 1000000) :
  Does Tryz.prog 66 [.slice A x.length c] w (ZhD 54 13 DEra.enc x) := by
 refine Zaa Tryz.func66 rfl rfl rfl rfl ?_
 repeat (first | (refine js ?_; (refine bx ?_; intro bk)) | refine walk ?_)
 refine Zah rfl (fun h1 => ?_) (fun h1 => ?_)
 ·obtain rfl := hA.none h1
  refine Zdu 54 13 ?_
  repeat (first | (refine js ?_; (refine bx ?_; intro bk)) | refine walk ?_)
  exact ret_1 _ [.row (.slice none 0 0) 54 13 0 []] (.tmp rfl) SOA ⟨none, 0, rfl, rfl⟩
 repeat (first | (refine js ?_; (first | (apply Zdo; rfl; rfl; (intro A' c'; (focus repeat' constructor)); (intro w' hw _; exact (hA.up hw).rd.raw DEra.len (by decide)); exact ZaE DEra.len x; exact ZcC oneE x; (simp only [maxLen]; omega); omega; intro A' c' hc1 hc2 hc3) | (refine bx ?_; intro bk))) | refine walk ?_)
 exact ret_1 _ _ (.tmp rfl) (.refl _) ⟨A', c', rfl, rfl⟩
theorem Zed (A : Option Addr) (c : Nat) (x : List DLink) (w : World) (hA : RdSl w A c DLink.enc 2 x) (hn : x.length <= 1000000) :
  Does Tryz.prog 64 [.slice A x.length c] w (ZhD 69 2 DLink.enc x) := by
 refine Zaa Tryz.func64 rfl rfl rfl rfl ?_
 repeat (first | (refine js ?_; (refine bx ?_; intro bk)) | refine walk ?_)
 refine Zah rfl (fun h1 => ?_) (fun h1 => ?_)
 ·obtain rfl := hA.none h1
  refine Zdu 69 2 ?_
  repeat (first | (refine js ?_; (refine bx ?_; intro bk)) | refine walk ?_)
  exact ret_1 _ [.row (.slice none 0 0) 69 2 0 []] (.tmp rfl) SOA ⟨none, 0, rfl, rfl⟩
 repeat (first | (refine js ?_; (first | (apply Zdo; rfl; rfl; (intro A' c'; (focus repeat' constructor)); (intro w' hw _; exact (hA.up hw).rd.raw DLink.len (by decide)); exact ZaE DLink.len x; exact ZcC oneL x; (simp only [maxLen]; omega); omega; intro A' c' hc1 hc2 hc3) | (refine bx ?_; intro bk))) | refine walk ?_)
 exact ret_1 _ _ (.tmp rfl) (.refl _) ⟨A', c', rfl, rfl⟩
end Go.Proofs.YtbjomhdhkpgbaaaGreatDoor
namespace Go.Wk
open Go Go.RowKit
def ZwM (y : Int) : Bool := decide (y % 4 = 0) && (!decide (y % 100 = 0) || decide (y % 400 = 0))
def lenM (y m : Int) : Int := if m < 1 \/ 12 < m then 0 else if m = 2 then (if ZwM y then 29 else 28) else if m = 4 \/ m = 6 \/ m = 9 \/ m = 11 then 30 else 31
def inY (y : Int) : Bool := decide (-2000000000 <= y) && decide (y <= 2000000000)
def Zbd : List Int := [0, 31, 61, 92, 122, 153, 184, 214, 245, 275, 306, 337]
def Zht (y m d : Int) : Int := y / 400 * 146097 + y % 400 * 365 + y % 400 / 4 - y % 400 / 100 + Zbd.getD (m - 3).toNat 0 + d - 1 - 719468
def ZbV (y m d : Int) : Int := if m < 3 then Zht (y - 1) (m + 12) d else Zht y m d
def Zb5 (y m d : Int) : Bool := inY y && decide (1 <= d) && decide (d <= lenM y m)
def ZlR (n : Int) : Int := (n + 4) % 7
theorem Zk0 (y m : Int) : 0 <= lenM y m /\ lenM y m <= 31 := by
 unfold lenM
 split
 ·omega
 ·split
  ·split <;> omega
  ·split <;> omega
theorem ZpL (n : Int) : 0 <= ZlR n /\ ZlR n <= 6 := by unfold ZlR; omega
theorem Zfj (k : Nat) : 0 <= Zbd.getD k 0 /\ Zbd.getD k 0 <= 337 := by
 by_cases h : k < 12
 ·have : k = 0 \/ k = 1 \/ k = 2 \/ k = 3 \/ k = 4 \/ k = 5 \/ k = 6 \/ k = 7 \/ k = 8 \/ k = 9 \/ k = 10 \/ k = 11 := by omega
  rcases this with rfl | rfl | rfl | rfl | rfl | rfl | rfl | rfl | rfl | rfl | rfl | rfl <;> decide
 ·rw [List.getD_eq_getElem?_getD, List.getElem?_eq_none (by simp [Zbd]; omega)]
  decide
def Zev (r : Int) : Int := (r - r / 1460 + r / 36524 - r / 146096) / 365
def monN (r : Int) : Nat -> Nat
 | 0 => 0
 | m + 1 => if Zbd.getD (m + 1) 0 <= r then m + 1 else monN r m
def Zxf (n : Int) : Int :=
 let c := (n + 719468) / 146097
 let r := (n + 719468) % 146097
 let y := Zev r
 let q := r - (y * 365 + y / 4 - y / 100)
 if 10 <= monN q 11 then c * 400 + y + 1 else c * 400 + y
def Zez (t : Int) : Int := min (max (Zxf (t / 86400)) (-2000000000)) 2000000000
def ZnM (k : Int) : Bool := !decide (k = 1)
def dayK (k : Int) : Bool := !decide (k = 2)
def Zdl (d : DDay) : Bool := decide (1 <= d.kind) && decide (d.kind <= 4) && !((!decide (d.week = 0) && !ZnM d.kind) || decide (d.week < 0) || decide (6 < d.week) || (dayK d.kind == decide (d.day = 0)) || decide (d.day < 0) || decide (31 < d.day))
def ZfT (x w : Int) : Int := x + (w - ZlR x + 7) % 7
def ZeX (x w : Int) : Int := x - (ZlR x - w + 7) % 7
def Zfr (first last : Int) (d : DDay) : Int := if d.kind = 1 then first + d.day - 1 else if d.kind = 2 then ZeX last d.week else if d.kind = 3 then ZfT (first + d.day - 1) d.week else ZeX (first + d.day - 1) d.week
def onD (y m : Int) (d : DDay) : Int × Int :=
 if Zb5 y m 1 = false then (0, 3) else if Zdl d = false then (0, 2) else if lenM y m < d.day then (0, 4) else (Zfr (ZbV y m 1) (ZbV y m 1 + lenM y m - 1) d, 0)
def ZfU (from_ to m : Int) (d : DDay) : Bool :=
 if m < 1 \/ 12 < m \/ Zdl d = false then false
 else if (to < 1048576 /\ to < from_) \/ d.day <= lenM 1 m then true
 else if 1048576 <= to \/ from_ ≠ to \/ m ≠ 2 then false
 else decide (d.day <= lenM (from_.tmod 400) m)
def ZaQ (c : DClock) : Bool := decide (-604799 <= c.sec) && decide (c.sec <= 604799) && decide (0 <= c.base) && decide (c.base <= 2)
def Zds (c : Nat) : Nat := if (65 <= c /\ c <= 90) \/ (97 <= c /\ c <= 122) then 1 else if 48 <= c /\ c <= 57 then 2 else if c = 95 then 4 else if c = 45 then 8 else if c = 46 \/ c = 43 then 16 else 0
def ZcQ (some_ : Nat) (l : List UInt8) : Bool := l.all fun c => !decide (Zds c.toNat &&& some_ = 0)
def Zdc (least most some_ : Nat) (l : List UInt8) : Bool := decide (least <= l.length) && decide (l.length <= most) && ZcQ some_ l
def Zgp : List UInt8 -> List UInt8 -> List (List UInt8)
 | [], acc => [acc]
 | c :: l, acc => if c = 47 then acc :: Zgp l [] else Zgp l (acc ++ [c])
def Zwu (l : List UInt8) : Bool := Zdc 1 14 31 l && !(match l with | c :: _ => decide (c = 46) || decide (c = 45) | [] => false)
def Zhz (s : ByteArray) : Bool := decide (s.size <= 60) && (Zgp s.data.toList []).all Zwu
def setB (s : ByteArray) : Bool := Zdc 1 30 15 s.data.toList && Zdc 1 1 1 (s.data.toList.take 1)
def ZgU (s : ByteArray) : Bool := Zdc 1 4 1 s.data.toList
def Zsd (s : ByteArray) : Bool := Zdc 3 6 1 s.data.toList
def Zai (l : List DRule) : Int := l.foldl (fun m r => min m r.save) 0
def ZcP : List DRule -> Int -> Int × Bool
 | [], x => (x, !decide (x = 0))
 | r :: l, x => if r.save = 0 then ZcP l x else if x ≠ 0 /\ r.save ≠ x then (0, false) else ZcP l r.save
def Zbg (l : List DRule) : Int × Bool := ZcP l 0
def Zck (y : Int) : Bool := decide (1850 <= y) && decide (y <= 2149)
def Zeq (c : DClock) (least : Int) : Bool := ZaQ c && (let n := if c.base = 1 then c.sec + least else c.sec; decide (-86400 <= n) && decide (n <= 172800))
def ZbJ (r : DRule) (least : Int) : Int :=
 if (Zck r.from_ && (Zck r.to || decide (r.to = 1048576))) = false then 3
 else if r.to < r.from_ then 12
 else if ZfU r.from_ r.to r.month r.day = false then 3
 else if Zeq r.at_ least = false then 3
 else if (decide (-10800 <= r.save) && decide (r.save <= 10800)) = false then 14
 else if (decide (r.letter = ByteArray.empty) || ZgU r.letter) = false then 15
 else 0
def Zcj (r : DRule) : Bool := if r.day.kind = 2 then true else if r.day.kind = 3 then decide (r.day.day.tmod 7 = 1) && decide (r.day.day < 29) else if r.day.kind = 1 then !decide (r.month = 2) || !decide (r.day.day = 29) else false
def ZhB (l : List DRule) : Bool :=
 match l.filter fun r => decide (r.to = 1048576) with
 | [] => true
 | [a, b] => (decide (a.save = 0) != decide (b.save = 0)) && !decide (a.month = b.month) && Zcj a && Zcj b
 | _ => false
def Zbc (least : Int) : List DRule -> Nat -> Option (Nat × Int)
 | [], _ => none
 | r :: l, k => if ZbJ r least = 0 then Zbc least l (k + 1) else some (k, ZbJ r least)
def ZdE (l : List DRule) : Nat × Int :=
 match Zbc (Zai l) l 0 with
 | some x => x
 | none =>
  if (l.any fun r => decide (r.save = 0)) = false \/ (Zai l < 0 /\ (l.any fun r => !decide (r.save = 0) && !decide (r.save = Zai l)) = true) then (0, 14)
  else if ZhB l = false then (0, 16)
  else (0, 0)
def dig2 (n : Int) : List UInt8 := [UInt8.ofNat (48 + (n / 10).toNat), UInt8.ofNat (48 + (n % 10).toNat)]
def ZaS (off : Int) : List UInt8 :=
 if off <= -86400 \/ 86400 <= off then []
 else
  let x := if off < 0 then -off else off
  (if off < 0 then (45 : UInt8) else 43) :: (dig2 (x / 3600) ++ (if x % 3600 = 0 then [] else dig2 (x / 60 % 60)) ++ (if x % 60 = 0 then [] else dig2 (x % 60)))
def numU (l : List UInt8) : Option Int := if l.isEmpty then none else if l.all (fun c => decide (48 <= c) && decide (c <= 57)) then some (l.foldl (fun n c => n * 10 + ((c.toNat : Int) - 48)) 0) else none
def ZfN (l : List UInt8) : List Int -> Nat -> Int -> Option Int
 | [], _, off => some off
 | u :: us, i, off => if l.length <= 1 + 2 * i then some off else match numU ((l.drop (1 + 2 * i)).take 2) with | none => none | some n => ZfN l us (i + 1) (off + n * u)
def ZbQ (l : List UInt8) : Option Int :=
 match ZfN l [3600, 60, 1] 0 0 with
 | none => none
 | some o => let off := if l.head? = some 45 then -o else o
  if l.isEmpty \/ ZaS off ≠ l then none else some off
def Zdr (n : Int) : Bool := decide (-9223372036854775808 <= n) && decide (n <= 9223372036854775807)
def Zd7 (off : Int) : List Int -> Option (List (List UInt8))
 | [] => some []
 | x :: l => if Zdr (off + x) = false \/ ZaS (off + x) = [] then none else match Zd7 off l with | none => none | some r => some (ZaS (off + x) :: r)
def Zb9 : List (List UInt8) -> List UInt8
 | [] => []
 | [x] => x
 | x :: l => x ++ 47 :: Zb9 l
def Zba (e : DEra) (l : List DRule) : List UInt8 × Int :=
 let j := fun s => match Zd7 e.off s with | none => ([], (3 : Int)) | some r => (Zb9 r, 0)
 if e.kind = 0 then j [0]
 else if e.kind = 1 then j [e.save]
 else if e.kind = 2 then (if (Zbg l).2 then j [0, (Zbg l).1] else if (l.any fun r => !decide (r.save = 0)) then ([], 14) else j [0])
 else ([], 2)
def ZcT (p : List UInt8) : List UInt8 -> List UInt8 -> Option (List UInt8 × List UInt8)
 | [], acc => if p = [] then some (acc, []) else none
 | c :: l, acc => if p.isPrefixOf (c :: l) then some (acc, (c :: l).drop p.length) else ZcT p l (acc ++ [c])
def Zdg (l : List UInt8) : Bool := l.all fun c => decide (Zds c.toNat = 1)
def Zcc (f : List UInt8) : Option (List UInt8 × List UInt8) :=
 match ZcT [37, 115] f [] with
 | none => none
 | some (a, b) => if Zdg (a ++ b) /\ (a ++ b).length <= 5 then some (a, b) else none
def ZcZ (l : List UInt8) : Bool := Zdc 3 6 1 l
def ZaK (f : List UInt8) : Int :=
 let two := ZcT [47] f []
 if ZcZ f then 1
 else if (match two with | some (a, b) => ZcZ a && ZcZ b | none => false) then 2
 else if (Zcc f).isSome then 3
 else if f = [37, 122] then 4
 else if (ZbQ f).isSome || (match two with | some (a, b) => (ZbQ a).isSome && (ZbQ b).isSome | none => false) then 5
 else 0
def Zbk (f : List UInt8) : Option (List UInt8 × List UInt8) :=
 match ZcT [47] f [] with
 | none => none
 | some (a, b) => if ZaK f = 2 \/ ZaK f = 5 then some (a, b) else none
def Zb7 (f : List UInt8) (off save : Int) (letter : List UInt8) : List UInt8 × Int :=
 match Zbk f with
 | some (a, b) => (if save = 0 then a else b, 0)
 | none =>
  if ZaK f = 3 then (match Zcc f with | some (a, b) => if ZcZ (a ++ letter ++ b) then (a ++ letter ++ b, 0) else ([], 15) | none => ([], 15))
  else if ZaK f = 4 then (if Zdr (off + save) = true /\ ZaS (off + save) ≠ [] then (ZaS (off + save), 0) else ([], 15))
  else if ZaK f = 1 \/ ZaK f = 5 then (f, 0)
  else ([], 15)
def Zd8 (f : List UInt8) : List (List UInt8) -> Int
 | [] => 0
 | x :: l => if (Zb7 f 0 0 x).2 = 0 then Zd8 f l else (Zb7 f 0 0 x).2
def Zdj (e : DEra) (l : List DRule) : Int :=
 let f := e.format.data.toList
 if ZaK f = 0 then 15
 else if ZaK f = 3 then Zd8 f (if e.kind = 2 then l.map (fun r => r.letter.data.toList) else [[]])
 else if ZaK f = 4 \/ ZaK f = 5 then (if (Zba e l).2 ≠ 0 \/ (ZaK f = 5 /\ (Zba e l).1 ≠ f) then 15 else 0)
 else 0
def ZaJ (u : DUntil) (least : Int) : Int :=
 if least < -10800 \/ 0 < least then 2
 else if u.is = false then 4
 else if u.year < 1850 \/ 2149 < u.year \/ ZaQ u.at_ = false then 3
 else
  let sec := if u.at_.base = 1 then u.at_.sec + least else u.at_.sec
  if (onD u.year u.month u.day).2 ≠ 0 \/ sec < -86400 \/ 172800 < sec then 3 else 0
def ZaO (u : DUntil) (least : Int) : Int × Int :=
 if ZaJ u least ≠ 0 then (0, ZaJ u least) else (86400 * (onD u.year u.month u.day).1 + u.at_.sec + (if u.at_.base = 1 then least else 0), 0)
structure Zaf where
 year : Int
 rule : Int
 nominal : Int
 deriving DecidableEq
def Zaf.enc (e : Zaf) : List Value := [.int .i64 e.year, .int .i64 e.rule, .int .i64 e.nominal]
def dEv0 : Zaf := ⟨0, 0, 0⟩
def lastY (r : DRule) : Int := if r.to = 1048576 then 2000000000 else min r.to 2000000000
def onR (least : Int) (r : DRule) (i y : Int) : Option Zaf :=
 if y < max r.from_ (-2000000000) \/ lastY r < y \/ ZaQ r.at_ = false then none
 else if (onD y r.month r.day).2 ≠ 0 then none
 else some ⟨y, i, 86400 * (onD y r.month r.day).1 + r.at_.sec + (if r.at_.base = 1 then max least (-10800) else 0)⟩
def ordE (a b : Zaf) : Int := if a.nominal < b.nominal then -1 else if b.nominal < a.nominal then 1 else if a.rule < b.rule then -1 else if b.rule < a.rule then 1 else if a.year < b.year then -1 else if b.year < a.year then 1 else 0
end Go.Wk
namespace Go.Proofs.YtbjomhdhkpgbaaaGreatDoor
open Go Go.RowKit Go.Wk
def ZbM (x : ByteArray) : List ZaX -> Nat -> Option Nat
 | [], _ => none
 | z :: l, k => if z.name = x then some k else ZbM x l (k + 1)
def Zcl (x : ByteArray) : List DLink -> Nat -> Option Nat
 | [], _ => none
 | z :: l, k => if z.name = x then some k else Zcl x l (k + 1)
def ZcS (s : Zab) : Nat -> List ByteArray -> ByteArray -> Nat × Int
 | 0, _, _ => (0, 11)
 | fuel + 1, seen, x =>
  match ZbM x s.zones 0 with
  | some i => (i, 0)
  | none => match Zcl x s.links 0 with
   | none => (0, 9)
   | some i => if memB x seen then (0, 11) else ZcS s fuel (x :: seen) ((s.links[i]?).map (·.target) |>.getD ByteArray.empty)
def Za9 (s : Zab) : List ZaX -> Nat -> Option (Zao × Int)
 | [], _ => none
 | z :: l, i => if Zhz z.name = false then some (⟨2, i, 0⟩, 9) else if ZbM z.name s.zones 0 ≠ some i then some (⟨2, i, 0⟩, 10) else Za9 s l (i + 1)
def Zbr (s : Zab) : List DLink -> Nat -> Option (Zao × Int)
 | [], _ => none
 | l :: ls, i =>
  if Zhz l.name = false then some (⟨3, i, 0⟩, 9)
  else if (ZbM l.name s.zones 0).isSome \/ Zcl l.name s.links 0 ≠ some i then some (⟨3, i, 0⟩, 10)
  else if (ZbM l.target s.zones 0).isNone /\ (Zcl l.target s.links 0).isNone then some (⟨3, i, 0⟩, 9)
  else Zbr s ls (i + 1)
def Zbq (s : Zab) : List DLink -> Nat -> Option (Zao × Int)
 | [], _ => none
 | l :: ls, i => if (ZcS s (s.links.length + 1) [] l.name).2 = 11 then some (⟨3, i, 0⟩, 11) else Zbq s ls (i + 1)
def ZcI (s : Zab) : Option (Zao × Int) := (Za9 s s.zones 0).or ((Zbr s s.links 0).or (Zbq s s.links 0))
def insE (e : Zaf) : List Zaf -> List Zaf
 | [] => [e]
 | x :: l => if ordE x e < 0 then e :: x :: l else x :: insE e l
def ZeA (least y : Int) : List DRule -> Nat -> List Zaf -> List Zaf
 | [], _, acc => acc
 | r :: l, i, acc => ZeA least y l (i + 1) (match onR least r i y with | some e => insE e acc | none => acc)
def ZdA (l : List DRule) (least from_ : Int) : Nat -> List Zaf
 | 0 => []
 | k + 1 => ZeA least (from_ + k) l 0 (ZdA l least from_ k)
def Zhu : List Zaf -> Option Zaf
 | [] => none
 | [_] => none
 | a :: b :: l => (Zhu (b :: l)).or (if a.nominal - b.nominal < 259200 then some a else none)
def ZfA (l : List DRule) : Option Zaf := Zhu (ZdA l (Zai l) 1850 701)
def evIn (least nominal : Int) (r : DRule) (i y : Int) : Nat -> Option Zaf
 | 0 => none
 | k + 1 => match onR least r i y with
  | some e => if nominal < e.nominal then some e else evIn least nominal r i (y + 1) k
  | none => evIn least nominal r i (y + 1) k
def ZbT (least nominal yr : Int) : List DRule -> Nat -> Option Zaf -> Option Zaf
 | [], _, best => best
 | r :: l, i, best =>
  ZbT least nominal yr l (i + 1) (match evIn least nominal r i (max (max r.from_ (-2000000000)) (yr - 2)) 20 with
   | none => best
   | some e => match best with | none => some e | some b => if ordE e b < 0 then some e else some b)
def Ze0 (l : List DRule) (nominal : Int) : Option Zaf := ZbT (Zai l) nominal (Zez nominal) l 0 none
def farD (l : List DRule) (nominal : Int) : Bool :=
 match Ze0 l (nominal - 259200) with
 | none => true
 | some e => decide (259200 <= e.nominal - nominal)
def ZcU (s : Zab) : Option (Zao × Int) :=
 if 2000 < s.rules.length then some (⟨1, 2000, 0⟩, 7)
 else if 500 < s.zones.length then some (⟨2, 500, 0⟩, 7)
 else match s.zones.findIdx? fun z => decide (60 < z.eras.length) with
  | some i => some (⟨2, i, 60⟩, 7)
  | none => if 1000 < s.links.length then some (⟨3, 1000, 0⟩, 7) else if 2000 < s.shifts.length then some (⟨4, 2000, 0⟩, 7) else none
def Zdx (set : ByteArray) : List DRule -> Nat -> Nat -> Zao
 | [], _, _ => ⟨0, 0, 0⟩
 | r :: l, i, k => if r.name = set then (match i with | 0 => ⟨1, k, 0⟩ | i + 1 => Zdx set l i (k + 1)) else Zdx set l i (k + 1)
def ZbY (rs : List DRule) (x : ByteArray) : Option (Nat × Int) :=
 if setB x = false then some (0, 9)
 else if (ZdE (ofB rs x)).2 ≠ 0 then some (ZdE (ofB rs x))
 else match ZfA (ofB rs x) with | some e => some (e.rule.toNat, 13) | none => none
def Zdv (rs : List DRule) : List ByteArray -> Option (Zao × Int)
 | [] => none
 | x :: l => match ZbY rs x with | some (i, e) => some (Zdx x rs i 0, e) | none => Zdv rs l
def ZfL (s : Zab) : Option (Zao × Int) := Zdv s.rules (ZaP s.rules [])
def Zbb (s : Zab) : List ByteArray -> List ByteArray -> Nat -> Option (Zao × Int)
 | [], _, _ => none
 | x :: l, seen, i =>
  let r := ofB s.rules x
  if r = [] then some (⟨4, i, 0⟩, 9)
  else if memB x seen then some (⟨4, i, 0⟩, 10)
  else if Zai r ≠ 0 \/ (Zbg r).2 = false then some (⟨4, i, 0⟩, 14)
  else Zbb s l (seen ++ [x]) (i + 1)
def Zaz (rs : List DRule) (e : DEra) : List DRule := if e.kind = 2 then ofB rs e.set else []
def ZaD (rs : List DRule) (e : DEra) : List (Int × ByteArray) := if e.kind = 1 then [(e.save, ByteArray.empty)] else if e.kind = 2 then (Zaz rs e).map fun r => (r.save, r.letter) else [(0, ByteArray.empty)]
def Zbx (off save : Int) : Bool := decide (-54000 <= off + save) && decide (off + save <= 54000)
def dU0 : DUntil := ⟨false, 0, 0, ⟨0, 0, 0⟩, ⟨0, 0⟩⟩
def ZeC (e : DEra) : Bool := (!decide (e.kind = 1) && !decide (e.save = 0)) || (!decide (e.kind = 2) && !decide (e.set = ByteArray.empty)) || (!e.til.is && !decide ({ e.til with is := false } = dU0))
def ZcJ (rs : List DRule) (e : DEra) (first : Bool) : Int :=
 if e.kind < 0 \/ 2 < e.kind then 2
 else if first = true /\ e.kind = 2 then 12
 else if e.kind = 2 /\ Zaz rs e = [] then 9
 else if e.kind = 1 /\ (e.save < 1 \/ 10800 < e.save) then 14
 else if Zbx e.off 0 = false \/ ((ZaD rs e).any fun x => !Zbx e.off x.1) = true then 3
 else if ZeC e then 2
 else Zdj e (Zaz rs e)
def dE0 : DEra := ⟨0, 0, 0, ByteArray.empty, ByteArray.empty, dU0⟩
def Zfz (rs : List DRule) (l : List DEra) (k : Nat) : Int :=
 let e := l.getD k dE0
 if e.til.is ≠ decide (k + 1 < l.length) then 12
 else if e.til.is = false then 0
 else
  let least := Zai (Zaz rs e)
  if ZaJ e.til least ≠ 0 then ZaJ e.til least
  else
   let n := (ZaO e.til least).1
   let b := l.getD (k - 1) dE0
   if 0 < k /\ ((ZaO b.til (Zai (Zaz rs b))).2 ≠ 0 \/ n - (ZaO b.til (Zai (Zaz rs b))).1 < 259200) then 12
   else if e.kind = 2 /\ farD (Zaz rs e) n = false then 13
   else 0
def addP (x : Int × List UInt8) (l : List (Int × List UInt8)) : List (Int × List UInt8) := if x ∈ l then l else l ++ [x]
def addA (x : List UInt8) (l : List (List UInt8)) : List (List UInt8) := if x ∈ l then l else l ++ [x]
def stGo (e : DEra) : List (Int × ByteArray) -> List (Int × List UInt8) × List (List UInt8) -> List (Int × List UInt8) × List (List UInt8)
 | [], acc => acc
 | x :: l, acc =>
  let a := (Zb7 e.format.data.toList e.off x.1 x.2.data.toList).1
  stGo e l (addP (e.off + x.1, a) acc.1, addA a acc.2)
def erGo (rs : List DRule) : List DEra -> List (Int × List UInt8) × List (List UInt8) -> List (Int × List UInt8) × List (List UInt8)
 | [], acc => acc
 | e :: l, acc => erGo rs l (stGo e (ZaD rs e) acc)
def Zc6 : List (List UInt8) -> Nat
 | [] => 0
 | x :: l => x.length + 1 + Zc6 l
def Zfy (rs : List DRule) (z : ZaX) : Bool := decide ((erGo rs z.eras ([], [])).1.length <= 120) && decide (Zc6 (erGo rs z.eras ([], [])).2 <= 250)
def Zca (rs : List DRule) (l : List DEra) (i : Nat) : Nat -> Nat -> Option (Zao × Int)
 | 0, _ => none
 | f + 1, k =>
  if ZcJ rs (l.getD k dE0) (decide (k = 0)) ≠ 0 then some (⟨2, i, k⟩, ZcJ rs (l.getD k dE0) (decide (k = 0)))
  else if Zfz rs l k ≠ 0 then some (⟨2, i, k⟩, Zfz rs l k)
  else Zca rs l i f (k + 1)
def Zby (rs : List DRule) : List ZaX -> Nat -> Option (Zao × Int)
 | [], _ => none
 | z :: l, i =>
  if z.eras = [] then some (⟨2, i, 0⟩, 4)
  else match Zca rs z.eras i z.eras.length 0 with
   | some x => some x
   | none => if Zfy rs z = false then some (⟨2, i, 0⟩, 7) else Zby rs l (i + 1)
def accD (s : Zab) : Option (Zao × Int) := (ZcU s).or ((ZfL s).or ((Zbb s s.shifts [] 0).or ((ZcI s).or (Zby s.rules s.zones 0))))
def ZaL (form : Int) (s : Zab) : Option (Zao × Int) :=
 if form < 1 \/ 3 < form then some (⟨0, 0, 0⟩, 2)
 else match s.rules.findIdx? fun r => decide (r.save < 0) && decide (form = 3) with
  | some i => some (⟨1, i, 0⟩, 17)
  | none =>
   let wrong := fun e : DEra => (decide (ZaK e.format.data.toList = 4) && !decide (form = 1)) || (decide (ZaK e.format.data.toList = 5) && decide (form = 1))
   match s.zones.findIdx? fun z => z.eras.any wrong with
   | some i => some (⟨2, i, (((s.zones[i]?).map fun z => ((z.eras.findIdx? wrong).getD 0)).getD 0)⟩, 17)
   | none => if 0 < s.shifts.length /\ form ≠ 3 then some (⟨4, 0, 0⟩, 17) else none
def inD (s : Zab) (form : Int) : Option (Zao × Int) := (accD s).or (ZaL form s)
def Zb4 (s : Zab) : List Int := if (accD s).isSome then [] else [1, 2, 3].filter fun f => (ZaL f s).isNone
def mvC (c : DClock) (x : Int) : DClock := if c.base = 1 then ⟨c.sec - x, c.base⟩ else c
def shR (x : Int) (r : DRule) : DRule := { r with at_ := mvC r.at_ x, save := r.save + x }
def shN (set : ByteArray) (x : Int) (r : DRule) : DRule := if r.name = set then shR x r else r
def shU (u : DUntil) (x : Int) : DUntil := if u.is = true then { u with at_ := mvC u.at_ x } else u
def ZeT (set : ByteArray) (e : DEra) : Prop := e.kind = 2 /\ e.set = set
instance (set : ByteArray) (e : DEra) : Decidable (ZeT set e) := inferInstanceAs (Decidable (e.kind = 2 /\ e.set = set))
def shE (set : ByteArray) (x : Int) (e : DEra) : DEra := if ZeT set e then { e with off := e.off - x, til := shU e.til x } else e
def Zb8 (f : ByteArray) : ByteArray := match Zbk f.data.toList with
 | some (a, b) => ⟨(b ++ 47 :: a).toArray⟩
 | none => f
def Zb0 (set : ByteArray) (e : DEra) : DEra := if ZeT set e then { e with format := Zb8 e.format } else e
def Za5 (f : DEra -> DEra) (z : ZaX) : ZaX := ⟨z.name, z.eras.map f⟩
def erasS (f : DEra -> DEra) (s : Zab) : Zab := ⟨s.rules, s.zones.map (Za5 f), s.links, s.shifts⟩
def shiftS (set : ByteArray) (x : Int) (s : Zab) : Zab := ⟨s.rules.map (shN set x), s.zones.map (Za5 (shE set x)), s.links, s.shifts⟩
def byS (s : Zab) (set : ByteArray) (x : Int) : Zab := erasS (Zb0 set) (shiftS set x s)
def pctB : ByteArray := ⟨#[37, 122]⟩
def unGo : List ByteArray -> Zab -> Zab
 | [], s => s
 | x :: l, s => unGo l (byS s x (-(Zbg (ofB s.rules x)).1))
def ZaA (s : Zab) : Zab := { unGo s.shifts s with shifts := [] }
def numB (rs : List DRule) (e : DEra) : ByteArray := ⟨(Zba e (Zaz rs e)).1.toArray⟩
def Zcb (e : DEra) : DEra := if ZaK e.format.data.toList = 5 then { e with format := pctB } else e
def ZaN (s : Zab) : Zab := erasS Zcb s
def expE (rs : List DRule) (e : DEra) : DEra := if e.format = pctB then { e with format := numB rs e } else e
def ZbS (s : Zab) : Zab := erasS (expE s.rules) s
def Zes : List ByteArray -> Zab -> Zab
 | [], s => s
 | x :: l, s => if Zai (ofB s.rules x) < 0 then Zes l { byS s x (-Zai (ofB s.rules x)) with shifts := s.shifts ++ [x] } else Zes l s
def Zrs (s : Zab) : Zab := Zes (ZaP s.rules []) s
def toD (form : Int) (s : Zab) : Zab :=
 let v := ZaN (ZaA s)
 if form = 1 then v else if form = 2 then ZbS v else Zrs (ZbS v)
theorem Zxc {f : DEra -> DEra} {s : Zab} (h : ∀ z ∈ s.zones, ∀ e ∈ z.eras, f e = e) : erasS f s = s := by
 have hz : s.zones.map (Za5 f) = s.zones := by
  refine (List.map_congr_left fun z hz => ?_).trans (List.map_id _)
  unfold Za5
  rw [(List.map_congr_left fun e he => h z hz e he : z.eras.map f = z.eras.map id), List.map_id]
  rfl
 unfold erasS
 rw [hz]
theorem Zy8 (c : DClock) : mvC c 0 = c := by
 unfold mvC
 split
 ·rw [Int.sub_zero]
 ·rfl
theorem Ztv (c : DClock) (x y : Int) : mvC (mvC c x) y = mvC c (x + y) := by
 unfold mvC
 by_cases h : c.base = 1
 ·rw [if_pos h, if_pos h, if_pos h]
  dsimp only
  rw [Int.sub_sub]
 ·rw [if_neg h, if_neg h, if_neg h]
theorem Zia (r : DRule) : shR 0 r = r := by
 unfold shR
 rw [Zy8, Int.add_zero]
theorem ZyQ (r : DRule) (x y : Int) : shR y (shR x r) = shR (x + y) r := by
 unfold shR
 dsimp only
 rw [Ztv, Int.add_assoc]
theorem Zz8 (u : DUntil) : shU u 0 = u := by
 unfold shU
 rw [Zy8]
 split <;> rfl
theorem ZyP (u : DUntil) (x y : Int) : shU (shU u x) y = shU u (x + y) := by
 unfold shU
 by_cases h : u.is = true
 ·rw [if_pos h, if_pos h, if_pos h]
  dsimp only
  rw [Ztv]
 ·rw [if_neg h, if_neg h, if_neg h]
def inM (n : Int) : Bool := decide (-1000000000 <= n) && decide (n <= 1000000000)
theorem ZbL {n : Int} : inM n = true ↔ -1000000000 <= n /\ n <= 1000000000 := by unfold inM; simp
def rulM (r : DRule) : Bool := inM r.save && inM r.at_.sec
def eraM (e : DEra) : Bool := inM e.off && (inM e.save && (inM e.til.at_.sec && decide (e.format.size <= 1000)))
def srcM (s : Zab) : Bool := s.rules.all rulM && s.zones.all fun z => z.eras.all eraM
def hasN (s : Zab) (x : ByteArray) : Bool := s.rules.any fun r => decide (r.name = x)
def rngB (s : Zab) (x : ByteArray) (y : Int) : Bool := hasN s x && (srcM s && inM y)
def unB : List ByteArray -> Zab -> Bool
 | [], _ => true
 | x :: l, s => rngB s x (-(Zbg (ofB s.rules x)).1) && unB l (byS s x (-(Zbg (ofB s.rules x)).1))
def reB : List ByteArray -> Zab -> Bool
 | [], _ => true
 | x :: l, s => if Zai (ofB s.rules x) < 0 then rngB s x (-Zai (ofB s.rules x)) && reB l { byS s x (-Zai (ofB s.rules x)) with shifts := s.shifts ++ [x] } else reB l s
def conE (rs : List DRule) (e : DEra) : Bool := !decide (ZaK e.format.data.toList = 5) || (decide ((Zba e (Zaz rs e)).2 = 0) && decide ((Zba e (Zaz rs e)).1 = e.format.data.toList))
def conB (s : Zab) : Bool := s.zones.all fun z => z.eras.all (conE s.rules)
def expZ (rs : List DRule) (e : DEra) : Bool := !decide (e.format = pctB) || decide ((Zba e (Zaz rs e)).2 = 0)
def expB (s : Zab) : Bool := s.zones.all fun z => z.eras.all (expZ s.rules)
def toB (form : Int) (s : Zab) : Bool :=
 unB s.shifts s && (srcM (ZaA s) && (conB (ZaA s) && (decide (form = 1) || (srcM (ZaN (ZaA s)) && (expB (ZaN (ZaA s)) && (decide (form = 2) || (srcM (ZbS (ZaN (ZaA s))) && reB (ZaP (ZbS (ZaN (ZaA s))).rules []) (ZbS (ZaN (ZaA s))))))))))
theorem Zj2 (a : List Value) : ∀ (vs cs : List Value) (j : Nat), lay (a ++ cs) (a.length + j) vs = a ++ lay cs j vs
 | [], _, _ => rfl
 | v :: r, cs, j => by
  rw [lay, lay, List.set_append_right _ _ (by omega), Nat.add_sub_cancel_left, Nat.add_assoc, Zj2 a r _ (j + 1)]
theorem ZmF (c : List Value) : ∀ (vs a : List Value) (j : Nat), j + vs.length <= a.length -> lay (a ++ c) j vs = lay a j vs ++ c
 | [], _, _, _ => rfl
 | v :: r, a, j, h => by
  simp only [List.length_cons] at h
  rw [lay, lay, List.set_append_left _ _ (by omega), ZmF c r _ (j + 1) (by rw [List.length_set]; omega)]
theorem ZdR {α : Type} {enc : α -> List Value} {sz : Nat} (hsz : ∀ x, (enc x).length = sz) (off : Nat) (vs : List Value) (hb : off + vs.length <= sz) (x y : α) (he : lay (enc x) off vs = enc y) : ∀ (l : List α) (k : Nat), l[k]? = some x -> lay (l.flatMap enc) (k * sz + off) vs = (l.set k y).flatMap enc
 | [], k, h => by simp at h
 | z :: l, 0, h => by
  simp only [List.getElem?_cons_zero, Option.some.injEq] at h
  subst h
  rw [List.flatMap_cons, List.set_cons_zero, List.flatMap_cons, <- he, Nat.zero_mul, Nat.zero_add, ZmF _ _ _ _ (by rw [hsz]; exact hb)]
 | z :: l, k + 1, h => by
  have ih := ZdR hsz off vs hb x y he l k (by simpa using h)
  rw [List.flatMap_cons, List.set_cons_succ, List.flatMap_cons, <- ih, show (k + 1) * sz + off = (enc z).length + (k * sz + off) by rw [hsz, Nat.add_mul]; omega, Zj2]
end Go.Proofs.YtbjomhdhkpgbaaaGreatDoor
namespace Go.Wk
open Go Go.RowKit
theorem walkB1 {G G' : Prop} (k : G') (h : Hold G' -> G := by intro k; (first | (apply Go.Wk.RL_pu; rfl; exact Go.Wk.PuA) | (apply Go.Wk.RL_st0; refine Go.Wk.stA ?_) | apply Go.Wk.W_seq | apply Go.Wk.W_region | apply Go.Wk.RL_nil | apply Go.Wk.thenQ_n | apply Go.Wk.W_skip | apply Go.Wk.W_ret | apply Go.Wk.W_exit | apply Go.Wk.thenQ_r | apply Go.Wk.thenQ_e | apply Go.Wk.blockQ_n | apply Go.Wk.blockQ_r | apply Go.Wk.blockQ_hit | (apply Go.Wk.blockQ_miss; rfl) | (apply Go.Wk.W_true; rfl) | (apply Go.Wk.W_false; rfl) | (apply Go.Wk.RL_yes; rfl; rfl; rfl) | (apply Go.Wk.RL_no; rfl; rfl; rfl; rfl; rfl) | (apply Go.Wk.W_draw; rfl; decide +kernel) | apply Go.Wk.RD_done | (apply Go.Wk.RD_Q; rfl; rfl; decide +kernel; rfl; rfl; exact Go.Wk.QyA) | (apply Go.Wk.RD_N; rfl; rfl; decide +kernel; rfl; rfl; rfl) | (apply Go.Wk.RD_A; rfl; rfl; decide +kernel; rfl; rfl; first | exact Go.Wk.Ay_alloc | exact Go.Wk.Ay_buildSlice0 | (apply Go.Wk.Ay_buildSliceC; rfl; rfl; rfl; rfl; exact Go.Wk.NfA) | (apply Go.Wk.Ay_buildSliceNf; rfl; rfl; rfl; exact Go.Wk.NfA))); exact k.out) : G := h ⟨k⟩
theorem ZlS {G G' : Prop} (k : G') (h : Hold G' -> G := by intro k; refine Go.Wk.walkB1 ?_; (repeat refine Go.Wk.walkB1 ?_); exact k.out) : G := h ⟨k⟩
end Go.Wk
