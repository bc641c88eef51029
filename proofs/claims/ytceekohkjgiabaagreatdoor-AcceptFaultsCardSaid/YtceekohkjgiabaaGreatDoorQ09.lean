/- Contracts of functions that make slices: analemmaref16.Of, Names, ruleset.Names, slices.Clone. Plain functions: what accept looks for (layers 15, 17, 18, 24, 25). The package-level variables that accept's code reads. Contracts: slices.Clone at four types. Contracts of functions that make maps: ruleset.Names, merge.names, merge.sets. Contracts: links.zones, targets, follow; maps.Clone. -/
import Derived.Test.YtceekohkjgiabaaGreatDoorQ08
import Derived.Test.YtceekohkjgiabaaGreatDoorQ05
import Derived.Test.YtceekohkjgiabaaGreatDoorQ07
import Derived.Test.YtceekohkjgiabaaGreatDoorQ06
set_option maxHeartbeats 4000000
set_option linter.unusedVariables false
set_option linter.unusedSimpArgs false
namespace Go.Proofs.YtceekohkjgiabaaGreatDoor
open Go Go.RowKit Go.Wk
attribute [local irreducible] W RL Does thenQ blockQ retQ Calls Pu Stp RD Qy Ay
def ofB (l : List DRule) (x : ByteArray) : List DRule := l.filter fun r => decide (r.name = x)
def NewSl {α : Type} (e sz : Nat) (enc : α → List Value) (l : List α) (v : Value) (O : List It) : Prop := ∃ A c, v = .slice A l.length c ∧ O = [.row (.slice A l.length c) e sz l.length (l.flatMap enc)]
theorem of_spec (Ar Az Al As : Option Addr) (cr cz cl cs : Nat) (a : DSource) (set : ByteArray) (w : World) (hA : RdSource w Ar Az Al As cr cz cl cs a) (hn : a.rules.length ≤ 1000000) :
  Does Tryz.prog 53 [srcV Ar Az Al As cr cz cl cs a, .string set] w (NewSl 48 11 DRule.enc (ofB a.rules set)) := by
 generalize hres : ofB a.rules set = res
 refine Does_of_W Tryz.func53 rfl rfl rfl rfl ?_
 repeat (first | (refine js ?_; (refine bx ?_; intro bk)) | refine walk ?_)
 refine W_nil 48 11 ?_
 refine W_loopF [(1, _), (2, _), (4, _)] [_] (fun g : AG DRule => [(5, .slice g.A g.m g.c), (6, .int .i64 g.k)]) (fun g => [.row (.slice g.A g.m g.c) 48 11 g.m g.xs]) (fun g => g.k ≤ a.rules.length ∧ g.m = g.acc.length ∧ g.xs = g.acc.flatMap DRule.enc ∧ g.m ≤ g.k ∧ g.acc ++ ofB (a.rules.drop g.k) set = res) (fun g => a.rules.length - g.k) ⟨0, none, 0, 0, [], []⟩ ⟨rfl, rfl, rfl, rfl, rfl, trivial⟩ (.refl _) ⟨by simp, rfl, rfl, Nat.le_refl _, by simpa using hres⟩ ?_
 rintro ⟨k, A, c, m, xs, acc⟩ ⟨hk, hm, hx, hmk, hi⟩
 dsimp only at hk hm hx hmk hi ⊢
 repeat (first | (refine js ?_; (refine bx ?_; intro bk)) | refine walk ?_)
 refine W_cond rfl (fun hc => ?_) (fun hc => ?_)
 ·simp only [decide_eq_true_eq, Int.ofNat_lt] at hc
  obtain ⟨hna, hca⟩ := hA.r.rd k _ (List.getElem?_eq_getElem hc)
  have hnb := hna
  have hcb := hca
  rw [drop_cons hc, ofB, List.filter_cons] at hi
  generalize a.rules[k] = r at *
  repeat (first | (apply RL_pu; rfl; exact PuI) | (refine js ?_; (refine bx ?_; intro bk)) | refine walk1 ?_)
  refine W_cond rfl (fun h3 => ?_) (fun h3 => ?_)
  ·rw [if_pos h3] at hi
   repeat (first | (apply RL_pu; rfl; exact PuI) | (refine js ?_; (first | (apply Stp_append; rfl; rfl; (intro A' c'; (focus repeat' constructor)); (intro w' _ hO; exact blkRaw (hO.of (by repeat' constructor))); rfl; rfl; (simp only [maxLen]; omega); omega; intro A' c' hc1 hc2 hc3) | (refine bx ?_; intro bk))) | refine walk1 ?_)
   exact ⟨⟨k + 1, A', c', m + 1, xs ++ r.enc, acc ++ [r]⟩, OA, ⟨OA, by simp [hm], by rw [hx]; exact flat_snoc acc r, OA, by rw [← hi]; simp [ofB]⟩, SFA, SOA⟩
  rw [h3] at hi
  repeat (first | (refine js ?_; (refine bx ?_; intro bk)) | refine walk ?_)
  exact ⟨⟨k + 1, A, c, m, xs, acc⟩, OA, ⟨OA, hm, hx, OA, hi⟩, SFA, SOA⟩
 simp only [decide_eq_false_iff_not, Int.ofNat_lt] at hc
 rw [List.drop_eq_nil_of_le (by omega)] at hi
 simp only [ofB, List.filter_nil, List.append_nil] at hi
 subst hi
 repeat (first | (refine js ?_; (refine bx ?_; intro bk)) | refine walk ?_)
 exact ret_1 _ [.row (.slice A acc.length c) 48 11 acc.length (acc.flatMap DRule.enc)] (.tmp rfl) (by subst hm hx; exact SOA) ⟨A, c, by rw [hm], rfl⟩
def namesB : List DRule → List ByteArray → List ByteArray
 | [], acc => acc
 | r :: l, acc => if memB r.name acc then namesB l acc else namesB l (acc ++ [r.name])
theorem memB_snoc (x y : ByteArray) : ∀ l : List ByteArray, memB x (l ++ [y]) = (memB x l || decide (y = x))
 | [] => by simp [memB]
 | z :: l => by simp [memB, memB_snoc x y l, Bool.or_assoc]
theorem wkMake0 {G G' : Prop} (k : G') (h : Hold G' → G := by intro k9; (first | refine walk ?_ | (refine jn ?_; (try intro F); (apply Stp_pu; exact PuA); refine fin ?_)); exact k9.out) : G := h ⟨k⟩
theorem PuMake0 {G : Prop} (h : G := by (first | exact PuI | (apply Pu_loadR; rfl; (focus repeat' constructor); exact hg))) : G := h
theorem QyMake0 {G : Prop} (h : G := by first | (apply Qy_y; rfl; exact PuMake0) | exact QyA) : G := h
theorem QFMake0 {G : Prop} (h : G := by repeat (first | exact QF.nil | (apply QF.mk; rfl; rfl; decide +kernel; exact QyMake0))) : G := h
theorem rnames_spec (Ar Az Al As : Option Addr) (cr cz cl cs : Nat) (a : DSource) (w : World) (hA : RdSource w Ar Az Al As cr cz cl cs a) (hn : a.rules.length ≤ 1000000) :
  Does Tryz.prog 52 [srcV Ar Az Al As cr cz cl cs a] w (NewSl 9 1 strEnc (namesB a.rules [])) := by
 generalize hres : namesB a.rules [] = res
 refine Does_of_W Tryz.func52 rfl rfl rfl rfl ?_
 repeat (first | refine wkMake0 ?_ | (refine jn ?_; (try intro F); (refine bx ?_; intro bk); refine fin ?_) | (apply RD_W; rfl; intro bk))
 refine W_nil 9 1 ?_
 refine W_loopF [(1, _), (2, _)] [_] (fun g : AG ByteArray => [(3, .slice g.A g.m g.c), (4, .int .i64 g.k)]) (fun g => [.row (.slice g.A g.m g.c) 9 1 g.m g.xs]) (fun g => g.k ≤ a.rules.length ∧ g.m = g.acc.length ∧ g.xs = g.acc.flatMap strEnc ∧ g.m ≤ g.k ∧ namesB (a.rules.drop g.k) g.acc = res) (fun g => a.rules.length - g.k) ⟨0, none, 0, 0, [], []⟩ ⟨rfl, rfl, rfl, rfl, trivial⟩ (.refl _) ⟨by simp, rfl, rfl, Nat.le_refl _, by simpa using hres⟩ ?_
 rintro ⟨k, A, c, m, xs, acc⟩ ⟨hk, hm, hx, hmk, hi⟩
 dsimp only at hk hm hx hmk hi ⊢
 repeat (first | refine wkMake0 ?_ | (refine jn ?_; (try intro F); (refine bx ?_; intro bk); refine fin ?_) | (apply RD_W; rfl; intro bk))
 refine W_cond rfl (fun hc => ?_) (fun hc => ?_)
 ·simp only [decide_eq_true_eq, Int.ofNat_lt] at hc
  obtain ⟨hna, hca⟩ := hA.r.rd k _ (List.getElem?_eq_getElem hc)
  rw [drop_cons hc, namesB] at hi
  generalize a.rules[k] = r at *
  repeat (first | refine wkMake0 ?_ | (refine jn ?_; (try intro F); (refine bx ?_; intro bk); refine fin ?_) | (apply RD_W; rfl; intro bk))
  refine W_loopF [(1, _), (2, _), (3, _), (4, _)] [_, _] (fun g : Nat × Bool => [(5, .bool g.2), (6, .int .i64 g.1)]) (fun _ => []) (fun g => g.1 ≤ m ∧ (g.2 || memB r.name (acc.drop g.1)) = memB r.name acc) (fun g => m - g.1) (0, false) ⟨rfl, rfl, rfl, rfl, rfl, rfl, trivial⟩ (.refl _) ⟨by omega, by simp⟩ ?_
  rintro ⟨j, seen⟩ ⟨hj, hij⟩
  dsimp only at hj hij ⊢
  repeat (first | refine wkMake0 ?_ | (refine jn ?_; (try intro F); (refine bx ?_; intro bk); refine fin ?_) | (apply RD_W; rfl; intro bk))
  refine W_cond rfl (fun hc2 => ?_) (fun hc2 => ?_)
  ·simp only [decide_eq_true_eq, Int.ofNat_lt] at hc2
   have hj2 : j < acc.length := by omega
   refine W_fact (fun w' _ hO => row_some (hO.of (by repeat' constructor)) (by omega)) (fun hnb => ?_)
   rw [drop_cons hj2, memB] at hij
   have hg : xs[(j : Int).toNat * 1]? = some (.string acc[j]) := by
    rw [hx]
    exact flat_get strEnc.len acc j _ 0 _ (List.getElem?_eq_getElem hj2) rfl
   generalize acc[j] = y at *
   repeat (first | refine wkMake0 ?_ | (refine jn ?_; (try intro F); (refine bx ?_; intro bk); refine fin ?_) | (apply RD_W; rfl; intro bk))
   refine RD_split 21 rfl (fun h2 => ?_) (fun h2 => ?_)
   ·repeat (first | refine wkMake0 ?_ | (refine jn ?_; (try intro F); (refine bx ?_; intro bk); refine fin ?_) | (apply RD_W; rfl; intro bk))
    exact ⟨(j + 1, true), OA, ⟨OA, by rw [← hij, h2]; simp⟩, SFA, SOA⟩
   have hcb := hca
   repeat (first | (apply RL_pu; rfl; exact PuMake0) | (apply RD_Q; rfl; rfl; decide +kernel; rfl; rfl; exact QyMake0) | refine walk1 ?_ | (refine jn ?_; (try intro F); (first | (refine bx ?_; intro bk) | (apply Stp_pu; first | exact PuMake0 | exact PuA)); first | refine ⟨_, EndsA, QFMake0, ?_⟩ | refine fin ?_) | (apply RD_W; rfl; intro bk))
   exact ⟨(j + 1, decide (y = r.name)), OA, ⟨OA, by rw [← hij, h2]; simp⟩, SFA, SOA⟩
  simp only [decide_eq_false_iff_not, Int.ofNat_lt] at hc2
  rw [List.drop_eq_nil_of_le (by omega)] at hij
  simp only [memB, Bool.or_false] at hij
  repeat (first | refine wkMake0 ?_ | (refine jn ?_; (try intro F); (refine bx ?_; intro bk); refine fin ?_) | (apply RD_W; rfl; intro bk))
  refine W_cond rfl (fun h3 => ?_) (fun h3 => ?_)
  ·have hnb := hna
   have hcb := hca
   simp only [Bool.not_eq_true'] at h3
   rw [← hij, h3] at hi
   repeat (first | (apply RL_pu; rfl; exact PuI) | (apply RD_Q; rfl; rfl; decide +kernel; rfl; rfl; exact QyI) | refine walk1 ?_ | (refine jn ?_; (try intro F); (first | (apply Stp_append; rfl; rfl; (intro A' c'; (focus repeat' constructor)); (intro w' _ hO; exact blkRaw (hO.of (by repeat' constructor))); rfl; rfl; (simp only [maxLen]; omega); omega; intro A' c' hc1 hc2 hc3) | (refine bx ?_; intro bk) | (apply Stp_pu; first | exact PuI | exact PuA)); first | refine ⟨_, EndsA, QFI, ?_⟩ | refine fin ?_) | (apply RD_W; rfl; intro bk))
   exact ⟨⟨k + 1, A', c', m + 1, xs ++ strEnc r.name, acc ++ [r.name]⟩, OA, ⟨OA, by simp [hm], by rw [hx]; exact flat_snoc acc r.name, OA, by rw [← hi]; simp⟩, SFA, SOA⟩
  simp only [Bool.not_eq_false'] at h3
  rw [← hij, h3] at hi
  repeat (first | refine wkMake0 ?_ | (refine jn ?_; (try intro F); (refine bx ?_; intro bk); refine fin ?_) | (apply RD_W; rfl; intro bk))
  exact ⟨⟨k + 1, A, c, m, xs, acc⟩, OA, ⟨OA, hm, hx, OA, by rw [← hi]; simp⟩, SFA, SOA⟩
 simp only [decide_eq_false_iff_not, Int.ofNat_lt] at hc
 rw [List.drop_eq_nil_of_le (by omega), namesB] at hi
 subst hi
 repeat (first | refine wkMake0 ?_ | (refine jn ?_; (try intro F); (refine bx ?_; intro bk); refine fin ?_) | (apply RD_W; rfl; intro bk))
 exact ret_1 _ [.row (.slice A acc.length c) 9 1 acc.length (acc.flatMap strEnc)] (.tmp rfl) (by subst hm hx; exact SOA) ⟨A, c, by rw [hm], rfl⟩
end Go.Proofs.YtceekohkjgiabaaGreatDoor
namespace Go.Proofs.YtceekohkjgiabaaGreatDoor
open Go Go.RowKit Go.Wk
def firstZ (x : ByteArray) : List DZone → Nat → Option Nat
 | [], _ => none
 | z :: l, k => if z.name = x then some k else firstZ x l (k + 1)
def firstL (x : ByteArray) : List DLink → Nat → Option Nat
 | [], _ => none
 | z :: l, k => if z.name = x then some k else firstL x l (k + 1)
def followD (s : DSource) : Nat → List ByteArray → ByteArray → Nat × Int
 | 0, _, _ => (0, 11)
 | fuel + 1, seen, x =>
  match firstZ x s.zones 0 with
  | some i => (i, 0)
  | none => match firstL x s.links 0 with
   | none => (0, 9)
   | some i => if memB x seen then (0, 11) else followD s fuel (x :: seen) ((s.links[i]?).map (·.target) |>.getD ByteArray.empty)
def zoneFault (s : DSource) : List DZone → Nat → Option (DPlace × Int)
 | [], _ => none
 | z :: l, i => if zoneB z.name = false then some (⟨2, i, 0⟩, 9) else if firstZ z.name s.zones 0 ≠ some i then some (⟨2, i, 0⟩, 10) else zoneFault s l (i + 1)
def linkFault (s : DSource) : List DLink → Nat → Option (DPlace × Int)
 | [], _ => none
 | l :: ls, i =>
  if zoneB l.name = false then some (⟨3, i, 0⟩, 9)
  else if (firstZ l.name s.zones 0).isSome ∨ firstL l.name s.links 0 ≠ some i then some (⟨3, i, 0⟩, 10)
  else if (firstZ l.target s.zones 0).isNone ∧ (firstL l.target s.links 0).isNone then some (⟨3, i, 0⟩, 9)
  else linkFault s ls (i + 1)
def loopFault (s : DSource) : List DLink → Nat → Option (DPlace × Int)
 | [], _ => none
 | l :: ls, i => if (followD s (s.links.length + 1) [] l.name).2 = 11 then some (⟨3, i, 0⟩, 11) else loopFault s ls (i + 1)
def linksD (s : DSource) : Option (DPlace × Int) := (zoneFault s s.zones 0).or ((linkFault s s.links 0).or (loopFault s s.links 0))
def insE (e : DEvent) : List DEvent → List DEvent
 | [] => [e]
 | x :: l => if ordE x e < 0 then e :: x :: l else x :: insE e l
def yearEvs (least y : Int) : List DRule → Nat → List DEvent → List DEvent
 | [], _, acc => acc
 | r :: l, i, acc => yearEvs least y l (i + 1) (match onR least r i y with | some e => insE e acc | none => acc)
def allEvs (l : List DRule) (least from_ : Int) : Nat → List DEvent
 | 0 => []
 | k + 1 => yearEvs least (from_ + k) l 0 (allEvs l least from_ k)
def closeE : List DEvent → Option DEvent
 | [] => none
 | [_] => none
 | a :: b :: l => (closeE (b :: l)).or (if a.nominal - b.nominal < 259200 then some a else none)
def apartD (l : List DRule) : Option DEvent := closeE (allEvs l (leastD l) 1850 701)
def evIn (least nominal : Int) (r : DRule) (i y : Int) : Nat → Option DEvent
 | 0 => none
 | k + 1 => match onR least r i y with
  | some e => if nominal < e.nominal then some e else evIn least nominal r i (y + 1) k
  | none => evIn least nominal r i (y + 1) k
def afterGo (least nominal yr : Int) : List DRule → Nat → Option DEvent → Option DEvent
 | [], _, best => best
 | r :: l, i, best =>
  afterGo least nominal yr l (i + 1) (match evIn least nominal r i (max (max r.from_ (-2000000000)) (yr - 2)) 20 with
   | none => best
   | some e => match best with | none => some e | some b => if ordE e b < 0 then some e else some b)
def afterD (l : List DRule) (nominal : Int) : Option DEvent := afterGo (leastD l) nominal (yearOf nominal) l 0 none
def farD (l : List DRule) (nominal : Int) : Bool :=
 match afterD l (nominal - 259200) with
 | none => true
 | some e => decide (259200 ≤ e.nominal - nominal)
def sizesD (s : DSource) : Option (DPlace × Int) :=
 if 2000 < s.rules.length then some (⟨1, 2000, 0⟩, 7)
 else if 500 < s.zones.length then some (⟨2, 500, 0⟩, 7)
 else match s.zones.findIdx? fun z => decide (60 < z.eras.length) with
  | some i => some (⟨2, i, 60⟩, 7)
  | none => if 1000 < s.links.length then some (⟨3, 1000, 0⟩, 7) else if 2000 < s.shifts.length then some (⟨4, 2000, 0⟩, 7) else none
def ruleAt (set : ByteArray) : List DRule → Nat → Nat → DPlace
 | [], _, _ => ⟨0, 0, 0⟩
 | r :: l, i, k => if r.name = set then (match i with | 0 => ⟨1, k, 0⟩ | i + 1 => ruleAt set l i (k + 1)) else ruleAt set l i (k + 1)
def setFault (rs : List DRule) (x : ByteArray) : Option (Nat × Int) :=
 if setB x = false then some (0, 9)
 else if (rsChk (ofB rs x)).2 ≠ 0 then some (rsChk (ofB rs x))
 else match apartD (ofB rs x) with | some e => some (e.rule.toNat, 13) | none => none
def setsGo (rs : List DRule) : List ByteArray → Option (DPlace × Int)
 | [] => none
 | x :: l => match setFault rs x with | some (i, e) => some (ruleAt x rs i 0, e) | none => setsGo rs l
def setsD (s : DSource) : Option (DPlace × Int) := setsGo s.rules (namesB s.rules [])
def shiftsGo (s : DSource) : List ByteArray → List ByteArray → Nat → Option (DPlace × Int)
 | [], _, _ => none
 | x :: l, seen, i =>
  let r := ofB s.rules x
  if r = [] then some (⟨4, i, 0⟩, 9)
  else if memB x seen then some (⟨4, i, 0⟩, 10)
  else if leastD r ≠ 0 ∨ (otherD r).2 = false then some (⟨4, i, 0⟩, 14)
  else shiftsGo s l (seen ++ [x]) (i + 1)
def setOf (rs : List DRule) (e : DEra) : List DRule := if e.kind = 2 then ofB rs e.set else []
def statesOf (rs : List DRule) (e : DEra) : List (Int × ByteArray) := if e.kind = 1 then [(e.save, ByteArray.empty)] else if e.kind = 2 then (setOf rs e).map fun r => (r.save, r.letter) else [(0, ByteArray.empty)]
def hoursB (off save : Int) : Bool := decide (-54000 ≤ off + save) && decide (off + save ≤ 54000)
def dU0 : DUntil := ⟨false, 0, 0, ⟨0, 0, 0⟩, ⟨0, 0⟩⟩
def unusedB (e : DEra) : Bool := (!decide (e.kind = 1) && !decide (e.save = 0)) || (!decide (e.kind = 2) && !decide (e.set = ByteArray.empty)) || (!e.til.is && !decide ({ e.til with is := false } = dU0))
def eraChk (rs : List DRule) (e : DEra) (first : Bool) : Int :=
 if e.kind < 0 ∨ 2 < e.kind then 2
 else if first = true ∧ e.kind = 2 then 12
 else if e.kind = 2 ∧ setOf rs e = [] then 9
 else if e.kind = 1 ∧ (e.save < 1 ∨ 10800 < e.save) then 14
 else if hoursB e.off 0 = false ∨ ((statesOf rs e).any fun x => !hoursB e.off x.1) = true then 3
 else if unusedB e then 2
 else fmtChk e (setOf rs e)
def dE0 : DEra := ⟨0, 0, 0, ByteArray.empty, ByteArray.empty, dU0⟩
def endChk (rs : List DRule) (l : List DEra) (k : Nat) : Int :=
 let e := l.getD k dE0
 if e.til.is ≠ decide (k + 1 < l.length) then 12
 else if e.til.is = false then 0
 else
  let least := leastD (setOf rs e)
  if untilChk e.til least ≠ 0 then untilChk e.til least
  else
   let n := (nominalU e.til least).1
   let b := l.getD (k - 1) dE0
   if 0 < k ∧ ((nominalU b.til (leastD (setOf rs b))).2 ≠ 0 ∨ n - (nominalU b.til (leastD (setOf rs b))).1 < 259200) then 12
   else if e.kind = 2 ∧ farD (setOf rs e) n = false then 13
   else 0
def addP (x : Int × List UInt8) (l : List (Int × List UInt8)) : List (Int × List UInt8) := if x ∈ l then l else l ++ [x]
def addA (x : List UInt8) (l : List (List UInt8)) : List (List UInt8) := if x ∈ l then l else l ++ [x]
def stGo (e : DEra) : List (Int × ByteArray) → List (Int × List UInt8) × List (List UInt8) → List (Int × List UInt8) × List (List UInt8)
 | [], acc => acc
 | x :: l, acc =>
  let a := (abbrF e.format.data.toList e.off x.1 x.2.data.toList).1
  stGo e l (addP (e.off + x.1, a) acc.1, addA a acc.2)
def erGo (rs : List DRule) : List DEra → List (Int × List UInt8) × List (List UInt8) → List (Int × List UInt8) × List (List UInt8)
 | [], acc => acc
 | e :: l, acc => erGo rs l (stGo e (statesOf rs e) acc)
def sizeA : List (List UInt8) → Nat
 | [] => 0
 | x :: l => x.length + 1 + sizeA l
def fewB25 (rs : List DRule) (z : DZone) : Bool := decide ((erGo rs z.eras ([], [])).1.length ≤ 120) && decide (sizeA (erGo rs z.eras ([], [])).2 ≤ 250)
def erasGo (rs : List DRule) (l : List DEra) (i : Nat) : Nat → Nat → Option (DPlace × Int)
 | 0, _ => none
 | f + 1, k =>
  if eraChk rs (l.getD k dE0) (decide (k = 0)) ≠ 0 then some (⟨2, i, k⟩, eraChk rs (l.getD k dE0) (decide (k = 0)))
  else if endChk rs l k ≠ 0 then some (⟨2, i, k⟩, endChk rs l k)
  else erasGo rs l i f (k + 1)
def zonesGo (rs : List DRule) : List DZone → Nat → Option (DPlace × Int)
 | [], _ => none
 | z :: l, i =>
  if z.eras = [] then some (⟨2, i, 0⟩, 4)
  else match erasGo rs z.eras i z.eras.length 0 with
   | some x => some x
   | none => if fewB25 rs z = false then some (⟨2, i, 0⟩, 7) else zonesGo rs l (i + 1)
def accD (s : DSource) : Option (DPlace × Int) := (sizesD s).or ((setsD s).or ((shiftsGo s s.shifts [] 0).or ((linksD s).or (zonesGo s.rules s.zones 0))))
def varFault (form : Int) (s : DSource) : Option (DPlace × Int) :=
 if form < 1 ∨ 3 < form then some (⟨0, 0, 0⟩, 2)
 else match s.rules.findIdx? fun r => decide (r.save < 0) && decide (form = 3) with
  | some i => some (⟨1, i, 0⟩, 17)
  | none =>
   let wrong := fun e : DEra => (decide (kindF e.format.data.toList = 4) && !decide (form = 1)) || (decide (kindF e.format.data.toList = 5) && decide (form = 1))
   match s.zones.findIdx? fun z => z.eras.any wrong with
   | some i => some (⟨2, i, (((s.zones[i]?).map fun z => ((z.eras.findIdx? wrong).getD 0)).getD 0)⟩, 17)
   | none => if 0 < s.shifts.length ∧ form ≠ 3 then some (⟨4, 0, 0⟩, 17) else none
def inD (s : DSource) (form : Int) : Option (DPlace × Int) := (accD s).or (varFault form s)
def formsD (s : DSource) : List Int := if (accD s).isSome then [] else [1, 2, 3].filter fun f => (varFault f s).isNone
def fnV (f : Nat) : Value := .func (.func f) #[] #[]
def kindCells : List Value := [.bool false, .bool true, fnV 295, .bool true, .bool false, fnV 296, .bool true, .bool true, fnV 298, .bool true, .bool true, fnV 300]
def condCells : List Value := [fnV 285, .int .i64 3, fnV 287, .int .i64 12, fnV 288, .int .i64 3, fnV 290, .int .i64 3, fnV 292, .int .i64 14, fnV 293, .int .i64 15]
def varCells : List Value := [.string ByteArray.empty, .bool false, .bool false, .bool false, .bool false, .string ⟨#[118, 97, 110, 103, 117, 97, 114, 100]⟩, .bool true, .bool true, .bool false, .bool false, .string ⟨#[109, 97, 105, 110]⟩, .bool true, .bool false, .bool true, .bool false, .string ⟨#[114, 101, 97, 114, 103, 117, 97, 114, 100]⟩, .bool false, .bool false, .bool true, .bool true]
structure Glob (w : World) : Prop where
 bef : CellsAt w ⟨3, 0, none⟩ (beforeL.map fun n => .int .i64 n)
 kin : CellsAt w ⟨2, 3, none⟩ kindCells
 con : CellsAt w ⟨0, 0, none⟩ condCells
 var : CellsAt w ⟨1, 0, none⟩ varCells
theorem Glob.up {w w' : World} (h : Glob w) (hb : Bel w.heap.size w w') : Glob w' :=
 ⟨h.bef.up hb (Nat.le_refl _), h.kin.up hb (Nat.le_refl _), h.con.up hb (Nat.le_refl _), h.var.up hb (Nat.le_refl _)⟩
attribute [local irreducible] W RL Does thenQ blockQ retQ Calls Pu Stp RD Qy Ay
theorem cloneR_spec (A : Option Addr) (c : Nat) (x : List DRule) (w : World) (hA : RdSl w A c DRule.enc 11 x) (hn : x.length ≤ 1000000) :
  Does Tryz.prog 125 [.slice A x.length c] w (NewSl 48 11 DRule.enc x) := by
 refine Does_of_W Tryz.func125 rfl rfl rfl rfl ?_
 repeat (first | (refine js ?_; (refine bx ?_; intro bk)) | refine walk ?_)
 refine W_cond rfl (fun h1 => ?_) (fun h1 => ?_)
 ·obtain rfl := hA.none h1
  refine W_nil 48 11 ?_
  repeat (first | (refine js ?_; (refine bx ?_; intro bk)) | refine walk ?_)
  exact ret_1 _ [.row (.slice none 0 0) 48 11 0 []] (.tmp rfl) SOA ⟨none, 0, rfl, rfl⟩
 repeat (first | (refine js ?_; (first | (apply Stp_append0; rfl; rfl; (intro A' c'; (focus repeat' constructor)); (intro w' hw _; exact (hA.up hw).rd.raw DRule.len (by decide)); exact flat_len DRule.len x; exact all_flat oneR x; (simp only [maxLen]; omega); omega; intro A' c' hc1 hc2 hc3) | (refine bx ?_; intro bk))) | refine walk ?_)
 exact ret_1 _ _ (.tmp rfl) (.refl _) ⟨A', c', rfl, rfl⟩
theorem mget_mset (k : ByteArray) (v : Value) (x : ByteArray) : ∀ m : List (ByteArray × Value), mget (mset m k v) x = if x = k then some v else mget m x
 | [] => by simp [mset, mget]
 | (y, u) :: r => by
  simp only [mset]
  split
  ·rename_i h; subst h; simp only [mget]; split <;> simp_all
  ·rename_i h
   simp only [mget, mget_mset k v x r]
   split
   ·rename_i h2; subst h2; rw [if_neg (fun e => h e.symm)]
   ·rfl
def MpB (m : List (ByteArray × Value)) (l : List ByteArray) : Prop := ∀ x, (mget m x).getD (.bool false) = .bool (memB x l)
theorem MpB.set {m : List (ByteArray × Value)} {l : List ByteArray} (h : MpB m l) (y : ByteArray) : MpB (mset m y (.bool true)) (l ++ [y]) := fun x => by
 rw [mget_mset, memB_snoc]
 by_cases e : x = y
 ·subst e; simp
 ·rw [if_neg e, h x]; simp [show ¬ y = x from fun h => e h.symm]
theorem MpB.nil : MpB [] [] := fun _ => rfl
structure MG (α : Type) where
 k : Nat
 A : Option Addr
 c : Nat
 m : Nat
 xs : List Value
 acc : List α
 mp : List (ByteArray × Value)
theorem names_spec (Ar Az Al As : Option Addr) (cr cz cl cs : Nat) (a : DSource) (w : World) (hA : RdSource w Ar Az Al As cr cz cl cs a) (hn : a.rules.length ≤ 1000000) :
  Does Tryz.prog 39 [srcV Ar Az Al As cr cz cl cs a] w (NewSl 9 1 strEnc (namesB a.rules [])) := by
 generalize hres : namesB a.rules [] = res
 refine Does_of_W Tryz.func39 rfl rfl rfl rfl ?_
 repeat (first | (refine js ?_; (refine bx ?_; intro bk)) | refine walk ?_)
 refine W_nil 9 1 ?_
 refine W_loopF [(3, _), (9, _), (10, _)] [] (fun g : MG ByteArray => [(4, .slice g.A g.m g.c), (11, .int .i64 g.k)]) (fun g => [.row (.slice g.A g.m g.c) 9 1 g.m g.xs, .mp _ g.mp]) (fun g => g.k ≤ a.rules.length ∧ g.m = g.acc.length ∧ g.xs = g.acc.flatMap strEnc ∧ g.m ≤ g.k ∧ MpB g.mp g.acc ∧ namesB (a.rules.drop g.k) g.acc = res) (fun g => a.rules.length - g.k) ⟨0, none, 0, 0, [], [], []⟩ ⟨rfl, rfl, rfl, rfl, rfl, trivial⟩ SOA ⟨by simp, rfl, rfl, Nat.le_refl _, .nil, by simpa using hres⟩ ?_
 rintro ⟨k, A, c, m, xs, acc, mp⟩ ⟨hk, hm, hx, hmk, hp, hi⟩
 dsimp only at hk hm hx hmk hp hi ⊢
 repeat (first | (refine js ?_; (refine bx ?_; intro bk)) | refine walk ?_)
 refine W_cond rfl (fun hc => ?_) (fun hc => ?_)
 ·simp only [decide_eq_true_eq, Int.ofNat_lt] at hc
  obtain ⟨hna, hca⟩ := hA.r.rd k _ (List.getElem?_eq_getElem hc)
  have hnb := hna
  have hcb := hca
  rw [drop_cons hc, namesB] at hi
  generalize a.rules[k] = r at *
  repeat (first | (apply RL_pu; rfl; (first | exact PuI | (apply Pu_lookupC; rfl; rfl; (focus repeat' constructor); exact hp _))) | (refine js ?_; (refine bx ?_; intro bk)) | refine walk1 ?_)
  refine W_cond rfl (fun h3 => ?_) (fun h3 => ?_)
  ·simp only [Bool.not_eq_true'] at h3
   rw [h3] at hi
   repeat (first | (apply RL_pu; rfl; exact PuI) | (refine js ?_; (first | (apply Stp_append; rfl; rfl; (intro A' c'; (focus repeat' constructor)); (intro w' _ hO; exact blkRaw (hO.of (by repeat' constructor))); rfl; rfl; (simp only [maxLen]; omega); omega; intro A' c' hc1 hc2 hc3) | (refine bx ?_; intro bk))) | refine walk1 ?_)
   exact ⟨⟨k + 1, A', c', m + 1, xs ++ strEnc r.name, acc ++ [r.name], mset mp r.name (.bool true)⟩, OA, ⟨OA, by simp [hm], by rw [hx]; exact flat_snoc acc r.name, OA, hp.set _, by rw [← hi]; simp⟩, SFA, SOA⟩
  simp only [Bool.not_eq_false'] at h3
  rw [h3] at hi
  repeat (first | (refine js ?_; (refine bx ?_; intro bk)) | refine walk ?_)
  exact ⟨⟨k + 1, A, c, m, xs, acc, mp⟩, OA, ⟨OA, hm, hx, OA, hp, by rw [← hi]; simp⟩, SFA, SOA⟩
 simp only [decide_eq_false_iff_not, Int.ofNat_lt] at hc
 rw [List.drop_eq_nil_of_le (by omega), namesB] at hi
 subst hi
 repeat (first | (refine js ?_; (refine bx ?_; intro bk)) | refine walk ?_)
 exact ret_1 _ [.row (.slice A acc.length c) 9 1 acc.length (acc.flatMap strEnc)] (.tmp rfl) (by subst hm hx; exact SOA) ⟨A, c, by rw [hm], rfl⟩
end Go.Proofs.YtceekohkjgiabaaGreatDoor
namespace Go.Proofs.YtceekohkjgiabaaGreatDoor
open Go Go.RowKit Go.Wk
attribute [local irreducible] W RL Does thenQ blockQ retQ Calls Pu Stp RD Qy Ay DoesIn
theorem firstZ_snoc (x : ByteArray) (z : DZone) : ∀ (l : List DZone) (k : Nat), firstZ x (l ++ [z]) k = (firstZ x l k).or (if z.name = x then some (k + l.length) else none)
 | [], k => by simp [firstZ]
 | y :: l, k => by
  simp only [List.cons_append, firstZ, firstZ_snoc x z l]
  split
  ·rfl
  ·rw [List.length_cons, show k + 1 + l.length = k + (l.length + 1) by omega]
theorem firstL_snoc (x : ByteArray) (z : DLink) : ∀ (l : List DLink) (k : Nat), firstL x (l ++ [z]) k = (firstL x l k).or (if z.name = x then some (k + l.length) else none)
 | [], k => by simp [firstL]
 | y :: l, k => by
  simp only [List.cons_append, firstL, firstL_snoc x z l]
  split
  ·rfl
  ·rw [List.length_cons, show k + 1 + l.length = k + (l.length + 1) by omega]
theorem firstL_lt (x : ByteArray) : ∀ (l : List DLink) (k i : Nat), firstL x l k = some i → k ≤ i ∧ i < k + l.length
 | [], _, _, h => by cases h
 | z :: l, k, i, h => by
  simp only [firstL] at h
  split at h
  ·simp only [Option.some.injEq] at h; subst h; simp
  ·have := firstL_lt x l (k + 1) i h; simp only [List.length_cons]; omega
theorem firstZ_mem {z : DZone} : ∀ {l : List DZone} (k : Nat), z ∈ l → ∃ j, firstZ z.name l k = some j
 | y :: l, k, h => by
  simp only [firstZ]
  split
  ·exact ⟨_, rfl⟩
  ·rename_i hn
   rcases List.mem_cons.1 h with rfl | h
   ·exact absurd rfl hn
   ·exact firstZ_mem (k + 1) h
theorem firstL_mem {z : DLink} : ∀ {l : List DLink} (k : Nat), z ∈ l → ∃ j, firstL z.name l k = some j
 | y :: l, k, h => by
  simp only [firstL]
  split
  ·exact ⟨_, rfl⟩
  ·rename_i hn
   rcases List.mem_cons.1 h with rfl | h
   ·exact absurd rfl hn
   ·exact firstL_mem (k + 1) h
def IxM (m : List (ByteArray × Value)) (f : ByteArray → Option Nat) : Prop := ∀ x, mget m x = (f x).map fun i : Nat => Value.int .i64 (i : Int)
theorem IxM.some {m : List (ByteArray × Value)} {f : ByteArray → Option Nat} (h : IxM m f) {x : ByteArray} {i : Nat} (hf : f x = some i) : (mget m x).getD (.int .i64 0) = .int .i64 i ∧ (mget m x).isSome = true := by
 rw [h x, hf]; exact ⟨rfl, rfl⟩
theorem IxM.none {m : List (ByteArray × Value)} {f : ByteArray → Option Nat} (h : IxM m f) {x : ByteArray} (hf : f x = none) : (mget m x).getD (.int .i64 0) = .int .i64 0 ∧ (mget m x).isSome = false := by
 rw [h x, hf]; exact ⟨rfl, rfl⟩
theorem IxM.set {m : List (ByteArray × Value)} {f f' : ByteArray → Option Nat} (h : IxM m f) {k : ByteArray} {i : Nat} (hf : ∀ x, f' x = if x = k then Option.some i else f x) : IxM (mset m k (.int .i64 i)) f' := fun x => by
 rw [mget_mset, hf x]
 split
 ·rfl
 ·exact h x
def NewIx (f : ByteArray → Option Nat) (N : Nat) (v : Value) (O : List It) : Prop := ∃ b m, v = .map (some b) ∧ O = [.mp b m] ∧ IxM m f ∧ Nd m ∧ m.length ≤ N
structure LG where
 k : Nat
 mp : List (ByteArray × Value)
theorem PuLnk0 {G : Prop} (h : G := by (first | exact PuI | (apply Pu_lookupOkC; rfl; rfl; (focus repeat' constructor); exact hv0; exact hc0))) : G := h
theorem lzones_spec (Ar Az Al As : Option Addr) (cr cz cl cs : Nat) (a : DSource) (w : World) (hA : RdSource w Ar Az Al As cr cz cl cs a) (hn : a.zones.length ≤ 1000000) :
  Does Tryz.prog 82 [srcV Ar Az Al As cr cz cl cs a] w (NewIx (fun x => firstZ x a.zones 0) a.zones.length) := by
 refine Does_of_W Tryz.func82 rfl rfl rfl rfl ?_
 repeat (first | (refine js ?_; (first | (apply Stp_makeMapN; rfl; intro bk) | (refine bx ?_; intro bk))) | refine walk ?_)
 refine W_loopF [(3, .map (some bk)), (13, .slice Az a.zones.length cz), (14, .int .i64 a.zones.length)] [] (fun g : LG => [(15, .int .i64 g.k)]) (fun g => [.mp bk g.mp]) (fun g => g.k ≤ a.zones.length ∧ IxM g.mp (fun x => firstZ x (a.zones.take g.k) 0) ∧ Nd g.mp ∧ g.mp.length ≤ g.k) (fun g => a.zones.length - g.k) ⟨0, []⟩ SFA SOA ⟨Nat.zero_le _, fun x => rfl, List.nodup_nil, Nat.le_refl _⟩ ?_
 obtain ⟨bm, hbm⟩ : ∃ bm, bk = bm := ⟨_, rfl⟩
 rw [hbm]
 clear hbm bk
 rintro ⟨k, mp⟩ ⟨hk, hm, hd, hl⟩
 dsimp only at hk hm hd hl ⊢
 repeat (first | (refine js ?_; (refine bx ?_; intro bk)) | refine walk ?_)
 refine W_cond rfl (fun hc => ?_) (fun hc => ?_)
 ·simp only [decide_eq_true_eq, Int.ofNat_lt] at hc
  obtain ⟨hna, cs1, ⟨Ae, ce, _, rfl⟩, hca⟩ := hA.z k _ (List.getElem?_eq_getElem hc)
  have ht := List.take_append_getElem hc
  have hlen : (a.zones.take k).length = k := by rw [List.length_take]; omega
  generalize a.zones[k] = z at *
  have hsn := fun x => firstZ_snoc x z (a.zones.take k) 0
  rw [ht, hlen] at hsn
  cases hf : firstZ z.name (a.zones.take k) 0 with
  | none =>
   obtain ⟨hv0, hc0⟩ := hm.none hf
   repeat (first | (apply RL_pu; rfl; exact PuLnk0) | (refine js ?_; (refine bx ?_; intro bk)) | refine walk1 ?_)
   refine ⟨⟨k + 1, mset mp z.name (.int .i64 k)⟩, OA, ⟨OA, hm.set (k := z.name) (i := k) (fun x => ?_), hd.set _ _, ?_⟩, SFA, SOA⟩
   ·dsimp only
    rw [hsn x]
    by_cases e : x = z.name
    ·subst e; simp [hf]
    ·rw [if_neg e, if_neg (fun h => e h.symm), Option.or_none]
   ·have := mset_len z.name (.int .i64 (k : Int)) mp
    dsimp only
    omega
  | some j =>
   obtain ⟨hv0, hc0⟩ := hm.some hf
   repeat (first | (apply RL_pu; rfl; exact PuLnk0) | (refine js ?_; (refine bx ?_; intro bk)) | refine walk1 ?_)
   refine ⟨⟨k + 1, mp⟩, OA, ⟨OA, fun x => ?_, hd, OA⟩, SFA, SOA⟩
   dsimp only
   rw [hm x, hsn x]
   dsimp only
   by_cases e : z.name = x
   ·subst e; rw [hf]; rfl
   ·rw [if_neg e, Option.or_none]
 ·simp only [decide_eq_false_iff_not, Int.ofNat_lt] at hc
  rw [List.take_of_length_le (by omega)] at hm
  repeat (first | (refine js ?_; (refine bx ?_; intro bk)) | refine walk ?_)
  exact ret_1 _ [.mp bm mp] (.tmp rfl) SOA ⟨bm, mp, rfl, rfl, hm, hd, by omega⟩
theorem ltargets_spec (Ar Az Al As : Option Addr) (cr cz cl cs : Nat) (a : DSource) (w : World) (hA : RdSource w Ar Az Al As cr cz cl cs a) (hn : a.links.length ≤ 1000000) :
  Does Tryz.prog 83 [srcV Ar Az Al As cr cz cl cs a] w (NewIx (fun x => firstL x a.links 0) a.links.length) := by
 refine Does_of_W Tryz.func83 rfl rfl rfl rfl ?_
 repeat (first | (refine js ?_; (first | (apply Stp_makeMapN; rfl; intro bk) | (refine bx ?_; intro bk))) | refine walk ?_)
 refine W_loopF [(3, .map (some bk)), (13, .slice Al a.links.length cl), (14, .int .i64 a.links.length)] [] (fun g : LG => [(15, .int .i64 g.k)]) (fun g => [.mp bk g.mp]) (fun g => g.k ≤ a.links.length ∧ IxM g.mp (fun x => firstL x (a.links.take g.k) 0) ∧ Nd g.mp ∧ g.mp.length ≤ g.k) (fun g => a.links.length - g.k) ⟨0, []⟩ SFA SOA ⟨Nat.zero_le _, fun x => rfl, List.nodup_nil, Nat.le_refl _⟩ ?_
 obtain ⟨bm, hbm⟩ : ∃ bm, bk = bm := ⟨_, rfl⟩
 rw [hbm]
 clear hbm bk
 rintro ⟨k, mp⟩ ⟨hk, hm, hd, hl⟩
 dsimp only at hk hm hd hl ⊢
 repeat (first | (refine js ?_; (refine bx ?_; intro bk)) | refine walk ?_)
 refine W_cond rfl (fun hc => ?_) (fun hc => ?_)
 ·simp only [decide_eq_true_eq, Int.ofNat_lt] at hc
  obtain ⟨hna, hca⟩ := hA.l.rd k _ (List.getElem?_eq_getElem hc)
  have ht := List.take_append_getElem hc
  have hlen : (a.links.take k).length = k := by rw [List.length_take]; omega
  generalize a.links[k] = z at *
  have hsn := fun x => firstL_snoc x z (a.links.take k) 0
  rw [ht, hlen] at hsn
  cases hf : firstL z.name (a.links.take k) 0 with
  | none =>
   obtain ⟨hv0, hc0⟩ := hm.none hf
   repeat (first | (apply RL_pu; rfl; exact PuLnk0) | (refine js ?_; (refine bx ?_; intro bk)) | refine walk1 ?_)
   refine ⟨⟨k + 1, mset mp z.name (.int .i64 k)⟩, OA, ⟨OA, hm.set (k := z.name) (i := k) (fun x => ?_), hd.set _ _, ?_⟩, SFA, SOA⟩
   ·dsimp only
    rw [hsn x]
    by_cases e : x = z.name
    ·subst e; simp [hf]
    ·rw [if_neg e, if_neg (fun h => e h.symm), Option.or_none]
   ·have := mset_len z.name (.int .i64 (k : Int)) mp
    dsimp only
    omega
  | some j =>
   obtain ⟨hv0, hc0⟩ := hm.some hf
   repeat (first | (apply RL_pu; rfl; exact PuLnk0) | (refine js ?_; (refine bx ?_; intro bk)) | refine walk1 ?_)
   refine ⟨⟨k + 1, mp⟩, OA, ⟨OA, fun x => ?_, hd, OA⟩, SFA, SOA⟩
   dsimp only
   rw [hm x, hsn x]
   dsimp only
   by_cases e : z.name = x
   ·subst e; rw [hf]; rfl
   ·rw [if_neg e, Option.or_none]
 ·simp only [decide_eq_false_iff_not, Int.ofNat_lt] at hc
  rw [List.take_of_length_le (by omega)] at hm
  repeat (first | (refine js ?_; (refine bx ?_; intro bk)) | refine walk ?_)
  exact ret_1 _ [.mp bm mp] (.tmp rfl) SOA ⟨bm, mp, rfl, rfl, hm, hd, by omega⟩
theorem clone_is : isClone Tryz.prog 168 := fun args w => by
 rw [run_callFunc_extern Tryz.func168 (by kernel_rfl) (by kernel_rfl) (by kernel_rfl) (e := Extern.MapsClone.clone) (by kernel_rfl)]
theorem mclone_spec (b : Nat) (m : List (ByteArray × Value)) (w : World) (h : MpAt w b m) :
  Does Tryz.prog 132 [.map (some b)] w (fun v O => ∃ b2, v = .map (some b2) ∧ O = [.mp b2 m]) := by
 refine Does_of_W Tryz.func132 rfl rfl rfl rfl ?_
 repeat (first | (apply RL_pu; rfl; (first | (apply Pu_eqNilMap; rfl) | (apply Pu_ifaceMap; rfl) | (apply Pu_assertMap; rfl))) | (refine js ?_; (apply Stp_mapsClone; exact clone_is; rfl; (intro w' hw _; exact h.up hw (Nat.le_refl _)); intro bk)) | refine walk1 ?_)
 exact ret_1 _ _ (.tmp rfl) (.refl _) ⟨_, rfl, rfl⟩
structure FG where
 seen : List ByteArray
 x : ByteArray
 mp : List (ByteArray × Value)
 f : Nat
theorem memB_cons (x y : ByteArray) (l : List ByteArray) : memB x (y :: l) = (decide (y = x) || memB x l) := rfl
theorem PuLnk2 {G : Prop} (h : G := by (apply Pu_lookupOkOld; rfl; rfl; exact h1; exact hv0; exact hc0)) : G := h
theorem PuLnk3 {G : Prop} (h : G := by (first | exact PuLnk2 | (apply Pu_lookupOkOld; rfl; rfl; exact h2; exact hv1; exact hc1) | (apply Pu_lookupOkC; rfl; rfl; (focus repeat' constructor); exact hv2; exact hc2))) : G := h
theorem follow_spec (Ar Az Al As : Option Addr) (cr cz cl cs : Nat) (a : DSource) (b1 b2 : Nat) (mk ml : List (ByteArray × Value)) (name : ByteArray) (w : World) (hA : RdSource w Ar Az Al As cr cz cl cs a) (h1 : MpAt w b1 mk) (h2 : MpAt w b2 ml)
  (hk : IxM mk fun x => firstZ x a.zones 0) (hl : IxM ml fun x => firstL x a.links 0) (hd : Nd ml) (hlen : ml.length ≤ a.links.length) :
  Does Tryz.prog 86 [srcV Ar Az Al As cr cz cl cs a, .map (some b1), .map (some b2), .string name] w (fun v O => v = .tuple #[.int .i64 (followD a (a.links.length + 1) [] name).1, .int .i64 (followD a (a.links.length + 1) [] name).2] ∧ O = []) := by
 obtain ⟨res, hres⟩ : ∃ res, followD a (a.links.length + 1) [] name = res := ⟨_, rfl⟩
 rw [hres]
 refine Does_of_W Tryz.func86 rfl rfl rfl rfl ?_
 repeat (first | (refine js ?_; (first | (apply Stp_call (h := fun w' hw _ => mclone_spec b2 ml w' (h2.up hw (Nat.le_refl _))); rfl; rintro v O' ⟨bc, rfl, rfl⟩) | (refine bx ?_; intro bk))) | refine walk ?_)
 refine W_loopF [(1, .map (some b1)), (2, .map (some b2)), (4, .pointer (some ⟨bk, 0, none⟩)), (10, .map (some bc))] [.blk bk [.slice Ar a.rules.length cr, .slice Az a.zones.length cz, .slice Al a.links.length cl, .slice As a.shifts.length cs] 27] (fun g : FG => [(3, .string g.x)]) (fun g => [.mp bc g.mp])
  (fun g => Nd g.mp ∧ (∀ x, mget g.mp x = if memB x g.seen then none else mget ml x) ∧ followD a g.f g.seen g.x = res ∧ g.mp.length < g.f) (fun g => g.mp.length) ⟨[], name, ml, a.links.length + 1⟩ SFA SOA ⟨hd, fun x => rfl, hres, by dsimp only; omega⟩ ?_
 rintro ⟨seen, x, mp, f⟩ ⟨hd2, hm, hi, hf⟩
 dsimp only at hd2 hm hi hf ⊢
 obtain ⟨f, rfl⟩ : ∃ f', f = f' + 1 := ⟨f - 1, by omega⟩
 rw [followD] at hi
 cases hz : firstZ x a.zones 0 with
 | some i =>
  rw [hz] at hi
  obtain ⟨hv0, hc0⟩ := hk.some hz
  repeat (first | (apply RL_pu; rfl; exact PuLnk2) | (refine js ?_; (refine bx ?_; intro bk)) | refine walk1 ?_)
  exact ret_2 _ _ [] (.tmp rfl) (.tmp rfl) .nil ⟨by rw [← hi] <;> rfl, rfl⟩
 | none =>
  rw [hz] at hi
  obtain ⟨hv0, hc0⟩ := hk.none hz
  cases hy : firstL x a.links 0 with
  | none =>
   rw [hy] at hi
   obtain ⟨hv1, hc1⟩ := hl.none hy
   have hg : mget mp x = none := by
    rw [hm x, hl x]
    dsimp only
    rw [hy]
    split <;> rfl
   have hv2 : (mget mp x).getD (.int .i64 0) = .int .i64 0 := by rw [hg]; rfl
   have hc2 : (mget mp x).isSome = false := by rw [hg]; rfl
   repeat (first | (apply RL_pu; rfl; exact PuLnk3) | (refine js ?_; (refine bx ?_; intro bk)) | refine walk1 ?_)
   exact ret_2 _ _ [] (.tmp rfl) (.tmp rfl) .nil ⟨by rw [← hi] <;> rfl, rfl⟩
  | some i =>
   rw [hy] at hi
   dsimp only at hi
   obtain ⟨hv1, hc1⟩ := hl.some hy
   cases hs : memB x seen with
   | true =>
    rw [hs, if_pos rfl] at hi
    have hg : mget mp x = none := by rw [hm x, hs]; rfl
    have hv2 : (mget mp x).getD (.int .i64 0) = .int .i64 0 := by rw [hg]; rfl
    have hc2 : (mget mp x).isSome = false := by rw [hg]; rfl
    repeat (first | (apply RL_pu; rfl; exact PuLnk3) | (refine js ?_; (refine bx ?_; intro bk)) | refine walk1 ?_)
    exact ret_2 _ _ [] (.tmp rfl) (.tmp rfl) .nil ⟨by rw [← hi] <;> rfl, rfl⟩
   | false =>
    rw [hs, if_neg (by decide)] at hi
    have hg : mget mp x = some (.int .i64 i) := by rw [hm x, hs, hl x]; dsimp only; rw [hy]; rfl
    have hv2 : (mget mp x).getD (.int .i64 0) = .int .i64 i := by rw [hg]; rfl
    have hc2 : (mget mp x).isSome = true := by rw [hg]; rfl
    have hdl := mdel_len x hc2
    have hlt : i < a.links.length := by have := firstL_lt x a.links 0 i hy; omega
    obtain ⟨hna, hca⟩ := hA.l.rd i _ (List.getElem?_eq_getElem hlt)
    rw [List.getElem?_eq_getElem hlt] at hi
    generalize a.links[i] = lk at *
    simp only [Option.map_some, Option.getD_some] at hi
    repeat (first | (apply RL_pu; rfl; (first | exact PuLnk3 | exact PuI)) | (refine js ?_; (first | (apply Stp_delete; rfl; rfl; (focus repeat' constructor)) | (refine bx ?_; intro bk))) | refine walk1 ?_)
    refine ⟨⟨x :: seen, lk.target, mdel mp x, f⟩, OA, ⟨hd2.del _, fun y => ?_, hi, OA⟩, SFA, SOA⟩
    dsimp only
    rw [mget_mdel x y hd2, hm y, memB_cons]
    by_cases e : x = y
    ·subst e; simp
    ·rw [if_neg (fun h => e h.symm), show decide (x = y) = false from decide_eq_false e, Bool.false_or]
end Go.Proofs.YtceekohkjgiabaaGreatDoor
