/- Contracts: analemmaref34.taken, slices.Index, Contains, Equal, IndexFunc, merge.check's closure. Contracts of functions that make slices: analemmaref16.Of, Names, ruleset.Names, slices.Clone. Plain functions: what accept looks for (layers 15, 17, 18, 24, 25). Plain law: the events sorted; the first that is close to the one in front of it. Plain functions: the last event before a nominal time; states of sets of rules (layers 17 and 19). A walk that stops at blocks; printed by genwalk.py, my own program. -/
import Derived.Test.YtonjepladadmhaaGreatDoorS07
import Derived.Test.YtonjepladadmhaaGreatDoorS05
import Derived.Test.YtonjepladadmhaaGreatDoorS02
import Derived.Sort.LotA
import Derived.Test.YtonjepladadmhaaGreatDoorS06
set_option maxHeartbeats 4000000
set_option linter.unusedVariables false
set_option linter.unusedSimpArgs false
namespace Go.Proofs.YtonjepladadmhaaGreatDoor
open Go Go.RowKit Go.Wk
attribute [local irreducible] W RL Does thenQ blockQ retQ Calls Pu Stp RD Qy Ay
def findI {α : Type} (p : α → Bool) : List α → Nat → Int
 | [], _ => -1
 | x :: l, k => if p x then k else findI p l (k + 1)
theorem index_spec (A : Option Addr) (c : Nat) (l : List ByteArray) (x : ByteArray) (w : World) (hA : RdSl w A c strEnc 1 l) :
  Does Tryz.prog 162 [.slice A l.length c, .string x] w (fun v O => v = .int .i64 (findI (fun y => decide (x = y)) l 0) ∧ O = []) := by
 have hs1 := hA.le
 have hs2 := hA.cap
 unfold maxLen at hs2
 generalize hres : findI (fun y => decide (x = y)) l 0 = res
 refine Does_of_W Tryz.func162 rfl rfl rfl rfl ?_
 repeat (first | refine walk ?_)
 refine W_loopF [(0, _), (1, _), (4, _), (7, _)] _ (fun k : Nat => [(8, .int .i64 k)]) (fun _ => []) (fun k => k ≤ l.length ∧ findI (fun y => decide (x = y)) (l.drop k) k = res) (fun k => l.length - k) 0 ⟨rfl, rfl, rfl, rfl, rfl, trivial⟩ (.refl _) ⟨by omega, by simpa using hres⟩ ?_
 rintro k ⟨hk, hi⟩
 repeat (first | refine walk ?_)
 refine W_cond rfl (fun hc => ?_) (fun hc => ?_)
 ·simp only [decide_eq_true_eq, Int.ofNat_lt] at hc
  obtain ⟨hna, hca⟩ := hA.rd k _ (List.getElem?_eq_getElem hc)
  have hnb := hna
  have hcb := hca
  rw [drop_cons hc, findI] at hi
  generalize l[k] = p at *
  repeat (first | (apply RL_pu; rfl; exact PuI) | refine walk1 ?_)
  refine W_cond rfl (fun h3 => ?_) (fun h3 => ?_)
  ·repeat (first | refine walk ?_)
   rw [if_pos h3] at hi
   exact ret_1 _ [] (.tmp rfl) .nil ⟨by rw [← hi], rfl⟩
  repeat (first | refine walk ?_)
  rw [h3] at hi
  exact ⟨k + 1, by omega, ⟨by omega, hi⟩, SFA, SOA⟩
 simp only [decide_eq_false_iff_not, Int.ofNat_lt] at hc
 repeat (first | refine walk ?_)
 exact ret_1 _ [] (.tmp rfl) .nil ⟨by rw [← hi, List.drop_eq_nil_of_le (by omega)]; rfl, rfl⟩
theorem findI_mem (x : ByteArray) : ∀ (l : List ByteArray) (k : Nat), decide (0 ≤ findI (fun y => decide (x = y)) l k) = memB x l
 | [], k => by simp [findI, memB]
 | y :: l, k => by
  have ih := findI_mem x l (k + 1)
  simp only [findI, memB]
  by_cases h : x = y
  ·subst h; simp
  ·rw [← ih]
   have : ¬ y = x := fun e => h e.symm
   simp [h, this]
theorem contains_spec (A : Option Addr) (c : Nat) (l : List ByteArray) (x : ByteArray) (w : World) (hA : RdSl w A c strEnc 1 l) :
  Does Tryz.prog 111 [.slice A l.length c, .string x] w (fun v O => v = .bool (memB x l) ∧ O = []) := by
 refine Does_of_W Tryz.func111 rfl rfl rfl rfl ?_
 repeat (first | (refine js ?_; (refine callE (fun w' hw => index_spec A c l x w' (hA.up hw)) ?_)) | refine walk ?_)
 exact ret_1 _ [] (.tmp rfl) .nil ⟨by rw [findI_mem], rfl⟩
theorem indexFunc_spec (A : Option Addr) (c : Nat) (l : List DRule) (f : FuncId) [Body Tryz.prog f] (us cs : List Value) (p : DRule → Bool) (w : World) (hA : RdSl w A c DRule.enc 11 l)
  (hf : ∀ r w', Bel w.heap.size w w' → Does Tryz.prog f (us ++ [.agg (DRule.enc r).toArray] ++ cs) w' (fun v O => v = .bool (p r) ∧ O = [])) :
  Does Tryz.prog 195 [.slice A l.length c, .func (.func f) us.toArray cs.toArray] w (fun v O => v = .int .i64 (findI p l 0) ∧ O = []) := by
 have hs1 := hA.le
 have hs2 := hA.cap
 unfold maxLen at hs2
 generalize hres : findI p l 0 = res
 refine Does_of_W Tryz.func195 rfl rfl rfl rfl ?_
 repeat (first | refine walk ?_)
 refine W_loopF [(0, _), (1, _), (4, _), (7, _)] _ (fun k : Nat => [(8, .int .i64 k)]) (fun _ => []) (fun k => k ≤ l.length ∧ findI p (l.drop k) k = res) (fun k => l.length - k) 0 ⟨rfl, rfl, rfl, rfl, rfl, trivial⟩ (.refl _) ⟨by omega, by simpa using hres⟩ ?_
 rintro k ⟨hk, hi⟩
 repeat (first | refine walk ?_)
 refine W_cond rfl (fun hc => ?_) (fun hc => ?_)
 ·simp only [decide_eq_true_eq, Int.ofNat_lt] at hc
  obtain ⟨hna, hca⟩ := hA.rd k _ (List.getElem?_eq_getElem hc)
  have hnb := hna
  have hcb := hca
  rw [drop_cons hc, findI] at hi
  generalize l[k] = r at *
  repeat (first | (apply RL_pu; rfl; exact PuI) | (refine js ?_; (refine callV (fun w' hw _ => hf r w' hw) ?_)) | refine walk1 ?_)
  refine W_cond rfl (fun h3 => ?_) (fun h3 => ?_)
  ·repeat (first | refine walk ?_)
   rw [if_pos h3] at hi
   exact ret_1 _ [] (.tmp rfl) .nil ⟨by rw [← hi], rfl⟩
  repeat (first | refine walk ?_)
  rw [h3] at hi
  exact ⟨k + 1, by omega, ⟨by omega, hi⟩, SFA, SOA⟩
 simp only [decide_eq_false_iff_not, Int.ofNat_lt] at hc
 repeat (first | refine walk ?_)
 exact ret_1 _ [] (.tmp rfl) .nil ⟨by rw [← hi, List.drop_eq_nil_of_le (by omega)]; rfl, rfl⟩
def ofB (l : List DRule) (x : ByteArray) : List DRule := l.filter fun r => decide (r.name = x)
def NewSl {α : Type} (e sz : Nat) (enc : α → List Value) (l : List α) (v : Value) (O : List It) : Prop := ∃ A c, v = .slice A l.length c ∧ O = [.row (.slice A l.length c) e sz l.length (l.flatMap enc)]
def namesB : List DRule → List ByteArray → List ByteArray
 | [], acc => acc
 | r :: l, acc => if memB r.name acc then namesB l acc else namesB l (acc ++ [r.name])
theorem memB_snoc (x y : ByteArray) : ∀ l : List ByteArray, memB x (l ++ [y]) = (memB x l || decide (y = x))
 | [] => by simp [memB]
 | z :: l => by simp [memB, memB_snoc x y l, Bool.or_assoc]
end Go.Proofs.YtonjepladadmhaaGreatDoor
namespace Go.Proofs.YtonjepladadmhaaGreatDoor
open Go Go.RowKit Go.Wk
def firstZ (x : ByteArray) : List DZone → Nat → Option Nat
 | [], _ => none
 | z :: l, k => if z.name = x then some k else firstZ x l (k + 1)
def firstL (x : ByteArray) : List DLink → Nat → Option Nat
 | [], _ => none
 | z :: l, k => if z.name = x then some k else firstL x l (k + 1)
def followD (s : DSource) : Nat → List ByteArray → ByteArray → Nat × Int
 | 0, _, _ => (0, 11)
 | fuel + 1, seen, x =>
  match firstZ x s.zones 0 with
  | some i => (i, 0)
  | none => match firstL x s.links 0 with
   | none => (0, 9)
   | some i => if memB x seen then (0, 11) else followD s fuel (x :: seen) ((s.links[i]?).map (·.target) |>.getD ByteArray.empty)
def zoneFault (s : DSource) : List DZone → Nat → Option (DPlace × Int)
 | [], _ => none
 | z :: l, i => if zoneB z.name = false then some (⟨2, i, 0⟩, 9) else if firstZ z.name s.zones 0 ≠ some i then some (⟨2, i, 0⟩, 10) else zoneFault s l (i + 1)
def linkFault (s : DSource) : List DLink → Nat → Option (DPlace × Int)
 | [], _ => none
 | l :: ls, i =>
  if zoneB l.name = false then some (⟨3, i, 0⟩, 9)
  else if (firstZ l.name s.zones 0).isSome ∨ firstL l.name s.links 0 ≠ some i then some (⟨3, i, 0⟩, 10)
  else if (firstZ l.target s.zones 0).isNone ∧ (firstL l.target s.links 0).isNone then some (⟨3, i, 0⟩, 9)
  else linkFault s ls (i + 1)
def loopFault (s : DSource) : List DLink → Nat → Option (DPlace × Int)
 | [], _ => none
 | l :: ls, i => if (followD s (s.links.length + 1) [] l.name).2 = 11 then some (⟨3, i, 0⟩, 11) else loopFault s ls (i + 1)
def linksD (s : DSource) : Option (DPlace × Int) := (zoneFault s s.zones 0).or ((linkFault s s.links 0).or (loopFault s s.links 0))
def insE (e : DEvent) : List DEvent → List DEvent
 | [] => [e]
 | x :: l => if ordE x e < 0 then e :: x :: l else x :: insE e l
def yearEvs (least y : Int) : List DRule → Nat → List DEvent → List DEvent
 | [], _, acc => acc
 | r :: l, i, acc => yearEvs least y l (i + 1) (match onR least r i y with | some e => insE e acc | none => acc)
def allEvs (l : List DRule) (least from_ : Int) : Nat → List DEvent
 | 0 => []
 | k + 1 => yearEvs least (from_ + k) l 0 (allEvs l least from_ k)
def closeE : List DEvent → Option DEvent
 | [] => none
 | [_] => none
 | a :: b :: l => (closeE (b :: l)).or (if a.nominal - b.nominal < 259200 then some a else none)
def apartD (l : List DRule) : Option DEvent := closeE (allEvs l (leastD l) 1850 701)
def evIn (least nominal : Int) (r : DRule) (i y : Int) : Nat → Option DEvent
 | 0 => none
 | k + 1 => match onR least r i y with
  | some e => if nominal < e.nominal then some e else evIn least nominal r i (y + 1) k
  | none => evIn least nominal r i (y + 1) k
def afterGo (least nominal yr : Int) : List DRule → Nat → Option DEvent → Option DEvent
 | [], _, best => best
 | r :: l, i, best =>
  afterGo least nominal yr l (i + 1) (match evIn least nominal r i (max (max r.from_ (-2000000000)) (yr - 2)) 20 with
   | none => best
   | some e => match best with | none => some e | some b => if ordE e b < 0 then some e else some b)
def afterD (l : List DRule) (nominal : Int) : Option DEvent := afterGo (leastD l) nominal (yearOf nominal) l 0 none
def farD (l : List DRule) (nominal : Int) : Bool :=
 match afterD l (nominal - 259200) with
 | none => true
 | some e => decide (259200 ≤ e.nominal - nominal)
def sizesD (s : DSource) : Option (DPlace × Int) :=
 if 2000 < s.rules.length then some (⟨1, 2000, 0⟩, 7)
 else if 500 < s.zones.length then some (⟨2, 500, 0⟩, 7)
 else match s.zones.findIdx? fun z => decide (60 < z.eras.length) with
  | some i => some (⟨2, i, 60⟩, 7)
  | none => if 1000 < s.links.length then some (⟨3, 1000, 0⟩, 7) else if 2000 < s.shifts.length then some (⟨4, 2000, 0⟩, 7) else none
def ruleAt (set : ByteArray) : List DRule → Nat → Nat → DPlace
 | [], _, _ => ⟨0, 0, 0⟩
 | r :: l, i, k => if r.name = set then (match i with | 0 => ⟨1, k, 0⟩ | i + 1 => ruleAt set l i (k + 1)) else ruleAt set l i (k + 1)
def setFault (rs : List DRule) (x : ByteArray) : Option (Nat × Int) :=
 if setB x = false then some (0, 9)
 else if (rsChk (ofB rs x)).2 ≠ 0 then some (rsChk (ofB rs x))
 else match apartD (ofB rs x) with | some e => some (e.rule.toNat, 13) | none => none
def setsGo (rs : List DRule) : List ByteArray → Option (DPlace × Int)
 | [] => none
 | x :: l => match setFault rs x with | some (i, e) => some (ruleAt x rs i 0, e) | none => setsGo rs l
def setsD (s : DSource) : Option (DPlace × Int) := setsGo s.rules (namesB s.rules [])
def shiftsGo (s : DSource) : List ByteArray → List ByteArray → Nat → Option (DPlace × Int)
 | [], _, _ => none
 | x :: l, seen, i =>
  let r := ofB s.rules x
  if r = [] then some (⟨4, i, 0⟩, 9)
  else if memB x seen then some (⟨4, i, 0⟩, 10)
  else if leastD r ≠ 0 ∨ (otherD r).2 = false then some (⟨4, i, 0⟩, 14)
  else shiftsGo s l (seen ++ [x]) (i + 1)
def setOf (rs : List DRule) (e : DEra) : List DRule := if e.kind = 2 then ofB rs e.set else []
def statesOf (rs : List DRule) (e : DEra) : List (Int × ByteArray) := if e.kind = 1 then [(e.save, ByteArray.empty)] else if e.kind = 2 then (setOf rs e).map fun r => (r.save, r.letter) else [(0, ByteArray.empty)]
def hoursB (off save : Int) : Bool := decide (-54000 ≤ off + save) && decide (off + save ≤ 54000)
def dU0 : DUntil := ⟨false, 0, 0, ⟨0, 0, 0⟩, ⟨0, 0⟩⟩
def unusedB (e : DEra) : Bool := (!decide (e.kind = 1) && !decide (e.save = 0)) || (!decide (e.kind = 2) && !decide (e.set = ByteArray.empty)) || (!e.til.is && !decide ({ e.til with is := false } = dU0))
def eraChk (rs : List DRule) (e : DEra) (first : Bool) : Int :=
 if e.kind < 0 ∨ 2 < e.kind then 2
 else if first = true ∧ e.kind = 2 then 12
 else if e.kind = 2 ∧ setOf rs e = [] then 9
 else if e.kind = 1 ∧ (e.save < 1 ∨ 10800 < e.save) then 14
 else if hoursB e.off 0 = false ∨ ((statesOf rs e).any fun x => !hoursB e.off x.1) = true then 3
 else if unusedB e then 2
 else fmtChk e (setOf rs e)
def dE0 : DEra := ⟨0, 0, 0, ByteArray.empty, ByteArray.empty, dU0⟩
def endChk (rs : List DRule) (l : List DEra) (k : Nat) : Int :=
 let e := l.getD k dE0
 if e.til.is ≠ decide (k + 1 < l.length) then 12
 else if e.til.is = false then 0
 else
  let least := leastD (setOf rs e)
  if untilChk e.til least ≠ 0 then untilChk e.til least
  else
   let n := (nominalU e.til least).1
   let b := l.getD (k - 1) dE0
   if 0 < k ∧ ((nominalU b.til (leastD (setOf rs b))).2 ≠ 0 ∨ n - (nominalU b.til (leastD (setOf rs b))).1 < 259200) then 12
   else if e.kind = 2 ∧ farD (setOf rs e) n = false then 13
   else 0
def addP (x : Int × List UInt8) (l : List (Int × List UInt8)) : List (Int × List UInt8) := if x ∈ l then l else l ++ [x]
def addA (x : List UInt8) (l : List (List UInt8)) : List (List UInt8) := if x ∈ l then l else l ++ [x]
def stGo (e : DEra) : List (Int × ByteArray) → List (Int × List UInt8) × List (List UInt8) → List (Int × List UInt8) × List (List UInt8)
 | [], acc => acc
 | x :: l, acc =>
  let a := (abbrF e.format.data.toList e.off x.1 x.2.data.toList).1
  stGo e l (addP (e.off + x.1, a) acc.1, addA a acc.2)
def erGo (rs : List DRule) : List DEra → List (Int × List UInt8) × List (List UInt8) → List (Int × List UInt8) × List (List UInt8)
 | [], acc => acc
 | e :: l, acc => erGo rs l (stGo e (statesOf rs e) acc)
def sizeA : List (List UInt8) → Nat
 | [] => 0
 | x :: l => x.length + 1 + sizeA l
def fewB25 (rs : List DRule) (z : DZone) : Bool := decide ((erGo rs z.eras ([], [])).1.length ≤ 120) && decide (sizeA (erGo rs z.eras ([], [])).2 ≤ 250)
def erasGo (rs : List DRule) (l : List DEra) (i : Nat) : Nat → Nat → Option (DPlace × Int)
 | 0, _ => none
 | f + 1, k =>
  if eraChk rs (l.getD k dE0) (decide (k = 0)) ≠ 0 then some (⟨2, i, k⟩, eraChk rs (l.getD k dE0) (decide (k = 0)))
  else if endChk rs l k ≠ 0 then some (⟨2, i, k⟩, endChk rs l k)
  else erasGo rs l i f (k + 1)
def zonesGo (rs : List DRule) : List DZone → Nat → Option (DPlace × Int)
 | [], _ => none
 | z :: l, i =>
  if z.eras = [] then some (⟨2, i, 0⟩, 4)
  else match erasGo rs z.eras i z.eras.length 0 with
   | some x => some x
   | none => if fewB25 rs z = false then some (⟨2, i, 0⟩, 7) else zonesGo rs l (i + 1)
def accD (s : DSource) : Option (DPlace × Int) := (sizesD s).or ((setsD s).or ((shiftsGo s s.shifts [] 0).or ((linksD s).or (zonesGo s.rules s.zones 0))))
theorem ordE_lt (a b : DEvent) : ordE a b < 0 ↔ a.nominal < b.nominal ∨ (a.nominal = b.nominal ∧ (a.rule < b.rule ∨ (a.rule = b.rule ∧ a.year < b.year))) := by
 unfold ordE
 repeat' split
 all_goals omega
def ltE (x y : DEvent) : Bool := decide (ordE x y < 0)
theorem swoE : Go.Sort.SWO ltE where
 irrefl x := by simp only [ltE, ordE_lt, decide_eq_false_iff_not]; omega
 trans x y z h1 h2 := by simp only [ltE, ordE_lt, decide_eq_true_eq] at *; omega
 ntrans x y z h1 h2 := by simp only [ltE, ordE_lt, decide_eq_false_iff_not] at *; omega
theorem totE (x y : DEvent) (h1 : ltE x y = false) (h2 : ltE y x = false) : x = y := by
 simp only [ltE, ordE_lt, decide_eq_false_iff_not] at h1 h2
 obtain ⟨a, b, c⟩ := x
 obtain ⟨d, e, f⟩ := y
 simp only [DEvent.mk.injEq]
 simp only at h1 h2
 omega
def yearC (least y : Int) : List DRule → Nat → List DEvent
 | [], _ => []
 | r :: l, i => (onR least r i y).toList ++ yearC least y l (i + 1)
def allC (l : List DRule) (least from_ : Int) : Nat → List DEvent
 | 0 => []
 | k + 1 => allC l least from_ k ++ yearC least (from_ + k) l 0
def insF (a : List DEvent) (e : DEvent) : List DEvent := insE e a
theorem yearEvs_eq (least y : Int) : ∀ (l : List DRule) (i : Nat) (acc : List DEvent), yearEvs least y l i acc = (yearC least y l i).foldl insF acc
 | [], _, _ => rfl
 | r :: l, i, acc => by
  rw [yearEvs, yearC, yearEvs_eq least y l]
  cases onR least r i y with
  | none => rfl
  | some e => rfl
theorem insE_perm (e : DEvent) : ∀ l, (insE e l).Perm (e :: l)
 | [] => .refl _
 | x :: l => by
  rw [insE]
  split
  ·exact .refl _
  ·exact ((insE_perm e l).cons x).trans (.swap _ _ _)
theorem insF_perm : ∀ (xs acc : List DEvent), (xs.foldl insF acc).Perm (xs ++ acc)
 | [], _ => .refl _
 | x :: xs, acc => by
  rw [List.foldl_cons]
  refine (insF_perm xs _).trans ?_
  refine ((insE_perm x acc).append_left xs).trans ?_
  exact List.perm_middle
theorem allEvs_perm (l : List DRule) (least from_ : Int) : ∀ k, (allEvs l least from_ k).Perm (allC l least from_ k)
 | 0 => .refl _
 | k + 1 => by
  rw [allEvs, allC, yearEvs_eq]
  refine (insF_perm _ _).trans ?_
  refine List.perm_append_comm.trans ?_
  exact (allEvs_perm l least from_ k).append_right _
def DescE (l : List DEvent) : Prop := l.Pairwise fun a b => ltE a b = false
theorem insE_desc (e : DEvent) : ∀ l, DescE l → DescE (insE e l)
 | [], _ => List.pairwise_singleton _ _
 | x :: l, h => by
  obtain ⟨h1, h2⟩ := List.pairwise_cons.1 h
  rw [insE]
  split
  ·rename_i hlt
   have hx : ltE x e = true := decide_eq_true hlt
   have hex : ltE e x = false := by
    cases h3 : ltE e x
    ·rfl
    ·have := swoE.trans x e x hx h3
     rw [swoE.irrefl] at this
     cases this
   refine List.pairwise_cons.2 ⟨fun b hb => ?_, h⟩
   rcases List.mem_cons.1 hb with rfl | hb
   ·exact hex
   ·exact swoE.ntrans e x b hex (h1 b hb)
  ·rename_i hlt
   have hx : ltE x e = false := decide_eq_false hlt
   refine List.pairwise_cons.2 ⟨fun b hb => ?_, insE_desc e l h2⟩
   rcases List.mem_cons.1 ((insE_perm e l).mem_iff.1 hb) with rfl | hb
   ·exact hx
   ·exact h1 b hb
theorem insF_desc : ∀ (xs acc : List DEvent), DescE acc → DescE (xs.foldl insF acc)
 | [], _, h => h
 | x :: xs, acc, h => insF_desc xs _ (insE_desc x acc h)
theorem allEvs_desc (l : List DRule) (least from_ : Int) : ∀ k, DescE (allEvs l least from_ k)
 | 0 => List.Pairwise.nil
 | k + 1 => by
  rw [allEvs, yearEvs_eq]
  exact insF_desc _ _ (allEvs_desc l least from_ k)
theorem sortE_eq (l : List DRule) (least from_ : Int) (k : Nat) : (allC l least from_ k).mergeSort (fun x y => !ltE y x) = (allEvs l least from_ k).reverse := by
 refine List.Perm.eq_of_pairwise (le := fun x y => (!ltE y x) = true) ?_ ?_ ?_ ?_
 ·intro a b _ _ h1 h2
  simp only [Bool.not_eq_true'] at h1 h2
  exact totE a b h2 h1
 ·refine List.pairwise_mergeSort ?_ ?_ _
  ·intro a b c h1 h2
   simp only [Bool.not_eq_true'] at h1 h2 ⊢
   exact swoE.ntrans c b a h2 h1
  ·intro a b
   cases h : ltE b a with
   | false => simp
   | true =>
    have : ltE a b = false := by
     cases h3 : ltE a b
     ·rfl
     ·have := swoE.trans a b a h3 h
      rw [swoE.irrefl] at this
      cases this
    simp [this]
 ·rw [List.pairwise_reverse]
  exact (allEvs_desc l least from_ k).imp fun h => by rw [h]; rfl
 ·exact (List.mergeSort_perm _ _).trans ((allEvs_perm l least from_ k).symm.trans (List.reverse_perm _).symm)
def closeA : List DEvent → Option DEvent
 | a :: b :: l => if b.nominal - a.nominal < 259200 then some b else closeA (b :: l)
 | _ => none
theorem closeA_snoc (x y : DEvent) : ∀ l : List DEvent, closeA (l ++ [x, y]) = (closeA (l ++ [x])).or (if y.nominal - x.nominal < 259200 then some y else none)
 | [] => by simp [closeA]
 | [a] => by
  simp only [List.cons_append, List.nil_append, closeA]
  by_cases h : x.nominal - a.nominal < 259200 <;> simp [h]
 | a :: b :: l => by
  have ih := closeA_snoc x y (b :: l)
  simp only [List.cons_append, closeA] at ih ⊢
  by_cases h : b.nominal - a.nominal < 259200
  ·simp [h]
  ·simp only [if_neg h]
   exact ih
theorem closeA_rev : ∀ l : List DEvent, closeA l.reverse = closeE l
 | [] => rfl
 | [_] => rfl
 | a :: b :: l => by
  have ih := closeA_rev (b :: l)
  rw [List.reverse_cons] at ih
  rw [closeE, ← ih, List.reverse_cons, List.reverse_cons, List.append_assoc]
  exact closeA_snoc b a l.reverse
theorem apartD_eq (l : List DRule) : closeA ((allC l (leastD l) 1850 701).mergeSort fun x y => !ltE y x) = apartD l := by
 rw [sortE_eq, closeA_rev]; rfl
end Go.Proofs.YtonjepladadmhaaGreatDoor
namespace Go.Wk
open Go Go.RowKit
def beIn (least nominal : Int) (r : DRule) (i y : Int) : Nat → Option DEvent
 | 0 => none
 | k + 1 => match onR least r i y with
  | some e => if e.nominal < nominal then some e else beIn least nominal r i (y - 1) k
  | none => beIn least nominal r i (y - 1) k
def befGo (least nominal yr : Int) : List DRule → Nat → Option DEvent → Option DEvent
 | [], _, best => best
 | r :: l, i, best =>
  befGo least nominal yr l (i + 1) (match beIn least nominal r i (min (lastY r) (yr + 2)) 20 with
   | none => best
   | some e => match best with | none => some e | some b => if ordE b e < 0 then some e else some b)
def befD (l : List DRule) (nominal : Int) : Option DEvent := befGo (leastD l) nominal (yearOf nominal) l 0 none
def fiIn (least : Int) (r : DRule) (i y : Int) : Nat → Option DEvent
 | 0 => none
 | k + 1 => match onR least r i y with
  | some e => some e
  | none => fiIn least r i (y + 1) k
def firL (least : Int) : List DRule → Nat → List DEvent
 | [], _ => []
 | r :: l, i => (fiIn least r i (max r.from_ (-2000000000)) 9).toList ++ firL least l (i + 1)
def dR0 : DRule := ⟨ByteArray.empty, 0, 0, 0, ⟨0, 0, 0⟩, ⟨0, 0⟩, 0, ByteArray.empty⟩
def ruE (l : List DRule) (e : DEvent) : DRule := l.getD e.rule.toNat dR0
def fstB (l : List DRule) (all : Bool) (but : Int) (best : Option DEvent) (e : DEvent) : Option DEvent :=
 if (!all && decide ((ruE l e).save = but)) || (match best with | some b => decide (b.nominal ≤ e.nominal) | none => false) then best else some e
def fstD (l : List DRule) (all : Bool) (but : Int) : Option DEvent := (firL (leastD l) l 0).foldl (fstB l all but) none
def behS (l : List DRule) (e : DEvent) : Int × ByteArray := ((ruE l e).save, (ruE l e).letter)
def iniS (l : List DRule) : Int × ByteArray :=
 match fstD l true 0 with
 | none => (0, ByteArray.empty)
 | some e => match fstD l false (ruE l e).save with
  | some o => behS l o
  | none => behS l e
def befS (l : List DRule) (nominal : Int) : Int × ByteArray :=
 match befD l nominal with
 | some e => behS l e
 | none => iniS l
def instE (l : List DRule) (e : DEvent) (off : Int) : Int :=
 if (ruE l e).at_.base = 1 then e.nominal - max (leastD l) (-10800) - off
 else if (ruE l e).at_.base = 0 then e.nominal - (befS l e.nominal).1 - off
 else e.nominal
theorem walkB1 {G G' : Prop} (k : G') (h : Hold G' → G := by intro k; (first | (apply Go.Wk.RL_pu; rfl; exact Go.Wk.PuA) | (apply Go.Wk.RL_st0; refine Go.Wk.stA ?_) | apply Go.Wk.W_seq | apply Go.Wk.W_region | apply Go.Wk.RL_nil | apply Go.Wk.thenQ_n | apply Go.Wk.W_skip | apply Go.Wk.W_ret | apply Go.Wk.W_exit | apply Go.Wk.thenQ_r | apply Go.Wk.thenQ_e | apply Go.Wk.blockQ_n | apply Go.Wk.blockQ_r | apply Go.Wk.blockQ_hit | (apply Go.Wk.blockQ_miss; rfl) | (apply Go.Wk.W_true; rfl) | (apply Go.Wk.W_false; rfl) | (apply Go.Wk.RL_yes; rfl; rfl; rfl) | (apply Go.Wk.RL_no; rfl; rfl; rfl; rfl; rfl) | (apply Go.Wk.W_draw; rfl; decide +kernel) | apply Go.Wk.RD_done | (apply Go.Wk.RD_Q; rfl; rfl; decide +kernel; rfl; rfl; exact Go.Wk.QyA) | (apply Go.Wk.RD_N; rfl; rfl; decide +kernel; rfl; rfl; rfl) | (apply Go.Wk.RD_A; rfl; rfl; decide +kernel; rfl; rfl; first | exact Go.Wk.Ay_alloc | exact Go.Wk.Ay_buildSlice0 | (apply Go.Wk.Ay_buildSliceC; rfl; rfl; rfl; rfl; exact Go.Wk.NfA) | (apply Go.Wk.Ay_buildSliceNf; rfl; rfl; rfl; exact Go.Wk.NfA))); exact k.out) : G := h ⟨k⟩
theorem walkB {G G' : Prop} (k : G') (h : Hold G' → G := by intro k; refine Go.Wk.walkB1 ?_; (repeat refine Go.Wk.walkB1 ?_); exact k.out) : G := h ⟨k⟩
end Go.Wk
