/- Struct values compare as the data do. Contracts of functions that only read: analemmaref14.zones, Same; analemmaref34.shifted, first, taken; slices.Index, Contains, Equal. Contracts: analemmaref14.Same, analemmaref34.shifted, first, taken, slices.Index, Contains, Equal. Contracts: analemmaref34.taken, slices.Index, Contains, Equal, IndexFunc, merge.check's closure. Contracts of functions that make slices: analemmaref16.Of, Names, ruleset.Names, slices.Clone. Plain functions: what accept looks for (layers 15, 17, 18, 24, 25). A walk that stops at blocks; printed by genwalk.py, my own program. Calls that write what the caller owns; stores into rows. -/
import Derived.Test.YtonjepladadmhaaGreatDoorR07
import Derived.Test.YtonjepladadmhaaGreatDoorR05
import Derived.Test.YtonjepladadmhaaGreatDoorR02
import Derived.Test.YtonjepladadmhaaGreatDoorR06
import Derived.Orders
set_option maxHeartbeats 4000000
set_option linter.unusedVariables false
set_option linter.unusedSimpArgs false
namespace Go.Proofs.YtonjepladadmhaaGreatDoor
open Go Go.RowKit Go.Wk
theorem ok_ite (w : World) (p : Prop) [Decidable p] (b : Bool) : (if p then Result.ok b w else Result.ok false w) = Result.ok (decide p && b) w := by
 by_cases h : p <;> simp [h]
instance : EqE Tryz.prog 27 DRule DRule.enc where
 h r s w := by
  unfold DRule.enc
  simp [go_sem, toList_inj]
  rcases r with ⟨_, _, _, _, ⟨_, _, _⟩, ⟨_, _⟩, _, _⟩
  rcases s with ⟨_, _, _, _, ⟨_, _, _⟩, ⟨_, _⟩, _, _⟩
  simp only [ok_ite, Result.ok.injEq, and_true]
  rw [Bool.eq_iff_iff]
  simp [and_assoc]
 g := by kernel_rfl
instance : EqE Tryz.prog 55 DEra DEra.enc where
 h r s w := by
  unfold DEra.enc
  simp [go_sem, toList_inj]
  rcases r with ⟨_, _, _, _, _, ⟨_, _, _, ⟨_, _, _⟩, ⟨_, _⟩⟩⟩
  rcases s with ⟨_, _, _, _, _, ⟨_, _, _, ⟨_, _, _⟩, ⟨_, _⟩⟩⟩
  simp only [ok_ite, Result.ok.injEq, and_true]
  rw [Bool.eq_iff_iff]
  simp [and_assoc]
 g := by kernel_rfl
instance : EqE Tryz.prog 63 DLink DLink.enc where
 h r s w := by
  unfold DLink.enc
  simp [go_sem, toList_inj]
  rcases r with ⟨_, _⟩
  rcases s with ⟨_, _⟩
  simp only [ok_ite, Result.ok.injEq, and_true]
  rw [Bool.eq_iff_iff]
  simp [and_assoc]
 g := by kernel_rfl
instance : EqE Tryz.prog 65 DPlace DPlace.enc where
 h r s w := by
  unfold DPlace.enc
  simp [go_sem, toList_inj]
  rcases r with ⟨_, _, _⟩
  rcases s with ⟨_, _, _⟩
  simp only [ok_ite, Result.ok.injEq, and_true]
  rw [Bool.eq_iff_iff]
  simp [and_assoc]
 g := by kernel_rfl
attribute [local irreducible] W RL Does thenQ blockQ retQ Calls Pu Stp RD Qy Ay
theorem drop_cons {α : Type} {xs : List α} {k : Nat} (h : k < xs.length) : xs.drop k = xs[k] :: xs.drop (k + 1) := List.drop_eq_getElem_cons h
def srcV (Ar Az Al As : Option Addr) (cr cz cl cs : Nat) (s : DSource) : Value := .agg #[.slice Ar s.rules.length cr, .slice Az s.zones.length cz, .slice Al s.links.length cl, .slice As s.shifts.length cs]
def memB (x : ByteArray) : List ByteArray → Bool
 | [] => false
 | y :: l => decide (y = x) || memB x l
def findI {α : Type} (p : α → Bool) : List α → Nat → Int
 | [], _ => -1
 | x :: l, k => if p x then k else findI p l (k + 1)
theorem index_spec (A : Option Addr) (c : Nat) (l : List ByteArray) (x : ByteArray) (w : World) (hA : RdSl w A c strEnc 1 l) :
  Does Tryz.prog 162 [.slice A l.length c, .string x] w (fun v O => v = .int .i64 (findI (fun y => decide (x = y)) l 0) ∧ O = []) := by
 have hs1 := hA.le
 have hs2 := hA.cap
 unfold maxLen at hs2
 generalize hres : findI (fun y => decide (x = y)) l 0 = res
 refine Does_of_W Tryz.func162 rfl rfl rfl rfl ?_
 repeat (first | refine walk ?_)
 refine W_loopF [(0, _), (1, _), (4, _), (7, _)] _ (fun k : Nat => [(8, .int .i64 k)]) (fun _ => []) (fun k => k ≤ l.length ∧ findI (fun y => decide (x = y)) (l.drop k) k = res) (fun k => l.length - k) 0 ⟨rfl, rfl, rfl, rfl, rfl, trivial⟩ (.refl _) ⟨by omega, by simpa using hres⟩ ?_
 rintro k ⟨hk, hi⟩
 repeat (first | refine walk ?_)
 refine W_cond rfl (fun hc => ?_) (fun hc => ?_)
 ·simp only [decide_eq_true_eq, Int.ofNat_lt] at hc
  obtain ⟨hna, hca⟩ := hA.rd k _ (List.getElem?_eq_getElem hc)
  have hnb := hna
  have hcb := hca
  rw [drop_cons hc, findI] at hi
  generalize l[k] = p at *
  repeat (first | (apply RL_pu; rfl; exact PuI) | refine walk1 ?_)
  refine W_cond rfl (fun h3 => ?_) (fun h3 => ?_)
  ·repeat (first | refine walk ?_)
   rw [if_pos h3] at hi
   exact ret_1 _ [] (.tmp rfl) .nil ⟨by rw [← hi], rfl⟩
  repeat (first | refine walk ?_)
  rw [h3] at hi
  exact ⟨k + 1, by omega, ⟨by omega, hi⟩, SFA, SOA⟩
 simp only [decide_eq_false_iff_not, Int.ofNat_lt] at hc
 repeat (first | refine walk ?_)
 exact ret_1 _ [] (.tmp rfl) .nil ⟨by rw [← hi, List.drop_eq_nil_of_le (by omega)]; rfl, rfl⟩
theorem findI_mem (x : ByteArray) : ∀ (l : List ByteArray) (k : Nat), decide (0 ≤ findI (fun y => decide (x = y)) l k) = memB x l
 | [], k => by simp [findI, memB]
 | y :: l, k => by
  have ih := findI_mem x l (k + 1)
  simp only [findI, memB]
  by_cases h : x = y
  ·subst h; simp
  ·rw [← ih]
   have : ¬ y = x := fun e => h e.symm
   simp [h, this]
theorem contains_spec (A : Option Addr) (c : Nat) (l : List ByteArray) (x : ByteArray) (w : World) (hA : RdSl w A c strEnc 1 l) :
  Does Tryz.prog 111 [.slice A l.length c, .string x] w (fun v O => v = .bool (memB x l) ∧ O = []) := by
 refine Does_of_W Tryz.func111 rfl rfl rfl rfl ?_
 repeat (first | (refine js ?_; (refine callE (fun w' hw => index_spec A c l x w' (hA.up hw)) ?_)) | refine walk ?_)
 exact ret_1 _ [] (.tmp rfl) .nil ⟨by rw [findI_mem], rfl⟩
theorem indexFunc_spec (A : Option Addr) (c : Nat) (l : List DRule) (f : FuncId) [Body Tryz.prog f] (us cs : List Value) (p : DRule → Bool) (w : World) (hA : RdSl w A c DRule.enc 11 l)
  (hf : ∀ r w', Bel w.heap.size w w' → Does Tryz.prog f (us ++ [.agg (DRule.enc r).toArray] ++ cs) w' (fun v O => v = .bool (p r) ∧ O = [])) :
  Does Tryz.prog 195 [.slice A l.length c, .func (.func f) us.toArray cs.toArray] w (fun v O => v = .int .i64 (findI p l 0) ∧ O = []) := by
 have hs1 := hA.le
 have hs2 := hA.cap
 unfold maxLen at hs2
 generalize hres : findI p l 0 = res
 refine Does_of_W Tryz.func195 rfl rfl rfl rfl ?_
 repeat (first | refine walk ?_)
 refine W_loopF [(0, _), (1, _), (4, _), (7, _)] _ (fun k : Nat => [(8, .int .i64 k)]) (fun _ => []) (fun k => k ≤ l.length ∧ findI p (l.drop k) k = res) (fun k => l.length - k) 0 ⟨rfl, rfl, rfl, rfl, rfl, trivial⟩ (.refl _) ⟨by omega, by simpa using hres⟩ ?_
 rintro k ⟨hk, hi⟩
 repeat (first | refine walk ?_)
 refine W_cond rfl (fun hc => ?_) (fun hc => ?_)
 ·simp only [decide_eq_true_eq, Int.ofNat_lt] at hc
  obtain ⟨hna, hca⟩ := hA.rd k _ (List.getElem?_eq_getElem hc)
  have hnb := hna
  have hcb := hca
  rw [drop_cons hc, findI] at hi
  generalize l[k] = r at *
  repeat (first | (apply RL_pu; rfl; exact PuI) | (refine js ?_; (refine callV (fun w' hw _ => hf r w' hw) ?_)) | refine walk1 ?_)
  refine W_cond rfl (fun h3 => ?_) (fun h3 => ?_)
  ·repeat (first | refine walk ?_)
   rw [if_pos h3] at hi
   exact ret_1 _ [] (.tmp rfl) .nil ⟨by rw [← hi], rfl⟩
  repeat (first | refine walk ?_)
  rw [h3] at hi
  exact ⟨k + 1, by omega, ⟨by omega, hi⟩, SFA, SOA⟩
 simp only [decide_eq_false_iff_not, Int.ofNat_lt] at hc
 repeat (first | refine walk ?_)
 exact ret_1 _ [] (.tmp rfl) .nil ⟨by rw [← hi, List.drop_eq_nil_of_le (by omega)]; rfl, rfl⟩
def ofB (l : List DRule) (x : ByteArray) : List DRule := l.filter fun r => decide (r.name = x)
def NewSl {α : Type} (e sz : Nat) (enc : α → List Value) (l : List α) (v : Value) (O : List It) : Prop := ∃ A c, v = .slice A l.length c ∧ O = [.row (.slice A l.length c) e sz l.length (l.flatMap enc)]
def namesB : List DRule → List ByteArray → List ByteArray
 | [], acc => acc
 | r :: l, acc => if memB r.name acc then namesB l acc else namesB l (acc ++ [r.name])
theorem memB_snoc (x y : ByteArray) : ∀ l : List ByteArray, memB x (l ++ [y]) = (memB x l || decide (y = x))
 | [] => by simp [memB]
 | z :: l => by simp [memB, memB_snoc x y l, Bool.or_assoc]
end Go.Proofs.YtonjepladadmhaaGreatDoor
namespace Go.Proofs.YtonjepladadmhaaGreatDoor
open Go Go.RowKit Go.Wk
def firstZ (x : ByteArray) : List DZone → Nat → Option Nat
 | [], _ => none
 | z :: l, k => if z.name = x then some k else firstZ x l (k + 1)
def firstL (x : ByteArray) : List DLink → Nat → Option Nat
 | [], _ => none
 | z :: l, k => if z.name = x then some k else firstL x l (k + 1)
def followD (s : DSource) : Nat → List ByteArray → ByteArray → Nat × Int
 | 0, _, _ => (0, 11)
 | fuel + 1, seen, x =>
  match firstZ x s.zones 0 with
  | some i => (i, 0)
  | none => match firstL x s.links 0 with
   | none => (0, 9)
   | some i => if memB x seen then (0, 11) else followD s fuel (x :: seen) ((s.links[i]?).map (·.target) |>.getD ByteArray.empty)
def zoneFault (s : DSource) : List DZone → Nat → Option (DPlace × Int)
 | [], _ => none
 | z :: l, i => if zoneB z.name = false then some (⟨2, i, 0⟩, 9) else if firstZ z.name s.zones 0 ≠ some i then some (⟨2, i, 0⟩, 10) else zoneFault s l (i + 1)
def linkFault (s : DSource) : List DLink → Nat → Option (DPlace × Int)
 | [], _ => none
 | l :: ls, i =>
  if zoneB l.name = false then some (⟨3, i, 0⟩, 9)
  else if (firstZ l.name s.zones 0).isSome ∨ firstL l.name s.links 0 ≠ some i then some (⟨3, i, 0⟩, 10)
  else if (firstZ l.target s.zones 0).isNone ∧ (firstL l.target s.links 0).isNone then some (⟨3, i, 0⟩, 9)
  else linkFault s ls (i + 1)
def loopFault (s : DSource) : List DLink → Nat → Option (DPlace × Int)
 | [], _ => none
 | l :: ls, i => if (followD s (s.links.length + 1) [] l.name).2 = 11 then some (⟨3, i, 0⟩, 11) else loopFault s ls (i + 1)
def linksD (s : DSource) : Option (DPlace × Int) := (zoneFault s s.zones 0).or ((linkFault s s.links 0).or (loopFault s s.links 0))
def insE (e : DEvent) : List DEvent → List DEvent
 | [] => [e]
 | x :: l => if ordE x e < 0 then e :: x :: l else x :: insE e l
def yearEvs (least y : Int) : List DRule → Nat → List DEvent → List DEvent
 | [], _, acc => acc
 | r :: l, i, acc => yearEvs least y l (i + 1) (match onR least r i y with | some e => insE e acc | none => acc)
def allEvs (l : List DRule) (least from_ : Int) : Nat → List DEvent
 | 0 => []
 | k + 1 => yearEvs least (from_ + k) l 0 (allEvs l least from_ k)
def closeE : List DEvent → Option DEvent
 | [] => none
 | [_] => none
 | a :: b :: l => (closeE (b :: l)).or (if a.nominal - b.nominal < 259200 then some a else none)
def apartD (l : List DRule) : Option DEvent := closeE (allEvs l (leastD l) 1850 701)
def evIn (least nominal : Int) (r : DRule) (i y : Int) : Nat → Option DEvent
 | 0 => none
 | k + 1 => match onR least r i y with
  | some e => if nominal < e.nominal then some e else evIn least nominal r i (y + 1) k
  | none => evIn least nominal r i (y + 1) k
def afterGo (least nominal yr : Int) : List DRule → Nat → Option DEvent → Option DEvent
 | [], _, best => best
 | r :: l, i, best =>
  afterGo least nominal yr l (i + 1) (match evIn least nominal r i (max (max r.from_ (-2000000000)) (yr - 2)) 20 with
   | none => best
   | some e => match best with | none => some e | some b => if ordE e b < 0 then some e else some b)
def afterD (l : List DRule) (nominal : Int) : Option DEvent := afterGo (leastD l) nominal (yearOf nominal) l 0 none
def farD (l : List DRule) (nominal : Int) : Bool :=
 match afterD l (nominal - 259200) with
 | none => true
 | some e => decide (259200 ≤ e.nominal - nominal)
def sizesD (s : DSource) : Option (DPlace × Int) :=
 if 2000 < s.rules.length then some (⟨1, 2000, 0⟩, 7)
 else if 500 < s.zones.length then some (⟨2, 500, 0⟩, 7)
 else match s.zones.findIdx? fun z => decide (60 < z.eras.length) with
  | some i => some (⟨2, i, 60⟩, 7)
  | none => if 1000 < s.links.length then some (⟨3, 1000, 0⟩, 7) else if 2000 < s.shifts.length then some (⟨4, 2000, 0⟩, 7) else none
def ruleAt (set : ByteArray) : List DRule → Nat → Nat → DPlace
 | [], _, _ => ⟨0, 0, 0⟩
 | r :: l, i, k => if r.name = set then (match i with | 0 => ⟨1, k, 0⟩ | i + 1 => ruleAt set l i (k + 1)) else ruleAt set l i (k + 1)
def setFault (rs : List DRule) (x : ByteArray) : Option (Nat × Int) :=
 if setB x = false then some (0, 9)
 else if (rsChk (ofB rs x)).2 ≠ 0 then some (rsChk (ofB rs x))
 else match apartD (ofB rs x) with | some e => some (e.rule.toNat, 13) | none => none
def setsGo (rs : List DRule) : List ByteArray → Option (DPlace × Int)
 | [] => none
 | x :: l => match setFault rs x with | some (i, e) => some (ruleAt x rs i 0, e) | none => setsGo rs l
def setsD (s : DSource) : Option (DPlace × Int) := setsGo s.rules (namesB s.rules [])
def shiftsGo (s : DSource) : List ByteArray → List ByteArray → Nat → Option (DPlace × Int)
 | [], _, _ => none
 | x :: l, seen, i =>
  let r := ofB s.rules x
  if r = [] then some (⟨4, i, 0⟩, 9)
  else if memB x seen then some (⟨4, i, 0⟩, 10)
  else if leastD r ≠ 0 ∨ (otherD r).2 = false then some (⟨4, i, 0⟩, 14)
  else shiftsGo s l (seen ++ [x]) (i + 1)
def setOf (rs : List DRule) (e : DEra) : List DRule := if e.kind = 2 then ofB rs e.set else []
def statesOf (rs : List DRule) (e : DEra) : List (Int × ByteArray) := if e.kind = 1 then [(e.save, ByteArray.empty)] else if e.kind = 2 then (setOf rs e).map fun r => (r.save, r.letter) else [(0, ByteArray.empty)]
def hoursB (off save : Int) : Bool := decide (-54000 ≤ off + save) && decide (off + save ≤ 54000)
def dU0 : DUntil := ⟨false, 0, 0, ⟨0, 0, 0⟩, ⟨0, 0⟩⟩
def unusedB (e : DEra) : Bool := (!decide (e.kind = 1) && !decide (e.save = 0)) || (!decide (e.kind = 2) && !decide (e.set = ByteArray.empty)) || (!e.til.is && !decide ({ e.til with is := false } = dU0))
def eraChk (rs : List DRule) (e : DEra) (first : Bool) : Int :=
 if e.kind < 0 ∨ 2 < e.kind then 2
 else if first = true ∧ e.kind = 2 then 12
 else if e.kind = 2 ∧ setOf rs e = [] then 9
 else if e.kind = 1 ∧ (e.save < 1 ∨ 10800 < e.save) then 14
 else if hoursB e.off 0 = false ∨ ((statesOf rs e).any fun x => !hoursB e.off x.1) = true then 3
 else if unusedB e then 2
 else fmtChk e (setOf rs e)
def dE0 : DEra := ⟨0, 0, 0, ByteArray.empty, ByteArray.empty, dU0⟩
def endChk (rs : List DRule) (l : List DEra) (k : Nat) : Int :=
 let e := l.getD k dE0
 if e.til.is ≠ decide (k + 1 < l.length) then 12
 else if e.til.is = false then 0
 else
  let least := leastD (setOf rs e)
  if untilChk e.til least ≠ 0 then untilChk e.til least
  else
   let n := (nominalU e.til least).1
   let b := l.getD (k - 1) dE0
   if 0 < k ∧ ((nominalU b.til (leastD (setOf rs b))).2 ≠ 0 ∨ n - (nominalU b.til (leastD (setOf rs b))).1 < 259200) then 12
   else if e.kind = 2 ∧ farD (setOf rs e) n = false then 13
   else 0
def addP (x : Int × List UInt8) (l : List (Int × List UInt8)) : List (Int × List UInt8) := if x ∈ l then l else l ++ [x]
def addA (x : List UInt8) (l : List (List UInt8)) : List (List UInt8) := if x ∈ l then l else l ++ [x]
def stGo (e : DEra) : List (Int × ByteArray) → List (Int × List UInt8) × List (List UInt8) → List (Int × List UInt8) × List (List UInt8)
 | [], acc => acc
 | x :: l, acc =>
  let a := (abbrF e.format.data.toList e.off x.1 x.2.data.toList).1
  stGo e l (addP (e.off + x.1, a) acc.1, addA a acc.2)
def erGo (rs : List DRule) : List DEra → List (Int × List UInt8) × List (List UInt8) → List (Int × List UInt8) × List (List UInt8)
 | [], acc => acc
 | e :: l, acc => erGo rs l (stGo e (statesOf rs e) acc)
def sizeA : List (List UInt8) → Nat
 | [] => 0
 | x :: l => x.length + 1 + sizeA l
def fewB25 (rs : List DRule) (z : DZone) : Bool := decide ((erGo rs z.eras ([], [])).1.length ≤ 120) && decide (sizeA (erGo rs z.eras ([], [])).2 ≤ 250)
def erasGo (rs : List DRule) (l : List DEra) (i : Nat) : Nat → Nat → Option (DPlace × Int)
 | 0, _ => none
 | f + 1, k =>
  if eraChk rs (l.getD k dE0) (decide (k = 0)) ≠ 0 then some (⟨2, i, k⟩, eraChk rs (l.getD k dE0) (decide (k = 0)))
  else if endChk rs l k ≠ 0 then some (⟨2, i, k⟩, endChk rs l k)
  else erasGo rs l i f (k + 1)
def zonesGo (rs : List DRule) : List DZone → Nat → Option (DPlace × Int)
 | [], _ => none
 | z :: l, i =>
  if z.eras = [] then some (⟨2, i, 0⟩, 4)
  else match erasGo rs z.eras i z.eras.length 0 with
   | some x => some x
   | none => if fewB25 rs z = false then some (⟨2, i, 0⟩, 7) else zonesGo rs l (i + 1)
def accD (s : DSource) : Option (DPlace × Int) := (sizesD s).or ((setsD s).or ((shiftsGo s s.shifts [] 0).or ((linksD s).or (zonesGo s.rules s.zones 0))))
end Go.Proofs.YtonjepladadmhaaGreatDoor
namespace Go.Wk
open Go Go.RowKit
theorem walkB1 {G G' : Prop} (k : G') (h : Hold G' → G := by intro k; (first | (apply Go.Wk.RL_pu; rfl; exact Go.Wk.PuA) | (apply Go.Wk.RL_st0; refine Go.Wk.stA ?_) | apply Go.Wk.W_seq | apply Go.Wk.W_region | apply Go.Wk.RL_nil | apply Go.Wk.thenQ_n | apply Go.Wk.W_skip | apply Go.Wk.W_ret | apply Go.Wk.W_exit | apply Go.Wk.thenQ_r | apply Go.Wk.thenQ_e | apply Go.Wk.blockQ_n | apply Go.Wk.blockQ_r | apply Go.Wk.blockQ_hit | (apply Go.Wk.blockQ_miss; rfl) | (apply Go.Wk.W_true; rfl) | (apply Go.Wk.W_false; rfl) | (apply Go.Wk.RL_yes; rfl; rfl; rfl) | (apply Go.Wk.RL_no; rfl; rfl; rfl; rfl; rfl) | (apply Go.Wk.W_draw; rfl; decide +kernel) | apply Go.Wk.RD_done | (apply Go.Wk.RD_Q; rfl; rfl; decide +kernel; rfl; rfl; exact Go.Wk.QyA) | (apply Go.Wk.RD_N; rfl; rfl; decide +kernel; rfl; rfl; rfl) | (apply Go.Wk.RD_A; rfl; rfl; decide +kernel; rfl; rfl; first | exact Go.Wk.Ay_alloc | exact Go.Wk.Ay_buildSlice0 | (apply Go.Wk.Ay_buildSliceC; rfl; rfl; rfl; rfl; exact Go.Wk.NfA) | (apply Go.Wk.Ay_buildSliceNf; rfl; rfl; rfl; exact Go.Wk.NfA))); exact k.out) : G := h ⟨k⟩
theorem walkB {G G' : Prop} (k : G') (h : Hold G' → G := by intro k; refine Go.Wk.walkB1 ?_; (repeat refine Go.Wk.walkB1 ?_); exact k.out) : G := h ⟨k⟩
def DoesIn (P : Program) (f : FuncId) (args : List Value) (wr : World) (O : List It) (R : Value → List It → Prop) : Prop :=
 ∀ w, Bel wr.heap.size wr w → Holds wr.heap.size O w → Calls P f args.toArray w fun e w' => ∃ v O', e = .returned v ∧ Bel wr.heap.size wr w' ∧ Holds wr.heap.size O' w' ∧ R v O'
theorem DoesIn_of_W {P : Program} {f : FuncId} {fn : Func} {c : Code} {args : List Value} {wr : World} {O : List It} {R : Value → List It → Prop} {n : Nat} {rs : List ResultVar} (hf : P.funcs[f]? = some fn) (hb : fn.body = some c) (hn : fn.ntmps = n) (hr : fn.results = rs.toArray)
  (ha : Nat.ble args.length n = true) (h : W P n wr c (retQ P wr rs R) (argsFr 0 args) O) : DoesIn P f args wr O R := by
 intro w hB hH
 refine calls_of_wp hf hb ?_
 have hst : St n wr (argsFr 0 args) O { tmps := args.toArray ++ Array.replicate (fn.ntmps - args.toArray.size) undef, defers := [] } w := by
  have ha' : args.length ≤ n := Nat.le_of_ble_eq_true ha
  refine ⟨⟨rfl, by simp; omega, fun t v hv => ?_⟩, hB, hH⟩
  have := (look_argsFr args 0 t v hv).2
  simp only [Nat.sub_zero] at this
  have hlt : t < args.length := (List.getElem?_eq_some_iff.1 this).1
  rw [Array.getElem?_append_left (by simpa using hlt)]
  simpa using this
 refine wp_mono (h _ w hst) ?_
 rintro e a w' ⟨fr, O1, hs, hq⟩
 have fin : (∃ vs O', ResVs P wr fr O1 rs vs ∧ SubO O' O1 ∧ R (tupV vs) O') → a.defers = [] ∧ ∃ v, (results fn a.tmps).run P w' = .ok v w' ∧ ∃ v' O, Ending.returned v = .returned v' ∧ Bel wr.heap.size wr w' ∧ Holds wr.heap.size O w' ∧ R v' O := by
  rintro ⟨vs, O', h1, h2, h3⟩
  refine ⟨hs.sim.defers, (tupV vs), ?_, _, O', rfl, hs.old, hs.own.sub h2, h3⟩
  unfold results
  rw [hr, List.mapM_toArray]
  simp only [Sem.run_bind, Sem.run_map]
  rw [run_results (P := P) hs _ (fun _ => rfl) (fun _ _ => rfl) rs vs h1]
  simp only [Result.andThen_ok, Sem.run_pure]
  congr 1
  clear h1 h3
  match vs with
  | [] => rfl
  | [v] => rfl
  | v :: u :: r => simp; rfl
 cases e with
 | ret => exact fin hq
 | normal => exact fin hq
 | _ => exact hq.elim
section
variable {P : Program} {n : Nat} {wr : World} {fr : Fr} {O : List It} {ty : TypeId} {pos : String} {af : Array Edge} {dst : Option Tmp} {g : Option (Nat × Bool)} {Kp : Value → List It → Prop}
theorem Stp_callIn {f : FuncId} {xs : List Operand} {ts : Array TypeId} {vs : List Value} {O2 : List It} {R : Value → List It → Prop} [Body P f] (hx : evsO fr xs = some vs) (h : DoesIn P f vs wr O2 R) (hO : SubO O2 O) (k : ∀ v O', R v O' → Kp v O') :
  Stp P n wr fr O ⟨dst, .call ⟨.value (.func f), xs.toArray, ts⟩, ty, pos, af, g⟩ Kp := by
 intro a w hs Kn Q hk
 have hrun : (execOp a.eval ⟨dst, .call ⟨.value (.func f), xs.toArray, ts⟩, ty, pos, af, g⟩).run P w = .ok (.enter f vs.toArray) w := by
  have := hs.sim.evsO hx
  simp [execOp, resolve, Act.eval, Deferred.ofValue, invoke, run_callFunc, this]
 unfold Oper.wp
 rw [hrun, Oper.upon_enter]
 refine (h w hs.old (hs.own.sub hO)).mono ?_
 rintro e w' ⟨v, O', rfl, hB, hH, hR⟩
 exact hk v _ w' hB hH (k v O' hR)
theorem lay_take (N : Nat) : ∀ (vs cs : List Value) (j : Nat), (lay cs j vs).take N = lay (cs.take N) j vs
 | [], _, _ => rfl
 | v :: r, cs, j => by rw [lay, lay, lay_take N r, List.take_set]
theorem Stp_storeR {t sz e size m c p : Nat} {ag : Bool} {x y : Operand} {A : Option Addr} {xs xs' vs : List Value} {v : Value} {O' : List It} [hT : Ty P t sz ag] (hx : ev fr x = some (.pointer (some ((adr A).add p)))) (hy : ev fr y = some v)
  (hu : Upd O (.row (.slice A m c) e size m xs) (.row (.slice A m c) e size m xs') O') (hvs : v.cells.toList = vs) (hl : vs.length = sz) (h1 : vs.all Value.oneCell' = true) (hp : p + sz ≤ xs.length) (h0 : 0 < sz) (hc : lay xs p vs = xs')
  (k : Kp undef O') : Stp P n wr fr O ⟨dst, .store t x y, ty, pos, af, g⟩ Kp := by
 refine Stp_skip fun a w hs => ?_
 have hsat := hs.own.sat _ hu.mem
 obtain ⟨hxl, hnn | ⟨b, cap, cur, hval, hb0, hg, hmc, hcm, hsz, hcur⟩⟩ := id hsat
 ·obtain ⟨_, rfl⟩ := hnn
  simp at hxl
  rw [hxl] at hp
  simp at hp
  omega
 injection hval with hA _ hcc
 subst hA hcc
 have hb := hs.own.inb _ hu.mem b (by simp [It.S, Value.ownBlock])
 have hxc : xs.length ≤ cur.size := by rw [← hcur, List.length_take, Array.length_toList]; omega
 have hg' : w.heap[b]? = some (.cells cur.toList.toArray e (0, 0)) := by rw [Array.toArray_toList]; exact hg
 have had : (adr (some (⟨b, 0, none⟩ : Addr))).add p = ⟨b, p, none⟩ := by
  rw [show adr (some (⟨b, 0, none⟩ : Addr)) = ⟨b, 0, none⟩ from rfl, add_mk, Nat.zero_add]
 rw [had] at hx
 have hcell : ∀ i, w.cell? ⟨b, i, none⟩ = cur.toList[i]? := fun i => by simp [World.cell?, hg]
 have hfz : ∀ i, w.frozen? ⟨b, i, none⟩ = false := fun i => by simp [World.frozen?, hg]
 have hrun := run_storeCells (P := P) (ad := ⟨b, p, none⟩) vs w 0 (fun u hu => List.all_eq_true.1 h1 u hu) (fun i hi => by
  rw [add_mk, hcell, hfz]
  refine ⟨?_, rfl⟩
  rw [List.getElem?_eq_getElem (by rw [Array.length_toList]; omega)]
  rfl)
 refine ⟨setCells w ⟨b, p, none⟩ vs 0, O', ?_, ?_, ?_, k⟩
 ·have hvsz : v.cells.size = sz := by rw [← hl, ← hvs]; simp
  simp only [execOp, hs.sim.ev hx, hs.sim.ev hy, Instr.storeAt, Instr.sureAddr, Sem.run_bind, Sem.run_pure, Result.andThen_ok, storeVar, run_sizeOf, hvsz, ne_eq, not_true, if_false, hvs, hrun]
 ·refine hs.old.trans ⟨⟨(setCells_os vs w 0).1, (setCells_os vs w 0).2.1, (setCells_os vs w 0).2.2, by rw [setCells_size]; exact Nat.le_refl _, fun i hi => setCells_heap vs w 0 i (by show i ≠ b; omega)⟩⟩
 ·refine hs.own.upd hu hs.old.size (by rw [setCells_size]; exact Nat.le_refl _) (fun i _ hi => setCells_heap vs w 0 i (fun e => hi (by rw [e]; simp [It.S, Value.ownBlock]))) ?_ (fun i hi => Or.inl hi)
  have hblk := setCells_blk (b := b) (j := p) (t := e) vs cur.toList w 0 hg'
  simp only [Nat.add_zero] at hblk
  subst hc
  refine ⟨by rw [lay_length]; exact hxl, .inr ⟨b, c, _, rfl, Nat.zero_le _, hblk, hmc, hcm, ?_, ?_⟩⟩
  ·rw [List.size_toArray, lay_length, Array.length_toList]; exact hsz
  ·rw [List.toList_toArray, lay_take, hcur]
end
section
variable {P : Program} {n : Nat} {wr : World} {fr : Fr} {O : List It} {ty : TypeId} {pos : String} {af : Array Edge} {dst : Option Tmp} {g : Option (Nat × Bool)} {Kp : Value → List It → Prop}
theorem Pu_indexS {t : TypeId} {x ix : Operand} {s : ByteArray} {kk : IntKind} {i : Int} [hS : StringT P t] (hx : ev fr x = some (.string s)) (hi : ev fr ix = some (.int kk i)) (h0 : 0 ≤ i) (h1 : i < s.size) : Pu P n wr fr O (.index t x ix) ty (.int .u8 (s.data.toList.getD i.toNat 0).toNat) :=
 fun a w hs _ _ _ _ => by
  have h := run_index_string (P := P) (w := w) t s kk i hS.h
  rw [dif_pos ⟨h0, h1⟩] at h
  have hlt : i.toNat < s.data.toList.length := by
   have : s.data.size = s.size := rfl
   rw [Array.length_toList, this]
   omega
  have e : s.data.toList.getD i.toNat 0 = s[i.toNat]'(by omega) := by
   rw [List.getD_eq_getElem?_getD, List.getElem?_eq_getElem hlt]
   rfl
  simp only [execOp, hs.sim.ev hx, hs.sim.ev hi, Sem.run_bind, h, Result.andThen_ok, e]
  rfl
theorem Pu_sliceL {t e sz bytes : Nat} {x y : Operand} {A : Option Addr} {len cap : Nat} {l : Int} [hE : ElemZ P t e sz bytes] (hx : ev fr x = some (.slice A len cap)) (hy : ev fr y = some (.int .i64 l)) (h0 : 0 ≤ l) (h1 : l ≤ len) (h2 : l < cap) :
  Pu P n wr fr O (.slice t x (some y) none none) ty (.slice (A.map (·.add (l.toNat * sz))) (len - l.toNat) (cap - l.toNat)) := fun a w hs _ _ _ _ => by
 obtain ⟨i, z, ht, hi, hz, hsz, hby, hzs, hpos⟩ := ElemZ.parts hE.h
 have hne : ¬ (cap = l.toNat) := by omega
 simp [execOp, hs.sim.ev hx, hs.sim.ev hy, Instr.sliceAt, Instr.slice, run_underlying ht, Instr.sliceBounds, run_sliceBound, h0, h1, sizeOf, typeInfo, hi, hne, hsz]
end
section
variable {P : Program} {n : Nat} {wr : World} {fr : Fr} {O : List It} {ty : TypeId} {pos : String} {af : Array Edge} {dst : Option Tmp} {g : Option (Nat × Bool)} {Kp : Value → List It → Prop}
theorem row_storeCells {e size m c p : Nat} {A : Option Addr} {xs xs' vs : List Value} {O' : List It} {a : Act} {w : World} (hs : St n wr fr O a w)
  (hu : Upd O (.row (.slice A m c) e size m xs) (.row (.slice A m c) e size m xs') O') (h1 : vs.all Value.oneCell' = true) (hp : p + vs.length ≤ xs.length) (h0 : 0 < vs.length) (hc : lay xs p vs = xs') :
  ∃ w', (storeCells ((adr A).add p) vs 0).run P w = .ok () w' ∧ Bel wr.heap.size wr w' ∧ Holds wr.heap.size O' w' := by
 have hsat := hs.own.sat _ hu.mem
 obtain ⟨hxl, hnn | ⟨b, cap, cur, hval, hb0, hg, hmc, hcm, hsz, hcur⟩⟩ := id hsat
 ·obtain ⟨_, rfl⟩ := hnn
  simp at hxl
  subst hxl
  simp only [List.length_nil] at hp
  omega
 injection hval with hA _ hcc
 subst hA hcc
 have hb := hs.own.inb _ hu.mem b (by simp [It.S, Value.ownBlock])
 have hxc : xs.length ≤ cur.size := by rw [← hcur, List.length_take, Array.length_toList]; omega
 have hg' : w.heap[b]? = some (.cells cur.toList.toArray e (0, 0)) := by rw [Array.toArray_toList]; exact hg
 have had : (adr (some (⟨b, 0, none⟩ : Addr))).add p = ⟨b, p, none⟩ := by
  rw [show adr (some (⟨b, 0, none⟩ : Addr)) = ⟨b, 0, none⟩ from rfl, add_mk, Nat.zero_add]
 rw [had]
 have hcell : ∀ i, w.cell? ⟨b, i, none⟩ = cur.toList[i]? := fun i => by simp [World.cell?, hg]
 have hfz : ∀ i, w.frozen? ⟨b, i, none⟩ = false := fun i => by simp [World.frozen?, hg]
 have hrun := run_storeCells (P := P) (ad := ⟨b, p, none⟩) vs w 0 (fun u hu => List.all_eq_true.1 h1 u hu) (fun i hi => by
  rw [add_mk, hcell, hfz]
  refine ⟨?_, rfl⟩
  rw [List.getElem?_eq_getElem (by rw [Array.length_toList]; omega)]
  rfl)
 refine ⟨setCells w ⟨b, p, none⟩ vs 0, hrun, ?_, ?_⟩
 ·refine hs.old.trans ⟨⟨(setCells_os vs w 0).1, (setCells_os vs w 0).2.1, (setCells_os vs w 0).2.2, by rw [setCells_size]; exact Nat.le_refl _, fun i hi => setCells_heap vs w 0 i (by show i ≠ b; omega)⟩⟩
 ·refine hs.own.upd hu hs.old.size (by rw [setCells_size]; exact Nat.le_refl _) (fun i _ hi => setCells_heap vs w 0 i (fun e => hi (by rw [e]; simp [It.S, Value.ownBlock]))) ?_ (fun i hi => Or.inl hi)
  have hblk := setCells_blk (b := b) (j := p) (t := e) vs cur.toList w 0 hg'
  simp only [Nat.add_zero] at hblk
  subst hc
  refine ⟨by rw [lay_length]; exact hxl, .inr ⟨b, c, _, rfl, Nat.zero_le _, hblk, hmc, hcm, ?_, ?_⟩⟩
  ·rw [List.size_toArray, lay_length, Array.length_toList]; exact hsz
  ·rw [List.toList_toArray, lay_take, hcur]
theorem Stp_clearR {t e sz bytes p k m c cp : Nat} {x : Operand} {ad : Addr} {xs : List Value} {z : Value} {O' : List It} [hE : ElemZ P t e sz bytes] [hz : ZeroV P e z] (hx : ev fr x = some (.slice (some (ad.add p)) k cp))
  (hu : Upd O (.row (.slice (some ad) m c) e sz m xs) (.row (.slice (some ad) m c) e sz m (lay xs p (Builtin.zeroCells z.cells k).toList)) O') (h1 : (Builtin.zeroCells z.cells k).toList.all Value.oneCell' = true) (hk : 0 < k) (hp : p + k * sz ≤ xs.length)
  (kk : Kp (.tuple #[]) O') : Stp P n wr fr O ⟨dst, .call ⟨.builtin .clear, #[x], #[t]⟩, ty, pos, af, g⟩ Kp := by
 refine Stp_val fun a w hs => ?_
 obtain ⟨i, z', ht, hi, hz', hsz, hby, hzs, hpos⟩ := ElemZ.parts hE.h
 have hzz : z' = z := by
  have h := hz.h
  unfold zeroV at h
  rw [hi] at h
  exact Option.some.inj (hz'.symm.trans h)
 subst hzz
 have hlen : (Builtin.zeroCells z'.cells k).toList.length = k * sz := by rw [Array.length_toList, size_zeroCells, hzs]
 obtain ⟨w', hr, h2, h3⟩ := row_storeCells (P := P) hs hu h1 (by rw [hlen]; exact hp) (by rw [hlen]; exact Nat.mul_pos hk hpos) rfl
 refine ⟨.tuple #[], w', O', ?_, h2, h3, kk⟩
 obtain ⟨k, rfl⟩ : ∃ k', k = k' + 1 := ⟨k - 1, by omega⟩
 have hr' : (storeCells (ad.add p) (Builtin.zeroCells z'.cells (k + 1)).toList 0).run P w = .ok () w' := hr
 simp [execOp, resolve, invoke, builtin, Builtin.clear_, hs.sim.ev hx, run_underlying ht, run_zeroV, hr']
theorem RL_shrink {ops : Array Oper} {l0 : List Oper} {K : Fr → List It → Prop} {e size m c : Nat} {A : Option Addr} {xs : List Value} {O' : List It} (k : Nat) (hk : k ≤ m) (hu : Upd O (.row (.slice A m c) e size m xs) (.row (.slice A k c) e size k (xs.take (k * size))) O')
  (h : RL P n wr ops l0 K fr O') : RL P n wr ops l0 K fr O := fun a w hs => h a w ⟨hs.sim, hs.old, by
 refine hs.own.upd hu hs.old.size (Nat.le_refl _) (fun _ _ _ => rfl) ?_ (fun i hi => ?_)
 ·have hsat := hs.own.sat _ hu.mem
  obtain ⟨hxl, hnn | ⟨b, cap, cur, hval, hb0, hg, hmc, hcm, hsz, hcur⟩⟩ := hsat
  ·obtain ⟨hv, rfl⟩ := hnn
   obtain rfl : k = 0 := by omega
   injection hv with h1 _ h3
   subst h1 h3
   exact ⟨by simp, .inl ⟨rfl, rfl⟩⟩
  ·injection hval with hA _ hcc
   subst hA hcc
   refine ⟨?_, .inr ⟨b, c, cur, rfl, Nat.zero_le _, hg, by omega, hcm, hsz, ?_⟩⟩
   ·have hle : k * size ≤ m * size := Nat.mul_le_mul_right size hk
    rw [List.length_take, hxl]
    omega
   ·have hle : k * size ≤ m * size := Nat.mul_le_mul_right size hk
    rw [← hcur, List.take_take, Nat.min_eq_left hle]
 ·left
  simp only [It.S, Value.ownBlock] at hi ⊢
  cases A with
  | none => exact hi
  | some a => exact hi⟩
end
section
variable {P : Program} {n : Nat} {wr : World} {ops : Array Oper} {fr : Fr} {O : List It} {K : Fr → List It → Prop} {ty : TypeId}
theorem Pu_conv8 {t t' : TypeId} {x : Operand} {kk : IntKind} {i : Int} {sz : Nat} {ag : Bool} [Ty P t sz ag] [IntT P t' .u8] (hx : ev fr x = some (.int kk i)) (h0 : 0 ≤ i) (h1 : i ≤ 255) : Pu P n wr fr O (.convert t t' x) ty (.int .u8 i) := by
 have := Pu_convI (P := P) (n := n) (wr := wr) (O := O) (ty := ty) (t := t) (t' := t') hx
 rwa [show IntKind.u8.wrap i = i from IntWalk.u8_in i ⟨h0, h1⟩] at this
end
theorem Pu_loadRN {P : Program} {n : Nat} {wr : World} {fr : Fr} {O : List It} {ty : TypeId} {t sz e size p m c : Nat} {x : Operand} {A : Option Addr} {xs vs : List Value} {R : List It} [Ty P t sz true] (hx : ev fr x = some (.pointer (some ((adr A).add p))))
  (hp : Pick (.row (.slice A m c) e size m xs) O R) (hv : ∀ j v, vs[j]? = some v → xs[p + j]? = some v) (hl : vs.length = sz) : Pu P n wr fr O (.load t x) ty (.agg vs.toArray) :=
 Pu_loadN hx hl fun w _ hO j v hj => by
  rw [add_of_add]
  exact (row_cell (hO.of hp) (hv j v hj)).2
theorem Pu_indexAddrH {P : Program} {n : Nat} {wr : World} {fr : Fr} {O : List It} {ty : TypeId} {t e sz bytes : Nat} {x ix : Operand} {A : Option Addr} {len cap : Nat} {kk : IntKind} {i : Int} [hE : ElemT P t e sz bytes] (hx : ev fr x = some (.slice A len cap)) (hi : ev fr ix = some (.int kk i))
  (h0 : 0 ≤ i) (h1 : i < len) (hA : ∀ w, Bel wr.heap.size wr w → Holds wr.heap.size O w → A ≠ none) : Pu P n wr fr O (.indexAddr t x ix) ty (.pointer (some ((adr A).add (i.toNat * sz)))) :=
 fun a w hs => Pu_indexAddr hx hi h0 h1 (hA w hs.old hs.own) a w hs
section
variable {P : Program} {n : Nat} {wr : World} {fr : Fr} {O : List It} {ty : TypeId} {pos : String} {af : Array Edge} {dst : Option Tmp} {g : Option (Nat × Bool)} {Kp : Value → List It → Prop}
theorem Stp_callVIn {f : FuncId} {gx : Operand} {xs : List Operand} {ts : Array TypeId} {us vs cs : List Value} {O2 : List It} {R : Value → List It → Prop} [Body P f] (hg : ev fr gx = some (.func (.func f) us.toArray cs.toArray)) (hx : evsO fr xs = some vs) (h : DoesIn P f (us ++ vs ++ cs) wr O2 R) (hO : SubO O2 O) (k : ∀ v O', R v O' → Kp v O') :
  Stp P n wr fr O ⟨dst, .call ⟨.value gx, xs.toArray, ts⟩, ty, pos, af, g⟩ Kp := by
 intro a w hs Kn Q hk
 have hrun : (execOp a.eval ⟨dst, .call ⟨.value gx, xs.toArray, ts⟩, ty, pos, af, g⟩).run P w = .ok (.enter f (us ++ vs ++ cs).toArray) w := by
  have := hs.sim.evsO hx
  simp [execOp, resolve, hs.sim.ev hg, Deferred.ofValue, invoke, run_callFunc, this]
 unfold Oper.wp
 rw [hrun, Oper.upon_enter]
 refine (h w hs.old (hs.own.sub hO)).mono ?_
 rintro e w' ⟨v, O', rfl, hB, hH, hR⟩
 exact hk v _ w' hB hH (k v O' hR)
end
theorem Pu_minI {P : Program} {n : Nat} {wr : World} {fr : Fr} {O : List It} {ty : TypeId} {x y : Operand} {ts : Array TypeId} {k : IntKind} {i j : Int} (hx : ev fr x = some (.int k i)) (hy : ev fr y = some (.int k j)) : Pu P n wr fr O (.call ⟨.builtin .min, #[x, y], ts⟩) ty (.int k (if j < i then j else i)) :=
 fun a w hs _ _ _ _ => by simp [execOp, resolve, invoke, builtin, Builtin.min_, Builtin.min2, hs.sim.ev hx, hs.sim.ev hy]
section
variable {P : Program} {n : Nat} {wr : World} {fr : Fr} {O : List It} {ty : TypeId}
theorem Pu_andW {t t' : TypeId} {x y : Operand} {kk : IntKind} {i j : Int} (hx : ev fr x = some (.int kk i)) (hy : ev fr y = some (.int kk j)) : Pu P n wr fr O (.binOp .and t x y t') ty (.int kk (kk.wrap (BitVec.ofInt kk.bits i &&& BitVec.ofInt kk.bits j).toNat)) :=
 fun a w hs _ _ _ _ => by simp [execOp, hs.sim.ev hx, hs.sim.ev hy, eqGuard, binOp, Op.intBits]
end
theorem Does.monoO {P : Program} {f : FuncId} {args : List Value} {w : World} {R R' : Value → List It → Prop} (h : Does P f args w R) (hr : ∀ v O, R v O → ∃ O', R' v O' ∧ ∀ base w', Holds base O w' → Holds base O' w') : Does P f args w R' :=
 Calls.mono h fun _ _ ⟨v, O, h1, h2, h3, h4⟩ => by
  obtain ⟨O', h5, h6⟩ := hr v O h4
  exact ⟨v, O', h1, h2, h6 _ _ h3, h5⟩
section
variable {P : Program} {n : Nat} {wr : World} {fr : Fr} {O : List It} {ty : TypeId}
theorem Pu_add8 {t t' : TypeId} {x y : Operand} {i j : Int} (hx : ev fr x = some (.int .u8 i)) (hy : ev fr y = some (.int .u8 j)) (h : 0 ≤ i + j ∧ i + j ≤ 255) : Pu P n wr fr O (.binOp .add t x y t') ty (.int .u8 (i + j)) := by
 have := Pu_addW (P := P) (n := n) (wr := wr) (O := O) (ty := ty) (t := t) (t' := t') hx hy
 rwa [IntWalk.u8_in _ h] at this
end
section
variable {P : Program} {n : Nat} {wr : World} {fr : Fr} {O : List It} {ty : TypeId} {pos : String} {af : Array Edge} {dst : Option Tmp} {g : Option (Nat × Bool)} {Kp : Value → List It → Prop}
end
theorem Pu_fieldAddrA {P : Program} {n : Nat} {wr : World} {fr : Fr} {O : List It} {ty : TypeId} {s f off sz p : Nat} {ag : Bool} {x : Operand} {A : Option Addr} [FieldAt P s f off sz ag] (hx : ev fr x = some (.pointer (some ((adr A).add p)))) : Pu P n wr fr O (.fieldAddr s x f) ty (.pointer (some ((adr A).add (p + off)))) := by
 have h := Pu_fieldAddr (P := P) (n := n) (wr := wr) (O := O) (ty := ty) (s := s) (f := f) hx
 rwa [add_of_add] at h
section
variable {P : Program} {n : Nat} {wr : World} {fr : Fr} {O : List It} {ty : TypeId} {pos : String} {af : Array Edge} {dst : Option Tmp} {g : Option (Nat × Bool)} {Kp : Value → List It → Prop}
theorem Pu_loadRF {t sz e size p q m c : Nat} {x : Operand} {A : Option Addr} {xs : List Value} {v : Value} {R : List It} [Ty P t sz false] (hx : ev fr x = some (.pointer (some (((adr A).add p).add q))))
  (hp : Pick (.row (.slice A m c) e size m xs) O R) (hv : xs[p + q]? = some v) : Pu P n wr fr O (.load t x) ty v :=
 Pu_loadR (by rw [← add_of_add]; exact hx) hp hv
end
end Go.Wk
