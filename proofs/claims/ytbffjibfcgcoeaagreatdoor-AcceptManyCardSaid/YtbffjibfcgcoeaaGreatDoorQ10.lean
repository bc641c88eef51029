/- Struct values compare as the data do. Contracts of functions that only read: analemmaref14.zones, Same; analemmaref34.shifted, first, taken; slices.Index, Contains, Equal. Contracts: analemmaref14.Same, analemmaref34.shifted, first, taken, slices.Index, Contains, Equal. Contracts: analemmaref34.taken, slices.Index, Contains, Equal, IndexFunc, merge.check's closure. Contracts of functions that make slices: analemmaref16.Of, Names, ruleset.Names, slices.Clone. Plain functions: what accept looks for (layers 15, 17, 18, 24, 25). The package-level variables that accept's code reads. Contracts: slices.Clone at four types. Contracts of functions that make maps: ruleset.Names, merge.names, merge.sets. -/
import Derived.Test.YtbffjibfcgcoeaaGreatDoorQ09
import Derived.Test.YtbffjibfcgcoeaaGreatDoorQ05
import Derived.Test.YtbffjibfcgcoeaaGreatDoorQ08
import Derived.Test.YtbffjibfcgcoeaaGreatDoorQ07
set_option linter.unusedVariables false
set_option linter.unusedSimpArgs false
namespace Go.Proofs.YtbffjibfcgcoeaaGreatDoor
open Go Go.RowKit Go.Wk

theorem ok_ite (w : World) (p : Prop) [Decidable p] (b : Bool) : (if p then Result.ok b w else Result.ok false w) = Result.ok (decide p && b) w := by
  by_cases h : p <;> simp [h]

instance : EqE Tryz.prog 51 DRule DRule.enc where
  h r s w := by
    unfold DRule.enc
    simp [go_sem, toList_inj]
    rcases r with ⟨_, _, _, _, ⟨_, _, _⟩, ⟨_, _⟩, _, _⟩
    rcases s with ⟨_, _, _, _, ⟨_, _, _⟩, ⟨_, _⟩, _, _⟩
    simp only [ok_ite, Result.ok.injEq, and_true]
    rw [Bool.eq_iff_iff]
    simp [and_assoc]
  g := by kernel_rfl
instance : EqE Tryz.prog 60 DEra DEra.enc where
  h r s w := by
    unfold DEra.enc
    simp [go_sem, toList_inj]
    rcases r with ⟨_, _, _, _, _, ⟨_, _, _, ⟨_, _, _⟩, ⟨_, _⟩⟩⟩
    rcases s with ⟨_, _, _, _, _, ⟨_, _, _, ⟨_, _, _⟩, ⟨_, _⟩⟩⟩
    simp only [ok_ite, Result.ok.injEq, and_true]
    rw [Bool.eq_iff_iff]
    simp [and_assoc]
  g := by kernel_rfl
instance : EqE Tryz.prog 92 DLink DLink.enc where
  h r s w := by
    unfold DLink.enc
    simp [go_sem, toList_inj]
    rcases r with ⟨_, _⟩
    rcases s with ⟨_, _⟩
    simp only [ok_ite, Result.ok.injEq, and_true]
    rw [Bool.eq_iff_iff]
    simp [and_assoc]
  g := by kernel_rfl
instance : EqE Tryz.prog 31 DPlace DPlace.enc where
  h r s w := by
    unfold DPlace.enc
    simp [go_sem, toList_inj]
    rcases r with ⟨_, _, _⟩
    rcases s with ⟨_, _, _⟩
    simp only [ok_ite, Result.ok.injEq, and_true]
    rw [Bool.eq_iff_iff]
    simp [and_assoc]
  g := by kernel_rfl
end Go.Proofs.YtbffjibfcgcoeaaGreatDoor

namespace Go.Proofs.YtbffjibfcgcoeaaGreatDoor
open Go Go.RowKit Go.Wk
attribute [local irreducible] W RL Does thenQ blockQ retQ Calls Pu Stp RD Qy Ay

theorem drop_cons {α : Type} {xs : List α} {k : Nat} (h : k < xs.length) : xs.drop k = xs[k] :: xs.drop (k + 1) := List.drop_eq_getElem_cons h
theorem dec_cons {α : Type} [DecidableEq α] (x y : α) (xs ys : List α) : decide (x :: xs = y :: ys) = (decide (x = y) && decide (xs = ys)) := by
  rw [Bool.eq_iff_iff]; simp
theorem dec_nil {α : Type} [DecidableEq α] {xs ys : List α} {k : Nat} (hx : xs.length ≤ k) (hy : ys.length ≤ k) : decide (xs.drop k = ys.drop k) = true := by
  rw [List.drop_eq_nil_of_le hx, List.drop_eq_nil_of_le hy]; simp
theorem dec_len {α : Type} [DecidableEq α] {xs ys : List α} (h : xs.length ≠ ys.length) : decide (xs = ys) = false := by
  simp; rintro rfl; exact h rfl
end Go.Proofs.YtbffjibfcgcoeaaGreatDoor

namespace Go.Proofs.YtbffjibfcgcoeaaGreatDoor
open Go Go.RowKit Go.Wk
attribute [local irreducible] W RL Does thenQ blockQ retQ Calls Pu Stp RD Qy Ay

def srcV (Ar Az Al As : Option Addr) (cr cz cl cs : Nat) (s : DSource) : Value := .agg #[.slice Ar s.rules.length cr, .slice Az s.zones.length cz, .slice Al s.links.length cl, .slice As s.shifts.length cs]

def memB (x : ByteArray) : List ByteArray → Bool
  | [] => false
  | y :: l => decide (y = x) || memB x l

end Go.Proofs.YtbffjibfcgcoeaaGreatDoor

namespace Go.Proofs.YtbffjibfcgcoeaaGreatDoor
open Go Go.RowKit Go.Wk
attribute [local irreducible] W RL Does thenQ blockQ retQ Calls Pu Stp RD Qy Ay

/-- The index of the first element that meets p, or -1. -/
def findI {α : Type} (p : α → Bool) : List α → Nat → Int
  | [], _ => -1
  | x :: l, k => if p x then k else findI p l (k + 1)

theorem index_spec (A : Option Addr) (c : Nat) (l : List ByteArray) (x : ByteArray) (w : World) (hA : RdSl w A c strEnc 1 l) :
    Does Tryz.prog 159 [.slice A l.length c, .string x] w (fun v O => v = .int .i64 (findI (fun y => decide (x = y)) l 0) ∧ O = []) := by
  have hs1 := hA.le
  have hs2 := hA.cap
  unfold maxLen at hs2
  generalize hres : findI (fun y => decide (x = y)) l 0 = res
  refine Does_of_W Tryz.func159 rfl rfl rfl rfl ?_
  repeat (first | refine walk ?_)
  refine W_loopF [(0, _), (1, _), (4, _), (7, _)] _ (fun k : Nat => [(8, .int .i64 k)]) (fun _ => []) (fun k => k ≤ l.length ∧ findI (fun y => decide (x = y)) (l.drop k) k = res) (fun k => l.length - k) 0 ⟨rfl, rfl, rfl, rfl, rfl, trivial⟩ (.refl _) ⟨by omega, by simpa using hres⟩ ?_
  rintro k ⟨hk, hi⟩
  repeat (first | refine walk ?_)
  refine W_cond rfl (fun hc => ?_) (fun hc => ?_)
  · simp only [decide_eq_true_eq, Int.ofNat_lt] at hc
    obtain ⟨hna, hca⟩ := hA.rd k _ (List.getElem?_eq_getElem hc)
    have hnb := hna
    have hcb := hca
    rw [drop_cons hc, findI] at hi
    generalize l[k] = p at *
    repeat (first | (apply RL_pu; rfl; (first | (apply Pu_indexAddr; rfl; rfl; omega; omega; (first | exact hna | exact hnb)) | (apply Pu_loadON; rfl; (first | exact hca | exact hcb); rfl) | (apply Pu_loadO1'; rfl; (first | exact hca | exact hcb); rfl) | (apply Pu_loadO1; rfl; (first | exact hca 0 _ rfl | exact hcb 0 _ rfl)))) | refine walk1 ?_)
    refine W_cond rfl (fun h3 => ?_) (fun h3 => ?_)
    · repeat (first | refine walk ?_)
      rw [if_pos h3] at hi
      exact ret_1 _ [] (.tmp rfl) .nil ⟨by rw [← hi], rfl⟩
    repeat (first | refine walk ?_)
    rw [h3] at hi
    exact ⟨k + 1, by omega, ⟨by omega, hi⟩, (by repeat (first | exact trivial | refine ⟨rfl, ?_⟩)), (by first | exact .refl _ | focus repeat (first | exact SubO.nil | (apply SubO.cons; focus repeat' constructor)))⟩
  simp only [decide_eq_false_iff_not, Int.ofNat_lt] at hc
  repeat (first | refine walk ?_)
  exact ret_1 _ [] (.tmp rfl) .nil ⟨by rw [← hi, List.drop_eq_nil_of_le (by omega)]; rfl, rfl⟩

theorem findI_mem (x : ByteArray) : ∀ (l : List ByteArray) (k : Nat), decide (0 ≤ findI (fun y => decide (x = y)) l k) = memB x l
  | [], k => by simp [findI, memB]
  | y :: l, k => by
    have ih := findI_mem x l (k + 1)
    simp only [findI, memB]
    by_cases h : x = y
    · subst h; simp
    · rw [← ih]
      have : ¬ y = x := fun e => h e.symm
      simp [h, this]

theorem contains_spec (A : Option Addr) (c : Nat) (l : List ByteArray) (x : ByteArray) (w : World) (hA : RdSl w A c strEnc 1 l) :
    Does Tryz.prog 104 [.slice A l.length c, .string x] w (fun v O => v = .bool (memB x l) ∧ O = []) := by
  refine Does_of_W Tryz.func104 rfl rfl rfl rfl ?_
  repeat (first | (apply RL_st0; (apply Stp_call (h := fun w' hw _ => index_spec A c l x w' (hA.up hw)); rfl; rintro v O' ⟨rfl, rfl⟩)) | (apply RL_st; rfl; (apply Stp_call (h := fun w' hw _ => index_spec A c l x w' (hA.up hw)); rfl; rintro v O' ⟨rfl, rfl⟩)) | refine walk ?_)
  exact ret_1 _ [] (.tmp rfl) .nil ⟨by rw [findI_mem], rfl⟩

theorem indexFunc_spec (A : Option Addr) (c : Nat) (l : List DRule) (f : FuncId) [Body Tryz.prog f] (us cs : List Value) (p : DRule → Bool) (w : World) (hA : RdSl w A c DRule.enc 11 l)
    (hf : ∀ r w', Bel w.heap.size w w' → Does Tryz.prog f (us ++ [.agg (DRule.enc r).toArray] ++ cs) w' (fun v O => v = .bool (p r) ∧ O = [])) :
    Does Tryz.prog 62 [.slice A l.length c, .func (.func f) us.toArray cs.toArray] w (fun v O => v = .int .i64 (findI p l 0) ∧ O = []) := by
  have hs1 := hA.le
  have hs2 := hA.cap
  unfold maxLen at hs2
  generalize hres : findI p l 0 = res
  refine Does_of_W Tryz.func62 rfl rfl rfl rfl ?_
  repeat (first | refine walk ?_)
  refine W_loopF [(0, _), (1, _), (4, _), (7, _)] _ (fun k : Nat => [(8, .int .i64 k)]) (fun _ => []) (fun k => k ≤ l.length ∧ findI p (l.drop k) k = res) (fun k => l.length - k) 0 ⟨rfl, rfl, rfl, rfl, rfl, trivial⟩ (.refl _) ⟨by omega, by simpa using hres⟩ ?_
  rintro k ⟨hk, hi⟩
  repeat (first | refine walk ?_)
  refine W_cond rfl (fun hc => ?_) (fun hc => ?_)
  · simp only [decide_eq_true_eq, Int.ofNat_lt] at hc
    obtain ⟨hna, hca⟩ := hA.rd k _ (List.getElem?_eq_getElem hc)
    have hnb := hna
    have hcb := hca
    rw [drop_cons hc, findI] at hi
    generalize l[k] = r at *
    repeat (first | (apply RL_pu; rfl; (first | (apply Pu_indexAddr; rfl; rfl; omega; omega; (first | exact hna | exact hnb)) | (apply Pu_loadON; rfl; (first | exact hca | exact hcb); rfl) | (apply Pu_loadO1'; rfl; (first | exact hca | exact hcb); rfl) | (apply Pu_loadO1; rfl; (first | exact hca 0 _ rfl | exact hcb 0 _ rfl)))) | (apply RL_st0; (apply Stp_callV (h := fun w' hw _ => hf r w' hw); rfl; rfl; rintro v O' ⟨rfl, rfl⟩)) | (apply RL_st; rfl; (apply Stp_callV (h := fun w' hw _ => hf r w' hw); rfl; rfl; rintro v O' ⟨rfl, rfl⟩)) | refine walk1 ?_)
    refine W_cond rfl (fun h3 => ?_) (fun h3 => ?_)
    · repeat (first | refine walk ?_)
      rw [if_pos h3] at hi
      exact ret_1 _ [] (.tmp rfl) .nil ⟨by rw [← hi], rfl⟩
    repeat (first | refine walk ?_)
    rw [h3] at hi
    exact ⟨k + 1, by omega, ⟨by omega, hi⟩, (by repeat (first | exact trivial | refine ⟨rfl, ?_⟩)), (by first | exact .refl _ | focus repeat (first | exact SubO.nil | (apply SubO.cons; focus repeat' constructor)))⟩
  simp only [decide_eq_false_iff_not, Int.ofNat_lt] at hc
  repeat (first | refine walk ?_)
  exact ret_1 _ [] (.tmp rfl) .nil ⟨by rw [← hi, List.drop_eq_nil_of_le (by omega)]; rfl, rfl⟩
end Go.Proofs.YtbffjibfcgcoeaaGreatDoor

namespace Go.Proofs.YtbffjibfcgcoeaaGreatDoor
open Go Go.RowKit Go.Wk
attribute [local irreducible] W RL Does thenQ blockQ retQ Calls Pu Stp RD Qy Ay

/-- The rules of a set. -/
def ofB (l : List DRule) (x : ByteArray) : List DRule := l.filter fun r => decide (r.name = x)

/-- A result that is a new slice. -/
def NewSl {α : Type} (e sz : Nat) (enc : α → List Value) (l : List α) (v : Value) (O : List It) : Prop := ∃ A c, v = .slice A l.length c ∧ O = [.row (.slice A l.length c) e sz l.length (l.flatMap enc)]

/-- The names of all sets, in order. -/
def namesB : List DRule → List ByteArray → List ByteArray
  | [], acc => acc
  | r :: l, acc => if memB r.name acc then namesB l acc else namesB l (acc ++ [r.name])

theorem memB_snoc (x y : ByteArray) : ∀ l : List ByteArray, memB x (l ++ [y]) = (memB x l || decide (y = x))
  | [] => by simp [memB]
  | z :: l => by simp [memB, memB_snoc x y l, Bool.or_assoc]

end Go.Proofs.YtbffjibfcgcoeaaGreatDoor

namespace Go.Proofs.YtbffjibfcgcoeaaGreatDoor
open Go Go.RowKit Go.Wk
/-! layer 15 -/
def firstZ (x : ByteArray) : List DZone → Nat → Option Nat
  | [], _ => none
  | z :: l, k => if z.name = x then some k else firstZ x l (k + 1)
def firstL (x : ByteArray) : List DLink → Nat → Option Nat
  | [], _ => none
  | z :: l, k => if z.name = x then some k else firstL x l (k + 1)
/-- Following a name: the zone, or the error; each link is passed at most once. -/
def followD (s : DSource) : Nat → List ByteArray → ByteArray → Nat × Int
  | 0, _, _ => (0, 11)
  | fuel + 1, seen, x =>
    match firstZ x s.zones 0 with
    | some i => (i, 0)
    | none => match firstL x s.links 0 with
      | none => (0, 9)
      | some i => if memB x seen then (0, 11) else followD s fuel (x :: seen) ((s.links[i]?).map (·.target) |>.getD ByteArray.empty)
def zoneFault (s : DSource) : List DZone → Nat → Option (DPlace × Int)
  | [], _ => none
  | z :: l, i => if zoneB z.name = false then some (⟨2, i, 0⟩, 9) else if firstZ z.name s.zones 0 ≠ some i then some (⟨2, i, 0⟩, 10) else zoneFault s l (i + 1)
def linkFault (s : DSource) : List DLink → Nat → Option (DPlace × Int)
  | [], _ => none
  | l :: ls, i =>
    if zoneB l.name = false then some (⟨3, i, 0⟩, 9)
    else if (firstZ l.name s.zones 0).isSome ∨ firstL l.name s.links 0 ≠ some i then some (⟨3, i, 0⟩, 10)
    else if (firstZ l.target s.zones 0).isNone ∧ (firstL l.target s.links 0).isNone then some (⟨3, i, 0⟩, 9)
    else linkFault s ls (i + 1)
def loopFault (s : DSource) : List DLink → Nat → Option (DPlace × Int)
  | [], _ => none
  | l :: ls, i => if (followD s (s.links.length + 1) [] l.name).2 = 11 then some (⟨3, i, 0⟩, 11) else loopFault s ls (i + 1)
def linksD (s : DSource) : Option (DPlace × Int) := (zoneFault s s.zones 0).or ((linkFault s s.links 0).or (loopFault s s.links 0))
/-! layers 17, 18 -/
/-- An event among sorted ones, the greatest in front. -/
def insE (e : DEvent) : List DEvent → List DEvent
  | [] => [e]
  | x :: l => if ordE x e < 0 then e :: x :: l else x :: insE e l
def yearEvs (least y : Int) : List DRule → Nat → List DEvent → List DEvent
  | [], _, acc => acc
  | r :: l, i, acc => yearEvs least y l (i + 1) (match onR least r i y with | some e => insE e acc | none => acc)
/-- All events of some years, sorted, the greatest in front. -/
def allEvs (l : List DRule) (least from_ : Int) : Nat → List DEvent
  | 0 => []
  | k + 1 => yearEvs least (from_ + k) l 0 (allEvs l least from_ k)
/-- The first event that is close to the one in front of it. -/
def closeE : List DEvent → Option DEvent
  | [] => none
  | [_] => none
  | a :: b :: l => (closeE (b :: l)).or (if a.nominal - b.nominal < 259200 then some a else none)
def apartD (l : List DRule) : Option DEvent := closeE (allEvs l (leastD l) 1850 701)
def evIn (least nominal : Int) (r : DRule) (i y : Int) : Nat → Option DEvent
  | 0 => none
  | k + 1 => match onR least r i y with
    | some e => if nominal < e.nominal then some e else evIn least nominal r i (y + 1) k
    | none => evIn least nominal r i (y + 1) k
def afterGo (least nominal yr : Int) : List DRule → Nat → Option DEvent → Option DEvent
  | [], _, best => best
  | r :: l, i, best =>
    afterGo least nominal yr l (i + 1) (match evIn least nominal r i (max (max r.from_ (-2000000000)) (yr - 2)) 20 with
      | none => best
      | some e => match best with | none => some e | some b => if ordE e b < 0 then some e else some b)
/-- The first event behind a nominal time. -/
def afterD (l : List DRule) (nominal : Int) : Option DEvent := afterGo (leastD l) nominal (yearOf nominal) l 0 none
def farD (l : List DRule) (nominal : Int) : Bool :=
  match afterD l (nominal - 259200) with
  | none => true
  | some e => decide (259200 ≤ e.nominal - nominal)
/-! layer 25 -/
def sizesD (s : DSource) : Option (DPlace × Int) :=
  if 2000 < s.rules.length then some (⟨1, 2000, 0⟩, 7)
  else if 500 < s.zones.length then some (⟨2, 500, 0⟩, 7)
  else match s.zones.findIdx? fun z => decide (60 < z.eras.length) with
    | some i => some (⟨2, i, 60⟩, 7)
    | none => if 1000 < s.links.length then some (⟨3, 1000, 0⟩, 7) else if 2000 < s.shifts.length then some (⟨4, 2000, 0⟩, 7) else none
/-- The place of the i-th rule of a set. -/
def ruleAt (set : ByteArray) : List DRule → Nat → Nat → DPlace
  | [], _, _ => ⟨0, 0, 0⟩
  | r :: l, i, k => if r.name = set then (match i with | 0 => ⟨1, k, 0⟩ | i + 1 => ruleAt set l i (k + 1)) else ruleAt set l i (k + 1)
def setFault (rs : List DRule) (x : ByteArray) : Option (Nat × Int) :=
  if setB x = false then some (0, 9)
  else if (rsChk (ofB rs x)).2 ≠ 0 then some (rsChk (ofB rs x))
  else match apartD (ofB rs x) with | some e => some (e.rule.toNat, 13) | none => none
def setsGo (rs : List DRule) : List ByteArray → Option (DPlace × Int)
  | [] => none
  | x :: l => match setFault rs x with | some (i, e) => some (ruleAt x rs i 0, e) | none => setsGo rs l
def setsD (s : DSource) : Option (DPlace × Int) := setsGo s.rules (namesB s.rules [])
def shiftsGo (s : DSource) : List ByteArray → List ByteArray → Nat → Option (DPlace × Int)
  | [], _, _ => none
  | x :: l, seen, i =>
    let r := ofB s.rules x
    if r = [] then some (⟨4, i, 0⟩, 9)
    else if memB x seen then some (⟨4, i, 0⟩, 10)
    else if leastD r ≠ 0 ∨ (otherD r).2 = false then some (⟨4, i, 0⟩, 14)
    else shiftsGo s l (seen ++ [x]) (i + 1)
def setOf (rs : List DRule) (e : DEra) : List DRule := if e.kind = 2 then ofB rs e.set else []
def statesOf (rs : List DRule) (e : DEra) : List (Int × ByteArray) := if e.kind = 1 then [(e.save, ByteArray.empty)] else if e.kind = 2 then (setOf rs e).map fun r => (r.save, r.letter) else [(0, ByteArray.empty)]
def hoursB (off save : Int) : Bool := decide (-54000 ≤ off + save) && decide (off + save ≤ 54000)
def dU0 : DUntil := ⟨false, 0, 0, ⟨0, 0, 0⟩, ⟨0, 0⟩⟩
def unusedB (e : DEra) : Bool := (!decide (e.kind = 1) && !decide (e.save = 0)) || (!decide (e.kind = 2) && !decide (e.set = ByteArray.empty)) || (!e.til.is && !decide ({ e.til with is := false } = dU0))
def eraChk (rs : List DRule) (e : DEra) (first : Bool) : Int :=
  if e.kind < 0 ∨ 2 < e.kind then 2
  else if first = true ∧ e.kind = 2 then 12
  else if e.kind = 2 ∧ setOf rs e = [] then 9
  else if e.kind = 1 ∧ (e.save < 1 ∨ 10800 < e.save) then 14
  else if hoursB e.off 0 = false ∨ ((statesOf rs e).any fun x => !hoursB e.off x.1) = true then 3
  else if unusedB e then 2
  else fmtChk e (setOf rs e)
def dE0 : DEra := ⟨0, 0, 0, ByteArray.empty, ByteArray.empty, dU0⟩
def endChk (rs : List DRule) (l : List DEra) (k : Nat) : Int :=
  let e := l.getD k dE0
  if e.til.is ≠ decide (k + 1 < l.length) then 12
  else if e.til.is = false then 0
  else
    let least := leastD (setOf rs e)
    if untilChk e.til least ≠ 0 then untilChk e.til least
    else
      let n := (nominalU e.til least).1
      let b := l.getD (k - 1) dE0
      if 0 < k ∧ ((nominalU b.til (leastD (setOf rs b))).2 ≠ 0 ∨ n - (nominalU b.til (leastD (setOf rs b))).1 < 259200) then 12
      else if e.kind = 2 ∧ farD (setOf rs e) n = false then 13
      else 0
def addP (x : Int × List UInt8) (l : List (Int × List UInt8)) : List (Int × List UInt8) := if x ∈ l then l else l ++ [x]
def addA (x : List UInt8) (l : List (List UInt8)) : List (List UInt8) := if x ∈ l then l else l ++ [x]
def stGo (e : DEra) : List (Int × ByteArray) → List (Int × List UInt8) × List (List UInt8) → List (Int × List UInt8) × List (List UInt8)
  | [], acc => acc
  | x :: l, acc =>
    let a := (abbrF e.format.data.toList e.off x.1 x.2.data.toList).1
    stGo e l (addP (e.off + x.1, a) acc.1, addA a acc.2)
def erGo (rs : List DRule) : List DEra → List (Int × List UInt8) × List (List UInt8) → List (Int × List UInt8) × List (List UInt8)
  | [], acc => acc
  | e :: l, acc => erGo rs l (stGo e (statesOf rs e) acc)
def sizeA : List (List UInt8) → Nat
  | [] => 0
  | x :: l => x.length + 1 + sizeA l
def fewB25 (rs : List DRule) (z : DZone) : Bool := decide ((erGo rs z.eras ([], [])).1.length ≤ 120) && decide (sizeA (erGo rs z.eras ([], [])).2 ≤ 250)
def erasGo (rs : List DRule) (l : List DEra) (i : Nat) : Nat → Nat → Option (DPlace × Int)
  | 0, _ => none
  | f + 1, k =>
    if eraChk rs (l.getD k dE0) (decide (k = 0)) ≠ 0 then some (⟨2, i, k⟩, eraChk rs (l.getD k dE0) (decide (k = 0)))
    else if endChk rs l k ≠ 0 then some (⟨2, i, k⟩, endChk rs l k)
    else erasGo rs l i f (k + 1)
def zonesGo (rs : List DRule) : List DZone → Nat → Option (DPlace × Int)
  | [], _ => none
  | z :: l, i =>
    if z.eras = [] then some (⟨2, i, 0⟩, 4)
    else match erasGo rs z.eras i z.eras.length 0 with
      | some x => some x
      | none => if fewB25 rs z = false then some (⟨2, i, 0⟩, 7) else zonesGo rs l (i + 1)
/-- The first fault of a source. -/
def accD (s : DSource) : Option (DPlace × Int) := (sizesD s).or ((setsD s).or ((shiftsGo s s.shifts [] 0).or ((linksD s).or (zonesGo s.rules s.zones 0))))
/-! layer 24 -/
def varFault (form : Int) (s : DSource) : Option (DPlace × Int) :=
  if form < 1 ∨ 3 < form then some (⟨0, 0, 0⟩, 2)
  else match s.rules.findIdx? fun r => decide (r.save < 0) && decide (form = 3) with
    | some i => some (⟨1, i, 0⟩, 17)
    | none =>
      let wrong := fun e : DEra => (decide (kindF e.format.data.toList = 4) && !decide (form = 1)) || (decide (kindF e.format.data.toList = 5) && decide (form = 1))
      match s.zones.findIdx? fun z => z.eras.any wrong with
      | some i => some (⟨2, i, (((s.zones[i]?).map fun z => ((z.eras.findIdx? wrong).getD 0)).getD 0)⟩, 17)
      | none => if 0 < s.shifts.length ∧ form ≠ 3 then some (⟨4, 0, 0⟩, 17) else none
def inD (s : DSource) (form : Int) : Option (DPlace × Int) := (accD s).or (varFault form s)
def formsD (s : DSource) : List Int := if (accD s).isSome then [] else [1, 2, 3].filter fun f => (varFault f s).isNone
end Go.Proofs.YtbffjibfcgcoeaaGreatDoor

namespace Go.Proofs.YtbffjibfcgcoeaaGreatDoor
open Go Go.RowKit Go.Wk
def fnV (f : Nat) : Value := .func (.func f) #[] #[]
def kindCells : List Value := [.bool false, .bool true, fnV 372, .bool true, .bool false, fnV 373, .bool true, .bool true, fnV 375, .bool true, .bool true, fnV 377]
def condCells : List Value := [fnV 362, .int .i64 3, fnV 364, .int .i64 12, fnV 365, .int .i64 3, fnV 367, .int .i64 3, fnV 369, .int .i64 14, fnV 370, .int .i64 15]
def varCells : List Value := [.string ByteArray.empty, .bool false, .bool false, .bool false, .bool false, .string ⟨#[118, 97, 110, 103, 117, 97, 114, 100]⟩, .bool true, .bool true, .bool false, .bool false, .string ⟨#[109, 97, 105, 110]⟩, .bool true, .bool false, .bool true, .bool false, .string ⟨#[114, 101, 97, 114, 103, 117, 97, 114, 100]⟩, .bool false, .bool false, .bool true, .bool true]
structure Glob (w : World) : Prop where
  bef : CellsAt w ⟨4, 0, none⟩ (beforeL.map fun n => .int .i64 n)
  kin : CellsAt w ⟨2, 3, none⟩ kindCells
  con : CellsAt w ⟨0, 0, none⟩ condCells
  var : CellsAt w ⟨1, 0, none⟩ varCells
theorem Glob.up {w w' : World} (h : Glob w) (hb : Bel w.heap.size w w') : Glob w' :=
  ⟨h.bef.up hb (Nat.le_refl _), h.kin.up hb (Nat.le_refl _), h.con.up hb (Nat.le_refl _), h.var.up hb (Nat.le_refl _)⟩
end Go.Proofs.YtbffjibfcgcoeaaGreatDoor

namespace Go.Proofs.YtbffjibfcgcoeaaGreatDoor
open Go Go.RowKit Go.Wk
attribute [local irreducible] W RL Does thenQ blockQ retQ Calls Pu Stp RD Qy Ay

theorem cloneR_spec (A : Option Addr) (c : Nat) (x : List DRule) (w : World) (hA : RdSl w A c DRule.enc 11 x) (hn : x.length ≤ 1000000) :
    Does Tryz.prog 143 [.slice A x.length c] w (NewSl 51 11 DRule.enc x) := by
  refine Does_of_W Tryz.func143 rfl rfl rfl rfl ?_
  repeat (first | (apply RL_st; rfl; (apply Stp_buildSlice0; intro bk)) | refine walk ?_)
  refine W_cond rfl (fun h1 => ?_) (fun h1 => ?_)
  · obtain rfl := hA.none h1
    refine W_nil 51 11 ?_
    repeat (first | (apply RL_st; rfl; (apply Stp_buildSlice0; intro bk)) | refine walk ?_)
    exact ret_1 _ [.row (.slice none 0 0) 51 11 0 []] (.tmp rfl) (by first | exact .refl _ | focus repeat (first | exact SubO.nil | (apply SubO.cons; focus repeat' constructor))) ⟨none, 0, rfl, rfl⟩
  repeat (first | (apply RL_st0; (apply Stp_append0; rfl; rfl; (intro A' c'; (focus repeat' constructor)); (intro w' hw _; exact (hA.up hw).rd.raw DRule.len (by decide)); exact flat_len DRule.len x; exact all_flat oneR x; (simp only [maxLen]; omega); omega; intro A' c' hc1 hc2 hc3)) | (apply RL_st; rfl; (first | (apply Stp_append0; rfl; rfl; (intro A' c'; (focus repeat' constructor)); (intro w' hw _; exact (hA.up hw).rd.raw DRule.len (by decide)); exact flat_len DRule.len x; exact all_flat oneR x; (simp only [maxLen]; omega); omega; intro A' c' hc1 hc2 hc3) | (apply Stp_buildSlice0; intro bk))) | refine walk ?_)
  exact ret_1 _ _ (.tmp rfl) (.refl _) ⟨A', c', rfl, rfl⟩

end Go.Proofs.YtbffjibfcgcoeaaGreatDoor

namespace Go.Proofs.YtbffjibfcgcoeaaGreatDoor
open Go Go.RowKit Go.Wk
attribute [local irreducible] W RL Does thenQ blockQ retQ Calls Pu Stp RD Qy Ay

theorem mget_mset (k : ByteArray) (v : Value) (x : ByteArray) : ∀ m : List (ByteArray × Value), mget (mset m k v) x = if x = k then some v else mget m x
  | [] => by simp [mset, mget]
  | (y, u) :: r => by
    simp only [mset]
    split
    · rename_i h; subst h; simp only [mget]; split <;> simp_all
    · rename_i h
      simp only [mget, mget_mset k v x r]
      split
      · rename_i h2; subst h2; rw [if_neg (fun e => h e.symm)]
      · rfl
/-- A map that tells which names are in a list. -/
def MpB (m : List (ByteArray × Value)) (l : List ByteArray) : Prop := ∀ x, (mget m x).getD (.bool false) = .bool (memB x l)
theorem MpB.set {m : List (ByteArray × Value)} {l : List ByteArray} (h : MpB m l) (y : ByteArray) : MpB (mset m y (.bool true)) (l ++ [y]) := fun x => by
  rw [mget_mset, memB_snoc]
  by_cases e : x = y
  · subst e; simp
  · rw [if_neg e, h x]; simp [show ¬ y = x from fun h => e h.symm]
theorem MpB.nil : MpB [] [] := fun _ => rfl

/-- What a loop that collects and marks has at its head. -/
structure MG (α : Type) where
  k : Nat
  A : Option Addr
  c : Nat
  m : Nat
  xs : List Value
  acc : List α
  mp : List (ByteArray × Value)

theorem names_spec (Ar Az Al As : Option Addr) (cr cz cl cs : Nat) (a : DSource) (w : World) (hA : RdSource w Ar Az Al As cr cz cl cs a) (hn : a.rules.length ≤ 1000000) :
    Does Tryz.prog 98 [srcV Ar Az Al As cr cz cl cs a] w (NewSl 9 1 strEnc (namesB a.rules [])) := by
  generalize hres : namesB a.rules [] = res
  refine Does_of_W Tryz.func98 rfl rfl rfl rfl ?_
  repeat (first | (apply RL_st; rfl; (first | (apply Stp_boxNf; rfl; (focus repeat (first | exact Nf.nil | apply Nf.cons)); intro bk) | (apply Stp_makeMap; intro bk) | (apply Stp_alloc; intro bk) | (apply Stp_buildSliceC; rfl; rfl; rfl; rfl; (focus repeat (first | exact Nf.nil | apply Nf.cons)); intro bk))) | refine walk ?_)
  refine W_nil 9 1 ?_
  refine W_loopF [(3, _), (9, _), (10, _)] [] (fun g : MG ByteArray => [(4, .slice g.A g.m g.c), (11, .int .i64 g.k)]) (fun g => [.row (.slice g.A g.m g.c) 9 1 g.m g.xs, .mp _ g.mp]) (fun g => g.k ≤ a.rules.length ∧ g.m = g.acc.length ∧ g.xs = g.acc.flatMap strEnc ∧ g.m ≤ g.k ∧ MpB g.mp g.acc ∧ namesB (a.rules.drop g.k) g.acc = res) (fun g => a.rules.length - g.k) ⟨0, none, 0, 0, [], [], []⟩ ⟨rfl, rfl, rfl, rfl, rfl, trivial⟩ (by first | exact .refl _ | focus repeat (first | exact SubO.nil | (apply SubO.cons; focus repeat' constructor))) ⟨by simp, rfl, rfl, Nat.le_refl _, .nil, by simpa using hres⟩ ?_
  rintro ⟨k, A, c, m, xs, acc, mp⟩ ⟨hk, hm, hx, hmk, hp, hi⟩
  dsimp only at hk hm hx hmk hp hi ⊢
  repeat (first | (apply RL_st; rfl; (first | (apply Stp_boxNf; rfl; (focus repeat (first | exact Nf.nil | apply Nf.cons)); intro bk) | (apply Stp_makeMap; intro bk) | (apply Stp_alloc; intro bk) | (apply Stp_buildSliceC; rfl; rfl; rfl; rfl; (focus repeat (first | exact Nf.nil | apply Nf.cons)); intro bk))) | refine walk ?_)
  refine W_cond rfl (fun hc => ?_) (fun hc => ?_)
  · simp only [decide_eq_true_eq, Int.ofNat_lt] at hc
    obtain ⟨hna, hca⟩ := hA.r.rd k _ (List.getElem?_eq_getElem hc)
    have hnb := hna
    have hcb := hca
    rw [drop_cons hc, namesB] at hi
    generalize a.rules[k] = r at *
    repeat (first | (apply RL_pu; rfl; (first | (apply Pu_indexAddr; rfl; rfl; omega; omega; (first | exact hna | exact hnb)) | (apply Pu_loadON; rfl; (first | exact hca | exact hcb); rfl) | (apply Pu_loadO1'; rfl; (first | exact hca | exact hcb); rfl) | (apply Pu_loadO1; rfl; (first | exact hca 0 _ rfl | exact hcb 0 _ rfl)) | (apply Pu_lookupC; rfl; rfl; (focus repeat' constructor); exact hp _))) | (apply RL_st; rfl; (first | (apply Stp_boxNf; rfl; (focus repeat (first | exact Nf.nil | apply Nf.cons)); intro bk) | (apply Stp_makeMap; intro bk) | (apply Stp_alloc; intro bk) | (apply Stp_buildSliceC; rfl; rfl; rfl; rfl; (focus repeat (first | exact Nf.nil | apply Nf.cons)); intro bk))) | refine walk1 ?_)
    refine W_cond rfl (fun h3 => ?_) (fun h3 => ?_)
    · simp only [Bool.not_eq_true'] at h3
      rw [h3] at hi
      repeat (first | (apply RL_pu; rfl; (first | (apply Pu_indexAddr; rfl; rfl; omega; omega; (first | exact hna | exact hnb)) | (apply Pu_loadON; rfl; (first | exact hca | exact hcb); rfl) | (apply Pu_loadO1'; rfl; (first | exact hca | exact hcb); rfl) | (apply Pu_loadO1; rfl; (first | exact hca 0 _ rfl | exact hcb 0 _ rfl)))) | (apply RL_st0; (apply Stp_append; rfl; rfl; (intro A' c'; (focus repeat' constructor)); (intro w' _ hO; exact blkRaw (hO.of (by (focus repeat' constructor)))); rfl; rfl; (simp only [maxLen]; omega); omega; intro A' c' hc1 hc2 hc3)) | (apply RL_st; rfl; (first | (apply Stp_append; rfl; rfl; (intro A' c'; (focus repeat' constructor)); (intro w' _ hO; exact blkRaw (hO.of (by (focus repeat' constructor)))); rfl; rfl; (simp only [maxLen]; omega); omega; intro A' c' hc1 hc2 hc3) | (apply Stp_boxNf; rfl; (focus repeat (first | exact Nf.nil | apply Nf.cons)); intro bk) | (apply Stp_makeMap; intro bk) | (apply Stp_alloc; intro bk) | (apply Stp_buildSliceC; rfl; rfl; rfl; rfl; (focus repeat (first | exact Nf.nil | apply Nf.cons)); intro bk))) | refine walk1 ?_)
      exact ⟨⟨k + 1, A', c', m + 1, xs ++ strEnc r.name, acc ++ [r.name], mset mp r.name (.bool true)⟩, (by first | omega | (dsimp only; omega)), ⟨(by first | omega | (dsimp only; omega)), by simp [hm], by rw [hx]; exact flat_snoc acc r.name, (by first | omega | (dsimp only; omega)), hp.set _, by rw [← hi]; simp⟩, (by repeat (first | exact trivial | refine ⟨rfl, ?_⟩)), (by first | exact .refl _ | focus repeat (first | exact SubO.nil | (apply SubO.cons; focus repeat' constructor)))⟩
    simp only [Bool.not_eq_false'] at h3
    rw [h3] at hi
    repeat (first | (apply RL_st; rfl; (first | (apply Stp_boxNf; rfl; (focus repeat (first | exact Nf.nil | apply Nf.cons)); intro bk) | (apply Stp_makeMap; intro bk) | (apply Stp_alloc; intro bk) | (apply Stp_buildSliceC; rfl; rfl; rfl; rfl; (focus repeat (first | exact Nf.nil | apply Nf.cons)); intro bk))) | refine walk ?_)
    exact ⟨⟨k + 1, A, c, m, xs, acc, mp⟩, (by first | omega | (dsimp only; omega)), ⟨(by first | omega | (dsimp only; omega)), hm, hx, (by first | omega | (dsimp only; omega)), hp, by rw [← hi]; simp⟩, (by repeat (first | exact trivial | refine ⟨rfl, ?_⟩)), (by first | exact .refl _ | focus repeat (first | exact SubO.nil | (apply SubO.cons; focus repeat' constructor)))⟩
  simp only [decide_eq_false_iff_not, Int.ofNat_lt] at hc
  rw [List.drop_eq_nil_of_le (by omega), namesB] at hi
  subst hi
  repeat (first | (apply RL_st; rfl; (first | (apply Stp_boxNf; rfl; (focus repeat (first | exact Nf.nil | apply Nf.cons)); intro bk) | (apply Stp_makeMap; intro bk) | (apply Stp_alloc; intro bk) | (apply Stp_buildSliceC; rfl; rfl; rfl; rfl; (focus repeat (first | exact Nf.nil | apply Nf.cons)); intro bk))) | refine walk ?_)
  exact ret_1 _ [.row (.slice A acc.length c) 9 1 acc.length (acc.flatMap strEnc)] (.tmp rfl) (by subst hm hx; exact (by first | exact .refl _ | focus repeat (first | exact SubO.nil | (apply SubO.cons; focus repeat' constructor)))) ⟨A, c, by rw [hm], rfl⟩

end Go.Proofs.YtbffjibfcgcoeaaGreatDoor
