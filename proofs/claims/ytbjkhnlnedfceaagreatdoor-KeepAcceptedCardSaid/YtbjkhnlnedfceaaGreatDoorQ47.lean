/- Plain law: the forms of drafts (layer 24), and drafts with a shifted set. Contracts: slices.IndexFunc and ContainsFunc at strings, eras and links. -/
import Derived.Test.YtbjkhnlnedfceaaGreatDoorQ14
import Derived.Test.YtbjkhnlnedfceaaGreatDoorQ35
import Derived.Test.YtbjkhnlnedfceaaGreatDoorQ23
set_option maxHeartbeats 4000000
set_option linter.unusedVariables false
set_option linter.unusedSimpArgs false
namespace Go.Proofs.YtbjkhnlnedfceaaGreatDoor
open Go Go.RowKit Go.Wk
def pctZ : ByteArray := ⟨#[37, 122]⟩
def negR (rs : List DRule) : Bool := rs.any fun r => decide (r.save < 0)
def numE (e : DEra) : Bool := decide (e.format = pctZ)
def numZ (zs : List DZone) : Bool := zs.any fun z => z.eras.any numE
theorem kind_fmt {f : ByteArray} (h : f ∈ fmtU) : decide (kindF f.data.toList = 4) = decide (f = pctZ) ∧ decide (kindF f.data.toList = 5) = false := by
 have h1 : ∀ f ∈ fmtU, decide (kindF f.data.toList = 4) = decide (f = pctZ) ∧ decide (kindF f.data.toList = 5) = false := by decide +kernel
 exact h1 f h
theorem any_and {α : Type} (l : List α) (p : α → Bool) (b : Bool) : (l.any fun x => p x && b) = (l.any p && b) := by cases b <;> simp
theorem any_mem' {α : Type} {p q : α → Bool} : ∀ {l : List α}, (∀ x ∈ l, p x = q x) → l.any p = l.any q
 | [], _ => rfl
 | a :: l, h => by rw [List.any_cons, List.any_cons, h a List.mem_cons_self, any_mem' fun x hx => h x (List.mem_cons_of_mem _ hx)]
theorem idx_none {α : Type} {l : List α} {p : α → Bool} (h : l.any p = false) : l.findIdx? p = none := by
 rw [List.findIdx?_eq_none_iff]
 intro x hx
 rw [List.any_eq_false] at h
 simpa using h x hx
theorem idx_some {α : Type} {l : List α} {p : α → Bool} (h : l.any p = true) : ∃ i, l.findIdx? p = some i := by
 cases hc : l.findIdx? p with
 | some i => exact ⟨i, rfl⟩
 | none =>
  rw [List.findIdx?_eq_none_iff] at hc
  obtain ⟨x, hx, hp⟩ := List.any_eq_true.1 h
  rw [hc x hx] at hp
  cases hp
theorem varFault_eq (s : DSource) (f : Int) (h1 : 1 ≤ f) (h3 : f ≤ 3) (hz : ∀ z ∈ s.zones, ∀ e ∈ z.eras, e.format ∈ fmtU) :
  (varFault f s).isNone = (!(negR s.rules && decide (f = 3)) && (!(numZ s.zones && !decide (f = 1)) && !(decide (0 < s.shifts.length) && !decide (f = 3)))) := by
 unfold varFault
 rw [if_neg (by omega)]
 have e1 := any_and s.rules (fun r => decide (r.save < 0)) (decide (f = 3))
 cases hn : (negR s.rules && decide (f = 3)) with
 | true =>
  obtain ⟨i, hi⟩ := idx_some (e1.trans hn)
  rw [hi]
  rfl
 | false =>
  rw [idx_none (e1.trans hn)]
  dsimp only
  have e2 : (s.zones.any fun z => z.eras.any fun e => (decide (kindF e.format.data.toList = 4) && !decide (f = 1)) || (decide (kindF e.format.data.toList = 5) && decide (f = 1))) = (numZ s.zones && !decide (f = 1)) := by
   unfold numZ
   rw [← any_and]
   refine any_mem' fun z hz2 => ?_
   rw [← any_and]
   refine any_mem' fun e he => ?_
   obtain ⟨q1, q2⟩ := kind_fmt (hz z hz2 e he)
   rw [q1, q2]
   simp [numE]
  cases hu : (numZ s.zones && !decide (f = 1)) with
  | true =>
   obtain ⟨i, hi⟩ := idx_some (e2.trans hu)
   rw [hi]
   rfl
  | false =>
   rw [idx_none (e2.trans hu)]
   dsimp only
   by_cases hs : 0 < s.shifts.length ∧ f ≠ 3
   ·rw [if_pos hs, decide_eq_true hs.1, decide_eq_false hs.2]
    rfl
   ·rw [if_neg hs]
    by_cases h4 : 0 < s.shifts.length
    ·rw [decide_eq_true h4, decide_eq_true (show f = 3 by omega)]
     rfl
    ·rw [decide_eq_false h4]
     rfl
theorem formsD_eq (s : DSource) (ha : accD s = none) (hz : ∀ z ∈ s.zones, ∀ e ∈ z.eras, e.format ∈ fmtU) :
  formsD s = (if 0 < s.shifts.length then [] else 1 :: if numZ s.zones then [] else [2]) ++ (if negR s.rules || numZ s.zones then [] else [3]) := by
 unfold formsD
 rw [ha]
 have a1 := varFault_eq s 1 (by decide) (by decide) hz
 have a2 := varFault_eq s 2 (by decide) (by decide) hz
 have a3 := varFault_eq s 3 (by decide) (by decide) hz
 rw [show decide ((1 : Int) = 3) = false from rfl, show decide ((1 : Int) = 1) = true from rfl] at a1
 rw [show decide ((2 : Int) = 3) = false from rfl, show decide ((2 : Int) = 1) = false from rfl] at a2
 rw [show decide ((3 : Int) = 3) = true from rfl, show decide ((3 : Int) = 1) = false from rfl] at a3
 rw [show (none : Option (DPlace × Int)).isSome = false from rfl, if_neg (by decide), List.filter_cons, List.filter_cons, List.filter_cons, List.filter_nil, a1, a2, a3]
 by_cases hs : 0 < s.shifts.length
 ·rw [decide_eq_true hs, if_pos hs]
  cases negR s.rules <;> cases numZ s.zones <;> rfl
 ·rw [decide_eq_false hs, if_neg hs]
  cases negR s.rules <;> cases numZ s.zones <;> rfl
theorem made25_fmts (d : DDr) : ∀ z ∈ (made25 d).zones, ∀ e ∈ z.eras, e.format ∈ fmtU := fun z hz e he => by
 obtain ⟨Y, h⟩ := made25_zones d z hz
 obtain ⟨k, hk⟩ := List.getElem?_of_mem he
 exact (h.era k e hk).fmt
theorem made25_formsD (d : DDr) : formsD (made25 d) = if numZ (made25 d).zones then [1] else if negR (made25 d).rules then [1, 2] else [1, 2, 3] := by
 rw [formsD_eq _ (made25_acc d) (made25_fmts d), show (made25 d).shifts = [] from rfl, if_neg (by decide)]
 cases negR (made25 d).rules <;> cases numZ (made25 d).zones <;> rfl
def shSrc (d : DDr) (x : ByteArray) : DSource := { made25 d with shifts := [x] }
theorem shSrc_acc (d : DDr) (hn : negR (made25 d).rules = false) (r : DRule) (hr : r ∈ (made25 d).rules) : accD (shSrc d r.name) = none := by
 have h0 := made25_acc d
 have hs : sizesD (shSrc d r.name) = none := by
  have hz : sizesD (made25 d) = none := by
   unfold accD at h0
   cases hc : sizesD (made25 d) with
   | none => rfl
   | some x => rw [hc] at h0; cases h0
  unfold sizesD at hz ⊢
  rw [show (shSrc d r.name).rules = (made25 d).rules from rfl, show (shSrc d r.name).zones = (made25 d).zones from rfl, show (shSrc d r.name).links = (made25 d).links from rfl]
  split at hz
  ·cases hz
  rename_i q1
  rw [if_neg q1]
  split at hz
  ·cases hz
  rename_i q2
  rw [if_neg q2]
  cases hf : (made25 d).zones.findIdx? fun z => decide (60 < z.eras.length) with
  | some i => rw [hf] at hz; cases hz
  | none =>
   rw [hf] at hz
   dsimp only at hz ⊢
   split at hz
   ·cases hz
   rename_i q3
   rw [if_neg q3, if_neg (by show ¬ 2000 < [r.name].length; simp)]
 have hsh : shiftsGo (shSrc d r.name) [r.name] [] 0 = none := by
  obtain ⟨j, h3, h4⟩ := rules25_names d.sets d.made r hr
  have hS := (rules25_set d.sets d.made (Nat.min_le_right _ _) j h3).1
  rw [← h4] at hS
  obtain ⟨s, s0, _, _, s3, s4, _⟩ := hS.other
  have hl : leastD (ofB (made25 d).rules r.name) = 0 := by
   obtain ⟨_, _, h7⟩ := foldMin (ofB (made25 d).rules r.name) 0
   unfold leastD
   rcases h7 with h7 | ⟨q, h8, h9⟩
   ·exact h7
   ·have hq : q ∈ (made25 d).rules := (List.mem_filter.1 h8).1
    have h10 : ¬ q.save < 0 := by
     unfold negR at hn
     rw [List.any_eq_false] at hn
     simpa using hn q hq
    have h11 := (foldMin (ofB (made25 d).rules r.name) 0).1
    omega
  have hne : ofB (made25 d).rules r.name ≠ [] := fun hh => by
   have hm : r ∈ ofB (made25 d).rules r.name := List.mem_filter.2 ⟨hr, decide_eq_true rfl⟩
   rw [hh] at hm
   cases hm
  have s5 : otherD (ofB (made25 d).rules r.name) = (s, true) := s3
  rw [shiftsGo]
  rw [show (shSrc d r.name).rules = (made25 d).rules from rfl]
  rw [if_neg hne, if_neg (by simp [memB]), if_neg (by rw [hl, s5]; simp), shiftsGo]
 have hl : linksD (shSrc d r.name) = none := by
  rw [linksD_bare, show bareS (shSrc d r.name) = bareS (made25 d) from rfl, ← linksD_bare]
  exact made25_links' d
 have hz : zonesGo (made25 d).rules (made25 d).zones 0 = none := zonesGo_none _ 0 (made25_zones d)
 unfold accD
 rw [hs, show setsD (shSrc d r.name) = setsD (made25 d) from rfl, made25_sets d, show (shSrc d r.name).shifts = [r.name] from rfl, hsh, hl, show (shSrc d r.name).rules = (made25 d).rules from rfl, show (shSrc d r.name).zones = (made25 d).zones from rfl, hz]
 rfl
theorem shSrc_forms (d : DDr) (hn : negR (made25 d).rules = false) (hu : numZ (made25 d).zones = false) (r : DRule) (hr : r ∈ (made25 d).rules) : formsD (shSrc d r.name) = [3] := by
 rw [formsD_eq (shSrc d r.name) (shSrc_acc d hn r hr) (made25_fmts d), show (shSrc d r.name).rules = (made25 d).rules from rfl, show (shSrc d r.name).zones = (made25 d).zones from rfl, show (shSrc d r.name).shifts = [r.name] from rfl, hn, hu]
 rfl
attribute [local irreducible] W RL Does thenQ blockQ retQ Calls Pu Stp RD Qy Ay DoesIn
theorem containsEr_spec (A : Option Addr) (c : Nat) (l : List DEra) (f : FuncId) [Body Tryz.prog f] (us cs : List Value) (p : DEra → Bool) (w : World) (hA : RdSl w A c DEra.enc 13 l)
  (hf : ∀ r ∈ l, ∀ w', Bel w.heap.size w w' → Does Tryz.prog f (us ++ [.agg (DEra.enc r).toArray] ++ cs) w' (fun v O => v = .bool (p r) ∧ O = [])) :
  Does Tryz.prog 11 [.slice A l.length c, .func (.func f) us.toArray cs.toArray] w (fun v O => v = .bool (l.any p) ∧ O = []) := by
 have h := fun w' (hw : Bel w.heap.size w w') => indexEr_spec A c l f us cs p w' (hA.up hw) fun r hr w2 h2 => hf r hr w2 (hw.trans (h2.mono hw.size))
 rw [← findI_any p l 0]
 generalize findI p l 0 = k at *
 refine Does_of_W Tryz.func11 rfl rfl rfl rfl ?_
 repeat (first | (refine js ?_; (refine callE h ?_)) | refine walk ?_)
 exact rtA
end Go.Proofs.YtbjkhnlnedfceaaGreatDoor
