/- Plain law: drafts of layer 23 that are spoilt in one way are refused (layer 26). -/
import Derived.Test.YtonjepladadmhaaGreatDoorS40
import Derived.Test.YtonjepladadmhaaGreatDoorS37
set_option maxHeartbeats 4000000
set_option linter.unusedVariables false
set_option linter.unusedSimpArgs false
namespace Go.Proofs.YtonjepladadmhaaGreatDoor
open Go Go.RowKit Go.Wk
theorem lay_right26 (a : List Value) : ∀ (vs cs : List Value) (j : Nat), lay (a ++ cs) (a.length + j) vs = a ++ lay cs j vs
 | [], _, _ => rfl
 | v :: r, cs, j => by
  rw [lay, lay, List.set_append_right _ _ (by omega), Nat.add_sub_cancel_left, Nat.add_assoc, lay_right26 a r _ (j + 1)]
theorem lay_left26 (c : List Value) : ∀ (vs a : List Value) (j : Nat), j + vs.length ≤ a.length → lay (a ++ c) j vs = lay a j vs ++ c
 | [], _, _, _ => rfl
 | v :: r, a, j, h => by
  simp only [List.length_cons] at h
  rw [lay, lay, List.set_append_left _ _ (by omega), lay_left26 c r _ (j + 1) (by rw [List.length_set]; omega)]
theorem flat_lay26 {α : Type} {enc : α → List Value} {sz : Nat} (hsz : ∀ x, (enc x).length = sz) (off : Nat) (vs : List Value) (hb : off + vs.length ≤ sz) (x y : α) (he : lay (enc x) off vs = enc y) : ∀ (l : List α) (k : Nat), l[k]? = some x → lay (l.flatMap enc) (k * sz + off) vs = (l.set k y).flatMap enc
 | [], k, h => by simp at h
 | z :: l, 0, h => by
  simp only [List.getElem?_cons_zero, Option.some.injEq] at h
  subst h
  rw [List.flatMap_cons, List.set_cons_zero, List.flatMap_cons, ← he, Nat.zero_mul, Nat.zero_add, lay_left26 _ _ _ _ (by rw [hsz]; exact hb)]
 | z :: l, k + 1, h => by
  have ih := flat_lay26 hsz off vs hb x y he l k (by simpa using h)
  rw [List.flatMap_cons, List.set_cons_succ, List.flatMap_cons, ← ih, show (k + 1) * sz + off = (enc z).length + (k * sz + off) by rw [hsz, Nat.add_mul]; omega, lay_right26]
structure Sml0 (s : DSource) : Prop where
 nr : s.rules.length ≤ 100
 nz : s.zones.length ≤ 100
 nl : s.links.length ≤ 101
 ns : s.shifts.length ≤ 100
 rs : ∀ r ∈ s.rules, (r.name.size ≤ 100 ∧ r.letter.size ≤ 100) ∧ -9223372036854775808 ≤ r.save ∧ r.save ≤ 9223372036854775807
 zs : ∀ z ∈ s.zones, z.name.size ≤ 100 ∧ z.eras.length ≤ 100 ∧ ∀ e ∈ z.eras, SmE e
 ls : ∀ l ∈ s.links, l.target.size ≤ 100 ∧ l.name.size ≤ 100
theorem Sml0.acc {w : World} {Ar Az Al As : Option Addr} {cr cz cl cs : Nat} {a : DSource} (h : Sml0 a) (hL : LibW w) (hG : Glob w) (hA : RdSource w Ar Az Al As cr cz cl cs a) : AccOk w Ar Az Al As cr cz cl cs a where
 L := hL
 G := hG
 A := hA
 S := ⟨by have := h.nr; omega, by have := h.nz; omega, by have := h.nl; omega, by have := h.ns; omega, fun r hr => by obtain ⟨⟨h1, h2⟩, _⟩ := h.rs r hr; omega, fun z hz => by
  obtain ⟨h1, h2, h3⟩ := h.zs z hz
  exact ⟨by omega, by omega, fun e he => by have h4 := (h3 e he).set; have h5 := (h3 e he).fmt; omega⟩, fun l hl => by obtain ⟨h1, h2⟩ := h.ls l hl; omega⟩
 V := fun r hr => (h.rs r hr).2
 Z := fun z hz e he => by
  have h1 := (h.zs z hz).2.2 e he
  have h2 := h1.off
  have h3 := h1.save
  have h4 := h1.kind
  have h5 := h1.fmt
  exact ⟨by unfold I64; omega, by unfold I64; omega, by unfold I64; omega, by omega⟩
theorem Sml.zero {s : DSource} (h : Sml s) : Sml0 s where
 nr := h.nr
 nz := h.nz
 nl := by have := h.nl; omega
 ns := h.ns
 rs := fun r hr => by obtain ⟨h1, h2, h3, h4⟩ := h.rs r hr; exact ⟨⟨h1, h2⟩, by omega, by omega⟩
 zs := h.zs
 ls := h.ls
theorem mem_set {α : Type} {l : List α} {k : Nat} {x y : α} (h : y ∈ l.set k x) : y = x ∨ y ∈ l := (List.mem_or_eq_of_mem_set h).symm
def badA (s : DSource) (r : DRule) : DSource := { s with rules := s.rules.set 0 { r with save := 1099511627776 } }
def badZ (s : DSource) (z : DZone) : DSource := { s with zones := s.zones.set 0 ⟨z.name, []⟩ }
def badN (s : DSource) (k : Nat) (z : DZone) : DSource := { s with zones := s.zones.set k ⟨ByteArray.empty, z.eras⟩ }
theorem badA_sml {s : DSource} (h : Sml s) {r : DRule} (hr : s.rules[0]? = some r) : Sml0 (badA s r) where
 nr := by show (s.rules.set 0 _).length ≤ 100; rw [List.length_set]; exact h.nr
 nz := h.nz
 nl := h.zero.nl
 ns := h.ns
 rs := fun x hx => by
  rcases mem_set hx with rfl | hx
  ·exact ⟨(h.zero.rs r (List.mem_of_getElem? hr)).1, by dsimp only; omega, by dsimp only; omega⟩
  ·exact h.zero.rs x hx
 zs := h.zs
 ls := h.ls
theorem badZ_sml {s : DSource} (h : Sml s) {z : DZone} (hz : s.zones[0]? = some z) : Sml0 (badZ s z) where
 nr := h.nr
 nz := by show (s.zones.set 0 _).length ≤ 100; rw [List.length_set]; exact h.nz
 nl := h.zero.nl
 ns := h.ns
 rs := h.zero.rs
 zs := fun x hx => by
  rcases mem_set hx with rfl | hx
  ·exact ⟨(h.zs z (List.mem_of_getElem? hz)).1, Nat.zero_le _, fun e he => by cases he⟩
  ·exact h.zs x hx
 ls := h.ls
theorem badN_sml {s : DSource} (h : Sml s) {k : Nat} {z : DZone} (hz : s.zones[k]? = some z) : Sml0 (badN s k z) where
 nr := h.nr
 nz := by show (s.zones.set k _).length ≤ 100; rw [List.length_set]; exact h.nz
 nl := h.zero.nl
 ns := h.ns
 rs := h.zero.rs
 zs := fun x hx => by
  rcases mem_set hx with rfl | hx
  ·exact ⟨Nat.zero_le _, (h.zs z (List.mem_of_getElem? hz)).2⟩
  ·exact h.zs x hx
 ls := h.ls
theorem badL_sml {s : DSource} (h : Sml s) : Sml0 (badS s) where
 nr := h.nr
 nz := h.nz
 nl := by
  have := h.nl
  show (s.links ++ [lkBad]).length ≤ 101
  rw [List.length_append, List.length_singleton]; omega
 ns := h.ns
 rs := h.zero.rs
 zs := h.zs
 ls := fun l hl => by
  rcases List.mem_append.1 hl with hl | hl
  ·exact h.ls l hl
  ·rw [List.mem_singleton.1 hl]
   decide
theorem accD_some {a : DSource} (h : accD a ≠ none) : ∃ p e, accD a = some (p, e) := by
 cases ha : accD a with
 | none => exact absurd ha h
 | some x => exact ⟨x.1, x.2, rfl⟩
theorem ruleErr_save {r : DRule} {m : Int} (h : ruleErr r m = 0) : r.save ≤ 10800 := by
 unfold ruleErr at h
 by_cases h1 : (decide (-10800 ≤ r.save) && decide (r.save ≤ 10800)) = false
 ·rw [if_pos h1] at h
  repeat' split at h
  all_goals cases h
 ·simp only [Bool.not_eq_false, Bool.and_eq_true, decide_eq_true_eq] at h1
  exact h1.2
theorem rsChk_save {l : List DRule} (h : (rsChk l).2 = 0) : ∀ r ∈ l, r.save ≤ 10800 := by
 intro r hr
 unfold rsChk at h
 cases hf : firstBad (leastD l) l 0 with
 | none => exact ruleErr_save (firstBad_none _ l 0 hf r hr)
 | some x =>
  rw [hf] at h
  exfalso
  have : ∀ (l : List DRule) (k : Nat) (x : Nat × Int) (m : Int), firstBad m l k = some x → x.2 ≠ 0 := fun l => by
   induction l with
   | nil => intro k x m h; cases h
   | cons y l ih =>
    intro k x m h
    rw [firstBad] at h
    split at h
    ·exact ih _ _ _ h
    ·rename_i h0
     simp only [Option.some.injEq] at h
     rw [← h]
     exact h0
  exact this _ _ _ _ hf h
theorem badA_acc {s : DSource} {r : DRule} (hr : s.rules[0]? = some r) : ∃ p e, accD (badA s r) = some (p, e) := by
 refine accD_some fun h => ?_
 unfold accD at h
 simp only [Option.or_eq_none_iff] at h
 have hm : ({ r with save := 1099511627776 } : DRule) ∈ (badA s r).rules := List.mem_of_getElem? (i := 0) (by
  show (s.rules.set 0 _)[0]? = _
  rw [List.getElem?_set_self (List.getElem?_eq_some_iff.1 hr).1])
 have := rsChk_save (setsGo_none (badA s r).rules _ h.2.1 _ ((namesB_every (badA s r).rules []).2 _ hm)) _ (List.mem_filter.2 ⟨hm, decide_eq_true rfl⟩)
 dsimp only at this
 omega
theorem badZ_acc {s : DSource} {z : DZone} (hz : s.zones[0]? = some z) : ∃ p e, accD (badZ s z) = some (p, e) := by
 refine accD_some fun h => ?_
 unfold accD at h
 simp only [Option.or_eq_none_iff] at h
 have h2 := h.2.2.2.2
 unfold badZ at h2
 dsimp only at h2
 cases hl : s.zones with
 | nil => rw [hl] at hz; cases hz
 | cons y l =>
  rw [hl, List.set_cons_zero, zonesGo, if_pos rfl] at h2
  cases h2
theorem zoneFault_name {s : DSource} : ∀ (l : List DZone) (i : Nat), zoneFault s l i = none → ∀ z ∈ l, zoneB z.name ≠ false
 | [], _, _, z, h => by cases h
 | x :: l, i, h, z, hz => by
  rw [zoneFault] at h
  by_cases h1 : zoneB x.name = false
  ·rw [if_pos h1] at h; cases h
  rw [if_neg h1] at h
  by_cases h2 : firstZ x.name s.zones 0 ≠ some i
  ·rw [if_pos h2] at h; cases h
  rw [if_neg h2] at h
  rcases List.mem_cons.1 hz with rfl | hz
  ·exact h1
  ·exact zoneFault_name l (i + 1) h z hz
theorem badN_acc {s : DSource} {k : Nat} {z : DZone} (hz : s.zones[k]? = some z) : ∃ p e, accD (badN s k z) = some (p, e) := by
 refine accD_some fun h => ?_
 have hl := accD_links h
 unfold linksD at hl
 rw [Option.or_eq_none_iff] at hl
 have hm : (⟨ByteArray.empty, z.eras⟩ : DZone) ∈ (badN s k z).zones := List.mem_of_getElem? (i := k) (by
  show (s.zones.set k _)[k]? = _
  rw [List.getElem?_set_self (List.getElem?_eq_some_iff.1 hz).1])
 exact zoneFault_name _ _ hl.1 _ hm (show zoneB ByteArray.empty = false by decide)
theorem rules23_ne (d : DD23) : 0 < (made23 d).rules.length := by
 obtain ⟨_, _, _, ⟨r, hr, _⟩, _⟩ := (rules23_set d.sets d.ns (ns23 d).2 0 (ns23 d).1).1.saves
 exact List.length_pos_of_mem (ofB_sub hr)
end Go.Proofs.YtonjepladadmhaaGreatDoor
