/- The plain law of analemmalaw34.MergeTwice: what is there twice is named. -/
import Derived.Test.YtfhjfpikngcknaaDoorMade23
import Derived.Test.YtfhjfpikngcknaaDoorRenamed
import Derived.Test.YtfhjfpikngcknaaDoorAssoc
namespace Go.Proofs.YtfhjfpikngcknaaDoor
open Go Go.RowKit Go.Wk

def xX : ByteArray := ⟨#[120]⟩
def zNames (k : Nat) : List ByteArray := (List.range k).map fun i : Nat => sZ ++ dig i
def lNames (k : Nat) : List ByteArray := (List.range k).map fun i : Nat => sL ++ dig i
theorem zones23_names (s : Int) (zs : List (List E23)) : ∀ k, (zones23 s zs k).map (·.name) = zNames k
  | 0 => rfl
  | k + 1 => by
    rw [zones23, List.map_append, zones23_names s zs k, zNames, zNames, List.range_succ, List.map_append]
    rfl
theorem links23_names (nz : Nat) (l : List Int) : ∀ k, (links23 nz l k).map (·.name) = lNames k
  | 0 => rfl
  | k + 1 => by
    rw [links23, List.map_append, links23_names nz l k, lNames, lNames, List.range_succ, List.map_append]
    rfl
def DD23.nz (d : DD23) : Nat := (zl23 d.zones).length
def DD23.nl (d : DD23) : Nat := (d.links.take 4).length
theorem DD23.nl_le (d : DD23) : d.nl ≤ 4 := by unfold DD23.nl; rw [List.length_take]; omega
theorem made23_zn (d : DD23) : (made23 d).zones.map (·.name) = zNames d.nz := zones23_names _ _ _
theorem made23_ln (d : DD23) : (made23 d).links.map (·.name) = lNames d.nl := links23_names _ _ _
def allN : List ByteArray := zNames 3 ++ lNames 4
theorem sub_range {f : Nat → ByteArray} {k n : Nat} (h : k ≤ n) : ∀ x ∈ (List.range k).map f, x ∈ (List.range n).map f := fun x hx => by
  obtain ⟨i, hi, rfl⟩ := List.mem_map.1 hx
  exact List.mem_map.2 ⟨i, List.mem_range.2 (by have := List.mem_range.1 hi; omega), rfl⟩
theorem zn_all (d : DD23) : ∀ x ∈ (made23 d).zones.map (·.name), x ∈ allN := fun x hx => by
  rw [made23_zn] at hx
  exact List.mem_append_left _ (sub_range (zl23_len d.zones).2 x hx)
theorem ln_all (d : DD23) : ∀ x ∈ (made23 d).links.map (·.name), x ∈ allN := fun x hx => by
  rw [made23_ln] at hx
  exact List.mem_append_right _ (sub_range d.nl_le x hx)
theorem apartX : ∀ x ∈ allN, ∀ y ∈ allN, x ++ xX ≠ y := by decide +kernel
theorem nms_all (d : DD23) : ∀ x ∈ nms (made23 d), x ∈ allN := fun x hx => by
  rcases List.mem_append.1 hx with hx | hx
  · exact zn_all d x hx
  · exact ln_all d x hx
theorem free_x (d : DD23) (x : ByteArray) (hx : x ∈ allN) : takenB (x ++ xX) (made23 d) = false := by
  cases h : takenB (x ++ xX) (made23 d) with
  | false => rfl
  | true => exact absurd rfl (apartX x hx _ (nms_all d _ ((takenB_iff _ _).1 h)))

theorem badName_snoc {a : DSource} {y : ByteArray} (hy : takenB y a = true) : ∀ (l : List ByteArray) (k : Nat), (∀ x ∈ l, takenB x a = false) → badName a (l ++ [y]) k = some (k + l.length)
  | [], k, _ => by simp [badName, hy]
  | x :: l, k, h => by
    rw [List.cons_append, badName, h x List.mem_cons_self]
    simp only [Bool.false_eq_true, if_false]
    rw [badName_snoc hy l (k + 1) fun z hz => h z (List.mem_cons_of_mem _ hz), List.length_cons]
    congr 1
    omega
theorem badSet_snoc {a b : DSource} {y : ByteArray} (hy : alikeB a b y = false) : ∀ l : List ByteArray, (∀ x ∈ l, alikeB a b x = true) → badSet a b (l ++ [y]) = some y
  | [], _ => by simp [badSet, hy]
  | x :: l, h => by
    rw [List.cons_append, badSet, h x List.mem_cons_self]
    simp only [if_true]
    exact badSet_snoc hy l fun z hz => h z (List.mem_cons_of_mem _ hz)
theorem namesB_nodup : ∀ (l : List DRule) (acc : List ByteArray), acc.Nodup → (namesB l acc).Nodup
  | [], _, h => h
  | r :: l, acc, h => by
    rw [namesB]
    split
    · exact namesB_nodup l acc h
    · rename_i hn
      refine namesB_nodup l _ (List.nodup_append.2 ⟨h, by simp, fun x hx y hy he => ?_⟩)
      rw [List.mem_singleton.1 hy] at he
      exact hn ((memB_iff _ _).2 (he ▸ hx))
theorem namesB_append (r : DRule) : ∀ (l : List DRule) (acc : List ByteArray), r.name ∈ namesB l acc → namesB (l ++ [r]) acc = namesB l acc
  | [], acc, h => by
    simp only [namesB] at h
    simp [namesB, (memB_iff _ _).2 h]
  | x :: l, acc, h => by
    rw [List.cons_append, namesB, namesB]
    rw [namesB] at h
    split
    · rename_i hm
      rw [if_pos hm] at h
      exact namesB_append r l acc h
    · rename_i hm
      rw [if_neg hm] at h
      exact namesB_append r l _ h
theorem firstOf_append (r : DRule) (x : ByteArray) : ∀ (l : List DRule) (k : Nat), (∃ y ∈ l, y.name = x) → firstOf (l ++ [r]) x k = firstOf l x k
  | [], _, h => by simp at h
  | y :: l, k, h => by
    rw [List.cons_append, firstOf, firstOf]
    split
    · rfl
    · rename_i hn
      refine firstOf_append r x l (k + 1) ?_
      obtain ⟨z, h1, h2⟩ := h
      rcases List.mem_cons.1 h1 with rfl | h1
      · exact absurd h2 hn
      · exact ⟨z, h1, h2⟩
theorem made17_pos (l : List Int) (x : ByteArray) : 1 ≤ (made17 l x).length := by
  rw [made17, List.length_map, m3, List.length_append, pairB_len]; omega
theorem rules23_pos (sets : List (List Int)) : ∀ k, 1 ≤ k → 1 ≤ (rules23 sets k).length
  | 0, h => by omega
  | k + 1, _ => by
    have := made17_pos (sets.getD k []) (sR ++ dig k)
    rw [rules23, List.length_append]
    omega
theorem made23_rpos (d : DD23) : 1 ≤ (made23 d).rules.length := rules23_pos _ _ (by unfold DD23.ns; omega)
theorem made23_zpos (d : DD23) : 1 ≤ (made23 d).zones.length := by
  rw [made23]
  dsimp only
  rw [zones23_len]
  exact (zl23_len d.zones).1

def lastN (a : DSource) : ByteArray := (namesB a.rules []).getD ((namesB a.rules []).length - 1) ByteArray.empty
def atN (a : DSource) : Nat := firstOf a.rules (lastN a) 0
def dZ : DZone := ⟨ByteArray.empty, []⟩
def dR : DRule := ⟨ByteArray.empty, 0, 0, 0, ⟨0, 0, 0⟩, ⟨0, 0⟩, 0, ByteArray.empty⟩
def DSource.z0 (a : DSource) : DZone := a.zones.getD 0 dZ
/-- The second source of the statement. -/
def twB (a : DSource) (w : Int) : DSource :=
  ⟨if w = 3 then a.rules ++ [a.rules.getD (atN a) dR] else a.rules, if w = 0 then (renD a xX false).zones else (renD a xX false).zones ++ [DSource.z0 a], (renD a xX false).links ++ [⟨(DSource.z0 a).name ++ xX, (DSource.z0 a).name⟩], if w = 2 then [lastN a] else []⟩
def twP (a : DSource) (w : Int) : DPlace := if w = 0 then ⟨3, a.links.length, 0⟩ else if w = 1 then ⟨2, a.zones.length, 0⟩ else ⟨1, atN a, 0⟩
theorem alike_same {a b : DSource} {x : ByteArray} (h1 : ofB a.rules x = ofB b.rules x) (h2 : memB x a.shifts = memB x b.shifts) : alikeB a b x = true := by simp [alikeB, h1, h2]
theorem names_pos {a : DSource} (h : 1 ≤ a.rules.length) : 1 ≤ (namesB a.rules []).length := by
  cases hr : a.rules with
  | nil => rw [hr] at h; simp at h
  | cons r l =>
    have : r.name ∈ namesB (r :: l) [] := (namesB_all r.name (r :: l) []).2 (.inr ⟨r, List.mem_cons_self, rfl⟩)
    exact List.length_pos_of_mem this
theorem lastN_mem {a : DSource} (h : 1 ≤ a.rules.length) : lastN a ∈ namesB a.rules [] := by
  have hp := names_pos h
  have hk : (namesB a.rules []).length - 1 < (namesB a.rules []).length := by omega
  rw [lastN, List.getD_eq_getElem?_getD, List.getElem?_eq_getElem hk]
  exact List.getElem_mem hk
theorem names_split {a : DSource} (h : 1 ≤ a.rules.length) : ∃ l, namesB a.rules [] = l ++ [lastN a] ∧ ∀ x ∈ l, x ≠ lastN a := by
  have hp := names_pos h
  have hne : namesB a.rules [] ≠ [] := by intro e; rw [e] at hp; simp at hp
  have hl : (namesB a.rules []).getLast hne = lastN a := by
    have hk : (namesB a.rules []).length - 1 < (namesB a.rules []).length := by omega
    rw [lastN, List.getD_eq_getElem?_getD, List.getElem?_eq_getElem hk, List.getLast_eq_getElem]
    rfl
  have e := (List.dropLast_concat_getLast hne).symm
  rw [hl] at e
  refine ⟨_, e, fun x hx he => ?_⟩
  have hn := namesB_nodup a.rules [] (by simp)
  rw [e] at hn
  exact (List.nodup_append.1 hn).2.2 x hx _ (List.mem_singleton.2 rfl) he
theorem last_rule {a : DSource} (h : 1 ≤ a.rules.length) : ∃ r ∈ a.rules, r.name = lastN a := by
  have := (namesB_all _ _ _).1 (lastN_mem h)
  simpa using this
theorem firstOf_get (x : ByteArray) : ∀ (l : List DRule) (k : Nat), (∃ y ∈ l, y.name = x) → k ≤ firstOf l x k ∧ firstOf l x k < k + l.length ∧ ∃ r, l[firstOf l x k - k]? = some r ∧ r.name = x
  | [], _, h => by simp at h
  | y :: l, k, h => by
    rw [firstOf]
    split
    · rename_i he
      exact ⟨Nat.le_refl _, by simp, y, by simp, he⟩
    · rename_i hn
      have h' : ∃ y ∈ l, y.name = x := by
        obtain ⟨z, h1, h2⟩ := h
        rcases List.mem_cons.1 h1 with rfl | h1
        · exact absurd h2 hn
        · exact ⟨z, h1, h2⟩
      obtain ⟨h1, h2, r, h3, h4⟩ := firstOf_get x l (k + 1) h'
      refine ⟨by omega, by simp only [List.length_cons]; omega, r, ?_, h4⟩
      rw [show firstOf l x (k + 1) - k = (firstOf l x (k + 1) - (k + 1)) + 1 by omega, List.getElem?_cons_succ]
      exact h3
theorem atN_get {a : DSource} (h : 1 ≤ a.rules.length) : atN a < a.rules.length ∧ a.rules[atN a]? = some (a.rules.getD (atN a) dR) ∧ (a.rules.getD (atN a) dR).name = lastN a := by
  obtain ⟨_, h2, r, h3, h4⟩ := firstOf_get (lastN a) a.rules 0 (last_rule h)
  rw [Nat.zero_add] at h2
  rw [Nat.sub_zero] at h3
  have e : a.rules.getD (atN a) dR = r := by rw [List.getD_eq_getElem?_getD, show a.rules[atN a]? = some r from h3]; rfl
  exact ⟨h2, by rw [e]; exact h3, by rw [e]; exact h4⟩
theorem z0_get {a : DSource} (h : 1 ≤ a.zones.length) : a.zones[0]? = some (DSource.z0 a) := by
  rw [DSource.z0, List.getD_eq_getElem?_getD, List.getElem?_eq_getElem (by omega)]
  rfl
theorem z0_taken {a : DSource} (h : 1 ≤ a.zones.length) : takenB (DSource.z0 a).name a = true :=
  (takenB_iff _ _).2 (List.mem_append_left _ (List.mem_map_of_mem (List.mem_of_getElem? (z0_get h))))
theorem badName_free {a : DSource} (l : List ByteArray) (k : Nat) (h : ∀ x ∈ l, takenB x a = false) : badName a l k = none := (badName_none l k).2 h
theorem tw_chk {a : DSource} (hs : a.shifts = []) (hr : 1 ≤ a.rules.length) (hz : 1 ≤ a.zones.length) (hf : ∀ x ∈ nms a, takenB (x ++ xX) a = false) (w : Int) (h0 : 0 ≤ w) (h3 : w ≤ 3) : chkB a (twB a w) = some (twP a w) := by
  have hfz : ∀ x ∈ (renD a xX false).zones.map (·.name), takenB x a = false := fun x hx => by
    obtain ⟨z, h1, rfl⟩ := List.mem_map.1 hx
    obtain ⟨y, h2, rfl⟩ := List.mem_map.1 h1
    exact hf _ (List.mem_append_left _ (List.mem_map_of_mem h2))
  have hfl : ∀ x ∈ (renD a xX false).links.map (·.name), takenB x a = false := fun x hx => by
    obtain ⟨z, h1, rfl⟩ := List.mem_map.1 hx
    obtain ⟨y, h2, rfl⟩ := List.mem_map.1 h1
    exact hf _ (List.mem_append_right _ (List.mem_map_of_mem h2))
  have hsame : w ≤ 1 → badSet a (twB a w) (namesB (twB a w).rules []) = none := fun hw => by
    refine (badSet_none _).2 fun x _ => alike_same ?_ ?_
    · rw [twB]; dsimp only; rw [if_neg (by omega)]
    · rw [twB]; dsimp only; rw [if_neg (by omega), hs]
  obtain ⟨l, hl, hd⟩ := names_split hr
  obtain ⟨r, hrm, hrn⟩ := last_rule hr
  have hofl : ofB a.rules (lastN a) ≠ [] := fun e => (ofB_nil _ _).1 e r hrm hrn
  rcases (show w = 0 ∨ w = 1 ∨ w = 2 ∨ w = 3 by omega) with rfl | rfl | rfl | rfl
  · have h1 := hsame (by decide)
    have h2 : badName a ((twB a 0).zones.map (·.name)) 0 = none := badName_free _ _ hfz
    have h3 : badName a ((twB a 0).links.map (·.name)) 0 = some (0 + ((renD a xX false).links.map (·.name)).length) := by
      rw [show (twB a 0).links.map (·.name) = (renD a xX false).links.map (·.name) ++ [(DSource.z0 a).name] from by simp [twB]]
      exact badName_snoc (z0_taken hz) _ _ hfl
    rw [chkB, h1, h2, h3]
    simp [twP, renD]
  · have h1 := hsame (by decide)
    have h2 : badName a ((twB a 1).zones.map (·.name)) 0 = some (0 + ((renD a xX false).zones.map (·.name)).length) := by
      rw [show (twB a 1).zones.map (·.name) = (renD a xX false).zones.map (·.name) ++ [(DSource.z0 a).name] from by simp [twB]]
      exact badName_snoc (z0_taken hz) _ _ hfz
    rw [chkB, h1, h2]
    simp [twP, renD]
  · have h1 : badSet a (twB a 2) (namesB (twB a 2).rules []) = some (lastN a) := by
      rw [show (twB a 2).rules = a.rules from rfl, hl]
      refine badSet_snoc ?_ l fun x hx => alike_same rfl ?_
      · have h5 : memB (lastN a) a.shifts = false := by rw [hs]; rfl
        have h6 : memB (lastN a) (twB a 2).shifts = true := by simp [twB, memB]
        rw [alikeB, h5, h6]
        simp [hofl]
      · have h5 : memB x a.shifts = false := by rw [hs]; rfl
        have h6 : memB x (twB a 2).shifts = false := by
          rw [show (twB a 2).shifts = [lastN a] from rfl]
          simp [memB, (hd x hx).symm]
        rw [h5, h6]
    rw [chkB, h1]
    rfl
  · obtain ⟨q1, q2, q3⟩ := atN_get hr
    have hR : (twB a 3).rules = a.rules ++ [a.rules.getD (atN a) dR] := rfl
    generalize a.rules.getD (atN a) dR = q at *
    have h1 : badSet a (twB a 3) (namesB (twB a 3).rules []) = some (lastN a) := by
      rw [hR, namesB_append q _ _ (by rw [q3]; exact lastN_mem hr), hl]
      refine badSet_snoc ?_ l fun x hx => alike_same ?_ ?_
      · have h5 : ofB a.rules (lastN a) ≠ ofB (twB a 3).rules (lastN a) := by
          rw [hR, ofB_append]
          simp [ofB, q3]
        rw [alikeB]
        simp [hofl, h5]
      · rw [hR, ofB_append]
        simp [ofB, q3, (hd x hx).symm]
      · rw [show (twB a 3).shifts = [] from rfl, hs]
    rw [chkB, h1]
    simp only [hR]
    rw [firstOf_append _ _ _ _ (last_rule hr)]
    rfl
/-! sizes -/
theorem dig_le (i : Int) : (dig i).size ≤ 1 := by
  unfold dig
  rw [ByteArray.size_extract]
  omega
theorem made17_name (l : List Int) (x : ByteArray) : ∀ r ∈ made17 l x, r.name = x := fun r hr => by
  rw [made17] at hr
  obtain ⟨q, _, rfl⟩ := List.mem_map.1 hr
  rfl
theorem rules23_name (sets : List (List Int)) : ∀ k, ∀ r ∈ rules23 sets k, ∃ i : Nat, r.name = sR ++ dig i
  | 0, r, h => by simp [rules23] at h
  | k + 1, r, h => by
    rw [rules23] at h
    rcases List.mem_append.1 h with h | h
    · exact rules23_name sets k r h
    · exact ⟨k, made17_name _ _ r h⟩
theorem eras23_set (sets : Int) (l : List E23) : ∀ k, ∀ e ∈ (eras23 sets l k).1, e.set.size ≤ 2
  | 0, e, h => by simp [eras23] at h
  | k + 1, e, h => by
    rw [eras23] at h
    rcases List.mem_append.1 h with h | h
    · exact eras23_set sets l k e h
    · rw [List.mem_singleton.1 h]
      simp only [era23, set23]
      split
      · have := dig_le ((l.getD k e23Z).set % sets)
        rw [ByteArray.size_append]
        have h2 : sR.size = 1 := rfl
        omega
      · decide
theorem zones23_mem (sets : Int) (zs : List (List E23)) : ∀ k, ∀ z ∈ zones23 sets zs k, ∃ (i : Nat) (l : List E23), z = zone23 sets i l
  | 0, z, h => by simp [zones23] at h
  | k + 1, z, h => by
    rw [zones23] at h
    rcases List.mem_append.1 h with h | h
    · exact zones23_mem sets zs k z h
    · exact ⟨k, _, List.mem_singleton.1 h⟩
theorem links23_mem (nz : Nat) (l : List Int) : ∀ k, ∀ x ∈ links23 nz l k, ∃ (n : Int) (i : Nat), x = link23 nz n i
  | 0, z, h => by simp [links23] at h
  | k + 1, z, h => by
    rw [links23] at h
    rcases List.mem_append.1 h with h | h
    · exact links23_mem nz l k z h
    · exact ⟨_, k, List.mem_singleton.1 h⟩
theorem short23 (d : DD23) : Short (made23 d) := by
  refine ⟨fun x hx => ?_, fun x hx => ?_, fun x hx => ?_, fun x hx => ?_⟩
  · obtain ⟨i, e⟩ := rules23_name _ _ x hx
    have := dig_le i
    have h2 : sR.size = 1 := rfl
    rw [e, ByteArray.size_append]
    omega
  · obtain ⟨i, l, rfl⟩ := zones23_mem _ _ _ x hx
    refine ⟨?_, fun e he => Nat.le_trans (eras23_set _ _ _ e he) (by decide)⟩
    have := dig_le i
    have h2 : sZ.size = 6 := rfl
    simp only [zone23]
    rw [ByteArray.size_append]
    omega
  · obtain ⟨n, i, rfl⟩ := links23_mem _ _ _ x hx
    have h1 := dig_le i
    have h2 := dig_le (n % (((zl23 d.zones).length : Int) + i) - (zl23 d.zones).length)
    have h3 := dig_le (n % ((zl23 d.zones).length : Int))
    have h4 : sZ.size = 6 := rfl
    have h5 : sL.size = 5 := rfl
    simp only [link23]
    refine ⟨by rw [ByteArray.size_append]; omega, ?_⟩
    split <;> rw [ByteArray.size_append] <;> omega
  · simp [made23] at hx
theorem eras23_l4 (sets : Int) (l : List E23) : (eras23 sets (el23 l) (el23 l).length).1.length ≤ 4 := by rw [eras23_len]; exact (el23_len l).2
theorem small23 (d : DD23) : (made23 d).rules.length ≤ 15 ∧ (made23 d).zones.length ≤ 3 ∧ (made23 d).links.length ≤ 4 ∧ ∀ z ∈ (made23 d).zones, z.eras.length ≤ 4 := by
  refine ⟨?_, ?_, ?_, fun z hz => ?_⟩
  · have := rules23_len d.sets d.ns
    have h2 : d.ns ≤ 3 := by unfold DD23.ns; omega
    rw [made23]; dsimp only; omega
  · rw [made23]; dsimp only; rw [zones23_len]; exact (zl23_len d.zones).2
  · rw [made23]; dsimp only; rw [links23_len, List.length_take]; omega
  · obtain ⟨i, l, rfl⟩ := zones23_mem _ _ _ z hz
    exact eras23_l4 _ _
theorem fits23 (d : DD23) : Fits (made23 d) := by
  obtain ⟨h1, h2, h3, h4⟩ := small23 d
  exact ⟨by omega, by omega, by omega, by simp [made23], fun z hz => by have := h4 z hz; omega⟩
theorem firstOf_before (x : ByteArray) : ∀ (l : List DRule) (k j : Nat), k + j < firstOf l x k → ∀ r, l[j]? = some r → r.name ≠ x
  | [], _, _, h => by simp [firstOf] at h
  | y :: l, k, j, h => fun r hr => by
    rw [firstOf] at h
    split at h
    · omega
    · rename_i hn
      cases j with
      | zero =>
        simp only [List.getElem?_cons_zero, Option.some.injEq] at hr
        rw [← hr]
        exact hn
      | succ j => exact firstOf_before x l (k + 1) j (by rw [show k + 1 + j = k + (j + 1) by omega]; exact h) r (by simpa using hr)
theorem made23_free (d : DD23) : ∀ x ∈ nms (made23 d), takenB (x ++ xX) (made23 d) = false := fun x hx => free_x d x (nms_all d x hx)
theorem fitsTw {a : DSource} (h1 : a.rules.length ≤ 15) (h2 : a.zones.length ≤ 3) (h3 : a.links.length ≤ 4) (h4 : ∀ z ∈ a.zones, z.eras.length ≤ 4) (h5 : 1 ≤ a.zones.length) (w : Int) : Fits (twB a w) := by
  have hz : ∀ z ∈ (renD a xX false).zones, z.eras.length ≤ 4 := fun z hz => by
    obtain ⟨y, hy, rfl⟩ := List.mem_map.1 hz
    exact h4 y hy
  refine ⟨?_, ?_, ?_, ?_, fun z h => ?_⟩
  · have : (twB a w).rules.length ≤ a.rules.length + 1 := by rw [twB]; dsimp only; split <;> simp
    omega
  · have : (twB a w).zones.length ≤ a.zones.length + 1 := by rw [twB]; dsimp only; split <;> simp [renD]
    omega
  · have : (twB a w).links.length ≤ a.links.length + 1 := by rw [twB]; simp [renD]
    omega
  · rw [twB]; dsimp only; split <;> simp
  · have : z.eras.length ≤ 4 := by
      rw [twB] at h
      dsimp only at h
      split at h
      · exact hz z h
      · rcases List.mem_append.1 h with h | h
        · exact hz z h
        · rw [List.mem_singleton.1 h]
          exact h4 _ (List.mem_of_getElem? (z0_get h5))
    omega
end Go.Proofs.YtfhjfpikngcknaaDoor
