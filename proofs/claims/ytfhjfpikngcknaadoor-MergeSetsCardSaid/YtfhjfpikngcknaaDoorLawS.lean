/- The plain law of analemmalaw34.MergeSets. -/
import Derived.Test.YtfhjfpikngcknaaDoorLawT
namespace Go.Proofs.YtfhjfpikngcknaaDoor
open Go Go.RowKit Go.Wk
/-- The rules of the sets of some names, counted. -/
def cnt (rs : List DRule) (p : ByteArray → Bool) : List ByteArray → Nat
  | [] => 0
  | x :: ns => (if p x then (ofB rs x).length else 0) + cnt rs p ns
theorem cnt_snoc (rs : List DRule) (p : ByteArray → Bool) (x : ByteArray) : ∀ ns, cnt rs p (ns ++ [x]) = cnt rs p ns + if p x then (ofB rs x).length else 0
  | [] => by simp [cnt]
  | y :: ns => by rw [List.cons_append, cnt, cnt, cnt_snoc rs p x ns]; omega
theorem cnt_nil (p : ByteArray → Bool) : ∀ ns, cnt [] p ns = 0
  | [] => rfl
  | x :: ns => by rw [cnt, cnt_nil p ns]; simp [ofB]
theorem cnt_out (r : DRule) (rs : List DRule) (p : ByteArray → Bool) : ∀ ns, r.name ∉ ns → cnt (r :: rs) p ns = cnt rs p ns
  | [], _ => rfl
  | x :: ns, h => by
    have h1 : r.name ≠ x := fun e => h (e ▸ List.mem_cons_self)
    rw [cnt, cnt, cnt_out r rs p ns fun hh => h (List.mem_cons_of_mem _ hh)]
    simp [ofB, h1]
theorem cnt_in (r : DRule) (rs : List DRule) (p : ByteArray → Bool) : ∀ ns : List ByteArray, ns.Nodup → r.name ∈ ns → cnt (r :: rs) p ns = cnt rs p ns + if p r.name then 1 else 0
  | [], _, h => by simp at h
  | x :: ns, hn, h => by
    rw [List.nodup_cons] at hn
    rw [cnt, cnt]
    by_cases e : r.name = x
    · subst e
      rw [cnt_out r rs p ns hn.1]
      by_cases hp : p r.name = true
      · simp only [hp, if_true, ofB, List.filter_cons, decide_true, List.length_cons]; omega
      · simp [hp]
    · rw [cnt_in r rs p ns hn.2 ((List.mem_cons.1 h).resolve_left e)]
      have : ofB (r :: rs) x = ofB rs x := by simp [ofB, e]
      rw [this]
      omega
theorem cnt_all (p : ByteArray → Bool) (ns : List ByteArray) (hn : ns.Nodup) : ∀ rs : List DRule, (∀ r ∈ rs, r.name ∈ ns) → cnt rs p ns = (rs.filter fun r => p r.name).length
  | [], _ => cnt_nil p ns
  | r :: rs, h => by
    rw [cnt_in r rs p ns hn (h r List.mem_cons_self), cnt_all p ns hn rs fun x hx => h x (List.mem_cons_of_mem _ hx), List.filter_cons]
    split <;> simp
theorem cnt_names (p : ByteArray → Bool) (rs : List DRule) : cnt rs p (namesB rs []) = (rs.filter fun r => p r.name).length :=
  cnt_all p _ (namesB_nodup rs [] (by simp)) rs fun r hr => (namesB_all _ _ _).2 (.inr ⟨r, hr, rfl⟩)
theorem cnt_le (p : ByteArray → Bool) (rs : List DRule) (k : Nat) : cnt rs p ((namesB rs []).take k) ≤ rs.length := by
  have h : ∀ ns : List ByteArray, ∀ k, cnt rs p (ns.take k) ≤ cnt rs p ns := by
    intro ns
    induction ns with
    | nil => intro k; simp
    | cons x ns ih =>
      intro k
      cases k with
      | zero => simp [cnt]
      | succ k => rw [List.take_succ_cons, cnt, cnt]; have := ih k; omega
  refine Nat.le_trans (h _ k) ?_
  rw [cnt_names]
  exact List.length_filter_le _ _
/-- What merging says of a set of one of the two. -/
theorem set_merged {a b : DSource} (ha : a.shifts = []) (hb : b.shifts = []) (h : chkB a b = none) (x : ByteArray) : ((∃ r ∈ a.rules, r.name = x) → ofB (mergeD a b).rules x = ofB a.rules x) ∧ ((∃ r ∈ b.rules, r.name = x) → ofB (mergeD a b).rules x = ofB b.rules x) := by
  have e : (mergeD a b).rules = rulesM a.rules b.rules := by rw [mergeD_eq ha hb]
  rw [e, ofB_rulesM]
  constructor
  · rintro ⟨r, h1, rfl⟩
    rw [if_neg]
    intro h2
    exact (ofB_nil _ _).1 h2 r h1 rfl
  · rintro ⟨r, h1, rfl⟩
    split
    · rfl
    · rename_i hne
      rcases (alike_iff ha hb r.name).1 ((chk_none.1 h).1 r h1) with h2 | h2
      · exact absurd h2 hne
      · exact h2
theorem merged_len (a b : DSource) : (mergeD a b).rules.length = a.rules.length + (b.rules.filter fun r => decide ((ofB a.rules r.name).length = 0)).length := by
  rw [mergeD, List.length_append]

/-! the two drafts -/
def fSets (d f : DD23) (common : Bool) : DD23 := if common then { f with sets := d.sets } else f
def secD (d f : DD23) (common : Bool) : DSource := renD (made23 (fSets d f common)) xX (!common)
def rNames : List ByteArray := (List.range 3).map fun i : Nat => sR ++ dig i
theorem rules23_in (sets : List (List Int)) : ∀ k, ∀ r ∈ rules23 sets k, ∃ i : Nat, i < k ∧ r.name = sR ++ dig i
  | 0, r, h => by simp [rules23] at h
  | k + 1, r, h => by
    rw [rules23] at h
    rcases List.mem_append.1 h with h | h
    · obtain ⟨i, h1, h2⟩ := rules23_in sets k r h
      exact ⟨i, by omega, h2⟩
    · exact ⟨k, by omega, made17_name _ _ r h⟩
theorem rn_all (d : DD23) : ∀ r ∈ (made23 d).rules, r.name ∈ rNames := fun r hr => by
  obtain ⟨i, h1, h2⟩ := rules23_in _ _ r hr
  exact List.mem_map.2 ⟨i, List.mem_range.2 (by have : d.ns ≤ 3 := by unfold DD23.ns; omega
                                                omega), h2.symm⟩
theorem apartR : ∀ x ∈ rNames, ∀ y ∈ rNames, x ++ xX ≠ y := by decide +kernel
theorem nms_ren (a : DSource) (b : Bool) : ∀ x ∈ nms (renD a xX b), ∃ y ∈ nms a, x = y ++ xX := fun x hx => by
  rcases List.mem_append.1 hx with hx | hx
  · obtain ⟨z, h1, rfl⟩ := List.mem_map.1 hx
    obtain ⟨y, h2, rfl⟩ := List.mem_map.1 h1
    exact ⟨_, List.mem_append_left _ (List.mem_map_of_mem h2), rfl⟩
  · obtain ⟨z, h1, rfl⟩ := List.mem_map.1 hx
    obtain ⟨y, h2, rfl⟩ := List.mem_map.1 h1
    exact ⟨_, List.mem_append_right _ (List.mem_map_of_mem h2), rfl⟩
theorem sec_shifts (d f : DD23) (common : Bool) : (secD d f common).shifts = [] := by
  rw [secD, renD]
  cases common <;> rfl
theorem sec_chk (d f : DD23) (common : Bool) : chkB (made23 d) (secD d f common) = none := by
  refine chk_none.2 ⟨fun r hr => ?_, fun x hx hx2 => ?_⟩
  · refine (alike_iff rfl (sec_shifts d f common) r.name).2 ?_
    cases common with
    | true =>
      refine .inr ?_
      have : (secD d f true).rules = (made23 d).rules := rfl
      rw [this]
    | false =>
      refine .inl ((ofB_nil _ _).2 fun q hq he => ?_)
      obtain ⟨y, h1, rfl⟩ := List.mem_map.1 (show r ∈ (made23 f).rules.map (rnR xX) from hr)
      exact apartR _ (rn_all f y h1) _ (rn_all d q hq) he.symm
  · obtain ⟨y, h1, rfl⟩ := nms_ren _ _ x hx
    exact apartX _ (nms_all _ y h1) _ (nms_all d _ hx2) rfl
theorem sec_small (d f : DD23) (common : Bool) : (secD d f common).rules.length ≤ 15 ∧ (secD d f common).zones.length ≤ 3 ∧ (secD d f common).links.length ≤ 4 ∧ ∀ z ∈ (secD d f common).zones, z.eras.length ≤ 4 := by
  obtain ⟨h1, h2, h3, h4⟩ := small23 (fSets d f common)
  refine ⟨?_, ?_, ?_, fun z hz => ?_⟩
  · rw [secD, renD]; dsimp only; rw [onB_len]; exact h1
  · rw [secD, renD]; dsimp only; rw [List.length_map]; exact h2
  · rw [secD, renD]; dsimp only; rw [List.length_map]; exact h3
  · obtain ⟨y, hy, rfl⟩ := List.mem_map.1 hz
    rw [rnZ]; dsimp only; rw [onB_len]; exact h4 y hy
end Go.Proofs.YtfhjfpikngcknaaDoor
