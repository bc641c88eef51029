/- The plain law: merging with nothing; merging three sources without shifts in either way. -/
import Derived.Test.YtfhjfpikngcknaaDoorMerge
namespace Go.Proofs.YtfhjfpikngcknaaDoor
open Go Go.RowKit Go.Wk

theorem memB_iff (x : ByteArray) : ∀ l : List ByteArray, memB x l = true ↔ x ∈ l
  | [] => by simp [memB]
  | y :: l => by
    simp only [memB, Bool.or_eq_true, decide_eq_true_eq, memB_iff x l, List.mem_cons]
    constructor
    · rintro (h | h)
      · exact .inl h.symm
      · exact .inr h
    · rintro (h | h)
      · exact .inl h.symm
      · exact .inr h
theorem badSet_none {a b : DSource} : ∀ l : List ByteArray, badSet a b l = none ↔ ∀ x ∈ l, alikeB a b x = true
  | [] => by simp [badSet]
  | x :: l => by
    simp only [badSet, List.mem_cons, forall_eq_or_imp]
    cases h : alikeB a b x with
    | true => simp [badSet_none l]
    | false => simp
theorem badName_none {a : DSource} : ∀ (l : List ByteArray) (k : Nat), badName a l k = none ↔ ∀ x ∈ l, takenB x a = false
  | [], _ => by simp [badName]
  | x :: l, k => by
    simp only [badName, List.mem_cons, forall_eq_or_imp]
    cases h : takenB x a with
    | true => simp
    | false => simp [badName_none l]
theorem namesB_all (x : ByteArray) : ∀ (l : List DRule) (acc : List ByteArray), x ∈ namesB l acc ↔ x ∈ acc ∨ ∃ r ∈ l, r.name = x
  | [], acc => by simp [namesB]
  | r :: l, acc => by
    simp only [namesB]
    split
    · rename_i h
      rw [namesB_all x l acc]
      have hm := (memB_iff r.name acc).1 h
      constructor
      · rintro (h | ⟨q, h1, h2⟩)
        · exact .inl h
        · exact .inr ⟨q, List.mem_cons_of_mem _ h1, h2⟩
      · rintro (h | ⟨q, h1, h2⟩)
        · exact .inl h
        · rcases List.mem_cons.1 h1 with rfl | h1
          · exact .inl (h2 ▸ hm)
          · exact .inr ⟨q, h1, h2⟩
    · rw [namesB_all x l _]
      constructor
      · rintro (h | ⟨q, h1, h2⟩)
        · rcases List.mem_append.1 h with h | h
          · exact .inl h
          · exact .inr ⟨r, List.mem_cons_self, (List.mem_singleton.1 h).symm⟩
        · exact .inr ⟨q, List.mem_cons_of_mem _ h1, h2⟩
      · rintro (h | ⟨q, h1, h2⟩)
        · exact .inl (List.mem_append_left _ h)
        · rcases List.mem_cons.1 h1 with rfl | h1
          · exact .inl (List.mem_append_right _ (List.mem_singleton.2 h2.symm))
          · exact .inr ⟨q, h1, h2⟩

/-- The names of zones and links. -/
def nms (s : DSource) : List ByteArray := s.zones.map (·.name) ++ s.links.map (·.name)
theorem takenB_iff (x : ByteArray) (s : DSource) : takenB x s = true ↔ x ∈ nms s := by
  simp only [takenB, nms, Bool.or_eq_true, memB_iff, List.mem_append]
/-- There is nothing to be said against putting b to a. -/
theorem chk_none {a b : DSource} : chkB a b = none ↔ (∀ r ∈ b.rules, alikeB a b r.name = true) ∧ ∀ x ∈ nms b, x ∉ nms a := by
  have key : chkB a b = none ↔ badSet a b (namesB b.rules []) = none ∧ badName a (b.zones.map (·.name)) 0 = none ∧ badName a (b.links.map (·.name)) 0 = none := by
    unfold chkB
    cases badSet a b (namesB b.rules []) <;> cases badName a (b.zones.map (·.name)) 0 <;> cases badName a (b.links.map (·.name)) 0 <;> simp
  rw [key, badSet_none, badName_none, badName_none]
  have ht : ∀ x, takenB x a = false ↔ x ∉ nms a := fun x => by rw [← takenB_iff, Bool.not_eq_true]
  constructor
  · rintro ⟨h1, h2, h3⟩
    refine ⟨fun r hr => h1 _ ((namesB_all _ _ _).2 (.inr ⟨r, hr, rfl⟩)), fun x hx => ?_⟩
    rcases List.mem_append.1 hx with hx | hx
    · exact (ht x).1 (h2 x hx)
    · exact (ht x).1 (h3 x hx)
  · rintro ⟨h1, h2⟩
    refine ⟨fun x hx => ?_, fun x hx => (ht x).2 (h2 x (List.mem_append_left _ hx)), fun x hx => (ht x).2 (h2 x (List.mem_append_right _ hx))⟩
    rcases (namesB_all _ _ _).1 hx with h | ⟨r, hr, rfl⟩
    · cases h
    · exact h1 r hr
theorem alike_iff {a b : DSource} (ha : a.shifts = []) (hb : b.shifts = []) (x : ByteArray) : alikeB a b x = true ↔ ofB a.rules x = [] ∨ ofB a.rules x = ofB b.rules x := by
  simp [alikeB, ha, hb, memB]
theorem ofB_nil (l : List DRule) (x : ByteArray) : ofB l x = [] ↔ ∀ r ∈ l, r.name ≠ x := by
  simp [ofB, List.filter_eq_nil_iff]
theorem ofB_append (l l' : List DRule) (x : ByteArray) : ofB (l ++ l') x = ofB l x ++ ofB l' x := by simp [ofB]
/-- The rules of both. -/
def rulesM (a b : List DRule) : List DRule := a ++ b.filter fun r => decide ((ofB a r.name).length = 0)
theorem ofB_rulesM (a b : List DRule) (x : ByteArray) : ofB (rulesM a b) x = if ofB a x = [] then ofB b x else ofB a x := by
  rw [rulesM, ofB_append]
  have : ofB (b.filter fun r => decide ((ofB a r.name).length = 0)) x = if ofB a x = [] then ofB b x else [] := by
    show List.filter (fun r => decide (r.name = x)) (b.filter fun r => decide ((ofB a r.name).length = 0)) = _
    rw [List.filter_filter]
    by_cases h : ofB a x = []
    · rw [if_pos h]
      show _ = List.filter (fun r => decide (r.name = x)) b
      congr 1
      funext r
      by_cases hr : r.name = x
      · rw [hr, h]
        simp
      · simp [hr]
    · rw [if_neg h, List.filter_eq_nil_iff]
      intro r _
      by_cases hr : r.name = x
      · rw [hr]
        simpa using h
      · simp [hr]
  rw [this]
  split
  · rename_i h
    rw [h]; rfl
  · simp
theorem mem_rulesM (a b : List DRule) (r : DRule) : r ∈ rulesM a b ↔ r ∈ a ∨ (r ∈ b ∧ ofB a r.name = []) := by
  simp [rulesM, List.length_eq_zero_iff]
theorem rulesM_assoc (a b c : List DRule) : rulesM (rulesM a b) c = rulesM a (rulesM b c) := by
  show (a ++ b.filter _) ++ c.filter _ = a ++ (b ++ c.filter _).filter _
  rw [List.filter_append, List.append_assoc]
  congr 1
  congr 1
  rw [List.filter_filter]
  congr 1
  funext r
  rw [ofB_rulesM]
  by_cases h : ofB a r.name = [] <;> simp [h]
theorem mergeD_eq {a b : DSource} (ha : a.shifts = []) (hb : b.shifts = []) : mergeD a b = ⟨rulesM a.rules b.rules, a.zones ++ b.zones, a.links ++ b.links, []⟩ := by
  simp [mergeD, rulesM, ha, hb]
theorem nms_merge {a b : DSource} (ha : a.shifts = []) (hb : b.shifts = []) (x : ByteArray) : x ∈ nms (mergeD a b) ↔ x ∈ nms a ∨ x ∈ nms b := by
  rw [mergeD_eq ha hb]
  simp only [nms, List.map_append, List.mem_append]
  constructor
  · rintro ((h | h) | (h | h))
    · exact .inl (.inl h)
    · exact .inr (.inl h)
    · exact .inl (.inr h)
    · exact .inr (.inr h)
  · rintro ((h | h) | (h | h))
    · exact .inl (.inl h)
    · exact .inr (.inl h)
    · exact .inl (.inr h)
    · exact .inr (.inr h)

theorem merge_assoc {a b c : DSource} (ha : a.shifts = []) (hb : b.shifts = []) (hc : c.shifts = []) : mergeD (mergeD a b) c = mergeD a (mergeD b c) := by
  have h1 : (mergeD a b).shifts = [] := by rw [mergeD_eq ha hb]
  have h2 : (mergeD b c).shifts = [] := by rw [mergeD_eq hb hc]
  rw [mergeD_eq h1 hc, mergeD_eq ha h2, mergeD_eq ha hb, mergeD_eq hb hc]
  simp only [rulesM_assoc, List.append_assoc]

theorem chk_assoc {a b c : DSource} (ha : a.shifts = []) (hb : b.shifts = []) (hc : c.shifts = []) : (chkB a b = none ∧ chkB (mergeD a b) c = none) ↔ (chkB b c = none ∧ chkB a (mergeD b c) = none) := by
  have h1 : (mergeD a b).shifts = [] := by rw [mergeD_eq ha hb]
  have h2 : (mergeD b c).shifts = [] := by rw [mergeD_eq hb hc]
  have r1 : (mergeD a b).rules = rulesM a.rules b.rules := by rw [mergeD_eq ha hb]
  have r2 : (mergeD b c).rules = rulesM b.rules c.rules := by rw [mergeD_eq hb hc]
  simp only [chk_none, alike_iff ha hb, alike_iff hb hc, alike_iff h1 hc, alike_iff ha h2, r1, r2, ofB_rulesM, nms_merge ha hb, nms_merge hb hc, mem_rulesM]
  have self : ∀ (l : List DRule) (r : DRule), r ∈ l → ofB l r.name ≠ [] := fun l r hr h => (ofB_nil l r.name).1 h r hr rfl
  constructor
  · rintro ⟨⟨p1, p2⟩, q1, q2⟩
    refine ⟨⟨fun r hr => ?_, fun x hx hb' => q2 x hx (.inr hb')⟩, fun r hr => ?_, fun x hx ha' => ?_⟩
    · by_cases hbe : ofB b.rules r.name = []
      · exact .inl hbe
      · right
        have hq := q1 r hr
        by_cases hae : ofB a.rules r.name = []
        · rw [if_pos hae] at hq
          rcases hq with h | h
          · exact absurd h hbe
          · exact h
        · rw [if_neg hae] at hq
          obtain ⟨r', hr', hn⟩ : ∃ r' ∈ b.rules, r'.name = r.name := by
            cases hl : ofB b.rules r.name with
            | nil => exact absurd hl hbe
            | cons y l =>
              have : y ∈ ofB b.rules r.name := by rw [hl]; exact List.mem_cons_self
              rw [ofB, List.mem_filter] at this
              exact ⟨y, this.1, by simpa using this.2⟩
          have hp := p1 r' hr'
          rw [hn] at hp
          rcases hp with h | h
          · exact absurd h hae
          · rcases hq with h' | h'
            · exact absurd h' hae
            · rw [← h, h']
    · rcases hr with hr | ⟨hr, hbe⟩
      · rw [if_neg (self _ r hr)]
        exact p1 r hr
      · rw [if_pos hbe]
        have hq := q1 r hr
        by_cases hae : ofB a.rules r.name = []
        · exact .inl hae
        · rw [if_neg hae] at hq
          rcases hq with h | h
          · exact absurd h hae
          · exact .inr h
    · rcases hx with hx | hx
      · exact p2 x hx ha'
      · exact q2 x hx (.inl ha')
  · rintro ⟨⟨p1, p2⟩, q1, q2⟩
    refine ⟨⟨fun r hr => ?_, fun x hx ha' => q2 x (.inl hx) ha'⟩, fun r hr => ?_, fun x hx h => ?_⟩
    · have hq := q1 r (.inl hr)
      rw [if_neg (self _ r hr)] at hq
      exact hq
    · have hp := p1 r hr
      by_cases hae : ofB a.rules r.name = []
      · rw [if_pos hae]
        exact hp
      · rw [if_neg hae]
        right
        by_cases hbe : ofB b.rules r.name = []
        · have hq := q1 r (.inr ⟨hr, hbe⟩)
          rw [if_pos hbe] at hq
          rcases hq with h | h
          · exact absurd h hae
          · exact h
        · rcases hp with h | h
          · exact absurd h hbe
          · obtain ⟨r', hr', hn⟩ : ∃ r' ∈ b.rules, r'.name = r.name := by
              cases hl : ofB b.rules r.name with
              | nil => exact absurd hl hbe
              | cons y l =>
                have : y ∈ ofB b.rules r.name := by rw [hl]; exact List.mem_cons_self
                rw [ofB, List.mem_filter] at this
                exact ⟨y, this.1, by simpa using this.2⟩
            have hq := q1 r' (.inl hr')
            rw [hn, if_neg hbe] at hq
            rcases hq with h' | h'
            · exact absurd h' hae
            · rw [h', h]
    · rcases h with h | h
      · exact q2 x (.inr hx) h
      · exact p2 x hx h

theorem chk_right (a : DSource) : chkB a emptyS = none := by
  rw [chk_none]
  simp [emptyS, nms]
theorem chk_left (a : DSource) : chkB emptyS a = none := by
  rw [chk_none]
  simp [emptyS, nms, alikeB, ofB]
theorem merge_right {a : DSource} (ha : a.shifts = []) : mergeD a emptyS = a := by
  rw [mergeD_eq ha rfl]
  simp only [emptyS, rulesM, List.filter_nil, List.append_nil]
  rw [← ha]
theorem merge_left {a : DSource} (ha : a.shifts = []) : mergeD emptyS a = a := by
  rw [mergeD_eq rfl ha]
  have : rulesM [] a.rules = a.rules := by simp [rulesM, ofB]
  simp only [emptyS, List.nil_append, this]
  rw [← ha]
end Go.Proofs.YtfhjfpikngcknaaDoor
