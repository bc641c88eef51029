/- Plain law: the sets of drafts are right (layers 16, 18). Plain law: the eras of drafts are right (layers 21, 22, 25). Plain law: zones of drafts have few pairs (layer 25). Plain law: drafts of layer 25 are accepted: no fault of any kind. -/
import Derived.Test.YtonjepladadmhaaGreatDoorS25
set_option maxHeartbeats 4000000
set_option linter.unusedVariables false
set_option linter.unusedSimpArgs false
namespace Go.Proofs.YtonjepladadmhaaGreatDoor
open Go Go.RowKit Go.Wk
theorem foldMin : ∀ (l : List DRule) (m : Int), l.foldl (fun m r => min m r.save) m ≤ m ∧ (∀ r ∈ l, l.foldl (fun m r => min m r.save) m ≤ r.save) ∧ (l.foldl (fun m r => min m r.save) m = m ∨ ∃ r ∈ l, l.foldl (fun m r => min m r.save) m = r.save)
 | [], m => ⟨Int.le_refl _, (fun r h => by cases h), .inl rfl⟩
 | a :: l, m => by
  obtain ⟨h1, h2, h3⟩ := foldMin l (min m a.save)
  rw [List.foldl_cons]
  refine ⟨by omega, fun r hr => ?_, ?_⟩
  ·rcases List.mem_cons.1 hr with rfl | hr
   ·omega
   ·exact h2 r hr
  ·rcases h3 with h3 | ⟨r, h4, h5⟩
   ·by_cases hm : m ≤ a.save
    ·exact .inl (by omega)
    ·exact .inr ⟨a, List.mem_cons_self, by omega⟩
   ·exact .inr ⟨r, List.mem_cons_of_mem _ h4, h5⟩
theorem otherGo_eq {s : Int} (hs : s ≠ 0) : ∀ (l : List DRule) (x : Int), (x = 0 ∨ x = s) → (∀ r ∈ l, r.save = 0 ∨ r.save = s) → (x = s ∨ ∃ r ∈ l, r.save = s) → otherGo l x = (s, true)
 | [], x, _, _, h => by
  rcases h with rfl | ⟨r, hr, _⟩
  ·simp [otherGo, hs]
  ·cases hr
 | a :: l, x, hx, ha, h => by
  have hal : ∀ r ∈ l, r.save = 0 ∨ r.save = s := fun r hr => ha r (List.mem_cons_of_mem _ hr)
  rw [otherGo]
  rcases ha a List.mem_cons_self with h0 | h0
  ·rw [if_pos h0]
   refine otherGo_eq hs l x hx hal ?_
   rcases h with h | ⟨r, hr, hh⟩
   ·exact .inl h
   ·rcases List.mem_cons.1 hr with rfl | hr
    ·exact absurd (hh.symm.trans h0) hs
    ·exact .inr ⟨r, hr, hh⟩
  ·rw [if_neg (by clear h; omega), if_neg (by clear h; omega), h0]
   exact otherGo_eq hs l s (.inr rfl) hal (.inl rfl)
structure DrSet (l : List DRule) : Prop where
 rule : ∀ r ∈ l, DrRule r
 dist : l.Pairwise Dist
 saves : ∃ s, s ≠ 0 ∧ (∀ r ∈ l, r.save = 0 ∨ r.save = s) ∧ (∃ r ∈ l, r.save = 0) ∧ ∃ r ∈ l, r.save = s
 last : lastB l = true
theorem DrSet.least {l : List DRule} (h : DrSet l) : -3600 ≤ leastD l ∧ leastD l ≤ 0 := by
 obtain ⟨h1, h2, h3⟩ := foldMin l 0
 unfold leastD
 refine ⟨?_, h1⟩
 rcases h3 with h3 | ⟨r, h4, h5⟩
 ·omega
 ·have := (h.rule r h4).save
  omega
theorem DrSet.other {l : List DRule} (h : DrSet l) : ∃ s, s ≠ 0 ∧ -3600 ≤ s ∧ s ≤ 7200 ∧ otherD l = (s, true) ∧ (leastD l = 0 ∨ leastD l = s) ∧ ∀ r ∈ l, r.save = 0 ∨ r.save = s := by
 obtain ⟨s, h0, h1, _, r, h3, h4⟩ := h.saves
 have hr := (h.rule r h3).save
 refine ⟨s, h0, by omega, by omega, otherGo_eq h0 l 0 (.inl rfl) h1 (.inr ⟨r, h3, h4⟩), ?_, h1⟩
 obtain ⟨_, _, h7⟩ := foldMin l 0
 unfold leastD
 rcases h7 with h7 | ⟨q, h8, h9⟩
 ·exact .inl h7
 ·have := h1 q h8
  omega
theorem _root_.Go.Wk.DrRule.err {r : DRule} (h : DrRule r) {least : Int} (hl : -3600 ≤ least ∧ least ≤ 0) : ruleErr r least = 0 := by
 have h0 := h.f0
 have h1 := h.f1
 have h2 := h.ft
 have h3 := h.t1
 have h4 := h.clk
 have h5 := h.save
 obtain ⟨m0, m1⟩ := h.mon12
 have e1 : (namedY r.from_ && (namedY r.to || decide (r.to = 1048576))) = true := by
  simp [namedY]
  omega
 have e2 : alwaysD r.from_ r.to r.month r.day = true := by
  unfold alwaysD
  rw [if_neg (by rw [h.day.chk]; simp; omega), if_pos (.inr (by have := lenM_28 1 r.month m0 m1; have := h.day.le28; omega))]
 have e3 : timedB r.at_ least = true := by
  unfold timedB clkChk
  simp
  split <;> omega
 have e4 : (decide (r.letter = ByteArray.empty) || letterB r.letter) = true := by
  have hl := h.letter
  simp only [List.mem_cons, List.not_mem_nil, or_false] at hl
  rcases hl with e | e | e | e <;> rw [e] <;> decide
 unfold ruleErr
 rw [if_neg (by rw [e1]; decide), if_neg (by omega), if_neg (by rw [e2]; decide), if_neg (by rw [e3]; decide), if_neg (by simp; omega), if_neg (by rw [e4]; decide)]
theorem firstBad_none' {least : Int} : ∀ (l : List DRule) (k : Nat), (∀ r ∈ l, ruleErr r least = 0) → firstBad least l k = none
 | [], _, _ => rfl
 | a :: l, k, h => by
  rw [firstBad, if_pos (h a List.mem_cons_self)]
  exact firstBad_none' l (k + 1) fun r hr => h r (List.mem_cons_of_mem _ hr)
theorem DrSet.chk {l : List DRule} (h : DrSet l) : rsChk l = (0, 0) := by
 have hl := h.least
 obtain ⟨s, s0, _, _, _, s1, s2⟩ := h.other
 obtain ⟨_, _, _, ⟨r, h3, h4⟩, _⟩ := h.saves
 unfold rsChk
 rw [firstBad_none' l 0 fun r hr => (h.rule r hr).err hl]
 dsimp only
 have ha : (l.any fun r => decide (r.save = 0)) = true := List.any_eq_true.2 ⟨r, h3, by simp [h4]⟩
 rw [if_neg, if_neg (by rw [h.last]; decide)]
 rintro (hh | ⟨h5, h6⟩)
 ·rw [ha] at hh; cases hh
 ·obtain ⟨q, h7, h8⟩ := List.any_eq_true.1 h6
  have := s2 q h7
  simp at h8
  omega
theorem get_pair {α : Type} {R : α → α → Prop} {l : List α} (h : l.Pairwise R) {j k : Nat} {a b : α} (ha : l[j]? = some a) (hb : l[k]? = some b) (hn : j ≠ k) : R a b ∨ R b a := by
 obtain ⟨h1, rfl⟩ := List.getElem?_eq_some_iff.1 ha
 obtain ⟨h2, rfl⟩ := List.getElem?_eq_some_iff.1 hb
 rcases Nat.lt_or_ge j k with h3 | h3
 ·exact .inl (List.pairwise_iff_getElem.1 h _ _ h1 h2 h3)
 ·exact .inr (List.pairwise_iff_getElem.1 h _ _ h2 h1 (by omega))
theorem DrSet.far2 {l : List DRule} (h : DrSet l) {j k : Nat} {a b : DRule} {y z : Int} {e f : DEvent} (ha : l[j]? = some a) (hb : l[k]? = some b) (he : onR (leastD l) a j y = some e) (hf : onR (leastD l) b k z = some f) (hn : e ≠ f) :
  259200 ≤ e.nominal - f.nominal ∨ 259200 ≤ f.nominal - e.nominal := by
 refine (h.rule a (List.mem_of_getElem? ha)).far (h.rule b (List.mem_of_getElem? hb)) h.least he hf fun hyz => ?_
 subst hyz
 refine get_pair h.dist ha hb fun hjk => hn ?_
 subst hjk
 rw [ha] at hb
 cases hb
 exact Option.some.inj (he.symm.trans hf)
theorem DrSet.apart {l : List DRule} (h : DrSet l) : apartD l = none := by
 have hc := closeE_least' (allEvs l (leastD l) 1850 701) (allEvs_desc _ _ _ _) ((allEvs_perm l (leastD l) 1850 701).nodup_iff.2 (allC_nodup' l (leastD l) 1850 701))
 unfold apartD
 cases he : closeE (allEvs l (leastD l) 1850 701) with
 | none => rfl
 | some e =>
  rw [he] at hc
  obtain ⟨⟨h1, x, h2, h3, h4⟩, _⟩ := hc
  have hm : ∀ x, x ∈ allEvs l (leastD l) 1850 701 → ∃ (j : Nat) (r : DRule) (y : Int), l[j]? = some r ∧ onR (leastD l) r j y = some x := fun x hx => by
   rw [(allEvs_perm l (leastD l) 1850 701).mem_iff, mem_allC'] at hx
   obtain ⟨q, _, hq⟩ := hx
   obtain ⟨j, r, hj, hr⟩ := (mem_yearC' _ _ _ _ _).1 hq
   rw [Nat.zero_add] at hr
   exact ⟨j, r, _, hj, hr⟩
  obtain ⟨j, a, y, ja, ea⟩ := hm e h1
  obtain ⟨k, b, z, kb, eb⟩ := hm x h2
  have hne : e ≠ x := fun hh => by
   subst hh
   rw [swoE.irrefl] at h3
   cases h3
  have := h.far2 ja kb ea eb hne
  simp only [ltE, ordE_lt, decide_eq_true_eq] at h3
  omega
theorem DrSet.fault {rs : List DRule} {x : ByteArray} (h : DrSet (ofB rs x)) (hx : setB x = true) : setFault rs x = none := by
 unfold setFault
 rw [if_neg (by rw [hx]; decide), h.chk, if_neg (by simp), h.apart]
theorem DrSet.farD_of {l : List DRule} (h : DrSet l) (n : Int) (hn : ∀ (j : Nat) (r : DRule) (y : Int) (e : DEvent), l[j]? = some r → onR (leastD l) r j y = some e → ¬ (n - 259200 < e.nominal ∧ e.nominal < n + 259200)) : farD l n = true := by
 unfold farD
 cases ha : afterD l (n - 259200) with
 | none => rfl
 | some e =>
  rcases afterGo_sound' _ _ _ l 0 none e ha with hh | ⟨j, r, hj, hr⟩
  ·cases hh
  ·obtain ⟨q, h1, h2⟩ := evIn_sound' _ _ _ _ _ _ _ hr
   rw [Nat.zero_add] at h1
   have := hn j r _ e hj h1
   simp
   omega
theorem dayOf_dr (l : List Int) (i : Int) : DrDay (dayOf l i) := by
 have h1 := atB_range l i 7 (by decide)
 have h2 := atB_range l (i + 1) 4 (by decide)
 have h3 := atB_range l (i + 1) 28 (by decide)
 have h4 := atB_range l (i + 2) 3 (by decide)
 have hc : atB l (i + 2) 3 = 0 ∨ atB l (i + 2) 3 = 1 ∨ atB l (i + 2) 3 = 2 := by omega
 unfold dayOf dayB DrDay
 rcases hc with e | e | e <;> rw [e]
 ·exact .inl ⟨rfl, h1.1, by show atB l i 7 ≤ 6; omega, rfl⟩
 ·refine .inr (.inl ⟨rfl, h1.1, ?_, ?_, ?_, ?_⟩)
  ·show atB l i 7 ≤ 6; omega
  ·show 1 ≤ 1 + 7 * atB l (i + 1) 4; omega
  ·show 1 + 7 * atB l (i + 1) 4 ≤ 22; omega
  ·show (1 + 7 * atB l (i + 1) 4).tmod 7 = 1
   rw [Int.tmod_eq_emod_of_nonneg (by omega)]; omega
 ·refine .inr (.inr ⟨rfl, rfl, ?_, ?_⟩)
  ·show 1 ≤ 1 + atB l (i + 1) 28; omega
  ·show 1 + atB l (i + 1) 28 ≤ 28; omega
theorem clockB_dr (l : List Int) (i : Int) : 0 ≤ (clockB l i).sec ∧ (clockB l i).sec ≤ 86400 ∧ 0 ≤ (clockB l i).base ∧ (clockB l i).base ≤ 2 := by
 have h1 := atB_range l i 49 (by decide)
 have h2 := atB_range l (i + 1) 3 (by decide)
 unfold clockB
 dsimp only
 omega
theorem posix_dr {r : DRule} (h : DrDay r.day) : posixB r = true := by
 unfold DrDay at h
 unfold posixB
 rcases h with ⟨h1, _⟩ | ⟨h1, h2, h3, h4, h5, h6⟩ | ⟨h1, h2, h3, h4⟩
 ·rw [if_pos h1]
 ·rw [if_neg (by omega), if_pos h1, h6]
  simp
  omega
 ·rw [if_neg (by omega), if_neg (by omega), if_pos h1]
  simp
  omega
theorem letA_mem (k : Int) (h0 : 0 ≤ k) (h1 : k < 3) : letA.getD k.toNat ByteArray.empty ∈ [ByteArray.empty, ⟨#[83]⟩, ⟨#[68]⟩, ⟨#[68, 84]⟩] := by
 have hc : k = 0 ∨ k = 1 ∨ k = 2 := by omega
 rcases hc with rfl | rfl | rfl
 ·exact .tail _ (.head _)
 ·exact .tail _ (.tail _ (.head _))
 ·exact .tail _ (.tail _ (.tail _ (.head _)))
theorem letB_mem (k : Int) (h0 : 0 ≤ k) (h1 : k < 2) : letB.getD k.toNat ByteArray.empty ∈ [ByteArray.empty, ⟨#[83]⟩, ⟨#[68]⟩, ⟨#[68, 84]⟩] := by
 have hc : k = 0 ∨ k = 1 := by omega
 rcases hc with rfl | rfl
 ·exact .head _
 ·exact .tail _ (.head _)
theorem ruleA_dr (l : List Int) (i a b s : Int) (h0 : 1900 ≤ a) (h1 : a ≤ 2149) (h2 : a ≤ b) (h3 : b ≤ 2149 ∨ b = 1048576) (h4 : -3600 ≤ s ∧ s ≤ 7200) : DrRule (ruleA l i a b s) := by
 have r1 := atB_range l i 3 (by decide)
 have r2 := atB_range l (i + 8) 3 (by decide)
 exact ⟨h0, h1, h2, h3, .inl (by show 2 ≤ 2 + atB l i 3 ∧ 2 + atB l i 3 ≤ 4; omega), dayOf_dr l (i + 3), clockB_dr l (i + 6), h4, letA_mem _ r2.1 r2.2⟩
theorem ruleB_dr (l : List Int) (i a b s : Int) (h0 : 1900 ≤ a) (h1 : a ≤ 2149) (h2 : a ≤ b) (h3 : b ≤ 2149 ∨ b = 1048576) (h4 : -3600 ≤ s ∧ s ≤ 7200) : DrRule (ruleB l i a b s) := by
 have r1 := atB_range l (i + 1) 3 (by decide)
 have r2 := atB_range l (i + 14) 2 (by decide)
 exact ⟨h0, h1, h2, h3, .inr (.inr (by show 8 ≤ 8 + atB l (i + 1) 3 ∧ 8 + atB l (i + 1) 3 ≤ 10; omega)), dayOf_dr l (i + 9), clockB_dr l (i + 12), h4, letB_mem _ r2.1 r2.2⟩
theorem pairB_dr (l : List Int) (i a b s : Int) (h0 : 1900 ≤ a) (h1 : a ≤ 2149) (h2 : a ≤ b) (h3 : b ≤ 2149 ∨ b = 1048576) (h4 : -3600 ≤ s ∧ s ≤ 7200) :
  ∃ p q, pairB l i a b s = [p, q] ∧ DrRule p ∧ DrRule q ∧ p.from_ = a ∧ p.to = b ∧ q.from_ = a ∧ q.to = b ∧ sea p.month = 0 ∧ sea q.month = 2 ∧ ((p.save = 0 ∧ q.save = s) ∨ (p.save = s ∧ q.save = 0)) := by
 have r1 := atB_range l i 3 (by decide)
 have r2 := atB_range l (i + 1) 3 (by decide)
 have e1 : ∀ t, sea (ruleA l i a b t).month = 0 := fun t => by
  show sea (2 + atB l i 3) = 0
  unfold sea; rw [if_pos (by omega)]
 have e2 : ∀ t, sea (ruleB l i a b t).month = 2 := fun t => by
  show sea (8 + atB l (i + 1) 3) = 2
  unfold sea; rw [if_neg (by omega), if_neg (by omega)]
 unfold pairB
 split
 ·exact ⟨_, _, rfl, ruleA_dr l i a b 0 h0 h1 h2 h3 (by decide), ruleB_dr l i a b s h0 h1 h2 h3 h4, rfl, rfl, rfl, rfl, e1 0, e2 s, .inl ⟨rfl, rfl⟩⟩
 ·exact ⟨_, _, rfl, ruleA_dr l i a b s h0 h1 h2 h3 h4, ruleB_dr l i a b 0 h0 h1 h2 h3 (by decide), rfl, rfl, rfl, rfl, e1 s, e2 0, .inr ⟨rfl, rfl⟩⟩
structure Pre17 (s f : Int) (o : List DRule) : Prop where
 rule : ∀ r ∈ o, DrRule r ∧ r.to < f ∧ r.to ≤ 2149 ∧ (r.save = 0 ∨ r.save = s)
 dist : o.Pairwise Dist
theorem Pre17.two {s f : Int} {o : List DRule} {p q : DRule} (h : Pre17 s f o) (hp : p.from_ = f) (hq : q.from_ = f) (h1 : sea p.month = 0) (h2 : sea q.month = 2) : (o ++ [p, q]).Pairwise Dist := by
 refine List.pairwise_append.2 ⟨h.dist, ?_, fun a ha b hb => .inl ?_⟩
 ·refine List.pairwise_cons.2 ⟨fun b hb => ?_, List.pairwise_singleton _ _⟩
  rw [List.mem_singleton] at hb
  subst hb
  exact .inr (by rw [h1, h2]; decide)
 ·have := (h.rule a ha).2.1
  simp only [List.mem_cons, List.not_mem_nil, or_false] at hb
  rcases hb with rfl | rfl
  ·rw [hp]; exact this
  ·rw [hq]; exact this
theorem save17_rng (l : List Int) : save17 l ≠ 0 ∧ -3600 ≤ save17 l ∧ save17 l ≤ 7200 := by
 have h := atB_range l 0 5 (by decide)
 have hc : atB l 0 5 = 0 ∨ atB l 0 5 = 1 ∨ atB l 0 5 = 2 ∨ atB l 0 5 = 3 ∨ atB l 0 5 = 4 := by omega
 unfold save17
 rcases hc with e | e | e | e | e <;> rw [e] <;> decide
theorem m1_pre (l : List Int) : Pre17 (save17 l) (m1 l).2 (m1 l).1 := by
 have h1 := atB_range l 1 80 (by decide)
 have h3 := atB_range l 3 28 (by decide)
 unfold m1
 split
 ·refine ⟨fun r hr => ?_, List.pairwise_singleton _ _⟩
  rw [List.mem_singleton] at hr
  subst hr
  refine ⟨⟨?_, ?_, Int.le_refl _, .inl ?_, .inr (.inl rfl), .inr (.inr ⟨rfl, rfl, ?_, ?_⟩), clockB_dr l 4, by show (-3600 : Int) ≤ 0 ∧ (0 : Int) ≤ 7200; decide, List.Mem.tail _ (.head _)⟩, ?_, ?_, .inl rfl⟩
  ·show 1900 ≤ 1900 + atB l 1 80; omega
  ·show 1900 + atB l 1 80 ≤ 2149; omega
  ·show 1900 + atB l 1 80 ≤ 2149; omega
  ·show 1 ≤ 1 + atB l 3 28; omega
  ·show 1 + atB l 3 28 ≤ 28; omega
  ·show 1900 + atB l 1 80 < 1900 + atB l 1 80 + 1; omega
  ·show 1900 + atB l 1 80 ≤ 2149; omega
 ·exact ⟨fun r hr => (by cases hr), List.Pairwise.nil⟩
theorem m2_pre (l : List Int) (o : List DRule) (f : Int) (h : Pre17 (save17 l) f o) (h1 : 1900 ≤ f) (h2 : f ≤ 1980) : Pre17 (save17 l) (m2 l o f).2 (m2 l o f).1 := by
 have h6 := atB_range l 6 12 (by decide)
 have h8 := atB_range l 8 5 (by decide)
 obtain ⟨_, s1, s2⟩ := save17_rng l
 unfold m2
 split
 ·obtain ⟨p, q, e, hp, hq, p1, p2, q1, q2, sp, sq, hs⟩ := pairB_dr l 7 f (f + atB l 6 12) (save17 l) h1 (by omega) (by omega) (.inl (by omega)) ⟨s1, s2⟩
  rw [e]
  refine ⟨fun r hr => ?_, h.two p1 q1 sp sq⟩
  dsimp only at hr ⊢
  rw [List.mem_append] at hr
  rcases hr with hr | hr
  ·obtain ⟨a, b, c, d⟩ := h.rule r hr
   exact ⟨a, by omega, c, d⟩
  ·simp only [List.mem_cons, List.not_mem_nil, or_false] at hr
   rcases hr with rfl | rfl
   ·exact ⟨hp, by omega, by omega, by omega⟩
   ·exact ⟨hq, by omega, by omega, by omega⟩
 ·exact h
theorem lastB_app {o : List DRule} {p q : DRule} (ho : ∀ r ∈ o, r.to ≤ 2149) (hpq : p.to = q.to) (hs : (p.save = 0 ∧ q.save ≠ 0) ∨ (p.save ≠ 0 ∧ q.save = 0)) (hm : p.month ≠ q.month) (h1 : posixB p = true) (h2 : posixB q = true) : lastB (o ++ [p, q]) = true := by
 have e : o.filter (fun r => decide (r.to = 1048576)) = [] := List.filter_eq_nil_iff.2 fun r hr => by
  have := ho r hr
  simp
  omega
 unfold lastB
 rw [List.filter_append, e, List.nil_append]
 by_cases h : q.to = 1048576
 ·rw [List.filter_cons, if_pos (by simp; omega), List.filter_cons, if_pos (by simp; omega), List.filter_nil]
  dsimp only
  rw [h1, h2]
  rcases hs with ⟨a, b⟩ | ⟨a, b⟩ <;> simp [a, b, hm]
 ·rw [List.filter_cons, if_neg (by simp; omega), List.filter_cons, if_neg (by simp; omega), List.filter_nil]
theorem _root_.Go.Wk.DrRule.named (x : ByteArray) {r : DRule} (h : DrRule r) : DrRule (nameR x r) := ⟨h.f0, h.f1, h.ft, h.t1, h.mon, h.day, h.clk, h.save, h.letter⟩
theorem made17_set (l : List Int) (x : ByteArray) : DrSet (made17 l x) := by
 obtain ⟨_, a1, a2⟩ := m1_rng l
 have p1 := m1_pre l
 obtain ⟨_, b1, b2⟩ := m2_rng l (m1 l).1 (m1 l).2 (by have := (m1_rng l).1; exact this) a1 a2
 have p2 := m2_pre l _ _ p1 a1 a2
 obtain ⟨s0, s1, s2⟩ := save17_rng l
 have h9 := atB_range l 9 6 (by decide)
 unfold made17 m3
 generalize (m2 l (m1 l).1 (m1 l).2).2 = f at *
 generalize (m2 l (m1 l).1 (m1 l).2).1 = o at *
 have ht : f ≤ to17 l f ∧ (to17 l f ≤ 2149 ∨ to17 l f = 1048576) := by unfold to17; split <;> omega
 obtain ⟨p, q, e, hp, hq, e1, e2, e3, e4, sp, sq, hs⟩ := pairB_dr l 11 f (to17 l f) (save17 l) b1 (by omega) ht.1 ht.2 ⟨s1, s2⟩
 rw [e]
 have hd := p2.two e1 e3 sp sq
 have hall : ∀ r ∈ o ++ [p, q], DrRule r ∧ (r.save = 0 ∨ r.save = save17 l) := fun r hr => by
  rw [List.mem_append] at hr
  rcases hr with hr | hr
  ·obtain ⟨a, _, _, d⟩ := p2.rule r hr
   exact ⟨a, d⟩
  ·simp only [List.mem_cons, List.not_mem_nil, or_false] at hr
   rcases hr with rfl | rfl
   ·exact ⟨hp, by omega⟩
   ·exact ⟨hq, by omega⟩
 have mp : nameR x p ∈ (o ++ [p, q]).map (nameR x) := List.mem_map.2 ⟨p, by simp, rfl⟩
 have mq : nameR x q ∈ (o ++ [p, q]).map (nameR x) := List.mem_map.2 ⟨q, by simp, rfl⟩
 refine ⟨fun r hr => ?_, List.pairwise_map.2 hd, ⟨save17 l, s0, fun r hr => ?_, ?_, ?_⟩, ?_⟩
 ·obtain ⟨r', h1, rfl⟩ := List.mem_map.1 hr
  exact (hall r' h1).1.named x
 ·obtain ⟨r', h1, rfl⟩ := List.mem_map.1 hr
  exact (hall r' h1).2
 ·rcases hs with ⟨h1, _⟩ | ⟨_, h1⟩
  ·exact ⟨_, mp, h1⟩
  ·exact ⟨_, mq, h1⟩
 ·rcases hs with ⟨_, h1⟩ | ⟨h1, _⟩
  ·exact ⟨_, mq, h1⟩
  ·exact ⟨_, mp, h1⟩
 ·rw [List.map_append]
  refine lastB_app (p := nameR x p) (q := nameR x q) (fun r hr => ?_) (e2.trans e4.symm) ?_ ?_ (posix_dr (r := nameR x p) hp.day) (posix_dr (r := nameR x q) hq.day)
  ·obtain ⟨r', h1, rfl⟩ := List.mem_map.1 hr
   exact (p2.rule r' h1).2.2.1
  ·show (p.save = 0 ∧ q.save ≠ 0) ∨ (p.save ≠ 0 ∧ q.save = 0)
   omega
  ·show p.month ≠ q.month
   intro hh
   rw [hh, sq] at sp
   cases sp
theorem made17_name' (l : List Int) (x : ByteArray) : ∀ r ∈ made17 l x, r.name = x := fun r hr => by
 obtain ⟨r', _, rfl⟩ := List.mem_map.1 hr
 rfl
def fmtU : List ByteArray := [⟨#[76, 77, 84]⟩, ⟨#[71, 77, 84, 47, 66, 83, 84]⟩, ⟨#[67, 69, 37, 115, 84]⟩, ⟨#[37, 122]⟩, ⟨#[67, 69, 84, 47, 67, 69, 83, 84]⟩, ⟨#[69, 69, 37, 115, 84]⟩, ⟨#[69, 37, 115, 83, 84]⟩, ⟨#[87, 83, 84]⟩]
def DrTil (u : DUntil) (Y : Int) : Prop := (∃ D S B, u = ⟨true, Y, 12, ⟨1, 0, D⟩, ⟨S, B⟩⟩ ∧ 5 ≤ D ∧ D ≤ 24 ∧ 0 ≤ S ∧ S ≤ 86400 ∧ 0 ≤ B ∧ B ≤ 2) ∨
 (∃ d S B, u = ⟨true, Y + 1, 1, d, ⟨S, B⟩⟩ ∧ ((d.kind = 1 ∧ d.week = 0 ∧ 1 ≤ d.day ∧ d.day ≤ 20) ∨ (d.kind = 3 ∧ (0 ≤ d.week ∧ d.week ≤ 6) ∧ d.day = 8)) ∧ 0 ≤ S ∧ S ≤ 86400 ∧ 0 ≤ B ∧ B ≤ 2)
theorem til_nom {y m : Int} {d : DDay} {S B least x : Int} (hy : 1850 ≤ y ∧ y ≤ 2149) (h0 : onD y m d = (x, 0)) (h3 : 0 ≤ S) (h4 : S ≤ 86400) (h5 : 0 ≤ B) (h6 : B ≤ 2) (hl : -3600 ≤ least ∧ least ≤ 0) :
  untilChk ⟨true, y, m, d, ⟨S, B⟩⟩ least = 0 ∧ nominalU ⟨true, y, m, d, ⟨S, B⟩⟩ least = (86400 * x + S + (if B = 1 then least else 0), 0) := by
 have e1 : untilChk ⟨true, y, m, d, ⟨S, B⟩⟩ least = 0 := by
  have hc : clkChk ⟨S, B⟩ = true := by
   unfold clkChk
   simp
   omega
  unfold untilChk
  dsimp only
  rw [if_neg (by omega), if_neg (by decide), if_neg (by rw [hc]; simp; omega), h0, if_neg]
  rintro (h | h | h)
  ·exact h rfl
  ·split at h <;> omega
  ·split at h <;> omega
 refine ⟨e1, ?_⟩
 unfold nominalU
 rw [if_neg (by rw [e1]; decide), h0]
theorem jan_on {y : Int} {d : DDay} (hy : 1850 ≤ y ∧ y ≤ 2149) (hd : (d.kind = 1 ∧ d.week = 0 ∧ 1 ≤ d.day ∧ d.day ≤ 20) ∨ (d.kind = 3 ∧ (0 ≤ d.week ∧ d.week ≤ 6) ∧ d.day = 8)) : ∃ x, onD y 1 d = (x, 0) ∧ mar1 (y - 1) + 306 ≤ x ∧ x ≤ mar1 (y - 1) + 325 := by
 have hin : inY y = true := by
  unfold inY
  simp
  omega
 have hL := lenM_28 y 1 (by decide) (by decide)
 have hok : daysOk y 1 1 = true := by
  unfold daysOk
  rw [hin]
  simp
  omega
 have hn : dayNo y 1 1 = mar1 (y - 1) + 306 := by
  unfold dayNo
  rw [if_pos (by decide)]
  unfold dayNoM mar1
  rw [show beforeL.getD ((1 : Int) + 12 - 3).toNat 0 = 306 by decide]
  omega
 have hdd : DrDay d := by
  obtain ⟨k, wk, dd⟩ := d
  dsimp only at hd
  rcases hd with ⟨rfl, rfl, h1, h2⟩ | ⟨rfl, h1, rfl⟩
  ·exact .inr (.inr ⟨rfl, rfl, h1, by dsimp only; omega⟩)
  ·exact .inr (.inl ⟨rfl, h1.1, h1.2, by show (1 : Int) ≤ 8; decide, by show (8 : Int) ≤ 22; decide, by show (8 : Int).tmod 7 = 1; decide⟩)
 unfold onD
 rw [if_neg (by rw [hok]; decide), if_neg (by rw [hdd.chk]; decide), if_neg (by omega), hn]
 refine ⟨_, rfl, ?_⟩
 unfold findD
 rcases hd with ⟨h1, _, h2, h3⟩ | ⟨h1, _, h2⟩
 ·rw [if_pos h1]
  omega
 ·rw [if_neg (by omega), if_neg (by omega), if_pos h1, h2]
  unfold behindW
  omega
theorem DrTil.nom {u : DUntil} {Y least : Int} (h : DrTil u Y) (hY : 1850 ≤ Y ∧ Y ≤ 2148) (hl : -3600 ≤ least ∧ least ≤ 0) :
  u.is = true ∧ untilChk u least = 0 ∧ ∃ n, nominalU u least = (n, 0) ∧ 86400 * (mar1 Y + 279) - 3600 ≤ n ∧ n ≤ 86400 * (mar1 Y + 327) := by
 rcases h with ⟨D, S, B, rfl, h1, h2, h3, h4, h5, h6⟩ | ⟨d, S, B, rfl, hd, h3, h4, h5, h6⟩
 ·have hin : inY Y = true := by
   unfold inY
   simp
   omega
  have hL := lenM_28 Y 12 (by decide) (by decide)
  have hdd : DrDay ⟨1, 0, D⟩ := .inr (.inr ⟨rfl, rfl, by show 1 ≤ D; omega, by show D ≤ 28; omega⟩)
  have e0 : onD Y 12 ⟨1, 0, D⟩ = (mar1 Y + 275 + D - 1, 0) := by
   have hok : daysOk Y 12 1 = true := by
    unfold daysOk
    rw [hin]
    simp
    omega
   unfold onD
   rw [if_neg (by rw [hok]; decide), if_neg (by rw [hdd.chk]; decide), if_neg (by show ¬ lenM Y 12 < D; omega), dayNo_mar _ _ _ (by decide), show beforeL.getD ((12 : Int) - 3).toNat 0 = 275 by decide]
   unfold findD
   rw [if_pos rfl]
   dsimp only
   rw [show mar1 Y + 275 + 1 - 1 + D - 1 = mar1 Y + 275 + D - 1 by omega]
  obtain ⟨e1, e2⟩ := til_nom (B := B) (by omega) e0 h3 h4 h5 h6 hl
  refine ⟨rfl, e1, _, e2, ?_⟩
  split <;> omega
 ·obtain ⟨x, e0, e3, e4⟩ := jan_on (y := Y + 1) (by omega) hd
  rw [show Y + 1 - 1 = Y by omega] at e3 e4
  obtain ⟨e1, e2⟩ := til_nom (B := B) (by omega) e0 h3 h4 h5 h6 hl
  refine ⟨rfl, e1, _, e2, ?_⟩
  split <;> omega
def DrEra (rs : List DRule) (e : DEra) (first : Bool) : Prop :=
 (e.kind = 0 ∧ e.save = 0 ∧ e.set = ByteArray.empty ∧ -46800 ≤ e.off ∧ e.off ≤ 46800 ∧ e.format ∈ fmtU) ∨
 (e.kind = 1 ∧ (1800 ≤ e.save ∧ e.save ≤ 7200) ∧ e.set = ByteArray.empty ∧ -46800 ≤ e.off ∧ e.off ≤ 46800 ∧ e.format ∈ fmtU) ∨
 (e.kind = 2 ∧ first = false ∧ e.save = 0 ∧ -43200 ≤ e.off ∧ e.off ≤ 43200 ∧ e.format ∈ fmtU ∧ DrSet (ofB rs e.set) ∧ (ofB rs e.set).length ≤ 5)
theorem textN_ok' (x : Int) (h : -86400 < x ∧ x < 86400) : textN x ≠ [] := by
 unfold textN
 rw [if_neg (by omega)]
 exact fun hh => by cases hh
theorem joinN_ok (off : Int) : ∀ l : List Int, (∀ x ∈ l, -86400 < off + x ∧ off + x < 86400) → ∃ r, joinN off l = some r
 | [], _ => ⟨_, rfl⟩
 | x :: l, h => by
  obtain ⟨r, hr⟩ := joinN_ok off l fun y hy => h y (List.mem_cons_of_mem _ hy)
  have hx := h x List.mem_cons_self
  refine ⟨textN (off + x) :: r, ?_⟩
  rw [joinN, if_neg (by
   rintro (hh | hh)
   ·unfold i64ok at hh; simp at hh; omega
   ·exact textN_ok' _ hx hh), hr]
theorem firstErr_ok {f : List UInt8} : ∀ l : List (List UInt8), (∀ x ∈ l, (abbrF f 0 0 x).2 = 0) → firstErr f l = 0
 | [], _ => rfl
 | x :: l, h => by
  rw [firstErr, if_pos (h x List.mem_cons_self)]
  exact firstErr_ok l fun y hy => h y (List.mem_cons_of_mem _ hy)
def fmtsL : List (List UInt8) := [[76, 77, 84], [71, 77, 84, 47, 66, 83, 84], [67, 69, 84, 47, 67, 69, 83, 84], [87, 83, 84]]
def fmtsS : List (List UInt8) := [[67, 69, 37, 115, 84], [69, 69, 37, 115, 84], [69, 37, 115, 83, 84]]
def lets4L : List (List UInt8) := [[], [83], [68], [68, 84]]
theorem fmts_kind : (∀ f ∈ fmtsL, kindF f = 1 ∨ kindF f = 2) ∧ (∀ f ∈ fmtsS, kindF f = 3 ∧ ∀ x ∈ lets4L, (abbrF f 0 0 x).2 = 0) ∧ kindF [37, 122] = 4 := by decide +kernel
theorem fmt_cases {f : ByteArray} (h : f ∈ fmtU) : f.data.toList ∈ fmtsL ∨ f.data.toList ∈ fmtsS ∨ f.data.toList = [37, 122] := by
 have h1 : ∀ f ∈ fmtU, f.data.toList ∈ fmtsL ∨ f.data.toList ∈ fmtsS ∨ f.data.toList = [37, 122] := by decide
 exact h1 f h
theorem lets_mem {x : ByteArray} (h : x ∈ [ByteArray.empty, (⟨#[83]⟩ : ByteArray), ⟨#[68]⟩, ⟨#[68, 84]⟩]) : x.data.toList ∈ lets4L := by
 have : ∀ x ∈ [ByteArray.empty, (⟨#[83]⟩ : ByteArray), ⟨#[68]⟩, ⟨#[68, 84]⟩], x.data.toList ∈ lets4L := by decide
 exact this x h
theorem fmtChk_ok {e : DEra} {l : List DRule} (hf : e.format ∈ fmtU) (hk : e.kind = 0 ∨ e.kind = 1 ∨ e.kind = 2) (h0 : -86400 < e.off ∧ e.off < 86400) (h1 : e.kind = 1 → -86400 < e.off + e.save ∧ e.off + e.save < 86400)
  (h2 : e.kind = 2 → (∀ r ∈ l, r.letter.data.toList ∈ lets4L) ∧ (otherD l).2 = true ∧ -86400 < e.off + (otherD l).1 ∧ e.off + (otherD l).1 < 86400) : fmtChk e l = 0 := by
 unfold fmtChk
 dsimp only
 rcases fmt_cases hf with h | h | h
 ·rcases fmts_kind.1 _ h with h | h <;> rw [h] <;> simp
 ·obtain ⟨h3, h4⟩ := fmts_kind.2.1 _ h
  rw [h3, if_neg (by decide), if_pos rfl]
  refine firstErr_ok _ fun x hx => h4 x ?_
  split at hx
  ·rename_i hk2
   obtain ⟨r, hr, rfl⟩ := List.mem_map.1 hx
   exact (h2 hk2).1 r hr
  ·rw [List.mem_singleton] at hx
   subst hx
   decide
 ·have he : (expandN e l).2 = 0 := by
   have hj : ∀ s : List Int, (∀ x ∈ s, -86400 < e.off + x ∧ e.off + x < 86400) → (match joinN e.off s with | none => (([], 3) : List UInt8 × Int) | some r => (slashed r, 0)).2 = 0 := fun s hs => by
    obtain ⟨r, hr⟩ := joinN_ok e.off s hs
    rw [hr]
   unfold expandN
   dsimp only
   rcases hk with hk | hk | hk
   ·rw [if_pos hk]
    exact hj [0] fun x hx => by rw [List.mem_singleton] at hx; subst hx; omega
   ·rw [if_neg (by omega), if_pos hk]
    exact hj [e.save] fun x hx => by rw [List.mem_singleton] at hx; subst hx; exact h1 hk
   ·obtain ⟨_, h3, h4⟩ := h2 hk
    rw [if_neg (by omega), if_neg (by omega), if_pos hk, if_pos h3]
    exact hj [0, (otherD l).1] fun x hx => by
     simp only [List.mem_cons, List.not_mem_nil, or_false] at hx
     rcases hx with rfl | rfl
     ·omega
     ·exact h4
  rw [h, fmts_kind.2.2, if_neg (by decide), if_neg (by decide), if_pos (.inl rfl), if_neg]
  rw [he]
  rintro (hh | ⟨hh, _⟩)
  ·exact hh rfl
  ·cases hh
theorem DrEra.fmt {rs : List DRule} {e : DEra} {first : Bool} (h : DrEra rs e first) : e.format ∈ fmtU := by
 rcases h with ⟨_, _, _, _, _, h⟩ | ⟨_, _, _, _, _, h⟩ | ⟨_, _, _, _, _, h, _⟩
 ·exact h
 ·exact h
 ·exact h
theorem DrEra.states {rs : List DRule} {e : DEra} {first : Bool} (h : DrEra rs e first) : (statesOf rs e).length ≤ 5 ∧ (∀ x ∈ statesOf rs e, -54000 ≤ e.off + x.1 ∧ e.off + x.1 ≤ 54000) ∧ -54000 ≤ e.off ∧ e.off ≤ 54000 ∧ (setOf rs e = [] ∨ DrSet (setOf rs e)) := by
 unfold statesOf setOf
 rcases h with ⟨hk, hs, _, h1, h2, _⟩ | ⟨hk, hs, _, h1, h2, _⟩ | ⟨hk, _, _, h1, h2, _, h3, h4⟩
 ·rw [if_neg (by omega), if_neg (by omega), if_neg (by omega)]
  refine ⟨by simp, fun x hx => ?_, by omega, by omega, .inl rfl⟩
  rw [List.mem_singleton] at hx
  subst hx
  dsimp only
  omega
 ·rw [if_pos hk, if_neg (by omega)]
  refine ⟨by simp, fun x hx => ?_, by omega, by omega, .inl rfl⟩
  rw [List.mem_singleton] at hx
  subst hx
  dsimp only
  omega
 ·rw [if_neg (by omega), if_pos hk, if_pos hk]
  refine ⟨by rw [List.length_map]; exact h4, fun x hx => ?_, by omega, by omega, .inr h3⟩
  obtain ⟨r, hr, rfl⟩ := List.mem_map.1 hx
  have := (h3.rule r hr).save
  dsimp only
  omega
theorem leastD_nil : leastD [] = 0 := rfl
theorem DrEra.least {rs : List DRule} {e : DEra} {first : Bool} (h : DrEra rs e first) : -3600 ≤ leastD (setOf rs e) ∧ leastD (setOf rs e) ≤ 0 := by
 obtain ⟨_, _, _, _, hs⟩ := h.states
 rcases hs with hs | hs
 ·rw [hs, leastD_nil]; decide
 ·exact hs.least
theorem DrEra.chk {rs : List DRule} {e : DEra} {first : Bool} (h : DrEra rs e first) (hu : e.til.is = true ∨ e.til = noTil) : eraChk rs e first = 0 := by
 obtain ⟨_, s2, s3, s4, _⟩ := h.states
 have hun : unusedB e = false := by
  have ht : (!e.til.is && !decide ({ e.til with is := false } = dU0)) = false := by
   rcases hu with hu | hu
   ·rw [hu]; rfl
   ·rw [hu]; decide
  unfold unusedB
  rw [ht]
  rcases h with ⟨hk, hs, he, _⟩ | ⟨hk, hs, he, _⟩ | ⟨hk, _, hs, _⟩
  ·rw [hk, hs, he]; decide
  ·rw [hk, he]; simp
  ·rw [hk, hs]; simp
 have hf : fmtChk e (setOf rs e) = 0 := by
  refine fmtChk_ok h.fmt ?_ (by omega) ?_ ?_
  ·rcases h with ⟨hk, _⟩ | ⟨hk, _⟩ | ⟨hk, _⟩
   ·exact .inl hk
   ·exact .inr (.inl hk)
   ·exact .inr (.inr hk)
  ·intro hk
   have := s2 (e.save, ByteArray.empty) (by unfold statesOf; rw [if_pos hk]; exact List.mem_singleton.2 rfl)
   dsimp only at this
   omega
  ·intro hk
   rcases h with ⟨hk2, _⟩ | ⟨hk2, _⟩ | ⟨_, _, _, h1, h2, _, h3, h4⟩
   ·omega
   ·omega
   rw [setOf, if_pos hk]
   obtain ⟨s, _, q1, q2, q3, _⟩ := h3.other
   rw [q3]
   exact ⟨fun r hr => lets_mem (h3.rule r hr).letter, rfl, by dsimp only; omega, by dsimp only; omega⟩
 have hkk : (0 ≤ e.kind ∧ e.kind ≤ 2) ∧ (¬ (first = true ∧ e.kind = 2)) ∧ (¬ (e.kind = 2 ∧ setOf rs e = [])) ∧ ¬ (e.kind = 1 ∧ (e.save < 1 ∨ 10800 < e.save)) := by
  rcases h with ⟨hk, _⟩ | ⟨hk, hs, _⟩ | ⟨hk, hf, _, _, _, _, h3, _⟩
  ·exact ⟨by omega, by omega, by omega, by omega⟩
  ·exact ⟨by omega, by omega, by omega, by omega⟩
  ·refine ⟨by omega, by rw [hf]; simp, ?_, by omega⟩
   rintro ⟨_, hn⟩
   rw [setOf, if_pos hk] at hn
   obtain ⟨_, _, _, ⟨r, hr, _⟩, _⟩ := h3.saves
   rw [hn] at hr
   cases hr
 unfold eraChk
 rw [if_neg (by omega), if_neg hkk.2.1, if_neg hkk.2.2.1, if_neg hkk.2.2.2, if_neg, if_neg (by rw [hun]; decide), hf]
 rintro (hh | hh)
 ·unfold hoursB at hh; simp at hh; omega
 ·obtain ⟨x, hx, hh⟩ := List.any_eq_true.1 hh
  have := s2 x hx
  unfold hoursB at hh
  simp at hh
  omega
structure DrEras (rs : List DRule) (l : List DEra) (Y : Nat → Int) : Prop where
 len : 1 ≤ l.length ∧ l.length ≤ 4
 era : ∀ k e, l[k]? = some e → DrEra rs e (decide (k = 0))
 yr : ∀ k, k + 1 < l.length → 1850 ≤ Y k ∧ Y k ≤ 2148
 inc : ∀ k, k + 2 < l.length → Y k < Y (k + 1)
 til : ∀ k e, l[k]? = some e → if k + 1 < l.length then DrTil e.til (Y k) else e.til = noTil
theorem getD_of {α : Type} {l : List α} {k : Nat} {d : α} (h : k < l.length) : ∃ e, l[k]? = some e ∧ l.getD k d = e := ⟨l[k], List.getElem?_eq_getElem h, by rw [List.getD_eq_getElem?_getD, List.getElem?_eq_getElem h]; rfl⟩
theorem DrSet.far_til {l : List DRule} (h : DrSet l) {n Y : Int} (h1 : 86400 * (mar1 Y + 279) - 3600 ≤ n) (h2 : n ≤ 86400 * (mar1 Y + 327)) : farD l n = true := by
 refine h.farD_of n fun j r y e hj he => ?_
 obtain ⟨_, _, _, _, b1, b2⟩ := (h.rule r (List.mem_of_getElem? hj)).ev h.least he
 have hb := loS_bd r.month
 rcases Int.lt_or_le Y y with hy | hy
 ·have := mar1_lt hy
  omega
 ·have := mar1_le hy
  omega
theorem DrEras.endOk {rs : List DRule} {l : List DEra} {Y : Nat → Int} (h : DrEras rs l Y) {k : Nat} (hk : k < l.length) : endChk rs l k = 0 := by
 obtain ⟨e, he, hd⟩ := getD_of (d := dE0) hk
 have hE := h.era k e he
 have hT := h.til k e he
 unfold endChk
 dsimp only
 rw [hd]
 by_cases hl : k + 1 < l.length
 ·rw [if_pos hl] at hT
  obtain ⟨t1, t2, n, t3, t4, t5⟩ := hT.nom (h.yr k hl) hE.least
  rw [if_neg (by rw [t1, decide_eq_true hl]; simp), if_neg (by rw [t1]; decide), if_neg (by rw [t2]; decide), t3, if_neg, if_neg]
  ·rintro ⟨hk2, hf⟩
   obtain ⟨_, _, _, _, hs⟩ := hE.states
   rcases hs with hs | hs
   ·rcases hE with ⟨hk3, _⟩ | ⟨hk3, _⟩ | ⟨_, _, _, _, _, _, h3, _⟩
    ·omega
    ·omega
    ·rw [setOf, if_pos hk2] at hs
     obtain ⟨_, _, _, ⟨r, hr, _⟩, _⟩ := h3.saves
     rw [hs] at hr
     cases hr
   ·rw [hs.far_til t4 t5] at hf
    cases hf
  ·rintro ⟨hk0, hh⟩
   obtain ⟨b, hb, hbd⟩ := getD_of (l := l) (k := k - 1) (d := dE0) (by omega)
   rw [hbd] at hh
   have hT2 := h.til (k - 1) b hb
   rw [if_pos (by omega)] at hT2
   obtain ⟨_, _, m, m3, m4, m5⟩ := hT2.nom (h.yr (k - 1) (by omega)) (h.era (k - 1) b hb).least
   rw [m3] at hh
   have hy := h.inc (k - 1) (by omega)
   rw [show k - 1 + 1 = k by omega] at hy
   have := mar1_lt hy
   rcases hh with hh | hh
   ·exact hh rfl
   ·dsimp only at hh
    omega
 ·rw [if_neg hl] at hT
  have ht : e.til.is = false := by rw [hT]; rfl
  rw [if_neg (by rw [ht, decide_eq_false hl]; simp), if_pos ht]
theorem DrEras.eraOk {rs : List DRule} {l : List DEra} {Y : Nat → Int} (h : DrEras rs l Y) {k : Nat} (hk : k < l.length) : eraChk rs (l.getD k dE0) (decide (k = 0)) = 0 := by
 obtain ⟨e, he, hd⟩ := getD_of (d := dE0) hk
 rw [hd]
 refine (h.era k e he).chk ?_
 have hT := h.til k e he
 split at hT
 ·rcases hT with ⟨_, _, _, hh, _⟩ | ⟨_, _, _, hh, _⟩ <;> exact .inl (by rw [hh])
 ·exact .inr hT
theorem DrEras.go {rs : List DRule} {l : List DEra} {Y : Nat → Int} (h : DrEras rs l Y) (i : Nat) : ∀ f k, k + f ≤ l.length → erasGo rs l i f k = none
 | 0, _, _ => rfl
 | f + 1, k, hk => by
  rw [erasGo, if_neg (by rw [h.eraOk (by omega)]; decide), if_neg (by rw [h.endOk (by omega)]; decide)]
  exact h.go i f (k + 1) (by omega)
theorem dig2_len' (n : Int) : (dig2 n).length = 2 := rfl
theorem textN_len' (x : Int) : (textN x).length ≤ 7 := by
 unfold textN
 split
 ·exact Nat.zero_le _
 ·simp only [List.length_cons, List.length_append, dig2_len']
  have h : ∀ (c : Prop) [Decidable c] (n : Int), (if c then ([] : List UInt8) else dig2 n).length ≤ 2 := fun c _ n => by
   split
   ·exact Nat.zero_le _
   ·exact Nat.le_refl _
  have h1 := h
  generalize ha : (if (if x < 0 then -x else x) % 3600 = 0 then ([] : List UInt8) else dig2 ((if x < 0 then -x else x) / 60 % 60)) = a
  generalize hb : (if (if x < 0 then -x else x) % 60 = 0 then ([] : List UInt8) else dig2 ((if x < 0 then -x else x) % 60)) = b
  have h2 : a.length ≤ 2 := by rw [← ha]; exact h _ _
  have h3 : b.length ≤ 2 := by rw [← hb]; exact h _ _
  omega
theorem fmtsL_parts : ∀ f ∈ fmtsL, (match partsF f with | none => decide (kindF f = 1) && decide (f.length ≤ 7) | some (a, b) => decide (a.length ≤ 7) && decide (b.length ≤ 7)) = true := by decide +kernel
theorem fmtsS_parts : (∀ f ∈ fmtsS, partsF f = none) ∧ partsF [37, 122] = none := by decide +kernel
theorem abbr_len {f : ByteArray} (h : f ∈ fmtU) (off save : Int) (x : List UInt8) : (abbrF f.data.toList off save x).1.length ≤ 7 := by
 rcases fmt_cases h with h | h | h
 ·have hp := fmtsL_parts _ h
  unfold abbrF
  cases hq : partsF f.data.toList with
  | none =>
   rw [hq] at hp
   simp at hp
   dsimp only
   rw [hp.1, if_neg (by decide), if_neg (by decide), if_pos (.inl rfl)]
   rw [Array.length_toList]
   exact hp.2
  | some ab =>
   obtain ⟨a, b⟩ := ab
   rw [hq] at hp
   simp at hp
   dsimp only
   split
   ·exact hp.1
   ·exact hp.2
 ·obtain ⟨hk, _⟩ := fmts_kind.2.1 _ h
  unfold abbrF
  rw [fmtsS_parts.1 _ h, hk]
  dsimp only
  rw [if_pos rfl]
  cases aroundF f.data.toList with
  | none => exact Nat.zero_le _
  | some ab =>
   obtain ⟨a, b⟩ := ab
   dsimp only
   split
   ·rename_i hh
    unfold abbrL nameB at hh
    simp only [Bool.and_eq_true, decide_eq_true_eq] at hh
    dsimp only
    omega
   ·exact Nat.zero_le _
 ·unfold abbrF
  rw [h, fmtsS_parts.2, fmts_kind.2.2]
  dsimp only
  rw [if_neg (by decide), if_pos rfl]
  split
  ·exact textN_len' _
  ·exact Nat.zero_le _
theorem sizeA_snoc' (x : List UInt8) : ∀ l, sizeA (l ++ [x]) = sizeA l + x.length + 1
 | [] => by simp [sizeA]
 | y :: l => by rw [List.cons_append, sizeA, sizeA_snoc' x l, sizeA]; omega
theorem addP_len' (x : Int × List UInt8) (l : List (Int × List UInt8)) : (addP x l).length ≤ l.length + 1 := by
 unfold addP
 split
 ·omega
 ·rw [List.length_append]; exact Nat.le_refl _
theorem addA_size (x : List UInt8) (l : List (List UInt8)) : sizeA (addA x l) ≤ sizeA l + x.length + 1 := by
 unfold addA
 split
 ·omega
 ·rw [sizeA_snoc']; exact Nat.le_refl _
theorem stGo_len {e : DEra} (he : e.format ∈ fmtU) : ∀ (l : List (Int × ByteArray)) (acc : List (Int × List UInt8) × List (List UInt8)), (stGo e l acc).1.length ≤ acc.1.length + l.length ∧ sizeA (stGo e l acc).2 ≤ sizeA acc.2 + 8 * l.length
 | [], acc => by simp [stGo]
 | x :: l, acc => by
  have h1 := addP_len' (e.off + x.1, (abbrF e.format.data.toList e.off x.1 x.2.data.toList).1) acc.1
  have h2 := addA_size (abbrF e.format.data.toList e.off x.1 x.2.data.toList).1 acc.2
  have h3 := abbr_len he e.off x.1 x.2.data.toList
  have h4 := stGo_len he l (addP (e.off + x.1, (abbrF e.format.data.toList e.off x.1 x.2.data.toList).1) acc.1, addA (abbrF e.format.data.toList e.off x.1 x.2.data.toList).1 acc.2)
  rw [stGo]
  dsimp only at h4 ⊢
  rw [List.length_cons]
  omega
theorem erGo_len (rs : List DRule) : ∀ (l : List DEra) (acc : List (Int × List UInt8) × List (List UInt8)), (∀ e ∈ l, ∃ b, DrEra rs e b) → (erGo rs l acc).1.length ≤ acc.1.length + 5 * l.length ∧ sizeA (erGo rs l acc).2 ≤ sizeA acc.2 + 40 * l.length
 | [], acc, _ => by simp [erGo]
 | e :: l, acc, h => by
  obtain ⟨b, hb⟩ := h e List.mem_cons_self
  have h1 := stGo_len hb.fmt (statesOf rs e) acc
  have h2 := erGo_len rs l (stGo e (statesOf rs e) acc) fun x hx => h x (List.mem_cons_of_mem _ hx)
  have h3 := hb.states.1
  rw [erGo, List.length_cons]
  omega
theorem DrEras.few {rs : List DRule} {z : DZone} {Y : Nat → Int} (h : DrEras rs z.eras Y) : fewB25 rs z = true := by
 have h1 := erGo_len rs z.eras ([], []) fun e he => by
  obtain ⟨k, hk, rfl⟩ := List.mem_iff_getElem.1 he
  exact ⟨_, h.era k _ (List.getElem?_eq_getElem hk)⟩
 have h2 := h.len
 unfold fewB25
 have e0 : sizeA [] = 0 := rfl
 rw [e0] at h1
 simp only [List.length_nil] at h1
 rw [decide_eq_true (by omega), decide_eq_true (by omega)]
 rfl
theorem zonesGo_none {rs : List DRule} : ∀ (l : List DZone) (i : Nat), (∀ z ∈ l, ∃ Y, DrEras rs z.eras Y) → zonesGo rs l i = none
 | [], _, _ => rfl
 | z :: l, i, h => by
  obtain ⟨Y, hz⟩ := h z List.mem_cons_self
  have hn : z.eras ≠ [] := fun hh => by
   have := hz.len
   rw [hh] at this
   simp at this
  rw [zonesGo, if_neg hn, hz.go i z.eras.length 0 (by omega)]
  dsimp only
  rw [if_neg (by rw [hz.few]; decide)]
  exact zonesGo_none l (i + 1) fun x hx => h x (List.mem_cons_of_mem _ hx)
theorem DrEra.til {rs : List DRule} {e : DEra} {b : Bool} (h : DrEra rs e b) (u : DUntil) : DrEra rs (setTil u e) b := h
def bare' (z : DZone) : DZone := ⟨z.name, []⟩
def bareS (s : DSource) : DSource := ⟨[], s.zones.map bare', s.links, []⟩
theorem firstZ_bare (x : ByteArray) : ∀ (l : List DZone) (k : Nat), firstZ x (l.map bare') k = firstZ x l k
 | [], _ => rfl
 | z :: l, k => by rw [List.map_cons, firstZ, firstZ, firstZ_bare x l (k + 1)]; rfl
theorem zoneFault_bare (s : DSource) : ∀ (l : List DZone) (i : Nat), zoneFault (bareS s) (l.map bare') i = zoneFault s l i
 | [], _ => rfl
 | z :: l, i => by
  rw [List.map_cons, zoneFault, zoneFault, zoneFault_bare s l (i + 1), show (bareS s).zones = s.zones.map bare' from rfl, firstZ_bare]
  rfl
theorem linkFault_bare (s : DSource) : ∀ (l : List DLink) (i : Nat), linkFault (bareS s) l i = linkFault s l i
 | [], _ => rfl
 | z :: l, i => by
  rw [linkFault, linkFault, linkFault_bare s l (i + 1), show (bareS s).zones = s.zones.map bare' from rfl, firstZ_bare, firstZ_bare]
  rfl
theorem followD_bare (s : DSource) : ∀ (f : Nat) (seen : List ByteArray) (x : ByteArray), followD (bareS s) f seen x = followD s f seen x
 | 0, _, _ => rfl
 | f + 1, seen, x => by
  rw [followD, followD, show (bareS s).zones = s.zones.map bare' from rfl, firstZ_bare, show (bareS s).links = s.links from rfl]
  simp only [followD_bare s f]
theorem loopFault_bare (s : DSource) : ∀ (l : List DLink) (i : Nat), loopFault (bareS s) l i = loopFault s l i
 | [], _ => rfl
 | z :: l, i => by
  rw [loopFault, loopFault, loopFault_bare s l (i + 1), followD_bare]
  rfl
theorem linksD_bare (s : DSource) : linksD s = linksD (bareS s) := by
 unfold linksD
 rw [show (bareS s).zones = s.zones.map bare' from rfl, show (bareS s).links = s.links from rfl, zoneFault_bare, linkFault_bare, loopFault_bare]
theorem ofB_app (a b : List DRule) (x : ByteArray) : ofB (a ++ b) x = ofB a x ++ ofB b x := List.filter_append _ _
theorem ofB_all {l : List DRule} {x : ByteArray} (h : ∀ r ∈ l, r.name = x) : ofB l x = l := List.filter_eq_self.2 fun r hr => decide_eq_true (h r hr)
theorem ofB_no {l : List DRule} {x y : ByteArray} (h : ∀ r ∈ l, r.name = y) (hxy : y ≠ x) : ofB l x = [] := List.filter_eq_nil_iff.2 fun r hr => by
 rw [h r hr]
 simp [hxy]
theorem namesB_mem' : ∀ (l : List DRule) (acc : List ByteArray), ∀ x ∈ namesB l acc, x ∈ acc ∨ ∃ r ∈ l, r.name = x
 | [], acc, x, h => .inl h
 | a :: l, acc, x, h => by
  rw [namesB] at h
  split at h
  ·rcases namesB_mem' l acc x h with h | ⟨r, h1, h2⟩
   ·exact .inl h
   ·exact .inr ⟨r, List.mem_cons_of_mem _ h1, h2⟩
  ·rcases namesB_mem' l (acc ++ [a.name]) x h with h | ⟨r, h1, h2⟩
   ·rw [List.mem_append, List.mem_singleton] at h
    rcases h with h | rfl
    ·exact .inl h
    ·exact .inr ⟨a, List.mem_cons_self, rfl⟩
   ·exact .inr ⟨r, List.mem_cons_of_mem _ h1, h2⟩
theorem setsGo_none' {rs : List DRule} : ∀ l : List ByteArray, (∀ x ∈ l, setFault rs x = none) → setsGo rs l = none
 | [], _ => rfl
 | x :: l, h => by
  rw [setsGo, h x List.mem_cons_self]
  exact setsGo_none' l fun y hy => h y (List.mem_cons_of_mem _ hy)
end Go.Proofs.YtonjepladadmhaaGreatDoor
