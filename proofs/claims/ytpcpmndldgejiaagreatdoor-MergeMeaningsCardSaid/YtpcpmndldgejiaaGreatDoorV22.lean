/- Parts of the proof. -/
import Derived.Test.YtpcpmndldgejiaaGreatDoorV21
import Derived.Test.YtpcpmndldgejiaaGreatDoorV07
import Derived.Test.YtpcpmndldgejiaaGreatDoorV08
set_option maxHeartbeats 4000000
set_option linter.unusedVariables false
set_option linter.unusedSimpArgs false
namespace Go.Proofs.YtpcpmndldgejiaaGreatDoor
open Go Go.RowKit Go.Wk
theorem foldMin : ∀ (l : List Zaa) (m : Int), l.foldl (fun m r => min m r.save) m ≤ m ∧ (∀ r ∈ l, l.foldl (fun m r => min m r.save) m ≤ r.save) ∧ (l.foldl (fun m r => min m r.save) m = m ∨ ∃ r ∈ l, l.foldl (fun m r => min m r.save) m = r.save)
 | [], m => ⟨Int.le_refl _, (fun r h => by cases h), .inl rfl⟩
 | a :: l, m => by
  obtain ⟨h1, h2, h3⟩ := foldMin l (min m a.save)
  rw [List.foldl_cons]
  refine ⟨by omega, fun r hr => ?_, ?_⟩
  ·rcases List.mem_cons.1 hr with rfl | hr
   ·omega
   ·exact h2 r hr
  ·rcases h3 with h3 | ⟨r, h4, h5⟩
   ·by_cases hm : m ≤ a.save
    ·exact .inl (by omega)
    ·exact .inr ⟨a, List.mem_cons_self, by omega⟩
   ·exact .inr ⟨r, List.mem_cons_of_mem _ h4, h5⟩
theorem otherGo_eq {s : Int} (hs : s ≠ 0) : ∀ (l : List Zaa) (x : Int), (x = 0 ∨ x = s) → (∀ r ∈ l, r.save = 0 ∨ r.save = s) → (x = s ∨ ∃ r ∈ l, r.save = s) → ZcC l x = (s, true)
 | [], x, _, _, h => by
  rcases h with rfl | ⟨r, hr, _⟩
  ·simp [ZcC, hs]
  ·cases hr
 | a :: l, x, hx, ha, h => by
  have hal : ∀ r ∈ l, r.save = 0 ∨ r.save = s := fun r hr => ha r (List.mem_cons_of_mem _ hr)
  rw [ZcC]
  rcases ha a List.mem_cons_self with h0 | h0
  ·rw [if_pos h0]
   refine otherGo_eq hs l x hx hal ?_
   rcases h with h | ⟨r, hr, hh⟩
   ·exact .inl h
   ·rcases List.mem_cons.1 hr with rfl | hr
    ·exact absurd (hh.symm.trans h0) hs
    ·exact .inr ⟨r, hr, hh⟩
  ·rw [if_neg (by clear h; omega), if_neg (by clear h; omega), h0]
   exact otherGo_eq hs l s (.inr rfl) hal (.inl rfl)
structure ZbO (l : List Zaa) : Prop where
 rule : ∀ r ∈ l, DrRule r
 dist : l.Pairwise Dist
 saves : ∃ s, s ≠ 0 ∧ (∀ r ∈ l, r.save = 0 ∨ r.save = s) ∧ (∃ r ∈ l, r.save = 0) ∧ ∃ r ∈ l, r.save = s
 last : lastB l = true
theorem ZbO.least {l : List Zaa} (h : ZbO l) : -3600 ≤ Zaj l ∧ Zaj l ≤ 0 := by
 obtain ⟨h1, h2, h3⟩ := foldMin l 0
 unfold Zaj
 refine ⟨?_, h1⟩
 rcases h3 with h3 | ⟨r, h4, h5⟩
 ·omega
 ·have := (h.rule r h4).save
  omega
theorem ZbO.other {l : List Zaa} (h : ZbO l) : ∃ s, s ≠ 0 ∧ -3600 ≤ s ∧ s ≤ 7200 ∧ Zc1 l = (s, true) ∧ (Zaj l = 0 ∨ Zaj l = s) ∧ ∀ r ∈ l, r.save = 0 ∨ r.save = s := by
 obtain ⟨s, h0, h1, _, r, h3, h4⟩ := h.saves
 have hr := (h.rule r h3).save
 refine ⟨s, h0, by omega, by omega, otherGo_eq h0 l 0 (.inl rfl) h1 (.inr ⟨r, h3, h4⟩), ?_, h1⟩
 obtain ⟨_, _, h7⟩ := foldMin l 0
 unfold Zaj
 rcases h7 with h7 | ⟨q, h8, h9⟩
 ·exact .inl h7
 ·have := h1 q h8
  omega
theorem _root_.Go.Wk.DrRule.err {r : Zaa} (h : DrRule r) {least : Int} (hl : -3600 ≤ least ∧ least ≤ 0) : Zcn r least = 0 := by
 have h0 := h.f0
 have h1 := h.f1
 have h2 := h.ft
 have h3 := h.t1
 have h4 := h.clk
 have h5 := h.save
 obtain ⟨m0, m1⟩ := h.mon12
 have e1 : (Zch r.from_ && (Zch r.to || decide (r.to = 1048576))) = true := by
  simp [Zch]
  omega
 have e2 : alwaysD r.from_ r.to r.month r.day = true := by
  unfold alwaysD
  rw [if_neg (by rw [h.day.chk]; simp; omega), if_pos (.inr (by have := lenM_28 1 r.month m0 m1; have := h.day.le28; omega))]
 have e3 : timedB r.at_ least = true := by
  unfold timedB Za7
  simp
  split <;> omega
 have e4 : (decide (r.letter = ByteArray.empty) || letterB r.letter) = true := by
  have hl := h.letter
  simp only [List.mem_cons, List.not_mem_nil, or_false] at hl
  rcases hl with e | e | e | e <;> rw [e] <;> decide
 unfold Zcn
 rw [if_neg (by rw [e1]; decide), if_neg (by omega), if_neg (by rw [e2]; decide), if_neg (by rw [e3]; decide), if_neg (by simp; omega), if_neg (by rw [e4]; decide)]
theorem firstBad_none' {least : Int} : ∀ (l : List Zaa) (k : Nat), (∀ r ∈ l, Zcn r least = 0) → Zbh least l k = none
 | [], _, _ => rfl
 | a :: l, k, h => by
  rw [Zbh, if_pos (h a List.mem_cons_self)]
  exact firstBad_none' l (k + 1) fun r hr => h r (List.mem_cons_of_mem _ hr)
theorem ZbO.chk {l : List Zaa} (h : ZbO l) : rsChk l = (0, 0) := by
 have hl := h.least
 obtain ⟨s, s0, _, _, _, s1, s2⟩ := h.other
 obtain ⟨_, _, _, ⟨r, h3, h4⟩, _⟩ := h.saves
 unfold rsChk
 rw [firstBad_none' l 0 fun r hr => (h.rule r hr).err hl]
 dsimp only
 have ha : (l.any fun r => decide (r.save = 0)) = true := List.any_eq_true.2 ⟨r, h3, by simp [h4]⟩
 rw [if_neg, if_neg (by rw [h.last]; decide)]
 rintro (hh | ⟨h5, h6⟩)
 ·rw [ha] at hh; cases hh
 ·obtain ⟨q, h7, h8⟩ := List.any_eq_true.1 h6
  have := s2 q h7
  simp at h8
  omega
theorem get_pair {α : Type} {R : α → α → Prop} {l : List α} (h : l.Pairwise R) {j k : Nat} {a b : α} (ha : l[j]? = some a) (hb : l[k]? = some b) (hn : j ≠ k) : R a b ∨ R b a := by
 obtain ⟨h1, rfl⟩ := List.getElem?_eq_some_iff.1 ha
 obtain ⟨h2, rfl⟩ := List.getElem?_eq_some_iff.1 hb
 rcases Nat.lt_or_ge j k with h3 | h3
 ·exact .inl (List.pairwise_iff_getElem.1 h _ _ h1 h2 h3)
 ·exact .inr (List.pairwise_iff_getElem.1 h _ _ h2 h1 (by omega))
theorem ZbO.far2 {l : List Zaa} (h : ZbO l) {j k : Nat} {a b : Zaa} {y z : Int} {e f : Zac} (ha : l[j]? = some a) (hb : l[k]? = some b) (he : onR (Zaj l) a j y = some e) (hf : onR (Zaj l) b k z = some f) (hn : e ≠ f) :
  259200 ≤ e.nominal - f.nominal ∨ 259200 ≤ f.nominal - e.nominal := by
 refine (h.rule a (List.mem_of_getElem? ha)).far (h.rule b (List.mem_of_getElem? hb)) h.least he hf fun hyz => ?_
 subst hyz
 refine get_pair h.dist ha hb fun hjk => hn ?_
 subst hjk
 rw [ha] at hb
 cases hb
 exact Option.some.inj (he.symm.trans hf)
theorem ZbO.apart {l : List Zaa} (h : ZbO l) : apartD l = none := by
 have hc := closeE_least' (allEvs l (Zaj l) 1850 701) (allEvs_desc _ _ _ _) ((Zd3 l (Zaj l) 1850 701).nodup_iff.2 (allC_nodup' l (Zaj l) 1850 701))
 unfold apartD
 cases he : closeE (allEvs l (Zaj l) 1850 701) with
 | none => rfl
 | some e =>
  rw [he] at hc
  obtain ⟨⟨h1, x, h2, h3, h4⟩, _⟩ := hc
  have hm : ∀ x, x ∈ allEvs l (Zaj l) 1850 701 → ∃ (j : Nat) (r : Zaa) (y : Int), l[j]? = some r ∧ onR (Zaj l) r j y = some x := fun x hx => by
   rw [(Zd3 l (Zaj l) 1850 701).mem_iff, mem_allC'] at hx
   obtain ⟨q, _, hq⟩ := hx
   obtain ⟨j, r, hj, hr⟩ := (ZdB _ _ _ _ _).1 hq
   rw [Nat.zero_add] at hr
   exact ⟨j, r, _, hj, hr⟩
  obtain ⟨j, a, y, ja, ea⟩ := hm e h1
  obtain ⟨k, b, z, kb, eb⟩ := hm x h2
  have hne : e ≠ x := fun hh => by
   subst hh
   rw [swoE.irrefl] at h3
   cases h3
  have := h.far2 ja kb ea eb hne
  simp only [ltE, ordE_lt, decide_eq_true_eq] at h3
  omega
theorem ZbO.fault {rs : List Zaa} {x : ByteArray} (h : ZbO (ofB rs x)) (hx : setB x = true) : ZcJ rs x = none := by
 unfold ZcJ
 rw [if_neg (by rw [hx]; decide), h.chk, if_neg (by simp), h.apart]
theorem ZbO.farD_of {l : List Zaa} (h : ZbO l) (n : Int) (hn : ∀ (j : Nat) (r : Zaa) (y : Int) (e : Zac), l[j]? = some r → onR (Zaj l) r j y = some e → ¬ (n - 259200 < e.nominal ∧ e.nominal < n + 259200)) : farD l n = true := by
 unfold farD
 cases ha : afterD l (n - 259200) with
 | none => rfl
 | some e =>
  rcases afterGo_sound' _ _ _ l 0 none e ha with hh | ⟨j, r, hj, hr⟩
  ·cases hh
  ·obtain ⟨q, h1, h2⟩ := evIn_sound' _ _ _ _ _ _ _ hr
   rw [Nat.zero_add] at h1
   have := hn j r _ e hj h1
   simp
   omega
theorem dayOf_dr (l : List Int) (i : Int) : DrDay (dayOf l i) := by
 have h1 := Zas l i 7 (by decide)
 have h2 := Zas l (i + 1) 4 (by decide)
 have h3 := Zas l (i + 1) 28 (by decide)
 have h4 := Zas l (i + 2) 3 (by decide)
 have hc : atB l (i + 2) 3 = 0 ∨ atB l (i + 2) 3 = 1 ∨ atB l (i + 2) 3 = 2 := by omega
 unfold dayOf dayB DrDay
 rcases hc with e | e | e <;> rw [e]
 ·exact .inl ⟨rfl, h1.1, by show atB l i 7 ≤ 6; omega, rfl⟩
 ·refine .inr (.inl ⟨rfl, h1.1, ?_, ?_, ?_, ?_⟩)
  ·show atB l i 7 ≤ 6; omega
  ·show 1 ≤ 1 + 7 * atB l (i + 1) 4; omega
  ·show 1 + 7 * atB l (i + 1) 4 ≤ 22; omega
  ·show (1 + 7 * atB l (i + 1) 4).tmod 7 = 1
   rw [Int.tmod_eq_emod_of_nonneg (by omega)]; omega
 ·refine .inr (.inr ⟨rfl, rfl, ?_, ?_⟩)
  ·show 1 ≤ 1 + atB l (i + 1) 28; omega
  ·show 1 + atB l (i + 1) 28 ≤ 28; omega
theorem clockB_dr (l : List Int) (i : Int) : 0 ≤ (Zed l i).sec ∧ (Zed l i).sec ≤ 86400 ∧ 0 ≤ (Zed l i).base ∧ (Zed l i).base ≤ 2 := by
 have h1 := Zas l i 49 (by decide)
 have h2 := Zas l (i + 1) 3 (by decide)
 unfold Zed
 dsimp only
 omega
theorem posix_dr {r : Zaa} (h : DrDay r.day) : Zec r = true := by
 unfold DrDay at h
 unfold Zec
 rcases h with ⟨h1, _⟩ | ⟨h1, h2, h3, h4, h5, h6⟩ | ⟨h1, h2, h3, h4⟩
 ·rw [if_pos h1]
 ·rw [if_neg (by omega), if_pos h1, h6]
  simp
  omega
 ·rw [if_neg (by omega), if_neg (by omega), if_pos h1]
  simp
  omega
theorem letA_mem (k : Int) (h0 : 0 ≤ k) (h1 : k < 3) : letA.getD k.toNat ByteArray.empty ∈ [ByteArray.empty, ⟨#[83]⟩, ⟨#[68]⟩, ⟨#[68, 84]⟩] := by
 have hc : k = 0 ∨ k = 1 ∨ k = 2 := by omega
 rcases hc with rfl | rfl | rfl
 ·exact .tail _ (.head _)
 ·exact .tail _ (.tail _ (.head _))
 ·exact .tail _ (.tail _ (.tail _ (.head _)))
theorem letB_mem (k : Int) (h0 : 0 ≤ k) (h1 : k < 2) : letB.getD k.toNat ByteArray.empty ∈ [ByteArray.empty, ⟨#[83]⟩, ⟨#[68]⟩, ⟨#[68, 84]⟩] := by
 have hc : k = 0 ∨ k = 1 := by omega
 rcases hc with rfl | rfl
 ·exact .head _
 ·exact .tail _ (.head _)
theorem ruleA_dr (l : List Int) (i a b s : Int) (h0 : 1900 ≤ a) (h1 : a ≤ 2149) (h2 : a ≤ b) (h3 : b ≤ 2149 ∨ b = 1048576) (h4 : -3600 ≤ s ∧ s ≤ 7200) : DrRule (ruleA l i a b s) := by
 have r1 := Zas l i 3 (by decide)
 have r2 := Zas l (i + 8) 3 (by decide)
 exact ⟨h0, h1, h2, h3, .inl (by show 2 ≤ 2 + atB l i 3 ∧ 2 + atB l i 3 ≤ 4; omega), dayOf_dr l (i + 3), clockB_dr l (i + 6), h4, letA_mem _ r2.1 r2.2⟩
theorem ruleB_dr (l : List Int) (i a b s : Int) (h0 : 1900 ≤ a) (h1 : a ≤ 2149) (h2 : a ≤ b) (h3 : b ≤ 2149 ∨ b = 1048576) (h4 : -3600 ≤ s ∧ s ≤ 7200) : DrRule (ruleB l i a b s) := by
 have r1 := Zas l (i + 1) 3 (by decide)
 have r2 := Zas l (i + 14) 2 (by decide)
 exact ⟨h0, h1, h2, h3, .inr (.inr (by show 8 ≤ 8 + atB l (i + 1) 3 ∧ 8 + atB l (i + 1) 3 ≤ 10; omega)), dayOf_dr l (i + 9), clockB_dr l (i + 12), h4, letB_mem _ r2.1 r2.2⟩
theorem pairB_dr (l : List Int) (i a b s : Int) (h0 : 1900 ≤ a) (h1 : a ≤ 2149) (h2 : a ≤ b) (h3 : b ≤ 2149 ∨ b = 1048576) (h4 : -3600 ≤ s ∧ s ≤ 7200) :
  ∃ p q, pairB l i a b s = [p, q] ∧ DrRule p ∧ DrRule q ∧ p.from_ = a ∧ p.to = b ∧ q.from_ = a ∧ q.to = b ∧ sea p.month = 0 ∧ sea q.month = 2 ∧ ((p.save = 0 ∧ q.save = s) ∨ (p.save = s ∧ q.save = 0)) := by
 have r1 := Zas l i 3 (by decide)
 have r2 := Zas l (i + 1) 3 (by decide)
 have e1 : ∀ t, sea (ruleA l i a b t).month = 0 := fun t => by
  show sea (2 + atB l i 3) = 0
  unfold sea; rw [if_pos (by omega)]
 have e2 : ∀ t, sea (ruleB l i a b t).month = 2 := fun t => by
  show sea (8 + atB l (i + 1) 3) = 2
  unfold sea; rw [if_neg (by omega), if_neg (by omega)]
 unfold pairB
 split
 ·exact ⟨_, _, rfl, ruleA_dr l i a b 0 h0 h1 h2 h3 (by decide), ruleB_dr l i a b s h0 h1 h2 h3 h4, rfl, rfl, rfl, rfl, e1 0, e2 s, .inl ⟨rfl, rfl⟩⟩
 ·exact ⟨_, _, rfl, ruleA_dr l i a b s h0 h1 h2 h3 h4, ruleB_dr l i a b 0 h0 h1 h2 h3 (by decide), rfl, rfl, rfl, rfl, e1 s, e2 0, .inr ⟨rfl, rfl⟩⟩
structure Pre17 (s f : Int) (o : List Zaa) : Prop where
 rule : ∀ r ∈ o, DrRule r ∧ r.to < f ∧ r.to ≤ 2149 ∧ (r.save = 0 ∨ r.save = s)
 dist : o.Pairwise Dist
theorem Pre17.two {s f : Int} {o : List Zaa} {p q : Zaa} (h : Pre17 s f o) (hp : p.from_ = f) (hq : q.from_ = f) (h1 : sea p.month = 0) (h2 : sea q.month = 2) : (o ++ [p, q]).Pairwise Dist := by
 refine List.pairwise_append.2 ⟨h.dist, ?_, fun a ha b hb => .inl ?_⟩
 ·refine List.pairwise_cons.2 ⟨fun b hb => ?_, List.pairwise_singleton _ _⟩
  rw [List.mem_singleton] at hb
  subst hb
  exact .inr (by rw [h1, h2]; decide)
 ·have := (h.rule a ha).2.1
  simp only [List.mem_cons, List.not_mem_nil, or_false] at hb
  rcases hb with rfl | rfl
  ·rw [hp]; exact this
  ·rw [hq]; exact this
theorem save17_rng (l : List Int) : ZbA l ≠ 0 ∧ -3600 ≤ ZbA l ∧ ZbA l ≤ 7200 := by
 have h := Zas l 0 5 (by decide)
 have hc : atB l 0 5 = 0 ∨ atB l 0 5 = 1 ∨ atB l 0 5 = 2 ∨ atB l 0 5 = 3 ∨ atB l 0 5 = 4 := by omega
 unfold ZbA
 rcases hc with e | e | e | e | e <;> rw [e] <;> decide
theorem m1_pre (l : List Int) : Pre17 (ZbA l) (m1 l).2 (m1 l).1 := by
 have h1 := Zas l 1 80 (by decide)
 have h3 := Zas l 3 28 (by decide)
 unfold m1
 split
 ·refine ⟨fun r hr => ?_, List.pairwise_singleton _ _⟩
  rw [List.mem_singleton] at hr
  subst hr
  refine ⟨⟨?_, ?_, Int.le_refl _, .inl ?_, .inr (.inl rfl), .inr (.inr ⟨rfl, rfl, ?_, ?_⟩), clockB_dr l 4, by show (-3600 : Int) ≤ 0 ∧ (0 : Int) ≤ 7200; decide, List.Mem.tail _ (.head _)⟩, ?_, ?_, .inl rfl⟩
  ·show 1900 ≤ 1900 + atB l 1 80; omega
  ·show 1900 + atB l 1 80 ≤ 2149; omega
  ·show 1900 + atB l 1 80 ≤ 2149; omega
  ·show 1 ≤ 1 + atB l 3 28; omega
  ·show 1 + atB l 3 28 ≤ 28; omega
  ·show 1900 + atB l 1 80 < 1900 + atB l 1 80 + 1; omega
  ·show 1900 + atB l 1 80 ≤ 2149; omega
 ·exact ⟨fun r hr => (by cases hr), List.Pairwise.nil⟩
theorem m2_pre (l : List Int) (o : List Zaa) (f : Int) (h : Pre17 (ZbA l) f o) (h1 : 1900 ≤ f) (h2 : f ≤ 1980) : Pre17 (ZbA l) (m2 l o f).2 (m2 l o f).1 := by
 have h6 := Zas l 6 12 (by decide)
 have h8 := Zas l 8 5 (by decide)
 obtain ⟨_, s1, s2⟩ := save17_rng l
 unfold m2
 split
 ·obtain ⟨p, q, e, hp, hq, p1, p2, q1, q2, sp, sq, hs⟩ := pairB_dr l 7 f (f + atB l 6 12) (ZbA l) h1 (by omega) (by omega) (.inl (by omega)) ⟨s1, s2⟩
  rw [e]
  refine ⟨fun r hr => ?_, h.two p1 q1 sp sq⟩
  dsimp only at hr ⊢
  rw [List.mem_append] at hr
  rcases hr with hr | hr
  ·obtain ⟨a, b, c, d⟩ := h.rule r hr
   exact ⟨a, by omega, c, d⟩
  ·simp only [List.mem_cons, List.not_mem_nil, or_false] at hr
   rcases hr with rfl | rfl
   ·exact ⟨hp, by omega, by omega, by omega⟩
   ·exact ⟨hq, by omega, by omega, by omega⟩
 ·exact h
theorem lastB_app {o : List Zaa} {p q : Zaa} (ho : ∀ r ∈ o, r.to ≤ 2149) (hpq : p.to = q.to) (hs : (p.save = 0 ∧ q.save ≠ 0) ∨ (p.save ≠ 0 ∧ q.save = 0)) (hm : p.month ≠ q.month) (h1 : Zec p = true) (h2 : Zec q = true) : lastB (o ++ [p, q]) = true := by
 have e : o.filter (fun r => decide (r.to = 1048576)) = [] := List.filter_eq_nil_iff.2 fun r hr => by
  have := ho r hr
  simp
  omega
 unfold lastB
 rw [List.filter_append, e, List.nil_append]
 by_cases h : q.to = 1048576
 ·rw [List.filter_cons, if_pos (by simp; omega), List.filter_cons, if_pos (by simp; omega), List.filter_nil]
  dsimp only
  rw [h1, h2]
  rcases hs with ⟨a, b⟩ | ⟨a, b⟩ <;> simp [a, b, hm]
 ·rw [List.filter_cons, if_neg (by simp; omega), List.filter_cons, if_neg (by simp; omega), List.filter_nil]
theorem _root_.Go.Wk.DrRule.named (x : ByteArray) {r : Zaa} (h : DrRule r) : DrRule (ZcE x r) := ⟨h.f0, h.f1, h.ft, h.t1, h.mon, h.day, h.clk, h.save, h.letter⟩
theorem made17_set (l : List Int) (x : ByteArray) : ZbO (ZbJ l x) := by
 obtain ⟨_, a1, a2⟩ := m1_rng l
 have p1 := m1_pre l
 obtain ⟨_, b1, b2⟩ := m2_rng l (m1 l).1 (m1 l).2 (by have := (m1_rng l).1; exact this) a1 a2
 have p2 := m2_pre l _ _ p1 a1 a2
 obtain ⟨s0, s1, s2⟩ := save17_rng l
 have h9 := Zas l 9 6 (by decide)
 unfold ZbJ m3
 generalize (m2 l (m1 l).1 (m1 l).2).2 = f at *
 generalize (m2 l (m1 l).1 (m1 l).2).1 = o at *
 have ht : f ≤ to17 l f ∧ (to17 l f ≤ 2149 ∨ to17 l f = 1048576) := by unfold to17; split <;> omega
 obtain ⟨p, q, e, hp, hq, e1, e2, e3, e4, sp, sq, hs⟩ := pairB_dr l 11 f (to17 l f) (ZbA l) b1 (by omega) ht.1 ht.2 ⟨s1, s2⟩
 rw [e]
 have hd := p2.two e1 e3 sp sq
 have hall : ∀ r ∈ o ++ [p, q], DrRule r ∧ (r.save = 0 ∨ r.save = ZbA l) := fun r hr => by
  rw [List.mem_append] at hr
  rcases hr with hr | hr
  ·obtain ⟨a, _, _, d⟩ := p2.rule r hr
   exact ⟨a, d⟩
  ·simp only [List.mem_cons, List.not_mem_nil, or_false] at hr
   rcases hr with rfl | rfl
   ·exact ⟨hp, by omega⟩
   ·exact ⟨hq, by omega⟩
 have mp : ZcE x p ∈ (o ++ [p, q]).map (ZcE x) := List.mem_map.2 ⟨p, by simp, rfl⟩
 have mq : ZcE x q ∈ (o ++ [p, q]).map (ZcE x) := List.mem_map.2 ⟨q, by simp, rfl⟩
 refine ⟨fun r hr => ?_, List.pairwise_map.2 hd, ⟨ZbA l, s0, fun r hr => ?_, ?_, ?_⟩, ?_⟩
 ·obtain ⟨r', h1, rfl⟩ := List.mem_map.1 hr
  exact (hall r' h1).1.named x
 ·obtain ⟨r', h1, rfl⟩ := List.mem_map.1 hr
  exact (hall r' h1).2
 ·rcases hs with ⟨h1, _⟩ | ⟨_, h1⟩
  ·exact ⟨_, mp, h1⟩
  ·exact ⟨_, mq, h1⟩
 ·rcases hs with ⟨_, h1⟩ | ⟨h1, _⟩
  ·exact ⟨_, mq, h1⟩
  ·exact ⟨_, mp, h1⟩
 ·rw [List.map_append]
  refine lastB_app (p := ZcE x p) (q := ZcE x q) (fun r hr => ?_) (e2.trans e4.symm) ?_ ?_ (posix_dr (r := ZcE x p) hp.day) (posix_dr (r := ZcE x q) hq.day)
  ·obtain ⟨r', h1, rfl⟩ := List.mem_map.1 hr
   exact (p2.rule r' h1).2.2.1
  ·show (p.save = 0 ∧ q.save ≠ 0) ∨ (p.save ≠ 0 ∧ q.save = 0)
   omega
  ·show p.month ≠ q.month
   intro hh
   rw [hh, sq] at sp
   cases sp
theorem Zev (l : List Int) (x : ByteArray) : ∀ r ∈ ZbJ l x, r.name = x := fun r hr => by
 obtain ⟨r', _, rfl⟩ := List.mem_map.1 hr
 rfl
def fmtU : List ByteArray := [⟨#[76, 77, 84]⟩, ⟨#[71, 77, 84, 47, 66, 83, 84]⟩, ⟨#[67, 69, 37, 115, 84]⟩, ⟨#[37, 122]⟩, ⟨#[67, 69, 84, 47, 67, 69, 83, 84]⟩, ⟨#[69, 69, 37, 115, 84]⟩, ⟨#[69, 37, 115, 83, 84]⟩, ⟨#[87, 83, 84]⟩]
def DrTil (u : Za6) (Y : Int) : Prop := (∃ D S B, u = ⟨true, Y, 12, ⟨1, 0, D⟩, ⟨S, B⟩⟩ ∧ 5 ≤ D ∧ D ≤ 24 ∧ 0 ≤ S ∧ S ≤ 86400 ∧ 0 ≤ B ∧ B ≤ 2) ∨
 (∃ d S B, u = ⟨true, Y + 1, 1, d, ⟨S, B⟩⟩ ∧ ((d.kind = 1 ∧ d.week = 0 ∧ 1 ≤ d.day ∧ d.day ≤ 20) ∨ (d.kind = 3 ∧ (0 ≤ d.week ∧ d.week ≤ 6) ∧ d.day = 8)) ∧ 0 ≤ S ∧ S ≤ 86400 ∧ 0 ≤ B ∧ B ≤ 2)
theorem til_nom {y m : Int} {d : DDay} {S B least x : Int} (hy : 1850 ≤ y ∧ y ≤ 2149) (h0 : onD y m d = (x, 0)) (h3 : 0 ≤ S) (h4 : S ≤ 86400) (h5 : 0 ≤ B) (h6 : B ≤ 2) (hl : -3600 ≤ least ∧ least ≤ 0) :
  ZaU ⟨true, y, m, d, ⟨S, B⟩⟩ least = 0 ∧ ZaE ⟨true, y, m, d, ⟨S, B⟩⟩ least = (86400 * x + S + (if B = 1 then least else 0), 0) := by
 have e1 : ZaU ⟨true, y, m, d, ⟨S, B⟩⟩ least = 0 := by
  have hc : Za7 ⟨S, B⟩ = true := by
   unfold Za7
   simp
   omega
  unfold ZaU
  dsimp only
  rw [if_neg (by omega), if_neg (by decide), if_neg (by rw [hc]; simp; omega), h0, if_neg]
  rintro (h | h | h)
  ·exact h rfl
  ·split at h <;> omega
  ·split at h <;> omega
 refine ⟨e1, ?_⟩
 unfold ZaE
 rw [if_neg (by rw [e1]; decide), h0]
theorem jan_on {y : Int} {d : DDay} (hy : 1850 ≤ y ∧ y ≤ 2149) (hd : (d.kind = 1 ∧ d.week = 0 ∧ 1 ≤ d.day ∧ d.day ≤ 20) ∨ (d.kind = 3 ∧ (0 ≤ d.week ∧ d.week ≤ 6) ∧ d.day = 8)) : ∃ x, onD y 1 d = (x, 0) ∧ mar1 (y - 1) + 306 ≤ x ∧ x ≤ mar1 (y - 1) + 325 := by
 have hin : inY y = true := by
  unfold inY
  simp
  omega
 have hL := lenM_28 y 1 (by decide) (by decide)
 have hok : Zb0 y 1 1 = true := by
  unfold Zb0
  rw [hin]
  simp
  omega
 have hn : ZbM y 1 1 = mar1 (y - 1) + 306 := by
  unfold ZbM
  rw [if_pos (by decide)]
  unfold dayNoM mar1
  rw [show Zbf.getD ((1 : Int) + 12 - 3).toNat 0 = 306 by decide]
  omega
 have hdd : DrDay d := by
  obtain ⟨k, wk, dd⟩ := d
  dsimp only at hd
  rcases hd with ⟨rfl, rfl, h1, h2⟩ | ⟨rfl, h1, rfl⟩
  ·exact .inr (.inr ⟨rfl, rfl, h1, by dsimp only; omega⟩)
  ·exact .inr (.inl ⟨rfl, h1.1, h1.2, by show (1 : Int) ≤ 8; decide, by show (8 : Int) ≤ 22; decide, by show (8 : Int).tmod 7 = 1; decide⟩)
 unfold onD
 rw [if_neg (by rw [hok]; decide), if_neg (by rw [hdd.chk]; decide), if_neg (by omega), hn]
 refine ⟨_, rfl, ?_⟩
 unfold findD
 rcases hd with ⟨h1, _, h2, h3⟩ | ⟨h1, _, h2⟩
 ·rw [if_pos h1]
  omega
 ·rw [if_neg (by omega), if_neg (by omega), if_pos h1, h2]
  unfold behindW
  omega
theorem DrTil.nom {u : Za6} {Y least : Int} (h : DrTil u Y) (hY : 1850 ≤ Y ∧ Y ≤ 2148) (hl : -3600 ≤ least ∧ least ≤ 0) :
  u.is = true ∧ ZaU u least = 0 ∧ ∃ n, ZaE u least = (n, 0) ∧ 86400 * (mar1 Y + 279) - 3600 ≤ n ∧ n ≤ 86400 * (mar1 Y + 327) := by
 rcases h with ⟨D, S, B, rfl, h1, h2, h3, h4, h5, h6⟩ | ⟨d, S, B, rfl, hd, h3, h4, h5, h6⟩
 ·have hin : inY Y = true := by
   unfold inY
   simp
   omega
  have hL := lenM_28 Y 12 (by decide) (by decide)
  have hdd : DrDay ⟨1, 0, D⟩ := .inr (.inr ⟨rfl, rfl, by show 1 ≤ D; omega, by show D ≤ 28; omega⟩)
  have e0 : onD Y 12 ⟨1, 0, D⟩ = (mar1 Y + 275 + D - 1, 0) := by
   have hok : Zb0 Y 12 1 = true := by
    unfold Zb0
    rw [hin]
    simp
    omega
   unfold onD
   rw [if_neg (by rw [hok]; decide), if_neg (by rw [hdd.chk]; decide), if_neg (by show ¬ lenM Y 12 < D; omega), dayNo_mar _ _ _ (by decide), show Zbf.getD ((12 : Int) - 3).toNat 0 = 275 by decide]
   unfold findD
   rw [if_pos rfl]
   dsimp only
   rw [show mar1 Y + 275 + 1 - 1 + D - 1 = mar1 Y + 275 + D - 1 by omega]
  obtain ⟨e1, e2⟩ := til_nom (B := B) (by omega) e0 h3 h4 h5 h6 hl
  refine ⟨rfl, e1, _, e2, ?_⟩
  split <;> omega
 ·obtain ⟨x, e0, e3, e4⟩ := jan_on (y := Y + 1) (by omega) hd
  rw [show Y + 1 - 1 = Y by omega] at e3 e4
  obtain ⟨e1, e2⟩ := til_nom (B := B) (by omega) e0 h3 h4 h5 h6 hl
  refine ⟨rfl, e1, _, e2, ?_⟩
  split <;> omega
def Zbs (rs : List Zaa) (e : DEra) (first : Bool) : Prop :=
 (e.kind = 0 ∧ e.save = 0 ∧ e.set = ByteArray.empty ∧ -46800 ≤ e.off ∧ e.off ≤ 46800 ∧ e.format ∈ fmtU) ∨
 (e.kind = 1 ∧ (1800 ≤ e.save ∧ e.save ≤ 7200) ∧ e.set = ByteArray.empty ∧ -46800 ≤ e.off ∧ e.off ≤ 46800 ∧ e.format ∈ fmtU) ∨
 (e.kind = 2 ∧ first = false ∧ e.save = 0 ∧ -43200 ≤ e.off ∧ e.off ≤ 43200 ∧ e.format ∈ fmtU ∧ ZbO (ofB rs e.set) ∧ (ofB rs e.set).length ≤ 5)
theorem textN_ok' (x : Int) (h : -86400 < x ∧ x < 86400) : Zb3 x ≠ [] := by
 unfold Zb3
 rw [if_neg (by omega)]
 exact fun hh => by cases hh
theorem joinN_ok (off : Int) : ∀ l : List Int, (∀ x ∈ l, -86400 < off + x ∧ off + x < 86400) → ∃ r, joinN off l = some r
 | [], _ => ⟨_, rfl⟩
 | x :: l, h => by
  obtain ⟨r, hr⟩ := joinN_ok off l fun y hy => h y (List.mem_cons_of_mem _ hy)
  have hx := h x List.mem_cons_self
  refine ⟨Zb3 (off + x) :: r, ?_⟩
  rw [joinN, if_neg (by
   rintro (hh | hh)
   ·unfold Zdr at hh; simp at hh; omega
   ·exact textN_ok' _ hx hh), hr]
theorem firstErr_ok {f : List UInt8} : ∀ l : List (List UInt8), (∀ x ∈ l, (Zcg f 0 0 x).2 = 0) → ZdZ f l = 0
 | [], _ => rfl
 | x :: l, h => by
  rw [ZdZ, if_pos (h x List.mem_cons_self)]
  exact firstErr_ok l fun y hy => h y (List.mem_cons_of_mem _ hy)
def fmtsL : List (List UInt8) := [[76, 77, 84], [71, 77, 84, 47, 66, 83, 84], [67, 69, 84, 47, 67, 69, 83, 84], [87, 83, 84]]
def fmtsS : List (List UInt8) := [[67, 69, 37, 115, 84], [69, 69, 37, 115, 84], [69, 37, 115, 83, 84]]
def lets4L : List (List UInt8) := [[], [83], [68], [68, 84]]
theorem Zc7 : (∀ f ∈ fmtsL, ZbK f = 1 ∨ ZbK f = 2) ∧ (∀ f ∈ fmtsS, ZbK f = 3 ∧ ∀ x ∈ lets4L, (Zcg f 0 0 x).2 = 0) ∧ ZbK [37, 122] = 4 := by decide +kernel
theorem fmt_cases {f : ByteArray} (h : f ∈ fmtU) : f.data.toList ∈ fmtsL ∨ f.data.toList ∈ fmtsS ∨ f.data.toList = [37, 122] := by
 have h1 : ∀ f ∈ fmtU, f.data.toList ∈ fmtsL ∨ f.data.toList ∈ fmtsS ∨ f.data.toList = [37, 122] := by decide
 exact h1 f h
theorem lets_mem {x : ByteArray} (h : x ∈ [ByteArray.empty, (⟨#[83]⟩ : ByteArray), ⟨#[68]⟩, ⟨#[68, 84]⟩]) : x.data.toList ∈ lets4L := by
 have : ∀ x ∈ [ByteArray.empty, (⟨#[83]⟩ : ByteArray), ⟨#[68]⟩, ⟨#[68, 84]⟩], x.data.toList ∈ lets4L := by decide
 exact this x h
theorem fmtChk_ok {e : DEra} {l : List Zaa} (hf : e.format ∈ fmtU) (hk : e.kind = 0 ∨ e.kind = 1 ∨ e.kind = 2) (h0 : -86400 < e.off ∧ e.off < 86400) (h1 : e.kind = 1 → -86400 < e.off + e.save ∧ e.off + e.save < 86400)
  (h2 : e.kind = 2 → (∀ r ∈ l, r.letter.data.toList ∈ lets4L) ∧ (Zc1 l).2 = true ∧ -86400 < e.off + (Zc1 l).1 ∧ e.off + (Zc1 l).1 < 86400) : fmtChk e l = 0 := by
 unfold fmtChk
 dsimp only
 rcases fmt_cases hf with h | h | h
 ·rcases Zc7.1 _ h with h | h <;> rw [h] <;> simp
 ·obtain ⟨h3, h4⟩ := Zc7.2.1 _ h
  rw [h3, if_neg (by decide), if_pos rfl]
  refine firstErr_ok _ fun x hx => h4 x ?_
  split at hx
  ·rename_i hk2
   obtain ⟨r, hr, rfl⟩ := List.mem_map.1 hx
   exact (h2 hk2).1 r hr
  ·rw [List.mem_singleton] at hx
   subst hx
   decide
 ·have he : (expandN e l).2 = 0 := by
   have hj : ∀ s : List Int, (∀ x ∈ s, -86400 < e.off + x ∧ e.off + x < 86400) → (match joinN e.off s with | none => (([], 3) : List UInt8 × Int) | some r => (ZcW r, 0)).2 = 0 := fun s hs => by
    obtain ⟨r, hr⟩ := joinN_ok e.off s hs
    rw [hr]
   unfold expandN
   dsimp only
   rcases hk with hk | hk | hk
   ·rw [if_pos hk]
    exact hj [0] fun x hx => by rw [List.mem_singleton] at hx; subst hx; omega
   ·rw [if_neg (by omega), if_pos hk]
    exact hj [e.save] fun x hx => by rw [List.mem_singleton] at hx; subst hx; exact h1 hk
   ·obtain ⟨_, h3, h4⟩ := h2 hk
    rw [if_neg (by omega), if_neg (by omega), if_pos hk, if_pos h3]
    exact hj [0, (Zc1 l).1] fun x hx => by
     simp only [List.mem_cons, List.not_mem_nil, or_false] at hx
     rcases hx with rfl | rfl
     ·omega
     ·exact h4
  rw [h, Zc7.2.2, if_neg (by decide), if_neg (by decide), if_pos (.inl rfl), if_neg]
  rw [he]
  rintro (hh | ⟨hh, _⟩)
  ·exact hh rfl
  ·cases hh
theorem Zbs.fmt {rs : List Zaa} {e : DEra} {first : Bool} (h : Zbs rs e first) : e.format ∈ fmtU := by
 rcases h with ⟨_, _, _, _, _, h⟩ | ⟨_, _, _, _, _, h⟩ | ⟨_, _, _, _, _, h, _⟩
 ·exact h
 ·exact h
 ·exact h
theorem Zbs.states {rs : List Zaa} {e : DEra} {first : Bool} (h : Zbs rs e first) : (ZaP rs e).length ≤ 5 ∧ (∀ x ∈ ZaP rs e, -54000 ≤ e.off + x.1 ∧ e.off + x.1 ≤ 54000) ∧ -54000 ≤ e.off ∧ e.off ≤ 54000 ∧ (Zbd rs e = [] ∨ ZbO (Zbd rs e)) := by
 unfold ZaP Zbd
 rcases h with ⟨hk, hs, _, h1, h2, _⟩ | ⟨hk, hs, _, h1, h2, _⟩ | ⟨hk, _, _, h1, h2, _, h3, h4⟩
 ·rw [if_neg (by omega), if_neg (by omega), if_neg (by omega)]
  refine ⟨by simp, fun x hx => ?_, by omega, by omega, .inl rfl⟩
  rw [List.mem_singleton] at hx
  subst hx
  dsimp only
  omega
 ·rw [if_pos hk, if_neg (by omega)]
  refine ⟨by simp, fun x hx => ?_, by omega, by omega, .inl rfl⟩
  rw [List.mem_singleton] at hx
  subst hx
  dsimp only
  omega
 ·rw [if_neg (by omega), if_pos hk, if_pos hk]
  refine ⟨by rw [List.length_map]; exact h4, fun x hx => ?_, by omega, by omega, .inr h3⟩
  obtain ⟨r, hr, rfl⟩ := List.mem_map.1 hx
  have := (h3.rule r hr).save
  dsimp only
  omega
theorem leastD_nil : Zaj [] = 0 := rfl
theorem Zbs.least {rs : List Zaa} {e : DEra} {first : Bool} (h : Zbs rs e first) : -3600 ≤ Zaj (Zbd rs e) ∧ Zaj (Zbd rs e) ≤ 0 := by
 obtain ⟨_, _, _, _, hs⟩ := h.states
 rcases hs with hs | hs
 ·rw [hs, leastD_nil]; decide
 ·exact hs.least
theorem Zbs.chk {rs : List Zaa} {e : DEra} {first : Bool} (h : Zbs rs e first) (hu : e.til.is = true ∨ e.til = noTil) : ZeC rs e first = 0 := by
 obtain ⟨_, s2, s3, s4, _⟩ := h.states
 have hun : unusedB e = false := by
  have ht : (!e.til.is && !decide ({ e.til with is := false } = dU0)) = false := by
   rcases hu with hu | hu
   ·rw [hu]; rfl
   ·rw [hu]; decide
  unfold unusedB
  rw [ht]
  rcases h with ⟨hk, hs, he, _⟩ | ⟨hk, hs, he, _⟩ | ⟨hk, _, hs, _⟩
  ·rw [hk, hs, he]; decide
  ·rw [hk, he]; simp
  ·rw [hk, hs]; simp
 have hf : fmtChk e (Zbd rs e) = 0 := by
  refine fmtChk_ok h.fmt ?_ (by omega) ?_ ?_
  ·rcases h with ⟨hk, _⟩ | ⟨hk, _⟩ | ⟨hk, _⟩
   ·exact .inl hk
   ·exact .inr (.inl hk)
   ·exact .inr (.inr hk)
  ·intro hk
   have := s2 (e.save, ByteArray.empty) (by unfold ZaP; rw [if_pos hk]; exact List.mem_singleton.2 rfl)
   dsimp only at this
   omega
  ·intro hk
   rcases h with ⟨hk2, _⟩ | ⟨hk2, _⟩ | ⟨_, _, _, h1, h2, _, h3, h4⟩
   ·omega
   ·omega
   rw [Zbd, if_pos hk]
   obtain ⟨s, _, q1, q2, q3, _⟩ := h3.other
   rw [q3]
   exact ⟨fun r hr => lets_mem (h3.rule r hr).letter, rfl, by dsimp only; omega, by dsimp only; omega⟩
 have hkk : (0 ≤ e.kind ∧ e.kind ≤ 2) ∧ (¬ (first = true ∧ e.kind = 2)) ∧ (¬ (e.kind = 2 ∧ Zbd rs e = [])) ∧ ¬ (e.kind = 1 ∧ (e.save < 1 ∨ 10800 < e.save)) := by
  rcases h with ⟨hk, _⟩ | ⟨hk, hs, _⟩ | ⟨hk, hf, _, _, _, _, h3, _⟩
  ·exact ⟨by omega, by omega, by omega, by omega⟩
  ·exact ⟨by omega, by omega, by omega, by omega⟩
  ·refine ⟨by omega, by rw [hf]; simp, ?_, by omega⟩
   rintro ⟨_, hn⟩
   rw [Zbd, if_pos hk] at hn
   obtain ⟨_, _, _, ⟨r, hr, _⟩, _⟩ := h3.saves
   rw [hn] at hr
   cases hr
 unfold ZeC
 rw [if_neg (by omega), if_neg hkk.2.1, if_neg hkk.2.2.1, if_neg hkk.2.2.2, if_neg, if_neg (by rw [hun]; decide), hf]
 rintro (hh | hh)
 ·unfold Zci at hh; simp at hh; omega
 ·obtain ⟨x, hx, hh⟩ := List.any_eq_true.1 hh
  have := s2 x hx
  unfold Zci at hh
  simp at hh
  omega
structure Zbr (rs : List Zaa) (l : List DEra) (Y : Nat → Int) : Prop where
 len : 1 ≤ l.length ∧ l.length ≤ 4
 era : ∀ k e, l[k]? = some e → Zbs rs e (decide (k = 0))
 yr : ∀ k, k + 1 < l.length → 1850 ≤ Y k ∧ Y k ≤ 2148
 inc : ∀ k, k + 2 < l.length → Y k < Y (k + 1)
 til : ∀ k e, l[k]? = some e → if k + 1 < l.length then DrTil e.til (Y k) else e.til = noTil
theorem getD_of {α : Type} {l : List α} {k : Nat} {d : α} (h : k < l.length) : ∃ e, l[k]? = some e ∧ l.getD k d = e := ⟨l[k], List.getElem?_eq_getElem h, by rw [List.getD_eq_getElem?_getD, List.getElem?_eq_getElem h]; rfl⟩
theorem ZbO.far_til {l : List Zaa} (h : ZbO l) {n Y : Int} (h1 : 86400 * (mar1 Y + 279) - 3600 ≤ n) (h2 : n ≤ 86400 * (mar1 Y + 327)) : farD l n = true := by
 refine h.farD_of n fun j r y e hj he => ?_
 obtain ⟨_, _, _, _, b1, b2⟩ := (h.rule r (List.mem_of_getElem? hj)).ev h.least he
 have hb := loS_bd r.month
 rcases Int.lt_or_le Y y with hy | hy
 ·have := mar1_lt hy
  omega
 ·have := mar1_le hy
  omega
theorem Zbr.endOk {rs : List Zaa} {l : List DEra} {Y : Nat → Int} (h : Zbr rs l Y) {k : Nat} (hk : k < l.length) : endChk rs l k = 0 := by
 obtain ⟨e, he, hd⟩ := getD_of (d := dE0) hk
 have hE := h.era k e he
 have hT := h.til k e he
 unfold endChk
 dsimp only
 rw [hd]
 by_cases hl : k + 1 < l.length
 ·rw [if_pos hl] at hT
  obtain ⟨t1, t2, n, t3, t4, t5⟩ := hT.nom (h.yr k hl) hE.least
  rw [if_neg (by rw [t1, decide_eq_true hl]; simp), if_neg (by rw [t1]; decide), if_neg (by rw [t2]; decide), t3, if_neg, if_neg]
  ·rintro ⟨hk2, hf⟩
   obtain ⟨_, _, _, _, hs⟩ := hE.states
   rcases hs with hs | hs
   ·rcases hE with ⟨hk3, _⟩ | ⟨hk3, _⟩ | ⟨_, _, _, _, _, _, h3, _⟩
    ·omega
    ·omega
    ·rw [Zbd, if_pos hk2] at hs
     obtain ⟨_, _, _, ⟨r, hr, _⟩, _⟩ := h3.saves
     rw [hs] at hr
     cases hr
   ·rw [hs.far_til t4 t5] at hf
    cases hf
  ·rintro ⟨hk0, hh⟩
   obtain ⟨b, hb, hbd⟩ := getD_of (l := l) (k := k - 1) (d := dE0) (by omega)
   rw [hbd] at hh
   have hT2 := h.til (k - 1) b hb
   rw [if_pos (by omega)] at hT2
   obtain ⟨_, _, m, m3, m4, m5⟩ := hT2.nom (h.yr (k - 1) (by omega)) (h.era (k - 1) b hb).least
   rw [m3] at hh
   have hy := h.inc (k - 1) (by omega)
   rw [show k - 1 + 1 = k by omega] at hy
   have := mar1_lt hy
   rcases hh with hh | hh
   ·exact hh rfl
   ·dsimp only at hh
    omega
 ·rw [if_neg hl] at hT
  have ht : e.til.is = false := by rw [hT]; rfl
  rw [if_neg (by rw [ht, decide_eq_false hl]; simp), if_pos ht]
theorem Zbr.eraOk {rs : List Zaa} {l : List DEra} {Y : Nat → Int} (h : Zbr rs l Y) {k : Nat} (hk : k < l.length) : ZeC rs (l.getD k dE0) (decide (k = 0)) = 0 := by
 obtain ⟨e, he, hd⟩ := getD_of (d := dE0) hk
 rw [hd]
 refine (h.era k e he).chk ?_
 have hT := h.til k e he
 split at hT
 ·rcases hT with ⟨_, _, _, hh, _⟩ | ⟨_, _, _, hh, _⟩ <;> exact .inl (by rw [hh])
 ·exact .inr hT
theorem Zbr.go {rs : List Zaa} {l : List DEra} {Y : Nat → Int} (h : Zbr rs l Y) (i : Nat) : ∀ f k, k + f ≤ l.length → ZdF rs l i f k = none
 | 0, _, _ => rfl
 | f + 1, k, hk => by
  rw [ZdF, if_neg (by rw [h.eraOk (by omega)]; decide), if_neg (by rw [h.endOk (by omega)]; decide)]
  exact h.go i f (k + 1) (by omega)
theorem dig2_len' (n : Int) : (dig2 n).length = 2 := rfl
theorem textN_len' (x : Int) : (Zb3 x).length ≤ 7 := by
 unfold Zb3
 split
 ·exact Nat.zero_le _
 ·simp only [List.length_cons, List.length_append, dig2_len']
  have h : ∀ (c : Prop) [Decidable c] (n : Int), (if c then ([] : List UInt8) else dig2 n).length ≤ 2 := fun c _ n => by
   split
   ·exact Nat.zero_le _
   ·exact Nat.le_refl _
  have h1 := h
  generalize ha : (if (if x < 0 then -x else x) % 3600 = 0 then ([] : List UInt8) else dig2 ((if x < 0 then -x else x) / 60 % 60)) = a
  generalize hb : (if (if x < 0 then -x else x) % 60 = 0 then ([] : List UInt8) else dig2 ((if x < 0 then -x else x) % 60)) = b
  have h2 : a.length ≤ 2 := by rw [← ha]; exact h _ _
  have h3 : b.length ≤ 2 := by rw [← hb]; exact h _ _
  omega
theorem fmtsL_parts : ∀ f ∈ fmtsL, (match ZcZ f with | none => decide (ZbK f = 1) && decide (f.length ≤ 7) | some (a, b) => decide (a.length ≤ 7) && decide (b.length ≤ 7)) = true := by decide +kernel
theorem ZdX : (∀ f ∈ fmtsS, ZcZ f = none) ∧ ZcZ [37, 122] = none := by decide +kernel
theorem abbr_len {f : ByteArray} (h : f ∈ fmtU) (off save : Int) (x : List UInt8) : (Zcg f.data.toList off save x).1.length ≤ 7 := by
 rcases fmt_cases h with h | h | h
 ·have hp := fmtsL_parts _ h
  unfold Zcg
  cases hq : ZcZ f.data.toList with
  | none =>
   rw [hq] at hp
   simp at hp
   dsimp only
   rw [hp.1, if_neg (by decide), if_neg (by decide), if_pos (.inl rfl)]
   rw [Array.length_toList]
   exact hp.2
  | some ab =>
   obtain ⟨a, b⟩ := ab
   rw [hq] at hp
   simp at hp
   dsimp only
   split
   ·exact hp.1
   ·exact hp.2
 ·obtain ⟨hk, _⟩ := Zc7.2.1 _ h
  unfold Zcg
  rw [ZdX.1 _ h, hk]
  dsimp only
  rw [if_pos rfl]
  cases Zcb f.data.toList with
  | none => exact Nat.zero_le _
  | some ab =>
   obtain ⟨a, b⟩ := ab
   dsimp only
   split
   ·rename_i hh
    unfold ZcN Zc2 at hh
    simp only [Bool.and_eq_true, decide_eq_true_eq] at hh
    dsimp only
    omega
   ·exact Nat.zero_le _
 ·unfold Zcg
  rw [h, ZdX.2, Zc7.2.2]
  dsimp only
  rw [if_neg (by decide), if_pos rfl]
  split
  ·exact textN_len' _
  ·exact Nat.zero_le _
theorem sizeA_snoc' (x : List UInt8) : ∀ l, ZcX (l ++ [x]) = ZcX l + x.length + 1
 | [] => by simp [ZcX]
 | y :: l => by rw [List.cons_append, ZcX, sizeA_snoc' x l, ZcX]; omega
theorem addP_len' (x : Int × List UInt8) (l : List (Int × List UInt8)) : (addP x l).length ≤ l.length + 1 := by
 unfold addP
 split
 ·omega
 ·rw [List.length_append]; exact Nat.le_refl _
theorem addA_size (x : List UInt8) (l : List (List UInt8)) : ZcX (addA x l) ≤ ZcX l + x.length + 1 := by
 unfold addA
 split
 ·omega
 ·rw [sizeA_snoc']; exact Nat.le_refl _
theorem stGo_len {e : DEra} (he : e.format ∈ fmtU) : ∀ (l : List (Int × ByteArray)) (acc : List (Int × List UInt8) × List (List UInt8)), (stGo e l acc).1.length ≤ acc.1.length + l.length ∧ ZcX (stGo e l acc).2 ≤ ZcX acc.2 + 8 * l.length
 | [], acc => by simp [stGo]
 | x :: l, acc => by
  have h1 := addP_len' (e.off + x.1, (Zcg e.format.data.toList e.off x.1 x.2.data.toList).1) acc.1
  have h2 := addA_size (Zcg e.format.data.toList e.off x.1 x.2.data.toList).1 acc.2
  have h3 := abbr_len he e.off x.1 x.2.data.toList
  have h4 := stGo_len he l (addP (e.off + x.1, (Zcg e.format.data.toList e.off x.1 x.2.data.toList).1) acc.1, addA (Zcg e.format.data.toList e.off x.1 x.2.data.toList).1 acc.2)
  rw [stGo]
  dsimp only at h4 ⊢
  rw [List.length_cons]
  omega
theorem erGo_len (rs : List Zaa) : ∀ (l : List DEra) (acc : List (Int × List UInt8) × List (List UInt8)), (∀ e ∈ l, ∃ b, Zbs rs e b) → (erGo rs l acc).1.length ≤ acc.1.length + 5 * l.length ∧ ZcX (erGo rs l acc).2 ≤ ZcX acc.2 + 40 * l.length
 | [], acc, _ => by simp [erGo]
 | e :: l, acc, h => by
  obtain ⟨b, hb⟩ := h e List.mem_cons_self
  have h1 := stGo_len hb.fmt (ZaP rs e) acc
  have h2 := erGo_len rs l (stGo e (ZaP rs e) acc) fun x hx => h x (List.mem_cons_of_mem _ hx)
  have h3 := hb.states.1
  rw [erGo, List.length_cons]
  omega
theorem Zbr.few {rs : List Zaa} {z : ZaN} {Y : Nat → Int} (h : Zbr rs z.eras Y) : fewB25 rs z = true := by
 have h1 := erGo_len rs z.eras ([], []) fun e he => by
  obtain ⟨k, hk, rfl⟩ := List.mem_iff_getElem.1 he
  exact ⟨_, h.era k _ (List.getElem?_eq_getElem hk)⟩
 have h2 := h.len
 unfold fewB25
 have e0 : ZcX [] = 0 := rfl
 rw [e0] at h1
 simp only [List.length_nil] at h1
 rw [decide_eq_true (by omega), decide_eq_true (by omega)]
 rfl
theorem Zeh {rs : List Zaa} : ∀ (l : List ZaN) (i : Nat), (∀ z ∈ l, ∃ Y, Zbr rs z.eras Y) → Zb5 rs l i = none
 | [], _, _ => rfl
 | z :: l, i, h => by
  obtain ⟨Y, hz⟩ := h z List.mem_cons_self
  have hn : z.eras ≠ [] := fun hh => by
   have := hz.len
   rw [hh] at this
   simp at this
  rw [Zb5, if_neg hn, hz.go i z.eras.length 0 (by omega)]
  dsimp only
  rw [if_neg (by rw [hz.few]; decide)]
  exact Zeh l (i + 1) fun x hx => h x (List.mem_cons_of_mem _ hx)
def bare' (z : ZaN) : ZaN := ⟨z.name, []⟩
def bareS (s : Zaf) : Zaf := ⟨[], s.zones.map bare', s.links, []⟩
theorem Zc8 (x : ByteArray) : ∀ (l : List ZaN) (k : Nat), Zaw x (l.map bare') k = Zaw x l k
 | [], _ => rfl
 | z :: l, k => by rw [List.map_cons, Zaw, Zaw, Zc8 x l (k + 1)]; rfl
theorem zoneFault_bare (s : Zaf) : ∀ (l : List ZaN) (i : Nat), ZaR (bareS s) (l.map bare') i = ZaR s l i
 | [], _ => rfl
 | z :: l, i => by
  rw [List.map_cons, ZaR, ZaR, zoneFault_bare s l (i + 1), show (bareS s).zones = s.zones.map bare' from rfl, Zc8]
  rfl
theorem linkFault_bare (s : Zaf) : ∀ (l : List ZaC) (i : Nat), ZaS (bareS s) l i = ZaS s l i
 | [], _ => rfl
 | z :: l, i => by
  rw [ZaS, ZaS, linkFault_bare s l (i + 1), show (bareS s).zones = s.zones.map bare' from rfl, Zc8, Zc8]
  rfl
theorem ZeA (s : Zaf) : ∀ (f : Nat) (seen : List ByteArray) (x : ByteArray), Zar (bareS s) f seen x = Zar s f seen x
 | 0, _, _ => rfl
 | f + 1, seen, x => by
  rw [Zar, Zar, show (bareS s).zones = s.zones.map bare' from rfl, Zc8, show (bareS s).links = s.links from rfl]
  simp only [ZeA s f]
theorem loopFault_bare (s : Zaf) : ∀ (l : List ZaC) (i : Nat), Za4 (bareS s) l i = Za4 s l i
 | [], _ => rfl
 | z :: l, i => by
  rw [Za4, Za4, loopFault_bare s l (i + 1), ZeA]
  rfl
theorem linksD_bare (s : Zaf) : Zb8 s = Zb8 (bareS s) := by
 unfold Zb8
 rw [show (bareS s).zones = s.zones.map bare' from rfl, show (bareS s).links = s.links from rfl, zoneFault_bare, linkFault_bare, loopFault_bare]
theorem ofB_app (a b : List Zaa) (x : ByteArray) : ofB (a ++ b) x = ofB a x ++ ofB b x := List.filter_append _ _
theorem ofB_all {l : List Zaa} {x : ByteArray} (h : ∀ r ∈ l, r.name = x) : ofB l x = l := List.filter_eq_self.2 fun r hr => decide_eq_true (h r hr)
theorem ofB_no {l : List Zaa} {x y : ByteArray} (h : ∀ r ∈ l, r.name = y) (hxy : y ≠ x) : ofB l x = [] := List.filter_eq_nil_iff.2 fun r hr => by
 rw [h r hr]
 simp [hxy]
theorem ZdS : ∀ (l : List Zaa) (acc : List ByteArray), ∀ x ∈ Za0 l acc, x ∈ acc ∨ ∃ r ∈ l, r.name = x
 | [], acc, x, h => .inl h
 | a :: l, acc, x, h => by
  rw [Za0] at h
  split at h
  ·rcases ZdS l acc x h with h | ⟨r, h1, h2⟩
   ·exact .inl h
   ·exact .inr ⟨r, List.mem_cons_of_mem _ h1, h2⟩
  ·rcases ZdS l (acc ++ [a.name]) x h with h | ⟨r, h1, h2⟩
   ·rw [List.mem_append, List.mem_singleton] at h
    rcases h with h | rfl
    ·exact .inl h
    ·exact .inr ⟨a, List.mem_cons_self, rfl⟩
   ·exact .inr ⟨r, List.mem_cons_of_mem _ h1, h2⟩
theorem Zem {rs : List Zaa} : ∀ l : List ByteArray, (∀ x ∈ l, ZcJ rs x = none) → Zdv rs l = none
 | [], _ => rfl
 | x :: l, h => by
  rw [Zdv, h x List.mem_cons_self]
  exact Zem l fun y hy => h y (List.mem_cons_of_mem _ hy)
def sN (j : Nat) : ByteArray := sR ++ dig (j : Int)
theorem sN_ne : ∀ i j : Fin 3, i ≠ j → sN i.val ≠ sN j.val := by decide +kernel
theorem sN_ok : ∀ i : Fin 3, setB (sN i.val) = true := by decide +kernel
theorem ZcK (sets : List (List Int)) : ∀ m, ∀ r ∈ ZaL sets m, ∃ j, j < m ∧ r.name = sN j
 | 0, r, h => by cases h
 | m + 1, r, h => by
  rw [ZaL, List.mem_append] at h
  rcases h with h | h
  ·obtain ⟨j, h1, h2⟩ := ZcK sets m r h
   exact ⟨j, by omega, h2⟩
  ·exact ⟨m, by omega, Zev _ _ r h⟩
theorem rules23_of (sets : List (List Int)) : ∀ m, m ≤ 3 → ∀ j, j < 3 → ofB (ZaL sets m) (sN j) = if j < m then ZbJ (sets.getD j []) (sN j) else []
 | 0, _, j, _ => rfl
 | m + 1, hm, j, hj => by
  rw [ZaL, ofB_app, rules23_of sets m (by omega) j hj]
  by_cases h : j = m
  ·subst h
   rw [if_neg (by omega), if_pos (by omega), List.nil_append]
   exact ofB_all (Zev _ _)
  ·have hno : ofB (ZbJ (sets.getD m []) (sR ++ dig (m : Int))) (sN j) = [] := ofB_no (y := sN m) (Zev _ _) (sN_ne ⟨m, by omega⟩ ⟨j, hj⟩ fun e => h (Fin.mk.inj e).symm)
   rw [hno, List.append_nil]
   by_cases h2 : j < m
   ·rw [if_pos h2, if_pos (by omega)]
   ·rw [if_neg h2, if_neg (by omega)]
theorem ZdP (sets : List (List Int)) (m : Nat) (hm : m ≤ 3) (j : Nat) (hj : j < m) : ZbO (ofB (ZaL sets m) (sN j)) ∧ (ofB (ZaL sets m) (sN j)).length ≤ 5 := by
 rw [rules23_of sets m hm j (by omega), if_pos hj]
 exact ⟨made17_set _ _, made17_len _ _⟩
theorem rules23_sets (sets : List (List Int)) (m : Nat) (hm : m ≤ 3) : Zdv (ZaL sets m) (Za0 (ZaL sets m) []) = none := by
 refine Zem _ fun x hx => ?_
 rcases ZdS _ _ x hx with h | ⟨r, h1, h2⟩
 ·cases h
 ·obtain ⟨j, h3, h4⟩ := ZcK sets m r h1
  rw [← h2, h4]
  exact (ZdP sets m hm j h3).1.fault (sN_ok ⟨j, by omega⟩)
theorem fmt23_mem (n : Int) : fmt23 n ∈ fmtU := by
 have h0 := Int.emod_nonneg n (b := 6) (by decide)
 have h1 := Int.emod_lt_of_pos n (b := 6) (by decide)
 unfold fmt23
 generalize n % 6 = x at *
 have hc : x = 0 ∨ x = 1 ∨ x = 2 ∨ x = 3 ∨ x = 4 ∨ x = 5 := by omega
 rcases hc with rfl | rfl | rfl | rfl | rfl | rfl
 ·exact .head _
 ·exact .tail _ (.head _)
 ·exact .tail _ (.tail _ (.tail _ (.tail _ (.tail _ (.tail _ (.head _))))))
 ·exact .tail _ (.tail _ (.tail _ (.head _)))
 ·exact .tail _ (.tail _ (.tail _ (.tail _ (.head _))))
 ·exact .tail _ (.tail _ (.tail _ (.tail _ (.tail _ (.tail _ (.tail _ (.head _)))))))
theorem era23_dr (rs : List Zaa) (ns : Nat) (hns : 1 ≤ ns) (e : E23) (k : Nat) (year : Int) (fin_ : Bool) (hs : ∀ j, j < ns → ZbO (ofB rs (sN j)) ∧ (ofB rs (sN j)).length ≤ 5) :
  Zbs rs (era23 e (decide ((k : Int) = 0)) ns year fin_) (decide (k = 0)) := by
 have o := tmod_rng e.off 48 (by decide)
 have hf := fmt23_mem e.format
 have hk0 := Int.emod_nonneg e.kind (b := 3) (by decide)
 have hk1 := Int.emod_lt_of_pos e.kind (b := 3) (by decide)
 have hs0 := Int.emod_nonneg e.set (b := 4) (by decide)
 have hs1 := Int.emod_lt_of_pos e.set (b := 4) (by decide)
 have ht0 := Int.emod_nonneg e.set (b := (ns : Int)) (by omega)
 have ht1 := Int.emod_lt_of_pos e.set (b := (ns : Int)) (by omega)
 have hkd : ZdC e (decide ((k : Int) = 0)) = 0 ∨ ZdC e (decide ((k : Int) = 0)) = 1 ∨ (ZdC e (decide ((k : Int) = 0)) = 2 ∧ k ≠ 0) := by
  unfold ZdC
  split
  ·exact .inl rfl
  ·rename_i hh
   have hc : e.kind % 3 = 0 ∨ e.kind % 3 = 1 ∨ e.kind % 3 = 2 := by omega
   rcases hc with hc | hc | hc
   ·exact .inl hc
   ·exact .inr (.inl hc)
   ·refine .inr (.inr ⟨hc, fun hk => hh ⟨?_, hc⟩⟩)
    subst hk
    rfl
 unfold Zbs era23
 dsimp only
 rcases hkd with h | h | ⟨h, hk⟩
 ·refine .inl ⟨h, ?_, ?_, by omega, by omega, hf⟩
  ·unfold save23; rw [if_neg (by omega)]
  ·unfold set23; rw [if_neg (by omega)]
 ·refine .inr (.inl ⟨h, ?_, ?_, by omega, by omega, hf⟩)
  ·unfold save23; rw [if_pos h]; omega
  ·unfold set23; rw [if_neg (by omega)]
 ·have he : set23 e (decide ((k : Int) = 0)) ns = sN (e.set % (ns : Int)).toNat := by
   unfold set23 sN
   rw [if_pos h, Int.toNat_of_nonneg ht0]
  obtain ⟨h1, h2⟩ := hs (e.set % (ns : Int)).toNat (by omega)
  refine .inr (.inr ⟨h, decide_eq_false hk, ?_, by omega, by omega, hf, ?_, ?_⟩)
  ·unfold save23; rw [if_neg (by omega)]
  ·rw [he]; exact h1
  ·rw [he]; exact h2
theorem eras23_get (ns : Int) (l : List E23) : ∀ (c k : Nat) (e : DEra), (ZaK ns l c).1[k]? = some e → k < c ∧ e = era23 (l.getD k e23Z) (decide ((k : Int) = 0)) ns (ZaK ns l (k + 1)).2 (decide ((k : Int) < (l.length : Int) - 1))
 | 0, k, e, h => by simp [ZaK] at h
 | c + 1, k, e, h => by
  have hl := ZdG ns l c
  simp only [ZaK] at h
  rcases Nat.lt_trichotomy k c with hk | hk | hk
  ·rw [List.getElem?_append_left (by omega)] at h
   obtain ⟨h1, h2⟩ := eras23_get ns l c k e h
   exact ⟨by omega, h2⟩
  ·rw [List.getElem?_append_right (by omega), hl, hk, Nat.sub_self] at h
   simp only [List.getElem?_cons_zero, Option.some.injEq] at h
   subst h hk
   exact ⟨by omega, rfl⟩
  ·rw [List.getElem?_eq_none (by simp; omega)] at h
   cases h
theorem eras23_yr (ns : Int) (l : List E23) : ∀ k : Nat, 1904 + k ≤ (ZaK ns l k).2 ∧ (ZaK ns l k).2 ≤ 1904 + 30 * k ∧ (ZaK ns l k).2 < (ZaK ns l (k + 1)).2
 | 0 => by
  have h3 := Int.emod_nonneg (l.getD 0 e23Z).years (b := 30) (by decide)
  simp only [ZaK]
  omega
 | k + 1 => by
  obtain ⟨h1, h2, _⟩ := eras23_yr ns l k
  have h3 := Int.emod_nonneg (l.getD k e23Z).years (b := 30) (by decide)
  have h4 := Int.emod_lt_of_pos (l.getD k e23Z).years (b := 30) (by decide)
  have h5 := Int.emod_nonneg (l.getD (k + 1) e23Z).years (b := 30) (by decide)
  simp only [ZaK] at h1 h2 ⊢
  omega
theorem zone23_dr (rs : List Zaa) (ns : Nat) (hns : 1 ≤ ns) (i : Nat) (l : List E23) (hs : ∀ j, j < ns → ZbO (ofB rs (sN j)) ∧ (ofB rs (sN j)).length ≤ 5) : ∃ Y, Zbr rs (zone23 ns i l).eras Y := by
 have hl := el23_len l
 show ∃ Y, Zbr rs (ZaK ns (el23 l) (el23 l).length).1 Y
 generalize el23 l = m at *
 have hlen := ZdG ns m m.length
 refine ⟨fun k => (ZaK ns m (k + 1)).2 - 1, by omega, fun k e he => ?_, fun k hk => ?_, fun k hk => ?_, fun k e he => ?_⟩
 ·obtain ⟨h1, rfl⟩ := eras23_get ns m m.length k e he
  exact era23_dr rs ns hns _ k _ _ hs
 ·have := eras23_yr ns m (k + 1)
  omega
 ·have := eras23_yr ns m (k + 1)
  show (ZaK ns m (k + 1)).2 - 1 < (ZaK ns m (k + 1 + 1)).2 - 1
  omega
 ·obtain ⟨h1, rfl⟩ := eras23_get ns m m.length k e he
  generalize m.getD k e23Z = x at *
  have o := tmod_rng x.at_ 24 (by decide)
  have b0 := Int.emod_nonneg x.base (b := 3) (by decide)
  have b1 := Int.emod_lt_of_pos x.base (b := 3) (by decide)
  have d0 := Int.emod_nonneg x.day (b := 20) (by decide)
  have d1 := Int.emod_lt_of_pos x.day (b := 20) (by decide)
  have w0 := Int.emod_nonneg x.day (b := 7) (by decide)
  have w1 := Int.emod_lt_of_pos x.day (b := 7) (by decide)
  show if k + 1 < _ then DrTil (til23 x (ZaK ns m (k + 1)).2 (decide ((k : Int) < (m.length : Int) - 1))) ((ZaK ns m (k + 1)).2 - 1) else til23 x (ZaK ns m (k + 1)).2 (decide ((k : Int) < (m.length : Int) - 1)) = noTil
  rw [hlen]
  by_cases hk : k + 1 < m.length
  ·rw [if_pos hk, decide_eq_true (by omega)]
   unfold til23
   rw [if_pos rfl]
   refine .inr ⟨day23 x, _, _, by rw [show (ZaK ns m (k + 1)).2 - 1 + 1 = (ZaK ns m (k + 1)).2 by omega], ?_, by omega, by omega, by omega, by omega⟩
   unfold day23
   split
   ·exact .inr ⟨rfl, ⟨w0, by dsimp only; omega⟩, rfl⟩
   ·exact .inl ⟨rfl, rfl, by dsimp only; omega, by dsimp only; omega⟩
  ·rw [if_neg hk, decide_eq_false (by omega)]
   rfl
theorem zones23_dr (rs : List Zaa) (ns : Nat) (hns : 1 ≤ ns) (zs : List (List E23)) (hs : ∀ j, j < ns → ZbO (ofB rs (sN j)) ∧ (ofB rs (sN j)).length ≤ 5) : ∀ i, ∀ z ∈ Za8 ns zs i, ∃ Y, Zbr rs z.eras Y
 | 0, z, h => by cases h
 | i + 1, z, h => by
  rw [Za8, List.mem_append, List.mem_singleton] at h
  rcases h with h | rfl
  ·exact zones23_dr rs ns hns zs hs i z h
  ·exact zone23_dr rs ns hns i _ hs
theorem ns23 (d : DD23) : 1 ≤ d.ns ∧ d.ns ≤ 3 := by unfold DD23.ns; omega
theorem ZbZ (d : DD23) : ∀ z ∈ (Zan d).zones, ∃ Y, Zbr (Zan d).rules z.eras Y :=
 zones23_dr (ZaL d.sets d.ns) d.ns (ns23 d).1 (zl23 d.zones) (fun j hj => ZdP d.sets d.ns (ns23 d).2 j hj) (zl23 d.zones).length
theorem made23_sets (d : DD23) : setsD (Zan d) = none := rules23_sets d.sets d.ns (ns23 d).2
def zoneN23 : List ByteArray := [⟨#[65, 114, 101, 97, 47, 90, 48]⟩, ⟨#[65, 114, 101, 97, 47, 90, 49]⟩, ⟨#[65, 114, 101, 97, 47, 90, 50]⟩]
def Zew : List ByteArray := [⟨#[79, 108, 100, 47, 76, 48]⟩, ⟨#[79, 108, 100, 47, 76, 49]⟩, ⟨#[79, 108, 100, 47, 76, 50]⟩, ⟨#[79, 108, 100, 47, 76, 51]⟩]
theorem zoneN23_eq : ∀ i : Fin 3, sZ ++ dig ((i.val : Nat) : Int) = zoneN23.getD i.val ByteArray.empty := by decide +kernel
theorem linkN23_eq : ∀ i : Fin 4, sL ++ dig ((i.val : Nat) : Int) = Zew.getD i.val ByteArray.empty := by decide +kernel
def lkT23 (nz c : Nat) : ByteArray := if c < nz then zoneN23.getD c ByteArray.empty else Zew.getD (c - nz) ByteArray.empty
def lks23 (nz : Nat) (c : Nat → Nat) : Nat → List ZaC
 | 0 => []
 | i + 1 => lks23 nz c i ++ [⟨lkT23 nz (c i), Zew.getD i ByteArray.empty⟩]
def zns23 : Nat → List ZaN
 | 0 => []
 | i + 1 => zns23 i ++ [⟨zoneN23.getD i ByteArray.empty, []⟩]
def ch4 (a b c d : Nat) (i : Nat) : Nat := match i with | 0 => a | 1 => b | 2 => c | _ => d
theorem links23_all : ∀ nz : Fin 4, ∀ nl : Fin 5, ∀ a : Fin 3, ∀ b : Fin 4, ∀ c : Fin 5, ∀ d : Fin 6, a.val < nz.val → b.val < nz.val + 1 → c.val < nz.val + 2 → d.val < nz.val + 3 →
  Zb8 ⟨[], zns23 nz.val, lks23 nz.val (ch4 a.val b.val c.val d.val) nl.val, []⟩ = none := by decide +kernel
theorem Zcw (sets : Int) (zs : List (List E23)) : ∀ i, i ≤ 3 → (Za8 sets zs i).map bare' = zns23 i
 | 0, _ => rfl
 | i + 1, h => by
  rw [Za8, List.map_append, Zcw sets zs i (by omega), zns23, ← zoneN23_eq ⟨i, by omega⟩]
  rfl
theorem link23_is (nz : Nat) (h1 : 1 ≤ nz) (h3 : nz ≤ 3) (n : Int) (i : Nat) (hi : i < 4) : ∃ c, c < nz + i ∧ link23 nz n i = ⟨lkT23 nz c, Zew.getD i ByteArray.empty⟩ := by
 have a0 := Int.emod_nonneg n (b := (nz : Int) + i) (by omega)
 have a1 := Int.emod_lt_of_pos n (b := (nz : Int) + i) (by omega)
 have b0 := Int.emod_nonneg n (b := (nz : Int)) (by omega)
 have b1 := Int.emod_lt_of_pos n (b := (nz : Int)) (by omega)
 unfold link23
 rw [linkN23_eq ⟨i, hi⟩]
 by_cases h : n % ((nz : Int) + i) ≥ nz
 ·refine ⟨(n % ((nz : Int) + i)).toNat, by omega, ?_⟩
  rw [if_pos h]
  unfold lkT23
  rw [if_neg (by omega), ← linkN23_eq ⟨(n % ((nz : Int) + i)).toNat - nz, by omega⟩]
  dsimp only
  rw [show (((n % ((nz : Int) + i)).toNat - nz : Nat) : Int) = n % ((nz : Int) + i) - nz by omega]
 ·refine ⟨(n % (nz : Int)).toNat, by omega, ?_⟩
  rw [if_neg h]
  unfold lkT23
  rw [if_pos (by omega), ← zoneN23_eq ⟨(n % (nz : Int)).toNat, by omega⟩]
  dsimp only
  rw [Int.toNat_of_nonneg b0]
theorem ZdW (nz : Nat) (c c' : Nat → Nat) : ∀ n, (∀ i, i < n → c i = c' i) → lks23 nz c n = lks23 nz c' n
 | 0, _ => rfl
 | n + 1, h => by rw [lks23, lks23, ZdW nz c c' n fun i hi => h i (by omega), h n (by omega)]
theorem Zc4 (nz : Nat) (h1 : 1 ≤ nz) (h3 : nz ≤ 3) (L : List Int) : ∀ i : Nat, i ≤ 4 → ∃ c : Nat → Nat, (∀ k, c k < nz + k) ∧ ZaZ nz L i = lks23 nz c i
 | 0, _ => ⟨fun _ => 0, fun k => by dsimp only; omega, rfl⟩
 | i + 1, h => by
  obtain ⟨c, q1, q2⟩ := Zc4 nz h1 h3 L i (by omega)
  obtain ⟨x, q3, q4⟩ := link23_is nz h1 h3 (L.getD i 0) i (by omega)
  refine ⟨fun k => if k = i then x else c k, fun k => ?_, ?_⟩
  ·dsimp only
   split
   ·rename_i e; rw [e]; exact q3
   ·exact q1 k
  ·rw [ZaZ, q2, q4, lks23, ZdW nz (fun k => if k = i then x else c k) c i fun k hk => if_neg (by omega), if_pos rfl]
theorem made23_links (d : DD23) : Zb8 (Zan d) = none := by
 obtain ⟨z1, z3⟩ := ZcI d.zones
 have hl : (d.links.take 4).length ≤ 4 := by rw [List.length_take]; omega
 obtain ⟨c, q1, q2⟩ := Zc4 (zl23 d.zones).length z1 z3 (d.links.take 4) (d.links.take 4).length hl
 rw [linksD_bare]
 unfold Zan bareS
 dsimp only
 rw [Zcw _ _ _ z3, q2, ZdW _ c (ch4 (c 0) (c 1) (c 2) (c 3)) _ fun i hi => by
  have hc : i = 0 ∨ i = 1 ∨ i = 2 ∨ i = 3 := by omega
  rcases hc with rfl | rfl | rfl | rfl <;> rfl]
 have r0 := q1 0
 have r1 := q1 1
 have r2 := q1 2
 have r3 := q1 3
 exact links23_all ⟨_, by omega⟩ ⟨_, by omega⟩ ⟨c 0, by omega⟩ ⟨c 1, by omega⟩ ⟨c 2, by omega⟩ ⟨c 3, by omega⟩ (by dsimp only; omega) (by dsimp only; omega) (by dsimp only; omega) (by dsimp only; omega)
theorem made23_sizes (d : DD23) : Zeb (Zan d) = none := by
 have h1 := Zcm d.sets d.ns
 have hm := (ns23 d).2
 obtain ⟨z1, z3⟩ := ZcI d.zones
 have hr : (Zan d).rules.length ≤ 15 := by
  show (ZaL d.sets d.ns).length ≤ 15
  omega
 have hz : (Zan d).zones.length ≤ 3 := by
  show (Za8 d.ns (zl23 d.zones) (zl23 d.zones).length).length ≤ 3
  rw [ZbS]; exact z3
 have hk : (Zan d).links.length ≤ 4 := by
  show (ZaZ (zl23 d.zones).length (d.links.take 4) (d.links.take 4).length).length ≤ 4
  rw [Zco, List.length_take]; omega
 have hf : (Zan d).zones.findIdx? (fun z => decide (60 < z.eras.length)) = none := by
  rw [List.findIdx?_eq_none_iff]
  intro z hz
  obtain ⟨Y, h⟩ := ZbZ d z hz
  have := h.len
  exact decide_eq_false (by omega)
 unfold Zeb
 rw [if_neg (by omega), if_neg (by omega), hf]
 dsimp only
 rw [if_neg (by omega), if_neg (by show ¬ 2000 < ([] : List ByteArray).length; decide)]
theorem made23_acc (d : DD23) : accD (Zan d) = none := by
 unfold accD
 rw [made23_sizes d, made23_sets d, made23_links d, Zeh _ 0 (ZbZ d)]
 rfl
end Go.Proofs.YtpcpmndldgejiaaGreatDoor
