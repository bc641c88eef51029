/- The plain law: the kept names of the program are the document's. -/
import Derived.Test.YtfhjfpikngcknaaKeepR
namespace Go.Proofs.Ytfhjfpikngcknaa
open Go Go.RowKit Go.Wk

theorem bytesLess_lt : ∀ (x y : List UInt8), Op.bytesLess x y = decide (x < y)
  | [], [] => by simp [Op.bytesLess]
  | _ :: _, [] => by simp [Op.bytesLess]
  | [], _ :: _ => by simp [Op.bytesLess]
  | a :: x, b :: y => by
    rw [Op.bytesLess, bytesLess_lt x y]
    simp only [List.cons_lt_cons_iff]
    by_cases h1 : a < b <;> by_cases h2 : a = b <;> by_cases h3 : x < y <;> simp [h1, h2, h3]
theorem less_iff (x y : ByteArray) : lessB x y = true ↔ x.toList < y.toList := by
  rw [lessB, bytesLess_lt, decide_eq_true_eq]
theorem less_irr (x : ByteArray) : lessB x x = false := by
  cases h : lessB x x with
  | false => rfl
  | true => exact absurd ((less_iff x x).1 h) (List.lt_irrefl _)
theorem less_tr {x y z : ByteArray} (h1 : lessB x y = true) (h2 : lessB y z = true) : lessB x z = true :=
  (less_iff x z).2 (List.lt_trans ((less_iff x y).1 h1) ((less_iff y z).1 h2))
theorem toList_injB {x y : ByteArray} (h : x.toList = y.toList) : x = y := by
  have := toList_eq x y
  rw [h] at this
  simpa using this
theorem less_tri {x y : ByteArray} (h1 : lessB x y = false) (h2 : lessB y x = false) : x = y := by
  have a1 : ¬ x.toList < y.toList := fun h => by rw [(less_iff x y).2 h] at h1; cases h1
  have a2 : ¬ y.toList < x.toList := fun h => by rw [(less_iff y x).2 h] at h2; cases h2
  exact toList_injB (List.le_antisymm (List.not_lt.1 a2) (List.not_lt.1 a1))
theorem less_asym {x y : ByteArray} (h : lessB x y = true) : lessB y x = false := by
  cases h2 : lessB y x with
  | false => rfl
  | true => have := less_tr h h2; rw [less_irr] at this; cases this
/-- x ≤ y < z -/
theorem le_less {x y z : ByteArray} (h1 : lessB y x = false) (h2 : lessB y z = true) : lessB x z = true := by
  cases h : lessB x y with
  | true => exact less_tr h h2
  | false => rw [less_tri h h1]; exact h2
theorem le_le {x y z : ByteArray} (h1 : lessB y x = false) (h2 : lessB z y = false) : lessB z x = false := by
  cases h : lessB z x with
  | false => rfl
  | true =>
    have := le_less h2 (z := x)
    cases h3 : lessB x y with
    | true => have h4 := less_tr h h3; rw [h2] at h4; cases h4
    | false =>
      have e := less_tri h1 h3
      subst e
      rw [h2] at h
      cases h

def SortW (l : List ByteArray) : Prop := l.Pairwise fun a b => lessB b a = false
def SortS (l : List ByteArray) : Prop := l.Pairwise fun a b => lessB a b = true
theorem getD_mem {l : List ByteArray} {i : Nat} (h : i < l.length) : l.getD i ByteArray.empty = l[i] := by
  rw [List.getD_eq_getElem?_getD, List.getElem?_eq_getElem h]; rfl
/-- Where x comes to stand. -/
theorem insB_at (P : List ByteArray) (x : ByteArray) : ∀ j, j ≤ P.length → (∀ k (hk : k < P.length), j ≤ k → lessB x P[k] = true) →
    ∃ i, i ≤ j ∧ insB P x j = putAt P x i ∧ (∀ k (hk : k < P.length), i ≤ k → lessB x P[k] = true) ∧ (∀ (hi : i - 1 < P.length), 0 < i → lessB x P[i - 1] = false)
  | 0, _, h => ⟨0, Nat.le_refl _, rfl, h, fun _ h => absurd h (by simp)⟩
  | j + 1, hj, h => by
    rw [insB, getD_mem (show j < P.length by omega)]
    cases hx : lessB x P[j] with
    | true =>
      obtain ⟨i, h1, h2, h3, h4⟩ := insB_at P x j (by omega) (fun k hk hle => by
        rcases Nat.eq_or_lt_of_le hle with e | hlt
        · subst e; exact hx
        · exact h k hk hlt)
      exact ⟨i, by omega, by simpa using h2, h3, h4⟩
    | false => exact ⟨j + 1, Nat.le_refl _, by simp, h, fun _ _ => hx⟩
theorem putAt_mem (P : List ByteArray) (x y : ByteArray) (i : Nat) : y ∈ putAt P x i ↔ y = x ∨ y ∈ P := by
  rw [putAt, List.mem_append, List.mem_cons]
  constructor
  · rintro (h | h | h)
    · exact .inr (List.mem_of_mem_take h)
    · exact .inl h
    · exact .inr (List.mem_of_mem_drop h)
  · rintro (h | h)
    · exact .inr (.inl h)
    · rw [← List.take_append_drop i P, List.mem_append] at h
      rcases h with h | h
      · exact .inl h
      · exact .inr (.inr h)
theorem ins_spec (P : List ByteArray) (x : ByteArray) : ∃ i, i ≤ P.length ∧ insB P x P.length = putAt P x i ∧ (∀ y ∈ P.drop i, lessB x y = true) ∧ (∀ (hi : i - 1 < P.length), 0 < i → lessB x P[i - 1] = false) := by
  obtain ⟨i, h1, h2, h3, h4⟩ := insB_at P x P.length (Nat.le_refl _) (fun k hk hle => by omega)
  refine ⟨i, h1, h2, fun y hy => ?_, h4⟩
  obtain ⟨k, hk, rfl⟩ := List.mem_iff_getElem.1 hy
  rw [List.getElem_drop]
  exact h3 _ _ (by omega)
theorem ins_w {P : List ByteArray} (x : ByteArray) (h : SortW P) : SortW (insB P x P.length) := by
  obtain ⟨i, h1, h2, h3, h4⟩ := ins_spec P x
  rw [h2]
  have hle : ∀ y ∈ P.take i, lessB x y = false := fun y hy => by
    obtain ⟨k, hk, rfl⟩ := List.mem_iff_getElem.1 hy
    rw [List.length_take] at hk
    rw [List.getElem_take]
    have hlast := h4 (by omega) (by omega)
    rcases Nat.eq_or_lt_of_le (show k ≤ i - 1 by omega) with e | hlt
    · subst e; exact hlast
    · exact le_le ((List.pairwise_iff_getElem.1 h) k (i - 1) (by omega) (by omega) hlt) hlast
  unfold SortW putAt
  rw [List.pairwise_append, List.pairwise_cons]
  have hs := h
  rw [SortW, ← List.take_append_drop i P, List.pairwise_append] at hs
  refine ⟨hs.1, ⟨fun y hy => less_asym (h3 y hy), hs.2.1⟩, fun y hy z hz => ?_⟩
  rcases List.mem_cons.1 hz with rfl | hz
  · exact hle y hy
  · exact hs.2.2 y hy z hz
theorem ins_s {P : List ByteArray} (x : ByteArray) (h : SortS P) (hx : x ∉ P) : SortS (insB P x P.length) := by
  obtain ⟨i, h1, h2, h3, h4⟩ := ins_spec P x
  rw [h2]
  have hle : ∀ y ∈ P.take i, lessB y x = true := fun y hy => by
    obtain ⟨k, hk, rfl⟩ := List.mem_iff_getElem.1 hy
    rw [List.length_take] at hk
    rw [List.getElem_take]
    have hlast := h4 (by omega) (by omega)
    have hlt1 : lessB P[i - 1] x = true := by
      cases hq : lessB P[i - 1] x with
      | true => rfl
      | false => exact absurd (less_tri hlast hq ▸ List.getElem_mem _) hx
    rcases Nat.eq_or_lt_of_le (show k ≤ i - 1 by omega) with e | hlt
    · subst e; exact hlt1
    · exact less_tr ((List.pairwise_iff_getElem.1 h) k (i - 1) (by omega) (by omega) hlt) hlt1
  unfold SortS putAt
  rw [List.pairwise_append, List.pairwise_cons]
  have hs := h
  rw [SortS, ← List.take_append_drop i P, List.pairwise_append] at hs
  refine ⟨hs.1, ⟨fun y hy => h3 y hy, hs.2.1⟩, fun y hy z hz => ?_⟩
  rcases List.mem_cons.1 hz with rfl | hz
  · exact hle y hy
  · exact hs.2.2 y hy z hz
theorem ins_mem (P : List ByteArray) (x y : ByteArray) : y ∈ insB P x P.length ↔ y = x ∨ y ∈ P := by
  obtain ⟨i, _, h2, _⟩ := ins_spec P x
  rw [h2, putAt_mem]
theorem sort_go : ∀ (l acc : List ByteArray), SortW acc → SortW (l.foldl (fun P x => insB P x P.length) acc) ∧ ∀ y, y ∈ l.foldl (fun P x => insB P x P.length) acc ↔ y ∈ acc ∨ y ∈ l
  | [], acc, h => ⟨h, fun y => by simp⟩
  | x :: l, acc, h => by
    obtain ⟨h1, h2⟩ := sort_go l (insB acc x acc.length) (ins_w x h)
    refine ⟨h1, fun y => ?_⟩
    rw [List.foldl_cons, h2 y, ins_mem, List.mem_cons]
    constructor
    · rintro ((h | h) | h)
      · exact .inr (.inl h)
      · exact .inl h
      · exact .inr (.inr h)
    · rintro (h | h | h)
      · exact .inl (.inr h)
      · exact .inl (.inl h)
      · exact .inr h
theorem cpt_go (l : List ByteArray) (h : SortW l) : ∀ i, i ≤ l.length → SortS (cpt l i) ∧ ∀ y, y ∈ cpt l i ↔ y ∈ l.take i
  | 0, _ => ⟨List.Pairwise.nil, fun y => by simp [cpt]⟩
  | i + 1, hi => by
    obtain ⟨h1, h2⟩ := cpt_go l h i (by omega)
    have hil : i < l.length := by omega
    rw [cpt, ← List.take_append_getElem hil, getD_mem hil]
    split
    · rename_i hc
      rw [getD_mem (show i - 1 < l.length by omega)] at hc
      refine ⟨h1, fun y => ?_⟩
      rw [h2 y, List.mem_append, List.mem_singleton]
      constructor
      · exact .inl
      · rintro (h | h)
        · exact h
        · rw [h, hc.2]
          exact List.mem_take_iff_getElem.2 ⟨i - 1, by omega, rfl⟩
    · rename_i hc
      refine ⟨?_, fun y => by rw [List.mem_append, h2 y, List.mem_append]⟩
      unfold SortS
      rw [List.pairwise_append]
      refine ⟨h1, List.pairwise_singleton _ _, fun y hy z hz => ?_⟩
      rw [List.mem_singleton.1 hz]
      obtain ⟨k, hk, rfl⟩ := List.mem_take_iff_getElem.1 ((h2 y).1 hy)
      have hne : ¬ (l[i] = l[i - 1]) := fun e => hc ⟨by omega, by rw [getD_mem (show i - 1 < l.length by omega)]; exact e⟩
      have hw : lessB l[i] l[i - 1] = false := (List.pairwise_iff_getElem.1 h) (i - 1) i (by omega) hil (by omega)
      have hlt : lessB l[i - 1] l[i] = true := by
        cases hq : lessB l[i - 1] l[i] with
        | true => rfl
        | false => exact absurd (less_tri hw hq) hne
      rcases Nat.eq_or_lt_of_le (show k ≤ i - 1 by omega) with e | hlt2
      · subst e; exact hlt
      · exact le_less ((List.pairwise_iff_getElem.1 h) k (i - 1) (by omega) (by omega) hlt2) hlt
theorem sortS_eq : ∀ (l m : List ByteArray), SortS l → SortS m → (∀ y, y ∈ l ↔ y ∈ m) → l = m
  | [], [], _, _, _ => rfl
  | [], b :: m, _, _, h => by have := (h b).2 List.mem_cons_self; simp at this
  | a :: l, [], _, _, h => by have := (h a).1 List.mem_cons_self; simp at this
  | a :: l, b :: m, hl, hm, h => by
    obtain ⟨ha, hl'⟩ := List.pairwise_cons.1 hl
    obtain ⟨hb, hm'⟩ := List.pairwise_cons.1 hm
    have hab : a = b := by
      rcases List.mem_cons.1 ((h a).1 List.mem_cons_self) with e | e
      · exact e
      · rcases List.mem_cons.1 ((h b).2 List.mem_cons_self) with e2 | e2
        · exact e2.symm
        · have := less_tr (ha b e2) (hb a e)
          rw [less_irr] at this
          cases this
    subst hab
    rw [sortS_eq l m hl' hm' fun y => ?_]
    constructor
    · intro hy
      rcases List.mem_cons.1 ((h y).1 (List.mem_cons_of_mem _ hy)) with e | e
      · subst e
        have := ha y hy
        rw [less_irr] at this
        cases this
      · exact e
    · intro hy
      rcases List.mem_cons.1 ((h y).2 (List.mem_cons_of_mem _ hy)) with e | e
      · subst e
        have := hb y hy
        rw [less_irr] at this
        cases this
      · exact e
theorem memB_mem (x : ByteArray) : ∀ l : List ByteArray, memB x l = true ↔ x ∈ l
  | [] => by simp [memB]
  | y :: l => by
    simp only [memB, Bool.or_eq_true, decide_eq_true_eq, memB_mem x l, List.mem_cons]
    exact or_congr_left eq_comm
theorem fold_go (o : DOpt) : ∀ (l acc : List ByteArray), SortS acc → SortS (l.foldl (stepN o) acc) ∧ ∀ y, y ∈ l.foldl (stepN o) acc ↔ y ∈ acc ∨ (y ∈ l ∧ (o.all || memB y o.keep) = true)
  | [], acc, h => ⟨h, fun y => by simp⟩
  | x :: l, acc, h => by
    have key : SortS (stepN o acc x) ∧ ∀ y, y ∈ stepN o acc x ↔ y ∈ acc ∨ (y = x ∧ (o.all || memB y o.keep) = true) := by
      unfold stepN
      cases hk : (o.all || memB x o.keep) with
      | false =>
        simp only [Bool.not_false, Bool.true_or, if_true]
        refine ⟨h, fun y => ⟨.inl, ?_⟩⟩
        rintro (h | ⟨rfl, h⟩)
        · exact h
        · rw [hk] at h; cases h
      | true =>
        cases hm : memB x acc with
        | true =>
          simp only [Bool.not_true, Bool.false_or, if_true]
          refine ⟨h, fun y => ⟨.inl, ?_⟩⟩
          rintro (h | ⟨rfl, _⟩)
          · exact h
          · exact (memB_mem _ _).1 hm
        | false =>
          simp only [Bool.not_true, Bool.false_or, Bool.false_eq_true, if_false]
          have hx : x ∉ acc := fun hx => by rw [(memB_mem _ _).2 hx] at hm; cases hm
          refine ⟨ins_s x h hx, fun y => ?_⟩
          rw [ins_mem]
          constructor
          · rintro (rfl | h)
            · exact .inr ⟨rfl, hk⟩
            · exact .inl h
          · rintro (h | ⟨rfl, _⟩)
            · exact .inr h
            · exact .inl rfl
    obtain ⟨h1, h2⟩ := fold_go o l (stepN o acc x) key.1
    refine ⟨h1, fun y => ?_⟩
    rw [List.foldl_cons, h2 y, key.2 y, List.mem_cons]
    constructor
    · rintro ((h | ⟨h, h'⟩) | ⟨h, h'⟩)
      · exact .inl h
      · exact .inr ⟨.inl h, h'⟩
      · exact .inr ⟨.inr h, h'⟩
    · rintro (h | ⟨h | h, h'⟩)
      · exact .inl (.inl h)
      · exact .inl (.inr ⟨h, h'⟩)
      · exact .inr ⟨h, h'⟩
theorem names_eq (s : DSource) (o : DOpt) : namesP s o = namesRf s o := by
  unfold namesP namesRf
  split
  · obtain ⟨w1, w2⟩ := sort_go (candB s o) [] List.Pairwise.nil
    obtain ⟨c1, c2⟩ := cpt_go (sortB (candB s o)) w1 _ (Nat.le_refl _)
    obtain ⟨f1, f2⟩ := fold_go o (s.zones.map (·.name)) [] List.Pairwise.nil
    refine sortS_eq _ _ c1 f1 fun y => ?_
    rw [c2 y, List.take_length, foldN, f2 y]
    have : y ∈ sortB (candB s o) ↔ y ∈ candB s o := by
      have := w2 y
      simpa [sortB] using this
    rw [this]
    simp only [candB, List.mem_map, List.mem_filter, List.not_mem_nil, false_or]
    constructor
    · rintro ⟨z, ⟨h1, h2⟩, rfl⟩
      exact ⟨⟨z, h1, rfl⟩, h2⟩
    · rintro ⟨⟨z, h1, rfl⟩, h2⟩
      exact ⟨z, ⟨h1, h2⟩, rfl⟩
  · rfl
end Go.Proofs.Ytfhjfpikngcknaa
