/- Parts of the proof. -/
import Derived.Test.YtpcpmndldgejiaaGreatDoorW16
import Derived.Test.YtpcpmndldgejiaaGreatDoorW08
import Derived.Test.YtpcpmndldgejiaaGreatDoorW06
set_option maxHeartbeats 4000000
set_option linter.unusedVariables false
set_option linter.unusedSimpArgs false
namespace Go.Proofs.YtpcpmndldgejiaaGreatDoor
open Go Go.RowKit Go.Wk
theorem Zo0 : ∀ (l : List Zaa) (m : Int), l.foldl (fun m r => min m r.save) m <= m /\ (∀ r ∈ l, l.foldl (fun m r => min m r.save) m <= r.save) /\ (l.foldl (fun m r => min m r.save) m = m \/ ∃ r ∈ l, l.foldl (fun m r => min m r.save) m = r.save)
 | [], m => ⟨Int.le_refl _, (fun r h => by cases h), .inl rfl⟩
 | a :: l, m => by
  obtain ⟨h1, h2, h3⟩ := Zo0 l (min m a.save)
  rw [List.foldl_cons]
  refine ⟨by omega, fun r hr => ?_, ?_⟩
  ·rcases List.mem_cons.1 hr with rfl | hr
   ·omega
   ·exact h2 r hr
  ·rcases h3 with h3 | ⟨r, h4, h5⟩
   ·by_cases hm : m <= a.save
    ·exact .inl (by omega)
    ·exact .inr ⟨a, List.mem_cons_self, by omega⟩
   ·exact .inr ⟨r, List.mem_cons_of_mem _ h4, h5⟩
theorem Zhe {s : Int} (hs : s ≠ 0) : ∀ (l : List Zaa) (x : Int), (x = 0 \/ x = s) -> (∀ r ∈ l, r.save = 0 \/ r.save = s) -> (x = s \/ ∃ r ∈ l, r.save = s) -> ZcJ l x = (s, true)
 | [], x, _, _, h => by
  rcases h with rfl | ⟨r, hr, _⟩
  ·simp [ZcJ, hs]
  ·cases hr
 | a :: l, x, hx, ha, h => by
  have hal : ∀ r ∈ l, r.save = 0 \/ r.save = s := fun r hr => ha r (List.mem_cons_of_mem _ hr)
  rw [ZcJ]
  rcases ha a List.mem_cons_self with h0 | h0
  ·rw [if_pos h0]
   refine Zhe hs l x hx hal ?_
   rcases h with h | ⟨r, hr, hh⟩
   ·exact .inl h
   ·rcases List.mem_cons.1 hr with rfl | hr
    ·exact absurd (hh.symm.trans h0) hs
    ·exact .inr ⟨r, hr, hh⟩
  ·rw [if_neg (by clear h; omega), if_neg (by clear h; omega), h0]
   exact Zhe hs l s (.inr rfl) hal (.inl rfl)
structure Zbl (l : List Zaa) : Prop where
 rule : ∀ r ∈ l, DrRule r
 dist : l.Pairwise Dist
 saves : ∃ s, s ≠ 0 /\ (∀ r ∈ l, r.save = 0 \/ r.save = s) /\ (∃ r ∈ l, r.save = 0) /\ ∃ r ∈ l, r.save = s
 last : ZlE l = true
theorem Zbl.least {l : List Zaa} (h : Zbl l) : -3600 <= Zak l /\ Zak l <= 0 := by
 obtain ⟨h1, h2, h3⟩ := Zo0 l 0
 unfold Zak
 refine ⟨?_, h1⟩
 rcases h3 with h3 | ⟨r, h4, h5⟩
 ·omega
 ·have := (h.rule r h4).save
  omega
theorem Zbl.other {l : List Zaa} (h : Zbl l) : ∃ s, s ≠ 0 /\ -3600 <= s /\ s <= 7200 /\ Zdd l = (s, true) /\ (Zak l = 0 \/ Zak l = s) /\ ∀ r ∈ l, r.save = 0 \/ r.save = s := by
 obtain ⟨s, h0, h1, _, r, h3, h4⟩ := h.saves
 have hr := (h.rule r h3).save
 refine ⟨s, h0, by omega, by omega, Zhe h0 l 0 (.inl rfl) h1 (.inr ⟨r, h3, h4⟩), ?_, h1⟩
 obtain ⟨_, _, h7⟩ := Zo0 l 0
 unfold Zak
 rcases h7 with h7 | ⟨q, h8, h9⟩
 ·exact .inl h7
 ·have := h1 q h8
  omega
theorem _root_.Go.Wk.DrRule.err {r : Zaa} (h : DrRule r) {least : Int} (hl : -3600 <= least /\ least <= 0) : Zcr r least = 0 := by
 have h0 := h.f0
 have h1 := h.f1
 have h2 := h.ft
 have h3 := h.t1
 have h4 := h.clk
 have h5 := h.save
 obtain ⟨m0, m1⟩ := h.mon12
 have e1 : (Zcm r.from_ && (Zcm r.to || decide (r.to = 1048576))) = true := by
  simp [Zcm]
  omega
 have e2 : Zge r.from_ r.to r.month r.day = true := by
  unfold Zge
  rw [if_neg (by rw [h.day.chk]; simp; omega), if_pos (.inr (by have := ZlD 1 r.month m0 m1; have := h.day.le28; omega))]
 have e3 : Zgt r.at_ least = true := by
  unfold Zgt Zbb
  simp
  split <;> omega
 have e4 : (decide (r.letter = ByteArray.empty) || Zi1 r.letter) = true := by
  have hl := h.letter
  simp only [List.mem_cons, List.not_mem_nil, or_false] at hl
  rcases hl with e | e | e | e <;> rw [e] <;> decide
 unfold Zcr
 rw [if_neg (by rw [e1]; decide), if_neg (by omega), if_neg (by rw [e2]; decide), if_neg (by rw [e3]; decide), if_neg (by simp; omega), if_neg (by rw [e4]; decide)]
theorem ZfP {least : Int} : ∀ (l : List Zaa) (k : Nat), (∀ r ∈ l, Zcr r least = 0) -> Zbw least l k = none
 | [], _, _ => rfl
 | a :: l, k, h => by
  rw [Zbw, if_pos (h a List.mem_cons_self)]
  exact ZfP l (k + 1) fun r hr => h r (List.mem_cons_of_mem _ hr)
theorem Zbl.chk {l : List Zaa} (h : Zbl l) : ZfC l = (0, 0) := by
 have hl := h.least
 obtain ⟨s, s0, _, _, _, s1, s2⟩ := h.other
 obtain ⟨_, _, _, ⟨r, h3, h4⟩, _⟩ := h.saves
 unfold ZfC
 rw [ZfP l 0 fun r hr => (h.rule r hr).err hl]
 dsimp only
 have ha : (l.any fun r => decide (r.save = 0)) = true := List.any_eq_true.2 ⟨r, h3, by simp [h4]⟩
 rw [if_neg, if_neg (by rw [h.last]; decide)]
 rintro (hh | ⟨h5, h6⟩)
 ·rw [ha] at hh; cases hh
 ·obtain ⟨q, h7, h8⟩ := List.any_eq_true.1 h6
  have := s2 q h7
  simp at h8
  omega
theorem Zqz {α : Type} {R : α -> α -> Prop} {l : List α} (h : l.Pairwise R) {j k : Nat} {a b : α} (ha : l[j]? = some a) (hb : l[k]? = some b) (hn : j ≠ k) : R a b \/ R b a := by
 obtain ⟨h1, rfl⟩ := List.getElem?_eq_some_iff.1 ha
 obtain ⟨h2, rfl⟩ := List.getElem?_eq_some_iff.1 hb
 rcases Nat.lt_or_ge j k with h3 | h3
 ·exact .inl (List.pairwise_iff_getElem.1 h _ _ h1 h2 h3)
 ·exact .inr (List.pairwise_iff_getElem.1 h _ _ h2 h1 (by omega))
theorem Zbl.far2 {l : List Zaa} (h : Zbl l) {j k : Nat} {a b : Zaa} {y z : Int} {e f : Zad} (ha : l[j]? = some a) (hb : l[k]? = some b) (he : onR (Zak l) a j y = some e) (hf : onR (Zak l) b k z = some f) (hn : e ≠ f) :
  259200 <= e.nominal - f.nominal \/ 259200 <= f.nominal - e.nominal := by
 refine (h.rule a (List.mem_of_getElem? ha)).far (h.rule b (List.mem_of_getElem? hb)) h.least he hf fun hyz => ?_
 subst hyz
 refine Zqz h.dist ha hb fun hjk => hn ?_
 subst hjk
 rw [ha] at hb
 cases hb
 exact Option.some.inj (he.symm.trans hf)
theorem Zbl.apart {l : List Zaa} (h : Zbl l) : ZjI l = none := by
 have hc := ZgO (ZfQ l (Zak l) 1850 701) (Zgf _ _ _ _) ((Zep l (Zak l) 1850 701).nodup_iff.2 (ZjL l (Zak l) 1850 701))
 unfold ZjI
 cases he : ZhV (ZfQ l (Zak l) 1850 701) with
 | none => rfl
 | some e =>
  rw [he] at hc
  obtain ⟨⟨h1, x, h2, h3, h4⟩, _⟩ := hc
  have hm : ∀ x, x ∈ ZfQ l (Zak l) 1850 701 -> ∃ (j : Nat) (r : Zaa) (y : Int), l[j]? = some r /\ onR (Zak l) r j y = some x := fun x hx => by
   rw [(Zep l (Zak l) 1850 701).mem_iff, ZiR] at hx
   obtain ⟨q, _, hq⟩ := hx
   obtain ⟨j, r, hj, hr⟩ := (Zd0 _ _ _ _ _).1 hq
   rw [Nat.zero_add] at hr
   exact ⟨j, r, _, hj, hr⟩
  obtain ⟨j, a, y, ja, ea⟩ := hm e h1
  obtain ⟨k, b, z, kb, eb⟩ := hm x h2
  have hne : e ≠ x := fun hh => by
   subst hh
   rw [swoE.irrefl] at h3
   cases h3
  have := h.far2 ja kb ea eb hne
  simp only [ltE, Zhf, decide_eq_true_eq] at h3
  omega
theorem Zbl.fault {rs : List Zaa} {x : ByteArray} (h : Zbl (ofB rs x)) (hx : setB x = true) : ZcU rs x = none := by
 unfold ZcU
 rw [if_neg (by rw [hx]; decide), h.chk, if_neg (by simp), h.apart]
theorem Zbl.farD_of {l : List Zaa} (h : Zbl l) (n : Int) (hn : ∀ (j : Nat) (r : Zaa) (y : Int) (e : Zad), l[j]? = some r -> onR (Zak l) r j y = some e -> ¬ (n - 259200 < e.nominal /\ e.nominal < n + 259200)) : farD l n = true := by
 unfold farD
 cases ha : Zb9 l (n - 259200) with
 | none => rfl
 | some e =>
  rcases ZdQ _ _ _ l 0 none e ha with hh | ⟨j, r, hj, hr⟩
  ·cases hh
  ·obtain ⟨q, h1, h2⟩ := Zgc _ _ _ _ _ _ _ hr
   rw [Nat.zero_add] at h1
   have := hn j r _ e hj h1
   simp
   omega
theorem ZqH (l : List Int) (i : Int) : ZfH (Zh9 l i) := by
 have h1 := Zaw l i 7 (by decide)
 have h2 := Zaw l (i + 1) 4 (by decide)
 have h3 := Zaw l (i + 1) 28 (by decide)
 have h4 := Zaw l (i + 2) 3 (by decide)
 have hc : atB l (i + 2) 3 = 0 \/ atB l (i + 2) 3 = 1 \/ atB l (i + 2) 3 = 2 := by omega
 unfold Zh9 dayB ZfH
 rcases hc with e | e | e <;> rw [e]
 ·exact .inl ⟨rfl, h1.1, by show atB l i 7 <= 6; omega, rfl⟩
 ·refine .inr (.inl ⟨rfl, h1.1, ?_, ?_, ?_, ?_⟩)
  ·show atB l i 7 <= 6; omega
  ·show 1 <= 1 + 7 * atB l (i + 1) 4; omega
  ·show 1 + 7 * atB l (i + 1) 4 <= 22; omega
  ·show (1 + 7 * atB l (i + 1) 4).tmod 7 = 1
   rw [Int.tmod_eq_emod_of_nonneg (by omega)]; omega
 ·refine .inr (.inr ⟨rfl, rfl, ?_, ?_⟩)
  ·show 1 <= 1 + atB l (i + 1) 28; omega
  ·show 1 + atB l (i + 1) 28 <= 28; omega
theorem Zjz (l : List Int) (i : Int) : 0 <= (ZeA l i).sec /\ (ZeA l i).sec <= 86400 /\ 0 <= (ZeA l i).base /\ (ZeA l i).base <= 2 := by
 have h1 := Zaw l i 49 (by decide)
 have h2 := Zaw l (i + 1) 3 (by decide)
 unfold ZeA
 dsimp only
 omega
theorem Zqg {r : Zaa} (h : ZfH r.day) : Zez r = true := by
 unfold ZfH at h
 unfold Zez
 rcases h with ⟨h1, _⟩ | ⟨h1, h2, h3, h4, h5, h6⟩ | ⟨h1, h2, h3, h4⟩
 ·rw [if_pos h1]
 ·rw [if_neg (by omega), if_pos h1, h6]
  simp
  omega
 ·rw [if_neg (by omega), if_neg (by omega), if_pos h1]
  simp
  omega
theorem Zwl (k : Int) (h0 : 0 <= k) (h1 : k < 3) : letA.getD k.toNat ByteArray.empty ∈ [ByteArray.empty, ⟨#[83]⟩, ⟨#[68]⟩, ⟨#[68, 84]⟩] := by
 have hc : k = 0 \/ k = 1 \/ k = 2 := by omega
 rcases hc with rfl | rfl | rfl
 ·exact .tail _ (.head _)
 ·exact .tail _ (.tail _ (.head _))
 ·exact .tail _ (.tail _ (.tail _ (.head _)))
theorem Zwk (k : Int) (h0 : 0 <= k) (h1 : k < 2) : letB.getD k.toNat ByteArray.empty ∈ [ByteArray.empty, ⟨#[83]⟩, ⟨#[68]⟩, ⟨#[68, 84]⟩] := by
 have hc : k = 0 \/ k = 1 := by omega
 rcases hc with rfl | rfl
 ·exact .head _
 ·exact .tail _ (.head _)
theorem Zqc (l : List Int) (i a b s : Int) (h0 : 1900 <= a) (h1 : a <= 2149) (h2 : a <= b) (h3 : b <= 2149 \/ b = 1048576) (h4 : -3600 <= s /\ s <= 7200) : DrRule (ZoC l i a b s) := by
 have r1 := Zaw l i 3 (by decide)
 have r2 := Zaw l (i + 8) 3 (by decide)
 exact ⟨h0, h1, h2, h3, .inl (by show 2 <= 2 + atB l i 3 /\ 2 + atB l i 3 <= 4; omega), ZqH l (i + 3), Zjz l (i + 6), h4, Zwl _ r2.1 r2.2⟩
theorem Zqb (l : List Int) (i a b s : Int) (h0 : 1900 <= a) (h1 : a <= 2149) (h2 : a <= b) (h3 : b <= 2149 \/ b = 1048576) (h4 : -3600 <= s /\ s <= 7200) : DrRule (Zrw l i a b s) := by
 have r1 := Zaw l (i + 1) 3 (by decide)
 have r2 := Zaw l (i + 14) 2 (by decide)
 exact ⟨h0, h1, h2, h3, .inr (.inr (by show 8 <= 8 + atB l (i + 1) 3 /\ 8 + atB l (i + 1) 3 <= 10; omega)), ZqH l (i + 9), Zjz l (i + 12), h4, Zwk _ r2.1 r2.2⟩
theorem Zqh (l : List Int) (i a b s : Int) (h0 : 1900 <= a) (h1 : a <= 2149) (h2 : a <= b) (h3 : b <= 2149 \/ b = 1048576) (h4 : -3600 <= s /\ s <= 7200) :
  ∃ p q, Zgz l i a b s = [p, q] /\ DrRule p /\ DrRule q /\ p.from_ = a /\ p.to = b /\ q.from_ = a /\ q.to = b /\ sea p.month = 0 /\ sea q.month = 2 /\ ((p.save = 0 /\ q.save = s) \/ (p.save = s /\ q.save = 0)) := by
 have r1 := Zaw l i 3 (by decide)
 have r2 := Zaw l (i + 1) 3 (by decide)
 have e1 : ∀ t, sea (ZoC l i a b t).month = 0 := fun t => by
  show sea (2 + atB l i 3) = 0
  unfold sea; rw [if_pos (by omega)]
 have e2 : ∀ t, sea (Zrw l i a b t).month = 2 := fun t => by
  show sea (8 + atB l (i + 1) 3) = 2
  unfold sea; rw [if_neg (by omega), if_neg (by omega)]
 unfold Zgz
 split
 ·exact ⟨_, _, rfl, Zqc l i a b 0 h0 h1 h2 h3 (by decide), Zqb l i a b s h0 h1 h2 h3 h4, rfl, rfl, rfl, rfl, e1 0, e2 s, .inl ⟨rfl, rfl⟩⟩
 ·exact ⟨_, _, rfl, Zqc l i a b s h0 h1 h2 h3 h4, Zqb l i a b 0 h0 h1 h2 h3 (by decide), rfl, rfl, rfl, rfl, e1 s, e2 0, .inr ⟨rfl, rfl⟩⟩
structure ZvP (s f : Int) (o : List Zaa) : Prop where
 rule : ∀ r ∈ o, DrRule r /\ r.to < f /\ r.to <= 2149 /\ (r.save = 0 \/ r.save = s)
 dist : o.Pairwise Dist
theorem ZvP.two {s f : Int} {o : List Zaa} {p q : Zaa} (h : ZvP s f o) (hp : p.from_ = f) (hq : q.from_ = f) (h1 : sea p.month = 0) (h2 : sea q.month = 2) : (o ++ [p, q]).Pairwise Dist := by
 refine List.pairwise_append.2 ⟨h.dist, ?_, fun a ha b hb => .inl ?_⟩
 ·refine List.pairwise_cons.2 ⟨fun b hb => ?_, List.pairwise_singleton _ _⟩
  rw [List.mem_singleton] at hb
  subst hb
  exact .inr (by rw [h1, h2]; decide)
 ·have := (h.rule a ha).2.1
  simp only [List.mem_cons, List.not_mem_nil, or_false] at hb
  rcases hb with rfl | rfl
  ·rw [hp]; exact this
  ·rw [hq]; exact this
theorem Zkm (l : List Int) : ZbO l ≠ 0 /\ -3600 <= ZbO l /\ ZbO l <= 7200 := by
 have h := Zaw l 0 5 (by decide)
 have hc : atB l 0 5 = 0 \/ atB l 0 5 = 1 \/ atB l 0 5 = 2 \/ atB l 0 5 = 3 \/ atB l 0 5 = 4 := by omega
 unfold ZbO
 rcases hc with e | e | e | e | e <;> rw [e] <;> decide
theorem Zz1 (l : List Int) : ZvP (ZbO l) (m1 l).2 (m1 l).1 := by
 have h1 := Zaw l 1 80 (by decide)
 have h3 := Zaw l 3 28 (by decide)
 unfold m1
 split
 ·refine ⟨fun r hr => ?_, List.pairwise_singleton _ _⟩
  rw [List.mem_singleton] at hr
  subst hr
  refine ⟨⟨?_, ?_, Int.le_refl _, .inl ?_, .inr (.inl rfl), .inr (.inr ⟨rfl, rfl, ?_, ?_⟩), Zjz l 4, by show (-3600 : Int) <= 0 /\ (0 : Int) <= 7200; decide, List.Mem.tail _ (.head _)⟩, ?_, ?_, .inl rfl⟩
  ·show 1900 <= 1900 + atB l 1 80; omega
  ·show 1900 + atB l 1 80 <= 2149; omega
  ·show 1900 + atB l 1 80 <= 2149; omega
  ·show 1 <= 1 + atB l 3 28; omega
  ·show 1 + atB l 3 28 <= 28; omega
  ·show 1900 + atB l 1 80 < 1900 + atB l 1 80 + 1; omega
  ·show 1900 + atB l 1 80 <= 2149; omega
 ·exact ⟨fun r hr => (by cases hr), List.Pairwise.nil⟩
theorem Zz0 (l : List Int) (o : List Zaa) (f : Int) (h : ZvP (ZbO l) f o) (h1 : 1900 <= f) (h2 : f <= 1980) : ZvP (ZbO l) (m2 l o f).2 (m2 l o f).1 := by
 have h6 := Zaw l 6 12 (by decide)
 have h8 := Zaw l 8 5 (by decide)
 obtain ⟨_, s1, s2⟩ := Zkm l
 unfold m2
 split
 ·obtain ⟨p, q, e, hp, hq, p1, p2, q1, q2, sp, sq, hs⟩ := Zqh l 7 f (f + atB l 6 12) (ZbO l) h1 (by omega) (by omega) (.inl (by omega)) ⟨s1, s2⟩
  rw [e]
  refine ⟨fun r hr => ?_, h.two p1 q1 sp sq⟩
  dsimp only at hr ⊢
  rw [List.mem_append] at hr
  rcases hr with hr | hr
  ·obtain ⟨a, b, c, d⟩ := h.rule r hr
   exact ⟨a, by omega, c, d⟩
  ·simp only [List.mem_cons, List.not_mem_nil, or_false] at hr
   rcases hr with rfl | rfl
   ·exact ⟨hp, by omega, by omega, by omega⟩
   ·exact ⟨hq, by omega, by omega, by omega⟩
 ·exact h
theorem ZtG {o : List Zaa} {p q : Zaa} (ho : ∀ r ∈ o, r.to <= 2149) (hpq : p.to = q.to) (hs : (p.save = 0 /\ q.save ≠ 0) \/ (p.save ≠ 0 /\ q.save = 0)) (hm : p.month ≠ q.month) (h1 : Zez p = true) (h2 : Zez q = true) : ZlE (o ++ [p, q]) = true := by
 have e : o.filter (fun r => decide (r.to = 1048576)) = [] := List.filter_eq_nil_iff.2 fun r hr => by
  have := ho r hr
  simp
  omega
 unfold ZlE
 rw [List.filter_append, e, List.nil_append]
 by_cases h : q.to = 1048576
 ·rw [List.filter_cons, if_pos (by simp; omega), List.filter_cons, if_pos (by simp; omega), List.filter_nil]
  dsimp only
  rw [h1, h2]
  rcases hs with ⟨a, b⟩ | ⟨a, b⟩ <;> simp [a, b, hm]
 ·rw [List.filter_cons, if_neg (by simp; omega), List.filter_cons, if_neg (by simp; omega), List.filter_nil]
theorem _root_.Go.Wk.DrRule.named (x : ByteArray) {r : Zaa} (h : DrRule r) : DrRule (ZcL x r) := ⟨h.f0, h.f1, h.ft, h.t1, h.mon, h.day, h.clk, h.save, h.letter⟩
theorem ZrG (l : List Int) (x : ByteArray) : Zbl (Zce l x) := by
 obtain ⟨_, a1, a2⟩ := Zm1 l
 have p1 := Zz1 l
 obtain ⟨_, b1, b2⟩ := Zqq l (m1 l).1 (m1 l).2 (by have := (Zm1 l).1; exact this) a1 a2
 have p2 := Zz0 l _ _ p1 a1 a2
 obtain ⟨s0, s1, s2⟩ := Zkm l
 have h9 := Zaw l 9 6 (by decide)
 unfold Zce m3
 generalize (m2 l (m1 l).1 (m1 l).2).2 = f at *
 generalize (m2 l (m1 l).1 (m1 l).2).1 = o at *
 have ht : f <= to17 l f /\ (to17 l f <= 2149 \/ to17 l f = 1048576) := by unfold to17; split <;> omega
 obtain ⟨p, q, e, hp, hq, e1, e2, e3, e4, sp, sq, hs⟩ := Zqh l 11 f (to17 l f) (ZbO l) b1 (by omega) ht.1 ht.2 ⟨s1, s2⟩
 rw [e]
 have hd := p2.two e1 e3 sp sq
 have hall : ∀ r ∈ o ++ [p, q], DrRule r /\ (r.save = 0 \/ r.save = ZbO l) := fun r hr => by
  rw [List.mem_append] at hr
  rcases hr with hr | hr
  ·obtain ⟨a, _, _, d⟩ := p2.rule r hr
   exact ⟨a, d⟩
  ·simp only [List.mem_cons, List.not_mem_nil, or_false] at hr
   rcases hr with rfl | rfl
   ·exact ⟨hp, by omega⟩
   ·exact ⟨hq, by omega⟩
 have mp : ZcL x p ∈ (o ++ [p, q]).map (ZcL x) := List.mem_map.2 ⟨p, by simp, rfl⟩
 have mq : ZcL x q ∈ (o ++ [p, q]).map (ZcL x) := List.mem_map.2 ⟨q, by simp, rfl⟩
 refine ⟨fun r hr => ?_, List.pairwise_map.2 hd, ⟨ZbO l, s0, fun r hr => ?_, ?_, ?_⟩, ?_⟩
 ·obtain ⟨r', h1, rfl⟩ := List.mem_map.1 hr
  exact (hall r' h1).1.named x
 ·obtain ⟨r', h1, rfl⟩ := List.mem_map.1 hr
  exact (hall r' h1).2
 ·rcases hs with ⟨h1, _⟩ | ⟨_, h1⟩
  ·exact ⟨_, mp, h1⟩
  ·exact ⟨_, mq, h1⟩
 ·rcases hs with ⟨_, h1⟩ | ⟨h1, _⟩
  ·exact ⟨_, mq, h1⟩
  ·exact ⟨_, mp, h1⟩
 ·rw [List.map_append]
  refine ZtG (p := ZcL x p) (q := ZcL x q) (fun r hr => ?_) (e2.trans e4.symm) ?_ ?_ (Zqg (r := ZcL x p) hp.day) (Zqg (r := ZcL x q) hq.day)
  ·obtain ⟨r', h1, rfl⟩ := List.mem_map.1 hr
   exact (p2.rule r' h1).2.2.1
  ·show (p.save = 0 /\ q.save ≠ 0) \/ (p.save ≠ 0 /\ q.save = 0)
   omega
  ·show p.month ≠ q.month
   intro hh
   rw [hh, sq] at sp
   cases sp
theorem ZeW (l : List Int) (x : ByteArray) : ∀ r ∈ Zce l x, r.name = x := fun r hr => by
 obtain ⟨r', _, rfl⟩ := List.mem_map.1 hr
 rfl
def fmtU : List ByteArray := [⟨#[76, 77, 84]⟩, ⟨#[71, 77, 84, 47, 66, 83, 84]⟩, ⟨#[67, 69, 37, 115, 84]⟩, ⟨#[37, 122]⟩, ⟨#[67, 69, 84, 47, 67, 69, 83, 84]⟩, ⟨#[69, 69, 37, 115, 84]⟩, ⟨#[69, 37, 115, 83, 84]⟩, ⟨#[87, 83, 84]⟩]
def ZvR (u : Zbj) (Y : Int) : Prop := (∃ D S B, u = ⟨true, Y, 12, ⟨1, 0, D⟩, ⟨S, B⟩⟩ /\ 5 <= D /\ D <= 24 /\ 0 <= S /\ S <= 86400 /\ 0 <= B /\ B <= 2) \/
 (∃ d S B, u = ⟨true, Y + 1, 1, d, ⟨S, B⟩⟩ /\ ((d.kind = 1 /\ d.week = 0 /\ 1 <= d.day /\ d.day <= 20) \/ (d.kind = 3 /\ (0 <= d.week /\ d.week <= 6) /\ d.day = 8)) /\ 0 <= S /\ S <= 86400 /\ 0 <= B /\ B <= 2)
theorem ZsK {y m : Int} {d : DDay} {S B least x : Int} (hy : 1850 <= y /\ y <= 2149) (h0 : onD y m d = (x, 0)) (h3 : 0 <= S) (h4 : S <= 86400) (h5 : 0 <= B) (h6 : B <= 2) (hl : -3600 <= least /\ least <= 0) :
  Za0 ⟨true, y, m, d, ⟨S, B⟩⟩ least = 0 /\ ZaL ⟨true, y, m, d, ⟨S, B⟩⟩ least = (86400 * x + S + (if B = 1 then least else 0), 0) := by
 have e1 : Za0 ⟨true, y, m, d, ⟨S, B⟩⟩ least = 0 := by
  have hc : Zbb ⟨S, B⟩ = true := by
   unfold Zbb
   simp
   omega
  unfold Za0
  dsimp only
  rw [if_neg (by omega), if_neg (by decide), if_neg (by rw [hc]; simp; omega), h0, if_neg]
  rintro (h | h | h)
  ·exact h rfl
  ·split at h <;> omega
  ·split at h <;> omega
 refine ⟨e1, ?_⟩
 unfold ZaL
 rw [if_neg (by rw [e1]; decide), h0]
theorem Zz4 {y : Int} {d : DDay} (hy : 1850 <= y /\ y <= 2149) (hd : (d.kind = 1 /\ d.week = 0 /\ 1 <= d.day /\ d.day <= 20) \/ (d.kind = 3 /\ (0 <= d.week /\ d.week <= 6) /\ d.day = 8)) : ∃ x, onD y 1 d = (x, 0) /\ mar1 (y - 1) + 306 <= x /\ x <= mar1 (y - 1) + 325 := by
 have hin : inY y = true := by
  unfold inY
  simp
  omega
 have hL := ZlD y 1 (by decide) (by decide)
 have hok : ZbL y 1 1 = true := by
  unfold ZbL
  rw [hin]
  simp
  omega
 have hn : Zbd y 1 1 = mar1 (y - 1) + 306 := by
  unfold Zbd
  rw [if_pos (by decide)]
  unfold Zcf mar1
  rw [show ZaM.getD ((1 : Int) + 12 - 3).toNat 0 = 306 by decide]
  omega
 have hdd : ZfH d := by
  obtain ⟨k, wk, dd⟩ := d
  dsimp only at hd
  rcases hd with ⟨rfl, rfl, h1, h2⟩ | ⟨rfl, h1, rfl⟩
  ·exact .inr (.inr ⟨rfl, rfl, h1, by dsimp only; omega⟩)
  ·exact .inr (.inl ⟨rfl, h1.1, h1.2, by show (1 : Int) <= 8; decide, by show (8 : Int) <= 22; decide, by show (8 : Int).tmod 7 = 1; decide⟩)
 unfold onD
 rw [if_neg (by rw [hok]; decide), if_neg (by rw [hdd.chk]; decide), if_neg (by omega), hn]
 refine ⟨_, rfl, ?_⟩
 unfold Ze3
 rcases hd with ⟨h1, _, h2, h3⟩ | ⟨h1, _, h2⟩
 ·rw [if_pos h1]
  omega
 ·rw [if_neg (by omega), if_neg (by omega), if_pos h1, h2]
  unfold Ze8
  omega
theorem ZvR.nom {u : Zbj} {Y least : Int} (h : ZvR u Y) (hY : 1850 <= Y /\ Y <= 2148) (hl : -3600 <= least /\ least <= 0) :
  u.is = true /\ Za0 u least = 0 /\ ∃ n, ZaL u least = (n, 0) /\ 86400 * (mar1 Y + 279) - 3600 <= n /\ n <= 86400 * (mar1 Y + 327) := by
 rcases h with ⟨D, S, B, rfl, h1, h2, h3, h4, h5, h6⟩ | ⟨d, S, B, rfl, hd, h3, h4, h5, h6⟩
 ·have hin : inY Y = true := by
   unfold inY
   simp
   omega
  have hL := ZlD Y 12 (by decide) (by decide)
  have hdd : ZfH ⟨1, 0, D⟩ := .inr (.inr ⟨rfl, rfl, by show 1 <= D; omega, by show D <= 28; omega⟩)
  have e0 : onD Y 12 ⟨1, 0, D⟩ = (mar1 Y + 275 + D - 1, 0) := by
   have hok : ZbL Y 12 1 = true := by
    unfold ZbL
    rw [hin]
    simp
    omega
   unfold onD
   rw [if_neg (by rw [hok]; decide), if_neg (by rw [hdd.chk]; decide), if_neg (by show ¬ lenM Y 12 < D; omega), ZnC _ _ _ (by decide), show ZaM.getD ((12 : Int) - 3).toNat 0 = 275 by decide]
   unfold Ze3
   rw [if_pos rfl]
   dsimp only
   rw [show mar1 Y + 275 + 1 - 1 + D - 1 = mar1 Y + 275 + D - 1 by omega]
  obtain ⟨e1, e2⟩ := ZsK (B := B) (by omega) e0 h3 h4 h5 h6 hl
  refine ⟨rfl, e1, _, e2, ?_⟩
  split <;> omega
 ·obtain ⟨x, e0, e3, e4⟩ := Zz4 (y := Y + 1) (by omega) hd
  rw [show Y + 1 - 1 = Y by omega] at e3 e4
  obtain ⟨e1, e2⟩ := ZsK (B := B) (by omega) e0 h3 h4 h5 h6 hl
  refine ⟨rfl, e1, _, e2, ?_⟩
  split <;> omega
def ZbC (rs : List Zaa) (e : DEra) (first : Bool) : Prop :=
 (e.kind = 0 /\ e.save = 0 /\ e.set = ByteArray.empty /\ -46800 <= e.off /\ e.off <= 46800 /\ e.format ∈ fmtU) \/
 (e.kind = 1 /\ (1800 <= e.save /\ e.save <= 7200) /\ e.set = ByteArray.empty /\ -46800 <= e.off /\ e.off <= 46800 /\ e.format ∈ fmtU) \/
 (e.kind = 2 /\ first = false /\ e.save = 0 /\ -43200 <= e.off /\ e.off <= 43200 /\ e.format ∈ fmtU /\ Zbl (ofB rs e.set) /\ (ofB rs e.set).length <= 5)
theorem Zmu (x : Int) (h : -86400 < x /\ x < 86400) : Zcc x ≠ [] := by
 unfold Zcc
 rw [if_neg (by omega)]
 exact fun hh => by cases hh
theorem Zqv (off : Int) : ∀ l : List Int, (∀ x ∈ l, -86400 < off + x /\ off + x < 86400) -> ∃ r, ZfF off l = some r
 | [], _ => ⟨_, rfl⟩
 | x :: l, h => by
  obtain ⟨r, hr⟩ := Zqv off l fun y hy => h y (List.mem_cons_of_mem _ hy)
  have hx := h x List.mem_cons_self
  refine ⟨Zcc (off + x) :: r, ?_⟩
  rw [ZfF, if_neg (by
   rintro (hh | hh)
   ·unfold ZdN at hh; simp at hh; omega
   ·exact Zmu _ hx hh), hr]
theorem Zje {f : List UInt8} : ∀ l : List (List UInt8), (∀ x ∈ l, (Zcl f 0 0 x).2 = 0) -> Zek f l = 0
 | [], _ => rfl
 | x :: l, h => by
  rw [Zek, if_pos (h x List.mem_cons_self)]
  exact Zje l fun y hy => h y (List.mem_cons_of_mem _ hy)
def ZtS : List (List UInt8) := [[76, 77, 84], [71, 77, 84, 47, 66, 83, 84], [67, 69, 84, 47, 67, 69, 83, 84], [87, 83, 84]]
def ZtR : List (List UInt8) := [[67, 69, 37, 115, 84], [69, 69, 37, 115, 84], [69, 37, 115, 83, 84]]
def Zm8 : List (List UInt8) := [[], [83], [68], [68, 84]]
theorem Zdl : (∀ f ∈ ZtS, ZbZ f = 1 \/ ZbZ f = 2) /\ (∀ f ∈ ZtR, ZbZ f = 3 /\ ∀ x ∈ Zm8, (Zcl f 0 0 x).2 = 0) /\ ZbZ [37, 122] = 4 := by decide +kernel
theorem Zi9 {f : ByteArray} (h : f ∈ fmtU) : f.data.toList ∈ ZtS \/ f.data.toList ∈ ZtR \/ f.data.toList = [37, 122] := by
 have h1 : ∀ f ∈ fmtU, f.data.toList ∈ ZtS \/ f.data.toList ∈ ZtR \/ f.data.toList = [37, 122] := by decide
 exact h1 f h
theorem Zqr {x : ByteArray} (h : x ∈ [ByteArray.empty, (⟨#[83]⟩ : ByteArray), ⟨#[68]⟩, ⟨#[68, 84]⟩]) : x.data.toList ∈ Zm8 := by
 have : ∀ x ∈ [ByteArray.empty, (⟨#[83]⟩ : ByteArray), ⟨#[68]⟩, ⟨#[68, 84]⟩], x.data.toList ∈ Zm8 := by decide
 exact this x h
theorem ZtT {e : DEra} {l : List Zaa} (hf : e.format ∈ fmtU) (hk : e.kind = 0 \/ e.kind = 1 \/ e.kind = 2) (h0 : -86400 < e.off /\ e.off < 86400) (h1 : e.kind = 1 -> -86400 < e.off + e.save /\ e.off + e.save < 86400)
  (h2 : e.kind = 2 -> (∀ r ∈ l, r.letter.data.toList ∈ Zm8) /\ (Zdd l).2 = true /\ -86400 < e.off + (Zdd l).1 /\ e.off + (Zdd l).1 < 86400) : ZhS e l = 0 := by
 unfold ZhS
 dsimp only
 rcases Zi9 hf with h | h | h
 ·rcases Zdl.1 _ h with h | h <;> rw [h] <;> simp
 ·obtain ⟨h3, h4⟩ := Zdl.2.1 _ h
  rw [h3, if_neg (by decide), if_pos rfl]
  refine Zje _ fun x hx => h4 x ?_
  split at hx
  ·rename_i hk2
   obtain ⟨r, hr, rfl⟩ := List.mem_map.1 hx
   exact (h2 hk2).1 r hr
  ·rw [List.mem_singleton] at hx
   subst hx
   decide
 ·have he : (Zgb e l).2 = 0 := by
   have hj : ∀ s : List Int, (∀ x ∈ s, -86400 < e.off + x /\ e.off + x < 86400) -> (match ZfF e.off s with | none => (([], 3) : List UInt8 × Int) | some r => (Zc5 r, 0)).2 = 0 := fun s hs => by
    obtain ⟨r, hr⟩ := Zqv e.off s hs
    rw [hr]
   unfold Zgb
   dsimp only
   rcases hk with hk | hk | hk
   ·rw [if_pos hk]
    exact hj [0] fun x hx => by rw [List.mem_singleton] at hx; subst hx; omega
   ·rw [if_neg (by omega), if_pos hk]
    exact hj [e.save] fun x hx => by rw [List.mem_singleton] at hx; subst hx; exact h1 hk
   ·obtain ⟨_, h3, h4⟩ := h2 hk
    rw [if_neg (by omega), if_neg (by omega), if_pos hk, if_pos h3]
    exact hj [0, (Zdd l).1] fun x hx => by
     simp only [List.mem_cons, List.not_mem_nil, or_false] at hx
     rcases hx with rfl | rfl
     ·omega
     ·exact h4
  rw [h, Zdl.2.2, if_neg (by decide), if_neg (by decide), if_pos (.inl rfl), if_neg]
  rw [he]
  rintro (hh | ⟨hh, _⟩)
  ·exact hh rfl
  ·cases hh
theorem ZbC.fmt {rs : List Zaa} {e : DEra} {first : Bool} (h : ZbC rs e first) : e.format ∈ fmtU := by
 rcases h with ⟨_, _, _, _, _, h⟩ | ⟨_, _, _, _, _, h⟩ | ⟨_, _, _, _, _, h, _⟩
 ·exact h
 ·exact h
 ·exact h
theorem ZbC.states {rs : List Zaa} {e : DEra} {first : Bool} (h : ZbC rs e first) : (ZaR rs e).length <= 5 /\ (∀ x ∈ ZaR rs e, -54000 <= e.off + x.1 /\ e.off + x.1 <= 54000) /\ -54000 <= e.off /\ e.off <= 54000 /\ (Zbm rs e = [] \/ Zbl (Zbm rs e)) := by
 unfold ZaR Zbm
 rcases h with ⟨hk, hs, _, h1, h2, _⟩ | ⟨hk, hs, _, h1, h2, _⟩ | ⟨hk, _, _, h1, h2, _, h3, h4⟩
 ·rw [if_neg (by omega), if_neg (by omega), if_neg (by omega)]
  refine ⟨by simp, fun x hx => ?_, by omega, by omega, .inl rfl⟩
  rw [List.mem_singleton] at hx
  subst hx
  dsimp only
  omega
 ·rw [if_pos hk, if_neg (by omega)]
  refine ⟨by simp, fun x hx => ?_, by omega, by omega, .inl rfl⟩
  rw [List.mem_singleton] at hx
  subst hx
  dsimp only
  omega
 ·rw [if_neg (by omega), if_pos hk, if_pos hk]
  refine ⟨by rw [List.length_map]; exact h4, fun x hx => ?_, by omega, by omega, .inr h3⟩
  obtain ⟨r, hr, rfl⟩ := List.mem_map.1 hx
  have := (h3.rule r hr).save
  dsimp only
  omega
theorem ZrL : Zak [] = 0 := rfl
theorem ZbC.least {rs : List Zaa} {e : DEra} {first : Bool} (h : ZbC rs e first) : -3600 <= Zak (Zbm rs e) /\ Zak (Zbm rs e) <= 0 := by
 obtain ⟨_, _, _, _, hs⟩ := h.states
 rcases hs with hs | hs
 ·rw [hs, ZrL]; decide
 ·exact hs.least
theorem ZbC.chk {rs : List Zaa} {e : DEra} {first : Bool} (h : ZbC rs e first) (hu : e.til.is = true \/ e.til = ZyS) : ZdE rs e first = 0 := by
 obtain ⟨_, s2, s3, s4, _⟩ := h.states
 have hun : ZeG e = false := by
  have ht : (!e.til.is && !decide ({ e.til with is := false } = dU0)) = false := by
   rcases hu with hu | hu
   ·rw [hu]; rfl
   ·rw [hu]; decide
  unfold ZeG
  rw [ht]
  rcases h with ⟨hk, hs, he, _⟩ | ⟨hk, hs, he, _⟩ | ⟨hk, _, hs, _⟩
  ·rw [hk, hs, he]; decide
  ·rw [hk, he]; simp
  ·rw [hk, hs]; simp
 have hf : ZhS e (Zbm rs e) = 0 := by
  refine ZtT h.fmt ?_ (by omega) ?_ ?_
  ·rcases h with ⟨hk, _⟩ | ⟨hk, _⟩ | ⟨hk, _⟩
   ·exact .inl hk
   ·exact .inr (.inl hk)
   ·exact .inr (.inr hk)
  ·intro hk
   have := s2 (e.save, ByteArray.empty) (by unfold ZaR; rw [if_pos hk]; exact List.mem_singleton.2 rfl)
   dsimp only at this
   omega
  ·intro hk
   rcases h with ⟨hk2, _⟩ | ⟨hk2, _⟩ | ⟨_, _, _, h1, h2, _, h3, h4⟩
   ·omega
   ·omega
   rw [Zbm, if_pos hk]
   obtain ⟨s, _, q1, q2, q3, _⟩ := h3.other
   rw [q3]
   exact ⟨fun r hr => Zqr (h3.rule r hr).letter, rfl, by dsimp only; omega, by dsimp only; omega⟩
 have hkk : (0 <= e.kind /\ e.kind <= 2) /\ (¬ (first = true /\ e.kind = 2)) /\ (¬ (e.kind = 2 /\ Zbm rs e = [])) /\ ¬ (e.kind = 1 /\ (e.save < 1 \/ 10800 < e.save)) := by
  rcases h with ⟨hk, _⟩ | ⟨hk, hs, _⟩ | ⟨hk, hf, _, _, _, _, h3, _⟩
  ·exact ⟨by omega, by omega, by omega, by omega⟩
  ·exact ⟨by omega, by omega, by omega, by omega⟩
  ·refine ⟨by omega, by rw [hf]; simp, ?_, by omega⟩
   rintro ⟨_, hn⟩
   rw [Zbm, if_pos hk] at hn
   obtain ⟨_, _, _, ⟨r, hr, _⟩, _⟩ := h3.saves
   rw [hn] at hr
   cases hr
 unfold ZdE
 rw [if_neg (by omega), if_neg hkk.2.1, if_neg hkk.2.2.1, if_neg hkk.2.2.2, if_neg, if_neg (by rw [hun]; decide), hf]
 rintro (hh | hh)
 ·unfold Zcn at hh; simp at hh; omega
 ·obtain ⟨x, hx, hh⟩ := List.any_eq_true.1 hh
  have := s2 x hx
  unfold Zcn at hh
  simp at hh
  omega
structure ZaJ (rs : List Zaa) (l : List DEra) (Y : Nat -> Int) : Prop where
 len : 1 <= l.length /\ l.length <= 4
 era : ∀ k e, l[k]? = some e -> ZbC rs e (decide (k = 0))
 yr : ∀ k, k + 1 < l.length -> 1850 <= Y k /\ Y k <= 2148
 inc : ∀ k, k + 2 < l.length -> Y k < Y (k + 1)
 til : ∀ k e, l[k]? = some e -> if k + 1 < l.length then ZvR e.til (Y k) else e.til = ZyS
theorem Ze1 {α : Type} {l : List α} {k : Nat} {d : α} (h : k < l.length) : ∃ e, l[k]? = some e /\ l.getD k d = e := ⟨l[k], List.getElem?_eq_getElem h, by rw [List.getD_eq_getElem?_getD, List.getElem?_eq_getElem h]; rfl⟩
theorem Zbl.far_til {l : List Zaa} (h : Zbl l) {n Y : Int} (h1 : 86400 * (mar1 Y + 279) - 3600 <= n) (h2 : n <= 86400 * (mar1 Y + 327)) : farD l n = true := by
 refine h.farD_of n fun j r y e hj he => ?_
 obtain ⟨_, _, _, _, b1, b2⟩ := (h.rule r (List.mem_of_getElem? hj)).ev h.least he
 have hb := ZiY r.month
 rcases Int.lt_or_le Y y with hy | hy
 ·have := ZeS hy
  omega
 ·have := Zhj hy
  omega
theorem ZaJ.endOk {rs : List Zaa} {l : List DEra} {Y : Nat -> Int} (h : ZaJ rs l Y) {k : Nat} (hk : k < l.length) : Zjq rs l k = 0 := by
 obtain ⟨e, he, hd⟩ := Ze1 (d := dE0) hk
 have hE := h.era k e he
 have hT := h.til k e he
 unfold Zjq
 dsimp only
 rw [hd]
 by_cases hl : k + 1 < l.length
 ·rw [if_pos hl] at hT
  obtain ⟨t1, t2, n, t3, t4, t5⟩ := hT.nom (h.yr k hl) hE.least
  rw [if_neg (by rw [t1, decide_eq_true hl]; simp), if_neg (by rw [t1]; decide), if_neg (by rw [t2]; decide), t3, if_neg, if_neg]
  ·rintro ⟨hk2, hf⟩
   obtain ⟨_, _, _, _, hs⟩ := hE.states
   rcases hs with hs | hs
   ·rcases hE with ⟨hk3, _⟩ | ⟨hk3, _⟩ | ⟨_, _, _, _, _, _, h3, _⟩
    ·omega
    ·omega
    ·rw [Zbm, if_pos hk2] at hs
     obtain ⟨_, _, _, ⟨r, hr, _⟩, _⟩ := h3.saves
     rw [hs] at hr
     cases hr
   ·rw [hs.far_til t4 t5] at hf
    cases hf
  ·rintro ⟨hk0, hh⟩
   obtain ⟨b, hb, hbd⟩ := Ze1 (l := l) (k := k - 1) (d := dE0) (by omega)
   rw [hbd] at hh
   have hT2 := h.til (k - 1) b hb
   rw [if_pos (by omega)] at hT2
   obtain ⟨_, _, m, m3, m4, m5⟩ := hT2.nom (h.yr (k - 1) (by omega)) (h.era (k - 1) b hb).least
   rw [m3] at hh
   have hy := h.inc (k - 1) (by omega)
   rw [show k - 1 + 1 = k by omega] at hy
   have := ZeS hy
   rcases hh with hh | hh
   ·exact hh rfl
   ·dsimp only at hh
    omega
 ·rw [if_neg hl] at hT
  have ht : e.til.is = false := by rw [hT]; rfl
  rw [if_neg (by rw [ht, decide_eq_false hl]; simp), if_pos ht]
theorem ZaJ.eraOk {rs : List Zaa} {l : List DEra} {Y : Nat -> Int} (h : ZaJ rs l Y) {k : Nat} (hk : k < l.length) : ZdE rs (l.getD k dE0) (decide (k = 0)) = 0 := by
 obtain ⟨e, he, hd⟩ := Ze1 (d := dE0) hk
 rw [hd]
 refine (h.era k e he).chk ?_
 have hT := h.til k e he
 split at hT
 ·rcases hT with ⟨_, _, _, hh, _⟩ | ⟨_, _, _, hh, _⟩ <;> exact .inl (by rw [hh])
 ·exact .inr hT
theorem ZaJ.go {rs : List Zaa} {l : List DEra} {Y : Nat -> Int} (h : ZaJ rs l Y) (i : Nat) : ∀ f k, k + f <= l.length -> ZdD rs l i f k = none
 | 0, _, _ => rfl
 | f + 1, k, hk => by
  rw [ZdD, if_neg (by rw [h.eraOk (by omega)]; decide), if_neg (by rw [h.endOk (by omega)]; decide)]
  exact h.go i f (k + 1) (by omega)
theorem Zt5 (n : Int) : (dig2 n).length = 2 := rfl
theorem Zrp (x : Int) : (Zcc x).length <= 7 := by
 unfold Zcc
 split
 ·exact Nat.zero_le _
 ·simp only [List.length_cons, List.length_append, Zt5]
  have h : ∀ (c : Prop) [Decidable c] (n : Int), (if c then ([] : List UInt8) else dig2 n).length <= 2 := fun c _ n => by
   split
   ·exact Nat.zero_le _
   ·exact Nat.le_refl _
  have h1 := h
  generalize ha : (if (if x < 0 then -x else x) % 3600 = 0 then ([] : List UInt8) else dig2 ((if x < 0 then -x else x) / 60 % 60)) = a
  generalize hb : (if (if x < 0 then -x else x) % 60 = 0 then ([] : List UInt8) else dig2 ((if x < 0 then -x else x) % 60)) = b
  have h2 : a.length <= 2 := by rw [<- ha]; exact h _ _
  have h3 : b.length <= 2 := by rw [<- hb]; exact h _ _
  omega
theorem Zo1 : ∀ f ∈ ZtS, (match Zda f with | none => decide (ZbZ f = 1) && decide (f.length <= 7) | some (a, b) => decide (a.length <= 7) && decide (b.length <= 7)) = true := by decide +kernel
theorem Zej : (∀ f ∈ ZtR, Zda f = none) /\ Zda [37, 122] = none := by decide +kernel
theorem ZwQ {f : ByteArray} (h : f ∈ fmtU) (off save : Int) (x : List UInt8) : (Zcl f.data.toList off save x).1.length <= 7 := by
 rcases Zi9 h with h | h | h
 ·have hp := Zo1 _ h
  unfold Zcl
  cases hq : Zda f.data.toList with
  | none =>
   rw [hq] at hp
   simp at hp
   dsimp only
   rw [hp.1, if_neg (by decide), if_neg (by decide), if_pos (.inl rfl)]
   rw [Array.length_toList]
   exact hp.2
  | some ab =>
   obtain ⟨a, b⟩ := ab
   rw [hq] at hp
   simp at hp
   dsimp only
   split
   ·exact hp.1
   ·exact hp.2
 ·obtain ⟨hk, _⟩ := Zdl.2.1 _ h
  unfold Zcl
  rw [Zej.1 _ h, hk]
  dsimp only
  rw [if_pos rfl]
  cases Zcg f.data.toList with
  | none => exact Nat.zero_le _
  | some ab =>
   obtain ⟨a, b⟩ := ab
   dsimp only
   split
   ·rename_i hh
    unfold ZcY Zde at hh
    simp only [Bool.and_eq_true, decide_eq_true_eq] at hh
    dsimp only
    omega
   ·exact Nat.zero_le _
 ·unfold Zcl
  rw [h, Zej.2, Zdl.2.2]
  dsimp only
  rw [if_neg (by decide), if_pos rfl]
  split
  ·exact Zrp _
  ·exact Nat.zero_le _
theorem ZiB (x : List UInt8) : ∀ l, Zc6 (l ++ [x]) = Zc6 l + x.length + 1
 | [] => by simp [Zc6]
 | y :: l => by rw [List.cons_append, Zc6, ZiB x l, Zc6]; omega
theorem Zuy (x : Int × List UInt8) (l : List (Int × List UInt8)) : (addP x l).length <= l.length + 1 := by
 unfold addP
 split
 ·omega
 ·rw [List.length_append]; exact Nat.le_refl _
theorem Zuz (x : List UInt8) (l : List (List UInt8)) : Zc6 (addA x l) <= Zc6 l + x.length + 1 := by
 unfold addA
 split
 ·omega
 ·rw [ZiB]; exact Nat.le_refl _
theorem Zp6 {e : DEra} (he : e.format ∈ fmtU) : ∀ (l : List (Int × ByteArray)) (acc : List (Int × List UInt8) × List (List UInt8)), (stGo e l acc).1.length <= acc.1.length + l.length /\ Zc6 (stGo e l acc).2 <= Zc6 acc.2 + 8 * l.length
 | [], acc => by simp [stGo]
 | x :: l, acc => by
  have h1 := Zuy (e.off + x.1, (Zcl e.format.data.toList e.off x.1 x.2.data.toList).1) acc.1
  have h2 := Zuz (Zcl e.format.data.toList e.off x.1 x.2.data.toList).1 acc.2
  have h3 := ZwQ he e.off x.1 x.2.data.toList
  have h4 := Zp6 he l (addP (e.off + x.1, (Zcl e.format.data.toList e.off x.1 x.2.data.toList).1) acc.1, addA (Zcl e.format.data.toList e.off x.1 x.2.data.toList).1 acc.2)
  rw [stGo]
  dsimp only at h4 ⊢
  rw [List.length_cons]
  omega
theorem ZqE (rs : List Zaa) : ∀ (l : List DEra) (acc : List (Int × List UInt8) × List (List UInt8)), (∀ e ∈ l, ∃ b, ZbC rs e b) -> (erGo rs l acc).1.length <= acc.1.length + 5 * l.length /\ Zc6 (erGo rs l acc).2 <= Zc6 acc.2 + 40 * l.length
 | [], acc, _ => by simp [erGo]
 | e :: l, acc, h => by
  obtain ⟨b, hb⟩ := h e List.mem_cons_self
  have h1 := Zp6 hb.fmt (ZaR rs e) acc
  have h2 := ZqE rs l (stGo e (ZaR rs e) acc) fun x hx => h x (List.mem_cons_of_mem _ hx)
  have h3 := hb.states.1
  rw [erGo, List.length_cons]
  omega
theorem ZaJ.few {rs : List Zaa} {z : ZaY} {Y : Nat -> Int} (h : ZaJ rs z.eras Y) : Zjl rs z = true := by
 have h1 := ZqE rs z.eras ([], []) fun e he => by
  obtain ⟨k, hk, rfl⟩ := List.mem_iff_getElem.1 he
  exact ⟨_, h.era k _ (List.getElem?_eq_getElem hk)⟩
 have h2 := h.len
 unfold Zjl
 have e0 : Zc6 [] = 0 := rfl
 rw [e0] at h1
 simp only [List.length_nil] at h1
 rw [decide_eq_true (by omega), decide_eq_true (by omega)]
 rfl
theorem ZeD {rs : List Zaa} : ∀ (l : List ZaY) (i : Nat), (∀ z ∈ l, ∃ Y, ZaJ rs z.eras Y) -> ZbM rs l i = none
 | [], _, _ => rfl
 | z :: l, i, h => by
  obtain ⟨Y, hz⟩ := h z List.mem_cons_self
  have hn : z.eras ≠ [] := fun hh => by
   have := hz.len
   rw [hh] at this
   simp at this
  rw [ZbM, if_neg hn, hz.go i z.eras.length 0 (by omega)]
  dsimp only
  rw [if_neg (by rw [hz.few]; decide)]
  exact ZeD l (i + 1) fun x hx => h x (List.mem_cons_of_mem _ hx)
def ZjF (z : ZaY) : ZaY := ⟨z.name, []⟩
def Ze9 (s : Zai) : Zai := ⟨[], s.zones.map ZjF, s.links, []⟩
theorem Zdm (x : ByteArray) : ∀ (l : List ZaY) (k : Nat), ZbA x (l.map ZjF) k = ZbA x l k
 | [], _ => rfl
 | z :: l, k => by rw [List.map_cons, ZbA, ZbA, Zdm x l (k + 1)]; rfl
theorem ZfJ (s : Zai) : ∀ (l : List ZaY) (i : Nat), Za1 (Ze9 s) (l.map ZjF) i = Za1 s l i
 | [], _ => rfl
 | z :: l, i => by
  rw [List.map_cons, Za1, Za1, ZfJ s l (i + 1), show (Ze9 s).zones = s.zones.map ZjF from rfl, Zdm]
  rfl
theorem ZfN (s : Zai) : ∀ (l : List Zbf) (i : Nat), Zbz (Ze9 s) l i = Zbz s l i
 | [], _ => rfl
 | z :: l, i => by
  rw [Zbz, Zbz, ZfN s l (i + 1), show (Ze9 s).zones = s.zones.map ZjF from rfl, Zdm, Zdm]
  rfl
theorem ZdC (s : Zai) : ∀ (f : Nat) (seen : List ByteArray) (x : ByteArray), ZaK (Ze9 s) f seen x = ZaK s f seen x
 | 0, _, _ => rfl
 | f + 1, seen, x => by
  rw [ZaK, ZaK, show (Ze9 s).zones = s.zones.map ZjF from rfl, Zdm, show (Ze9 s).links = s.links from rfl]
  simp only [ZdC s f]
theorem ZfL (s : Zai) : ∀ (l : List Zbf) (i : Nat), Zbx (Ze9 s) l i = Zbx s l i
 | [], _ => rfl
 | z :: l, i => by
  rw [Zbx, Zbx, ZfL s l (i + 1), ZdC]
  rfl
theorem Zeg (s : Zai) : Zb7 s = Zb7 (Ze9 s) := by
 unfold Zb7
 rw [show (Ze9 s).zones = s.zones.map ZjF from rfl, show (Ze9 s).links = s.links from rfl, ZfJ, ZfN, ZfL]
theorem ZyO (a b : List Zaa) (x : ByteArray) : ofB (a ++ b) x = ofB a x ++ ofB b x := List.filter_append _ _
theorem ZyP {l : List Zaa} {x : ByteArray} (h : ∀ r ∈ l, r.name = x) : ofB l x = l := List.filter_eq_self.2 fun r hr => decide_eq_true (h r hr)
theorem ZzV {l : List Zaa} {x y : ByteArray} (h : ∀ r ∈ l, r.name = y) (hxy : y ≠ x) : ofB l x = [] := List.filter_eq_nil_iff.2 fun r hr => by
 rw [h r hr]
 simp [hxy]
theorem Zf5 : ∀ (l : List Zaa) (acc : List ByteArray), ∀ x ∈ Zcd l acc, x ∈ acc \/ ∃ r ∈ l, r.name = x
 | [], acc, x, h => .inl h
 | a :: l, acc, x, h => by
  rw [Zcd] at h
  split at h
  ·rcases Zf5 l acc x h with h | ⟨r, h1, h2⟩
   ·exact .inl h
   ·exact .inr ⟨r, List.mem_cons_of_mem _ h1, h2⟩
  ·rcases Zf5 l (acc ++ [a.name]) x h with h | ⟨r, h1, h2⟩
   ·rw [List.mem_append, List.mem_singleton] at h
    rcases h with h | rfl
    ·exact .inl h
    ·exact .inr ⟨a, List.mem_cons_self, rfl⟩
   ·exact .inr ⟨r, List.mem_cons_of_mem _ h1, h2⟩
theorem ZhI {rs : List Zaa} : ∀ l : List ByteArray, (∀ x ∈ l, ZcU rs x = none) -> ZdS rs l = none
 | [], _ => rfl
 | x :: l, h => by
  rw [ZdS, h x List.mem_cons_self]
  exact ZhI l fun y hy => h y (List.mem_cons_of_mem _ hy)
attribute [local irreducible] W RL Does Zay Zam retQ Calls Pu Stp RD Qy Ay Zan
def ZcH (n : Int) : List Value := [.int .u8 n]
theorem ZbB (A : Option Addr) (c : Nat) (l : List Int) (i n : Int) (w : World) (hA : RdSl w A c ZcH 1 l) (hr : ∀ x ∈ l, inR .u8 x) (hi : 0 <= i) (hn : 0 < n) :
  Does Tryz.prog 66 [.slice A l.length c, .int .i64 i, .int .i64 n] w (fun v O => v = .int .i64 (atB l i n) /\ O = []) := by
 have hs1 := hA.le
 have hs2 := hA.cap
 unfold maxLen at hs2
 refine Zab Tryz.func66 rfl rfl rfl rfl ?_
 repeat (first | refine walk ?_)
 refine Zah rfl (fun h => ?_) (fun h => ?_)
 ·repeat (first | refine walk ?_)
  exact ret_1 _ [] (.tmp rfl) .nil ⟨by simp at h; simp [atB, h], rfl⟩
 have h0 : l.length ≠ 0 := by simpa using h
 have hp : (0 : Int) < l.length := by omega
 have hm0 := Int.emod_nonneg i (b := (l.length : Int)) (by omega)
 have hm1 := Int.emod_lt_of_pos i hp
 have hk : (i % (l.length : Int)).toNat < l.length := by omega
 obtain ⟨hna, hca⟩ := hA.rd _ _ (List.getElem?_eq_getElem hk)
 have hv := hr _ (List.getElem_mem hk)
 have e : atB l i n = l[(i % (l.length : Int)).toNat] % n := by
  rw [atB, if_neg h0, List.getD_eq_getElem?_getD, List.getElem?_eq_getElem hk]
  rfl
 rw [e]
 generalize l[(i % (l.length : Int)).toNat] = r at *
 rw [ZkF] at hv
 repeat (first | (apply RL_pu; rfl; exact PuI) | refine walk1 ?_)
 exact rtA
theorem Zht (A : Option Addr) (c : Nat) (l : List Int) (i : Int) (w : World) (hA : RdSl w A c ZcH 1 l) (hr : ∀ x ∈ l, inR .u8 x) (hi : 0 <= i) (hi2 : i <= 1000) :
  Does Tryz.prog 67 [.slice A l.length c, .int .i64 i] w (fun v O => v = .agg #[.int .i64 (ZeA l i).sec, .int .i64 (ZeA l i).base] /\ O = []) := by
 have h1 := Zaw l i 49 (by decide)
 have h2 := Zaw l (i + 1) 3 (by decide)
 refine Zab Tryz.func67 rfl rfl rfl rfl ?_
 repeat (first | (apply RL_pu; rfl; (apply ZeC; rfl; rfl; omega)) | (refine js ?_; (first | (refine Zac (fun w' hw => ZbB A c l (i) 49 w' (hA.up hw) hr (by omega) (by omega)) ?_) | (refine Zac (fun w' hw => ZbB A c l (i + 1) 3 w' (hA.up hw) hr (by omega) (by omega)) ?_) | (refine bx ?_; intro bk))) | refine walk1 ?_)
 exact ret_1 _ [] (.cellB rfl (by repeat' constructor) rfl rfl) .nil ⟨rfl, rfl⟩
theorem DDay.len3 (d : DDay) : d.enc.length = 3 := rfl
theorem ZhD {G : Prop} (h : G := by (first | (apply Pu_loadO1; rfl; exact hp 0 _ rfl) | (apply ZeC; rfl; rfl; omega))) : G := h
theorem Zk6 {G : Prop} (h : G := by first | (apply Qy_y; rfl; exact ZhD) | exact QyA) : G := h
theorem Zk7 {G : Prop} (h : G := by repeat (first | exact QF.nil | (apply QF.mk; rfl; rfl; decide +kernel; exact Zk6))) : G := h
theorem ZhC {G : Prop} (h : G := by (apply Zfz (cs := (Zh9 l i).enc); rfl; rfl; (intro w' _ hO; exact ((Zh7 (c := 3) (l := dayB l i) (t := 68) DDay.len3 (Nat.le_refl 3) (by decide) (hO.of (A := .blk bk ((dayB l i).flatMap DDay.enc) _) (by repeat' constructor))).rd _ _ hget).2))) : G := h
theorem Zk5 {G : Prop} (h : G := by first | (apply Qy_y; rfl; exact ZhC) | exact QyA) : G := h
theorem Zsk {G : Prop} (h : G := by repeat (first | exact QF.nil | (apply QF.mk; rfl; rfl; decide +kernel; exact Zk5))) : G := h
theorem ZkQ (A : Option Addr) (c : Nat) (l : List Int) (i : Int) (ad : Addr) (w : World) (hA : RdSl w A c ZcH 1 l) (hr : ∀ x ∈ l, inR .u8 x) (hi : 0 <= i) (hi2 : i <= 1000) (hp : Zao w ad [.slice A l.length c]) :
  Does Tryz.prog 108 [.int .i64 i, .pointer (some ad)] w (fun v O => v = .agg #[.int .i64 (Zh9 l i).kind, .int .i64 (Zh9 l i).week, .int .i64 (Zh9 l i).day] /\ O = []) := by
 have h1 := Zaw l i 7 (by decide)
 have h2 := Zaw l (i + 1) 4 (by decide)
 have h3 := Zaw l (i + 1) 28 (by decide)
 have h4 := Zaw l (i + 2) 3 (by decide)
 refine Zab Tryz.func108 rfl rfl rfl rfl ?_
 repeat (first | (apply RL_pu; rfl; exact ZhD) | (apply RD_Q; rfl; rfl; decide +kernel; rfl; rfl; exact Zk6) | refine walk1 ?_ | (refine jg ?_; (try intro F); (first | (refine Zac (fun w' hw => ZbB A c l (i) 7 w' (hA.up hw) hr (by omega) (by omega)) ?_) | (refine Zac (fun w' hw => ZbB A c l (i + 1) 4 w' (hA.up hw) hr (by omega) (by omega)) ?_) | (refine Zac (fun w' hw => ZbB A c l (i + 1) 28 w' (hA.up hw) hr (by omega) (by omega)) ?_) | (refine Zac (fun w' hw => ZbB A c l (i + 2) 3 w' (hA.up hw) hr (by omega) (by omega)) ?_) | (refine bx ?_; intro bk) | (refine stA ?_)); first | refine ⟨_, EndsA, Zk7, ?_⟩ | refine fin ?_) | (refine jn ?_; (try intro F); (first | (refine bx ?_; intro bk) | (refine stA ?_) | (apply Zae; first | exact ZhD | exact PuA)); first | refine ⟨_, EndsA, Zk7, ?_⟩ | refine fin ?_) | (apply RD_W; rfl; intro bk))
 have hget : (dayB l i)[(atB l (i + 2) 3).toNat]? = some (Zh9 l i) := by
  have hk : (atB l (i + 2) 3).toNat < (dayB l i).length := by simp only [dayB, List.length_cons, List.length_nil]; omega
  rw [Zh9, List.getD_eq_getElem?_getD, List.getElem?_eq_getElem hk]
  rfl
 repeat (first | (apply RL_pu; rfl; exact ZhC) | (apply RD_Q; rfl; rfl; decide +kernel; rfl; rfl; exact Zk5) | refine walk1 ?_ | (refine jn ?_; (try intro F); (first | (refine bx ?_; intro bk) | (refine stA ?_) | (apply Zae; first | exact ZhC | exact PuA)); first | refine ⟨_, EndsA, Zsk, ?_⟩ | refine fin ?_) | (apply RD_W; rfl; intro bk))
 exact ret_1 _ [] (.cellB rfl (by repeat' constructor) rfl rfl) .nil ⟨rfl, rfl⟩
attribute [local irreducible] atB Zh9 ZeA
theorem ZqQ {w : World} {b : Nat} {cs : List Value} {t : TypeId} (h : (It.blk b cs t).sat w) : Zao w ⟨b, 0, none⟩ cs := fun j v hj => (Za4 h j v hj).2
set_option maxHeartbeats 8000000 in
theorem ZiK (A : Option Addr) (c : Nat) (l : List Int) (i a b save : Int) (w : World) (hA : RdSl w A c ZcH 1 l) (hr : ∀ x ∈ l, inR .u8 x) (hi : 0 <= i) (hi2 : i <= 900) :
  Does Tryz.prog 68 [.slice A l.length c, .int .i64 i, .int .i64 a, .int .i64 b, .int .i64 save] w (fun v O => ∃ k, v = .slice (some ⟨k, 0, none⟩) 2 2 /\ O = [.blk k ((Zgz l i a b save).flatMap Zaa.enc) 118]) := by
 have r1 := Zaw l i 3 (by decide)
 have r2 := Zaw l (i + 1) 3 (by decide)
 have r3 := Zaw l (i + 8) 3 (by decide)
 have r4 := Zaw l (i + 14) 2 (by decide)
 have r5 := Zaw l (i + 2) 4 (by decide)
 refine Zab Tryz.func68 rfl rfl rfl rfl ?_
 repeat (first | refine ZvV ?_ | (refine jn ?_; (try intro F); (first | (refine bx ?_; intro bk) | (refine stA ?_) | (apply Zae; exact PuA)); refine fin ?_) | (apply RD_W; rfl; intro bk))
 generalize bk = b5
 refine Zb0 (fun fr' O' => ∃ b1, Sub [(0, .slice A l.length c), (1, .int .i64 i), (2, .int .i64 a), (3, .int .i64 b), (4, .int .i64 save), (5, .pointer (some ⟨b5, 0, none⟩)), (11, .func (.func 108) #[] #[.pointer (some ⟨b5, 0, none⟩)]), (12, .pointer (some ⟨b1, 0, none⟩))] fr' /\ SubO [.blk b1 (ZoC l i a b save).enc 118, .blk b5 [.slice A l.length c] 103] O') ?_ ?_
 ·repeat (first | refine walk ?_ | (refine jg ?_; (try intro F); (first | (refine Zac (fun w' hw => ZbB A c l (i) 3 w' (hA.up hw) hr (by omega) (by omega)) ?_) | (refine Zac (fun w' hw => ZbB A c l (i + 8) 3 w' (hA.up hw) hr (by omega) (by omega)) ?_) | (refine Zac (fun w' hw => Zht A c l (i + 6) w' (hA.up hw) hr (by omega) (by omega)) ?_) | (apply Zar (f := 108) (us := []) (cs := [.pointer (some ⟨b5, 0, none⟩)]) (vs := [.int .i64 (i + 3)]) (h := fun w' hw hO => ZkQ A c l (i + 3) ⟨b5, 0, none⟩ w' (hA.up hw) hr (by omega) (by omega) (ZqQ (hO.of (A := .blk b5 _ _) (by repeat' constructor)))); rfl; rfl; rintro v O' ⟨rfl, rfl⟩) | (refine bx ?_; intro bk) | (refine stA ?_)); refine fin ?_) | (refine jn ?_; (try intro F); (first | (refine bx ?_; intro bk) | (refine stA ?_) | (apply Zae; exact PuA)); refine fin ?_) | (apply RD_W; rfl; intro bk))
  exact ⟨rfl, _, SFA, SOA⟩
 rintro fr' O' ⟨b1, hf, hO⟩
 apply thenQ_n
 refine Zch hf hO ?_
 repeat (first | refine ZvV ?_ | (refine jn ?_; (try intro F); (first | (refine bx ?_; intro bk) | (refine stA ?_) | (apply Zae; exact PuA)); refine fin ?_) | (apply RD_W; rfl; intro bk))
 refine Zb0 (fun fr' O' => ∃ b2, Sub [(0, .slice A l.length c), (1, .int .i64 i), (2, .int .i64 a), (3, .int .i64 b), (4, .int .i64 save), (5, .pointer (some ⟨b5, 0, none⟩)), (11, .func (.func 108) #[] #[.pointer (some ⟨b5, 0, none⟩)]), (12, .pointer (some ⟨b1, 0, none⟩)), (13, .pointer (some ⟨b2, 0, none⟩))] fr' /\ SubO [.blk b2 (Zrw l i a b 0).enc 118, .blk b1 (ZoC l i a b save).enc 118, .blk b5 [.slice A l.length c] 103] O') ?_ ?_
 ·repeat (first | refine walk ?_ | (refine jg ?_; (try intro F); (first | (refine Zac (fun w' hw => ZbB A c l (i + 1) 3 w' (hA.up hw) hr (by omega) (by omega)) ?_) | (refine Zac (fun w' hw => ZbB A c l (i + 14) 2 w' (hA.up hw) hr (by omega) (by omega)) ?_) | (refine Zac (fun w' hw => Zht A c l (i + 12) w' (hA.up hw) hr (by omega) (by omega)) ?_) | (apply Zar (f := 108) (us := []) (cs := [.pointer (some ⟨b5, 0, none⟩)]) (vs := [.int .i64 (i + 9)]) (h := fun w' hw hO => ZkQ A c l (i + 9) ⟨b5, 0, none⟩ w' (hA.up hw) hr (by omega) (by omega) (ZqQ (hO.of (A := .blk b5 _ _) (by repeat' constructor)))); rfl; rfl; rintro v O' ⟨rfl, rfl⟩) | (refine bx ?_; intro bk) | (refine stA ?_)); refine fin ?_) | (refine jn ?_; (try intro F); (first | (refine bx ?_; intro bk) | (refine stA ?_) | (apply Zae; exact PuA)); refine fin ?_) | (apply RD_W; rfl; intro bk))
  exact ⟨rfl, _, SFA, SOA⟩
 rintro fr' O' ⟨b2, hf, hO⟩
 apply thenQ_n
 refine Zch hf hO ?_
 repeat (first | refine walk ?_ | (refine jg ?_; (try intro F); (first | (refine Zac (fun w' hw => ZbB A c l (i + 2) 4 w' (hA.up hw) hr (by omega) (by omega)) ?_) | (refine bx ?_; intro bk) | (refine stA ?_)); refine fin ?_) | (refine jn ?_; (try intro F); (first | (refine bx ?_; intro bk) | (refine stA ?_) | (apply Zae; exact PuA)); refine fin ?_) | (apply RD_W; rfl; intro bk))
 generalize hra : ZoC l i a b save = ra
 generalize hrb : Zrw l i a b 0 = rb
 refine Zch (fr' := [(65, .bool (decide (atB l (i + 2) 4 = 0))), (12, .pointer (some ⟨b1, 0, none⟩)), (13, .pointer (some ⟨b2, 0, none⟩))]) SFA (show SubO [.blk b2 [.string rb.name, .int .i64 rb.from_, .int .i64 rb.to, .int .i64 rb.month, .int .i64 rb.day.kind, .int .i64 rb.day.week, .int .i64 rb.day.day, .int .i64 rb.at_.sec, .int .i64 rb.at_.base, .int .i64 rb.save, .string rb.letter] 118, .blk b1 [.string ra.name, .int .i64 ra.from_, .int .i64 ra.to, .int .i64 ra.month, .int .i64 ra.day.kind, .int .i64 ra.day.week, .int .i64 ra.day.day, .int .i64 ra.at_.sec, .int .i64 ra.at_.base, .int .i64 ra.save, .string ra.letter] 118] _ from SOA) ?_
 refine Zah rfl (fun h => ?_) (fun h => ?_)
 ·have e : Zgz l i a b save = [⟨ra.name, ra.from_, ra.to, ra.month, ra.day, ra.at_, rb.save, ra.letter⟩, ⟨rb.name, rb.from_, rb.to, rb.month, rb.day, rb.at_, ra.save, rb.letter⟩] := by
   rw [Zgz, if_pos (by simpa using h), <- hra, <- hrb]
   rfl
  rw [e]
  repeat (first | refine walk ?_ | (refine jn ?_; (try intro F); (first | (refine bx ?_; intro bk) | (refine stA ?_) | (apply Zae; exact PuA)); refine fin ?_) | (apply RD_W; rfl; intro bk))
  exact ret_1 _ [.blk bk (List.flatMap Zaa.enc [⟨ra.name, ra.from_, ra.to, ra.month, ra.day, ra.at_, rb.save, ra.letter⟩, ⟨rb.name, rb.from_, rb.to, rb.month, rb.day, rb.at_, ra.save, rb.letter⟩]) 118] (.tmp rfl) SOA ⟨_, rfl, rfl⟩
 have e : Zgz l i a b save = [ra, rb] := by rw [Zgz, if_neg (by simpa using h), <- hra, <- hrb]
 rw [e]
 repeat (first | refine walk ?_ | (refine jn ?_; (try intro F); (first | (refine bx ?_; intro bk) | (refine stA ?_) | (apply Zae; exact PuA)); refine fin ?_) | (apply RD_W; rfl; intro bk))
 exact ret_1 _ [.blk bk (List.flatMap Zaa.enc [ra, rb]) 118] (.tmp rfl) SOA ⟨_, rfl, rfl⟩
end Go.Proofs.YtpcpmndldgejiaaGreatDoor
