/- Plain: what the statement's function fault tells, from the fault. Plain law: a draft with one wrong era is refused at this era. Plain law: ends of eras that are near to an event, or to another end. Plain: the sources of AcceptSpoilt and AcceptEnds are small. -/
import Derived.Test.YtbjkhnlnedfceaaGreatDoorQ36
import Derived.Test.YtbjkhnlnedfceaaGreatDoorQ14
set_option maxHeartbeats 4000000
set_option linter.unusedVariables false
set_option linter.unusedSimpArgs false
namespace Go.Proofs.YtbjkhnlnedfceaaGreatDoor
open Go Go.RowKit Go.Wk
theorem faultB_of {a : DSource} {q : DPlace} {e : Int} (h : accD a = some (q, e)) : faultB a q e = true := by
 unfold faultB inD formsD
 rw [h]
 simp [ptP]
def lastN' : ByteArray := ⟨#[76, 97, 115, 116]⟩
def noneN : ByteArray := ⟨#[78, 111, 110, 101]⟩
def tilX : DUntil := ⟨true, 2150, 1, ⟨1, 0, 1⟩, ⟨0, 0⟩⟩
def spoil (x : Int) (k n : Nat) (e : DEra) : DEra × Int :=
 if x = 0 then ({ e with kind := 3 }, 2)
 else if x = 1 then ({ e with kind := -1 }, 2)
 else if x = 2 then (if k = 0 then ({ e with kind := 2, set := ⟨#[82]⟩, save := 0 }, 12) else ({ e with kind := 2, set := noneN, save := 0 }, 9))
 else if x = 3 then ({ e with kind := 1, set := ByteArray.empty, save := 10801 }, 14)
 else if x = 4 then ({ e with kind := 1, set := ByteArray.empty, save := 0 }, 14)
 else if x = 5 then ({ e with off := 54001 }, 3)
 else if x = 6 then ({ e with off := -54001 }, 3)
 else if x = 7 then ({ e with kind := 0, save := 1, set := ByteArray.empty }, 2)
 else if x = 8 then ({ e with format := ⟨#[88]⟩ }, 15)
 else ({ e with til := tilX }, if k + 1 = n then 12 else 3)
theorem DrEra.kk {rs : List DRule} {e : DEra} {first : Bool} (h : DrEra rs e first) : (0 ≤ e.kind ∧ e.kind ≤ 2) ∧ (¬ (first = true ∧ e.kind = 2)) ∧ (¬ (e.kind = 2 ∧ setOf rs e = [])) ∧ ¬ (e.kind = 1 ∧ (e.save < 1 ∨ 10800 < e.save)) := by
 rcases h with ⟨hk, _⟩ | ⟨hk, hs, _⟩ | ⟨hk, hf, _, _, _, _, h3, _⟩
 ·exact ⟨by omega, by omega, by omega, by omega⟩
 ·exact ⟨by omega, by omega, by omega, by omega⟩
 ·refine ⟨by omega, by rw [hf]; simp, ?_, by omega⟩
  rintro ⟨_, hn⟩
  rw [setOf, if_pos hk] at hn
  obtain ⟨_, _, _, ⟨r, hr, _⟩, _⟩ := h3.saves
  rw [hn] at hr
  cases hr
theorem DrEra.hrs {rs : List DRule} {e : DEra} {first : Bool} (h : DrEra rs e first) : ¬ (hoursB e.off 0 = false ∨ ((statesOf rs e).any fun x => !hoursB e.off x.1) = true) := by
 obtain ⟨_, s2, s3, s4, _⟩ := h.states
 rintro (hh | hh)
 ·unfold hoursB at hh; simp at hh; omega
 ·obtain ⟨x, hx, hh⟩ := List.any_eq_true.1 hh
  have := s2 x hx
  unfold hoursB at hh
  simp at hh
  omega
theorem DrEra.un {rs : List DRule} {e : DEra} {first : Bool} (h : DrEra rs e first) (hu : e.til.is = true ∨ e.til = noTil) : unusedB e = false := by
 have ht : (!e.til.is && !decide ({ e.til with is := false } = dU0)) = false := by
  rcases hu with hu | hu
  ·rw [hu]; rfl
  ·rw [hu]; decide
 unfold unusedB
 rw [ht]
 rcases h with ⟨hk, hs, he, _⟩ | ⟨hk, hs, he, _⟩ | ⟨hk, _, hs, _⟩
 ·rw [hk, hs, he]; decide
 ·rw [hk, he]; simp
 ·rw [hk, hs]; simp
theorem kindX : kindF [88] = 0 := by decide +kernel
theorem DrEras.tilOk {rs : List DRule} {l : List DEra} {Y : Nat → Int} (h : DrEras rs l Y) {k : Nat} {e : DEra} (he : l[k]? = some e) : e.til.is = true ∨ e.til = noTil := by
 have hT := h.til k e he
 split at hT
 ·rcases hT with ⟨_, _, _, hh, _⟩ | ⟨_, _, _, hh, _⟩ <;> exact .inl (by rw [hh])
 ·exact .inr hT
theorem getD_set {α : Type} (l : List α) (k : Nat) (a d : α) (h : k < l.length) : (l.set k a).getD k d = a := by rw [List.getD_eq_getElem?_getD, List.getElem?_set_self h]; rfl
theorem getD_set_ne {α : Type} (l : List α) (k q : Nat) (a d : α) (h : k ≠ q) : (l.set k a).getD q d = l.getD q d := by rw [List.getD_eq_getElem?_getD, List.getElem?_set_ne h, List.getD_eq_getElem?_getD]
theorem eraChk_3 {rs : List DRule} {e : DEra} {f : Bool} (h1 : ¬ (e.kind < 0 ∨ 2 < e.kind)) (h2 : ¬ (f = true ∧ e.kind = 2)) (h3 : ¬ (e.kind = 2 ∧ setOf rs e = [])) (h4 : ¬ (e.kind = 1 ∧ (e.save < 1 ∨ 10800 < e.save))) (h5 : hoursB e.off 0 = false) : eraChk rs e f = 3 := by
 unfold eraChk
 rw [if_neg h1, if_neg h2, if_neg h3, if_neg h4, if_pos (.inl h5)]
theorem eraChk_f {rs : List DRule} {e : DEra} {f : Bool} (h1 : ¬ (e.kind < 0 ∨ 2 < e.kind)) (h2 : ¬ (f = true ∧ e.kind = 2)) (h3 : ¬ (e.kind = 2 ∧ setOf rs e = [])) (h4 : ¬ (e.kind = 1 ∧ (e.save < 1 ∨ 10800 < e.save))) (h5 : ¬ (hoursB e.off 0 = false ∨ ((statesOf rs e).any fun x => !hoursB e.off x.1) = true)) (h6 : unusedB e = false) : eraChk rs e f = fmtChk e (setOf rs e) := by
 unfold eraChk
 rw [if_neg h1, if_neg h2, if_neg h3, if_neg h4, if_neg h5, if_neg (by rw [h6]; decide)]
theorem spoil_chk {rs : List DRule} {l : List DEra} {Y : Nat → Int} (h : DrEras rs l Y) {k : Nat} (hk : k < l.length) (hN : ofB rs noneN = []) (x : Int) :
  (eraChk rs (spoil x k l.length (l.getD k dE0)).1 (decide (k = 0)) = (spoil x k l.length (l.getD k dE0)).2 ∧ (spoil x k l.length (l.getD k dE0)).2 ≠ 0) ∨
  (eraChk rs (spoil x k l.length (l.getD k dE0)).1 (decide (k = 0)) = 0 ∧ endChk rs (l.set k (spoil x k l.length (l.getD k dE0)).1) k = (spoil x k l.length (l.getD k dE0)).2 ∧ (spoil x k l.length (l.getD k dE0)).2 ≠ 0) := by
 obtain ⟨e, he, hd⟩ := getD_of (d := dE0) hk
 have hE := h.era k e he
 have hu := h.tilOk he
 rw [hd]
 clear hd
 obtain ⟨k1, k2, k3, k4⟩ := hE.kk
 by_cases hx : x = 9 ∨ ¬ (0 ≤ x ∧ x ≤ 9)
 ·have hs : spoil x k l.length e = ({ e with til := tilX }, if k + 1 = l.length then 12 else 3) := by
   unfold spoil
   rw [if_neg (by omega), if_neg (by omega), if_neg (by omega), if_neg (by omega), if_neg (by omega), if_neg (by omega), if_neg (by omega), if_neg (by omega), if_neg (by omega)]
  rw [hs]
  have hE2 : DrEra rs { e with til := tilX } (decide (k = 0)) := hE.til tilX
  refine .inr ⟨hE2.chk (.inl rfl), ?_, ?_⟩
  ·unfold endChk
   dsimp only
   rw [getD_set _ _ _ _ hk, List.length_set]
   by_cases hl : k + 1 = l.length
   ·rw [if_pos (by rw [decide_eq_false (by omega)]; simp [tilX]), if_pos hl]
   ·have hls := hE2.least
    have hc : untilChk tilX (leastD (setOf rs { e with til := tilX })) = 3 := by
     unfold untilChk
     rw [if_neg (by omega), if_neg (by (try dsimp only); decide), if_pos (.inr (.inl (by (try dsimp only); decide)))]
    rw [if_neg (by rw [decide_eq_true (by omega)]; simp [tilX]), if_neg (by (try dsimp only); decide), if_neg hl, if_pos (by show untilChk tilX _ ≠ 0; rw [hc]; decide)]
    exact hc
  ·dsimp only
   split <;> decide
 refine .inl ?_
 have hc : x = 0 ∨ x = 1 ∨ x = 2 ∨ x = 3 ∨ x = 4 ∨ x = 5 ∨ x = 6 ∨ x = 7 ∨ x = 8 := by omega
 rcases hc with rfl | rfl | rfl | rfl | rfl | rfl | rfl | rfl | rfl
 ·rw [show spoil 0 k l.length e = ({ e with kind := 3 }, 2) from rfl]
  exact ⟨by unfold eraChk; rw [if_pos (.inr (by (try dsimp only); decide))], by (try dsimp only); decide⟩
 ·rw [show spoil 1 k l.length e = ({ e with kind := -1 }, 2) from rfl]
  exact ⟨by unfold eraChk; rw [if_pos (.inl (by (try dsimp only); decide))], by (try dsimp only); decide⟩
 ·rw [show spoil 2 k l.length e = (if k = 0 then ({ e with kind := 2, set := ⟨#[82]⟩, save := 0 }, 12) else ({ e with kind := 2, set := noneN, save := 0 }, 9)) from rfl]
  by_cases h0 : k = 0
  ·rw [if_pos h0, decide_eq_true h0]
   exact ⟨by unfold eraChk; rw [if_neg (by (try dsimp only); decide), if_pos ⟨rfl, rfl⟩], by (try dsimp only); decide⟩
  ·rw [if_neg h0, decide_eq_false h0]
   refine ⟨?_, by (try dsimp only); decide⟩
   unfold eraChk
   rw [if_neg (by (try dsimp only); decide), if_neg (by simp), if_pos]
   exact ⟨rfl, by unfold setOf; rw [if_pos rfl]; exact hN⟩
 ·rw [show spoil 3 k l.length e = ({ e with kind := 1, set := ByteArray.empty, save := 10801 }, 14) from rfl]
  exact ⟨by unfold eraChk; rw [if_neg (by (try dsimp only); decide), if_neg (by simp), if_neg (by simp), if_pos ⟨rfl, .inr (by (try dsimp only); decide)⟩], by (try dsimp only); decide⟩
 ·rw [show spoil 4 k l.length e = ({ e with kind := 1, set := ByteArray.empty, save := 0 }, 14) from rfl]
  exact ⟨by unfold eraChk; rw [if_neg (by (try dsimp only); decide), if_neg (by simp), if_neg (by simp), if_pos ⟨rfl, .inl (by (try dsimp only); decide)⟩], by (try dsimp only); decide⟩
 ·rw [show spoil 5 k l.length e = ({ e with off := 54001 }, 3) from rfl]
  exact ⟨eraChk_3 (e := { e with off := 54001 }) (by show ¬ (e.kind < 0 ∨ 2 < e.kind); omega) k2 k3 k4 (by show hoursB (54001) 0 = false; decide), by show (3 : Int) ≠ 0; decide⟩
 ·rw [show spoil 6 k l.length e = ({ e with off := -54001 }, 3) from rfl]
  exact ⟨eraChk_3 (e := { e with off := -54001 }) (by show ¬ (e.kind < 0 ∨ 2 < e.kind); omega) k2 k3 k4 (by show hoursB (-54001) 0 = false; decide), by show (3 : Int) ≠ 0; decide⟩
 ·rw [show spoil 7 k l.length e = ({ e with kind := 0, save := 1, set := ByteArray.empty }, 2) from rfl]
  refine ⟨?_, by (try dsimp only); decide⟩
  obtain ⟨_, _, s3, s4, _⟩ := hE.states
  unfold eraChk
  rw [if_neg (by (try dsimp only); decide), if_neg (by simp), if_neg (by simp), if_neg (by simp), if_neg, if_pos (by unfold unusedB; simp)]
  rintro (hh | hh)
  ·unfold hoursB at hh; simp at hh; omega
  ·unfold statesOf hoursB at hh
   simp at hh
   omega
 ·rw [show spoil 8 k l.length e = ({ e with format := ⟨#[88]⟩ }, 15) from rfl]
  refine ⟨?_, by show (15 : Int) ≠ 0; decide⟩
  show eraChk rs { e with format := ⟨#[88]⟩ } _ = 15
  rw [eraChk_f (e := { e with format := ⟨#[88]⟩ }) (by show ¬ (e.kind < 0 ∨ 2 < e.kind); omega) k2 k3 k4 hE.hrs (hE.un hu)]
  unfold fmtChk
  exact if_pos kindX
theorem erasGo_skip {rs : List DRule} {l : List DEra} {i : Nat} : ∀ m f j : Nat, (∀ q, j ≤ q → q < j + m → eraChk rs (l.getD q dE0) (decide (q = 0)) = 0 ∧ endChk rs l q = 0) → erasGo rs l i (m + f) j = erasGo rs l i f (j + m)
 | 0, f, j, _ => by rw [Nat.zero_add, Nat.add_zero]
 | m + 1, f, j, h => by
  obtain ⟨h1, h2⟩ := h j (Nat.le_refl _) (by omega)
  rw [show m + 1 + f = (m + f) + 1 by omega, erasGo, if_neg (by rw [h1]; decide), if_neg (by rw [h2]; decide), erasGo_skip m f (j + 1) fun q q1 q2 => h q (by omega) (by omega), show j + 1 + m = j + (m + 1) by omega]
theorem erasGo_spoil {rs : List DRule} {l : List DEra} {Y : Nat → Int} (h : DrEras rs l Y) {k : Nat} (hk : k < l.length) (hN : ofB rs noneN = []) (x : Int) (i : Nat) :
  erasGo rs (l.set k (spoil x k l.length (l.getD k dE0)).1) i l.length 0 = some (⟨2, i, k⟩, (spoil x k l.length (l.getD k dE0)).2) := by
 have hs := spoil_chk h hk hN x
 generalize spoil x k l.length (l.getD k dE0) = p at *
 rw [show l.length = k + ((l.length - k - 1) + 1) by omega, erasGo_skip k _ 0 fun q _ q2 => ?_, Nat.zero_add, erasGo, getD_set _ _ _ _ hk]
 ·rcases hs with ⟨h1, h2⟩ | ⟨h1, h2, h3⟩
  ·rw [if_pos (by rw [h1]; exact h2), h1]
  ·rw [if_neg (by rw [h1]; decide), if_pos (by rw [h2]; exact h3), h2]
 ·rw [getD_set_ne _ _ _ _ _ (by omega)]
  refine ⟨h.eraOk (by omega), ?_⟩
  rw [← h.endOk (k := q) (by omega)]
  unfold endChk
  rw [getD_set_ne _ _ _ _ _ (by omega), getD_set_ne _ _ _ _ _ (by omega), List.length_set]
theorem zonesGo_app {rs : List DRule} : ∀ (A B : List DZone) (i : Nat), (∀ z ∈ A, ∃ Y, DrEras rs z.eras Y) → zonesGo rs (A ++ B) i = zonesGo rs B (i + A.length)
 | [], _, _, _ => rfl
 | z :: A, B, i, h => by
  obtain ⟨Y, hz⟩ := h z List.mem_cons_self
  have hn : z.eras ≠ [] := fun hh => by
   have := hz.len
   rw [hh] at this
   simp at this
  rw [List.cons_append, zonesGo, if_neg hn, hz.go i z.eras.length 0 (by omega)]
  dsimp only
  rw [if_neg (by rw [hz.few]; decide), zonesGo_app A B (i + 1) fun x hx => h x (List.mem_cons_of_mem _ hx), List.length_cons, show i + 1 + A.length = i + (A.length + 1) by omega]
theorem map_set_same {α β : Type} (f : α → β) : ∀ (l : List α) (i : Nat) (a b : α), l[i]? = some b → f a = f b → (l.set i a).map f = l.map f
 | [], i, a, b, h, _ => by simp at h
 | x :: l, 0, a, b, h, hf => by
  simp only [List.getElem?_cons_zero, Option.some.injEq] at h
  subst h
  rw [List.set_cons_zero, List.map_cons, List.map_cons, hf]
 | x :: l, i + 1, a, b, h, hf => by
  rw [List.set_cons_succ, List.map_cons, List.map_cons, map_set_same f l i a b (by simpa using h) hf]
theorem links_all2 : ∀ nz : Fin 4, ∀ nl : Fin 4, ∀ a b c : Fin 4, a.val < nz.val → linksD ⟨[], zns nz.val ++ [⟨lastN', []⟩], lks nz.val (ch3 a.val b.val c.val) nl.val, []⟩ = none := by decide +kernel
def spoZ (z : DZone) (k : Nat) (x : Int) : DZone := ⟨z.name, z.eras.set k (spoil x k z.eras.length (z.eras.getD k dE0)).1⟩
def spoSrc (d : DDr) (i k : Nat) (x : Int) : DSource := { made25 d with zones := (made25 d).zones.set i (spoZ ((made25 d).zones.getD i ⟨ByteArray.empty, []⟩) k x) ++ [⟨lastN', []⟩] }
def spoE (d : DDr) (i k : Nat) (x : Int) : Int := (spoil x k ((made25 d).zones.getD i ⟨ByteArray.empty, []⟩).eras.length (((made25 d).zones.getD i ⟨ByteArray.empty, []⟩).eras.getD k dE0)).2
theorem made25_nzl (d : DDr) : (made25 d).zones.length = d.nz ∧ d.nz ≤ 3 ∧ d.nl ≤ 3 := ⟨(zones25_rng d.L d.made d.nz).1, by unfold DDr.nz; omega, by unfold DDr.nl; omega⟩
theorem spo_acc (d : DDr) (i k : Nat) (x : Int) (hi : i < (made25 d).zones.length) (hk : k < ((made25 d).zones.getD i ⟨ByteArray.empty, []⟩).eras.length) : accD (spoSrc d i k x) = some (⟨2, i, k⟩, spoE d i k x) := by
 obtain ⟨n1, n2, n3⟩ := made25_nzl d
 obtain ⟨z, hz, hzd⟩ := getD_of (l := (made25 d).zones) (k := i) (d := ⟨ByteArray.empty, []⟩) hi
 have hzm : z ∈ (made25 d).zones := List.mem_of_getElem? hz
 obtain ⟨Y, hY⟩ := made25_zones d z hzm
 have hN : ofB (made25 d).rules noneN = [] := List.filter_eq_nil_iff.2 fun r hr => by
  obtain ⟨j, h3, h4⟩ := rules25_names d.sets d.made r hr
  have hm : d.made ≤ 2 := Nat.min_le_right _ _
  have hc : j = 0 ∨ j = 1 := by omega
  rw [h4]
  rcases hc with rfl | rfl <;> decide
 unfold spoE
 rw [hzd] at hk ⊢
 have hgo := erasGo_spoil hY hk hN x i
 have hsz : sizesD (spoSrc d i k x) = none := by
  refine made25_sizes d _ (by rw [List.length_append, List.length_set]; show (made25 d).zones.length + 1 ≤ 100; omega) fun q hq => ?_
  rw [List.mem_append, List.mem_singleton] at hq
  rcases hq with hq | rfl
  ·rcases List.mem_or_eq_of_mem_set hq with hq | rfl
   ·obtain ⟨Y2, h2⟩ := made25_zones d q hq
    have := h2.len
    omega
   ·rw [hzd]
    show (z.eras.set k _).length ≤ 60
    rw [List.length_set]
    have := hY.len
    omega
  ·exact Nat.zero_le _
 have hlk : linksD (spoSrc d i k x) = none := by
  have hb := zones25_bare d.L d.made d.nz
  have hmap : (spoSrc d i k x).zones.map bare' = zns d.nz ++ [⟨lastN', []⟩] := by
   show ((made25 d).zones.set i _ ++ [(⟨lastN', []⟩ : DZone)]).map bare' = _
   rw [List.map_append, map_set_same bare' _ i _ z hz (by rw [hzd]; rfl)]
   show (zones25 d.L d.made d.nz).1.map bare' ++ _ = _
   rw [hb]
   rfl
  have h0 : d.nz ≠ 0 := by omega
  obtain ⟨c, h1, h2, h3⟩ := links25_lks d.L _ d.nz hb (by omega) n2 (zones25 d.L d.made d.nz).2 d.nl
  have hll : (spoSrc d i k x).links = lks d.nz (ch3 (c 0) (c 1) (c 2)) d.nl := by
   show (if d.nz = 0 then [] else (links25 d.L (zones25 d.L d.made d.nz).1 (zones25 d.L d.made d.nz).2 d.nl).1) = _
   rw [if_neg h0, h3, lks_congr d.nz c (ch3 (c 0) (c 1) (c 2)) d.nl fun i hi => by
    have hc : i = 0 ∨ i = 1 ∨ i = 2 := by omega
    rcases hc with rfl | rfl | rfl <;> rfl]
  rw [linksD_bare]
  unfold bareS
  rw [hmap, hll]
  exact links_all2 ⟨d.nz, by omega⟩ ⟨d.nl, by omega⟩ ⟨c 0, h1 0⟩ ⟨c 1, h1 1⟩ ⟨c 2, h1 2⟩ h2
 have hzo : zonesGo (made25 d).rules (spoSrc d i k x).zones 0 = some (⟨2, i, k⟩, (spoil x k z.eras.length (z.eras.getD k dE0)).2) := by
  show zonesGo _ ((made25 d).zones.set i (spoZ ((made25 d).zones.getD i ⟨ByteArray.empty, []⟩) k x) ++ _) 0 = _
  rw [hzd, List.set_eq_take_append_cons_drop, if_pos hi, List.append_assoc, zonesGo_app _ _ _ fun q hq => made25_zones d q (List.mem_of_mem_take hq), List.length_take, Nat.min_eq_left (by omega), Nat.zero_add, List.cons_append, zonesGo]
  have hn : (spoZ z k x).eras ≠ [] := fun hh => by
   have h1 : (z.eras.set k (spoil x k z.eras.length (z.eras.getD k dE0)).1).length = 0 := by
    show (spoZ z k x).eras.length = 0
    rw [hh]
    rfl
   rw [List.length_set] at h1
   omega
  rw [if_neg hn, show (spoZ z k x).eras = z.eras.set k (spoil x k z.eras.length (z.eras.getD k dE0)).1 from rfl, List.length_set, hgo]
 unfold accD
 rw [hsz, show setsD (spoSrc d i k x) = setsD (made25 d) from rfl, made25_sets d, show (spoSrc d i k x).shifts = [] from rfl, hlk, show (spoSrc d i k x).rules = (made25 d).rules from rfl, hzo]
 rfl
theorem spo_fault (d : DDr) (i k : Nat) (x : Int) (hi : i < (made25 d).zones.length) (hk : k < ((made25 d).zones.getD i ⟨ByteArray.empty, []⟩).eras.length) : faultB (spoSrc d i k x) ⟨2, i, k⟩ (spoE d i k x) = true :=
 faultB_of (spo_acc d i k x hi hk)
def lmtN : ByteArray := ⟨#[76, 77, 84]⟩
def zN : ByteArray := ⟨#[90]⟩
def rN : ByteArray := ⟨#[82]⟩
def eraL (u : DUntil) : DEra := ⟨0, 0, 0, ByteArray.empty, lmtN, u⟩
def dec1 (y : Int) : DUntil := ⟨true, y, 12, ⟨1, 0, 1⟩, ⟨0, 0⟩⟩
def nearU (x : DRule) : DUntil := ⟨true, x.from_, x.month, x.day, ⟨x.at_.sec - 86400, x.at_.base⟩⟩
def nearE (x : DRule) : DEra := ⟨0, 2, 0, rN, lmtN, nearU x⟩
def nearL (x : DRule) : List DEra := [eraL (dec1 (x.from_ - 1)), nearE x, eraL noTil]
def nearS (l : List DRule) (x : DRule) : DSource := ⟨l, [⟨zN, nearL x⟩], [], []⟩
def nearSec (l : List DRule) (x : DRule) : Int := if x.at_.base = 1 then x.at_.sec - 86400 + leastD l else x.at_.sec - 86400
theorem leastD_neg (l : List DRule) : leastD l ≤ 0 := (foldMin l 0).1
theorem near_far {l : List DRule} {j : Nat} {r : DRule} {y n : Int} {e : DEvent} (hj : l[j]? = some r) (he : onR (leastD l) r (j : Int) y = some e) (hn : n = e.nominal - 86400) (hb : -3000000000000 ≤ n ∧ n ≤ 3000000000000) : farD l n = false := by
 have hL := leastD_neg l
 have hz := yearOf_jan (t := n - 259200) (by omega) (by omega)
 have hi := onR_in hL he
 obtain ⟨_, _, s1, _⟩ := onR_some he
 have c1 : y ≤ yearOf (n - 259200) + 1 := year_near (by omega)
 have c2 : yearOf (n - 259200) ≤ y + 1 := year_near (by omega)
 have hst : max (max r.from_ (-2000000000)) (yearOf (n - 259200) - 2) ≤ y := by omega
 obtain ⟨e', k1, k2⟩ := evIn_full' (leastD l) (n - 259200) r (j : Int) 20 (max (max r.from_ (-2000000000)) (yearOf (n - 259200) - 2)) (y - max (max r.from_ (-2000000000)) (yearOf (n - 259200) - 2)).toNat e (by omega) (by rw [show max (max r.from_ (-2000000000)) (yearOf (n - 259200) - 2) + ((y - max (max r.from_ (-2000000000)) (yearOf (n - 259200) - 2)).toNat : Int) = y by omega]; exact he) (by omega)
 obtain ⟨e2, k3, k4⟩ := afterGo_full' (leastD l) (n - 259200) (yearOf (n - 259200)) l 0 none j r e' hj (by rw [Nat.zero_add]; exact k1)
 unfold farD
 rw [show afterD l (n - 259200) = some e2 from k3]
 exact decide_eq_false (by omega)
theorem dec1_nom (Y least : Int) (hY : 1850 ≤ Y ∧ Y ≤ 2149) (hl : -3600 ≤ least ∧ least ≤ 0) : untilChk (dec1 Y) least = 0 ∧ nominalU (dec1 Y) least = (86400 * (mar1 Y + 275), 0) := by
 have hin : inY Y = true := by
  unfold inY
  simp
  omega
 have hL := lenM_28 Y 12 (by decide) (by decide)
 have hdd : DrDay ⟨1, 0, 1⟩ := .inr (.inr ⟨rfl, rfl, by decide, by decide⟩)
 have e0 : onD Y 12 ⟨1, 0, 1⟩ = (mar1 Y + 275, 0) := by
  have hok : daysOk Y 12 1 = true := by
   unfold daysOk
   rw [hin]
   simp
   omega
  unfold onD
  rw [if_neg (by rw [hok]; decide), if_neg (by rw [hdd.chk]; decide), if_neg (by show ¬ lenM Y 12 < 1; omega), dayNo_mar _ _ _ (by decide), show beforeL.getD ((12 : Int) - 3).toNat 0 = 275 by decide]
  unfold findD
  rw [if_pos rfl]
  dsimp only
  rw [show mar1 Y + 275 + 1 - 1 + 1 - 1 = mar1 Y + 275 by omega]
 have e1 : untilChk (dec1 Y) least = 0 := by
  unfold untilChk dec1
  dsimp only
  rw [if_neg (by omega), if_neg (by decide), if_neg (by rw [show clkChk ⟨0, 0⟩ = true by decide]; simp; omega), e0, if_neg (by simp)]
 refine ⟨e1, ?_⟩
 unfold nominalU
 rw [if_neg (by rw [e1]; decide)]
 unfold dec1
 dsimp only
 rw [e0, if_neg (by decide)]
 simp
theorem near_end {rs : List DRule} (hS : DrSet rs) (hof : ofB rs rN = rs) {j : Nat} {x : DRule} (hx : rs[j]? = some x) : endChk rs (nearL x) 1 = if nearSec rs x < -86400 then 3 else 13 := by
 have hX := hS.rule x (List.mem_of_getElem? hx)
 have hl := hS.least
 obtain ⟨m0, m1⟩ := hX.mon12
 have f0 := hX.f0
 have f1 := hX.f1
 have ft := hX.ft
 have hc := hX.clk
 have hin : inY x.from_ = true := by
  unfold inY
  simp
  omega
 obtain ⟨o0, o1, o2⟩ := hX.day.on hin m0 m1
 obtain ⟨b1, b2⟩ := mon_bd hX.mon x.from_
 have hb := loS_bd x.month
 have hset : setOf rs (nearE x) = rs := by
  unfold setOf
  rw [if_pos (by rfl)]
  exact hof
 have hck : clkChk ⟨x.at_.sec - 86400, x.at_.base⟩ = true := by
  unfold clkChk
  simp
  omega
 have hun : untilChk (nearU x) (leastD rs) = if nearSec rs x < -86400 then 3 else 0 := by
  unfold untilChk nearU
  dsimp only
  rw [if_neg (by omega), if_neg (by decide), if_neg (by rw [hck]; simp; omega), o0]
  unfold nearSec
  by_cases hB : x.at_.base = 1
  ·rw [if_pos hB]
   by_cases hs : x.at_.sec - 86400 + leastD rs < -86400
   ·rw [if_pos (.inr (.inl hs)), if_pos hs]
   ·rw [if_neg (by omega), if_neg hs]
  ·rw [if_neg hB]
   by_cases hs : x.at_.sec - 86400 < -86400
   ·rw [if_pos (.inr (.inl hs)), if_pos hs]
   ·rw [if_neg (by omega), if_neg hs]
 unfold endChk
 simp only [show (nearL x).getD 1 dE0 = nearE x from rfl, show (nearL x).getD (1 - 1) dE0 = eraL (dec1 (x.from_ - 1)) from rfl]
 rw [if_neg (by show ¬ (true ≠ decide (1 + 1 < 3)); simp), if_neg (by show ¬ (true = false); simp), hset, show (nearE x).til = nearU x from rfl, hun]
 by_cases hs : nearSec rs x < -86400
 ·rw [if_pos hs, if_pos (by decide), if_pos hs]
 rw [if_neg hs, if_neg (by decide)]
 have hlY : ¬ lastY x < x.from_ := by unfold lastY; split <;> omega
 have hmx : (if x.at_.base = 1 then max (leastD rs) (-10800) else 0) = (if x.at_.base = 1 then leastD rs else 0) := by
  split
  ·omega
  ·rfl
 have hmb : -3600 ≤ (if x.at_.base = 1 then leastD rs else 0) ∧ (if x.at_.base = 1 then leastD rs else 0) ≤ 0 := by split <;> omega
 have hev : onR (leastD rs) x (j : Int) x.from_ = some ⟨x.from_, j, 86400 * (onD x.from_ x.month x.day).1 + x.at_.sec + (if x.at_.base = 1 then leastD rs else 0)⟩ := by
  unfold onR
  rw [if_neg, if_neg (by rw [o0]; decide), hmx]
  rintro (hh | hh | hh)
  ·omega
  ·exact hlY hh
  ·unfold clkChk at hh
   simp at hh
   omega
 have hno : nominalU (nearU x) (leastD rs) = (86400 * (onD x.from_ x.month x.day).1 + (x.at_.sec - 86400) + (if x.at_.base = 1 then leastD rs else 0), 0) := by
  unfold nominalU
  rw [if_neg (by rw [hun, if_neg hs]; decide)]
  rfl
 have hse : setOf rs (eraL (dec1 (x.from_ - 1))) = [] := by
  unfold setOf
  rw [if_neg (by show ¬ (0 : Int) = 2; decide)]
 obtain ⟨_, d2⟩ := dec1_nom (x.from_ - 1) 0 (by omega) (by decide)
 have hm1 := mar1_lt (show x.from_ - 1 < x.from_ by omega)
 have hlo : mar1 x.from_ ≥ -719468 := by unfold mar1; omega
 have hhi : mar1 x.from_ ≤ 1000000 := by unfold mar1; omega
 rw [hno, hse, leastD_nil, show (eraL (dec1 (x.from_ - 1))).til = dec1 (x.from_ - 1) from rfl, d2, if_neg, if_pos]
 ·first | rfl | (rw [if_neg hs])
 ·refine ⟨rfl, near_far hx hev ?_ ?_⟩
  ·dsimp only
   omega
  ·dsimp only
   generalize (onD x.from_ x.month x.day).1 = D at *
   generalize (if x.at_.base = 1 then leastD rs else 0) = mx at *
   omega
 ·rintro ⟨_, hh | hh⟩
  ·exact hh rfl
  ·dsimp only at hh
   generalize (onD x.from_ x.month x.day).1 = D at *
   generalize (if x.at_.base = 1 then leastD rs else 0) = mx at *
   omega
theorem near_acc {rs : List DRule} (hS : DrSet rs) (h5 : rs.length ≤ 5) (hn : ∀ r ∈ rs, r.name = rN) {j : Nat} {x : DRule} (hx : rs[j]? = some x) : accD (nearS rs x) = some (⟨2, 0, 1⟩, if nearSec rs x < -86400 then 3 else 13) := by
 have hX := hS.rule x (List.mem_of_getElem? hx)
 have f0 := hX.f0
 have f1 := hX.f1
 have hof : ofB rs rN = rs := ofB_all hn
 have hsz : sizesD (nearS rs x) = none := by
  unfold sizesD
  rw [if_neg (by show ¬ 2000 < rs.length; omega), if_neg (by show ¬ 500 < 1; decide), show (nearS rs x).zones.findIdx? (fun z => decide (60 < z.eras.length)) = none from rfl]
  dsimp only
  rw [if_neg (by show ¬ 1000 < 0; decide), if_neg (by show ¬ 2000 < 0; decide)]
 have hst : setsD (nearS rs x) = none := by
  refine setsGo_none' _ fun y hy => ?_
  rcases namesB_mem' _ _ y hy with h | ⟨r, h1, h2⟩
  ·cases h
  ·rw [← h2, hn r h1]
   exact DrSet.fault (rs := rs) (by rw [hof]; exact hS) (by decide)
 have hlk : linksD (nearS rs x) = none := by
  rw [linksD_bare]
  show linksD ⟨[], [⟨zN, []⟩], [], []⟩ = none
  decide +kernel
 have hA : DrEra rs (eraL (dec1 (x.from_ - 1))) true := .inl ⟨rfl, rfl, rfl, by show (-46800 : Int) ≤ 0; decide, by show (0 : Int) ≤ 46800; decide, List.Mem.head _⟩
 have hB : DrEra rs (nearE x) false := .inr (.inr ⟨rfl, rfl, rfl, by show (-43200 : Int) ≤ 0; decide, by show (0 : Int) ≤ 43200; decide, List.Mem.head _, by show DrSet (ofB rs rN); rw [hof]; exact hS, by show (ofB rs rN).length ≤ 5; rw [hof]; exact h5⟩)
 have hA1 : endChk rs (nearL x) 0 = 0 := by
  have hse : setOf rs (eraL (dec1 (x.from_ - 1))) = [] := by
   unfold setOf
   rw [if_neg (by show ¬ (0 : Int) = 2; decide)]
  obtain ⟨d1, _⟩ := dec1_nom (x.from_ - 1) 0 (by omega) (by decide)
  unfold endChk
  simp only [show (nearL x).getD 0 dE0 = eraL (dec1 (x.from_ - 1)) from rfl]
  rw [if_neg (by show ¬ (true ≠ decide (0 + 1 < 3)); simp), if_neg (by show ¬ (true = false); simp), hse, leastD_nil, show (eraL (dec1 (x.from_ - 1))).til = dec1 (x.from_ - 1) from rfl, d1, if_neg (by decide), if_neg (by rintro ⟨h, _⟩; exact Nat.lt_irrefl _ h), if_neg (by rintro ⟨h, _⟩; revert h; show ¬ (0 : Int) = 2; decide)]
 have hend := near_end hS hof hx
 have hz : zonesGo rs [⟨zN, nearL x⟩] 0 = some (⟨2, 0, 1⟩, if nearSec rs x < -86400 then 3 else 13) := by
  rw [zonesGo, if_neg (by exact fun hh => by cases hh)]
  have hgo : erasGo rs (nearL x) 0 3 0 = some (⟨2, 0, 1⟩, if nearSec rs x < -86400 then 3 else 13) := by
   rw [erasGo, if_neg, if_neg (by rw [hA1]; decide), erasGo, if_neg, if_pos, hend]
   ·rfl
   ·rw [show 0 + 1 = 1 from rfl, hend]
    split <;> decide
   ·show ¬ (eraChk rs (nearE x) false ≠ 0)
    rw [hB.chk (.inl rfl)]
    decide
   ·show ¬ (eraChk rs (eraL (dec1 (x.from_ - 1))) true ≠ 0)
    rw [hA.chk (.inl rfl)]
    decide
  show (match erasGo rs (nearL x) 0 3 0 with | some x => some x | none => _) = _
  rw [hgo]
 unfold accD
 rw [hsz, hst, show (nearS rs x).shifts = [] from rfl, hlk, show (nearS rs x).rules = rs from rfl, show (nearS rs x).zones = [⟨zN, nearL x⟩] from rfl, hz]
 rfl
def may10 : DUntil := ⟨true, 1900, 5, ⟨1, 0, 10⟩, ⟨0, 0⟩⟩
def hourU (h : Int) : DUntil := if 172800 < (h - 24) * 3600 then ⟨true, 1900, 5, ⟨1, 0, 12⟩, ⟨(h - 48) * 3600, 0⟩⟩ else ⟨true, 1900, 5, ⟨1, 0, 11⟩, ⟨(h - 24) * 3600, 0⟩⟩
def hourS (h : Int) : DSource := ⟨[], [⟨zN, [eraL may10, eraL (hourU h), eraL noTil]⟩], [], []⟩
theorem hour_all : ∀ k : Fin 24, accD (hourS (60 + (k.val : Int))) = if 12 ≤ k.val then none else some (⟨2, 0, 1⟩, 12) := by decide +kernel
theorem hour_acc (h : Int) (h0 : 60 ≤ h) (h1 : h ≤ 83) : accD (hourS h) = if 72 ≤ h then none else some (⟨2, 0, 1⟩, 12) := by
 have := hour_all ⟨(h - 60).toNat, by omega⟩
 dsimp only at this
 rw [show 60 + ((h - 60).toNat : Int) = h by omega] at this
 rw [this]
 by_cases hc : 72 ≤ h
 ·rw [if_pos hc, if_pos (by omega)]
 ·rw [if_neg hc, if_neg (by omega)]
theorem spoil_sm {e : DEra} (h : SmE e) (x : Int) (k n : Nat) : SmE (spoil x k n e).1 := by
 unfold spoil
 repeat' split
 all_goals refine ⟨?_, ?_, ?_, ?_, ?_⟩ <;> first | exact h.set | exact h.fmt | exact h.off | exact h.save | exact h.kind | (dsimp only; decide) | (dsimp only; omega)
theorem spo_sml (d : DDr) (i k : Nat) (x : Int) (hi : i < (made25 d).zones.length) (hk : k < ((made25 d).zones.getD i ⟨ByteArray.empty, []⟩).eras.length) : Sml (spoSrc d i k x) := by
 have h := made25_sml d
 obtain ⟨n1, n2, _⟩ := made25_nzl d
 obtain ⟨z, hz, hzd⟩ := getD_of (l := (made25 d).zones) (k := i) (d := ⟨ByteArray.empty, []⟩) hi
 have hzm := h.zs z (List.mem_of_getElem? hz)
 rw [hzd] at hk
 obtain ⟨e, he, hed⟩ := getD_of (l := z.eras) (k := k) (d := dE0) hk
 refine ⟨h.nr, ?_, h.nl, h.ns, h.rs, fun q hq => ?_, h.ls⟩
 ·show ((made25 d).zones.set i _ ++ [_]).length ≤ 100
  rw [List.length_append, List.length_set, List.length_singleton]
  omega
 ·replace hq : q ∈ (made25 d).zones.set i (spoZ ((made25 d).zones.getD i ⟨ByteArray.empty, []⟩) k x) ++ [(⟨lastN', []⟩ : DZone)] := hq
  rw [List.mem_append, List.mem_singleton] at hq
  rcases hq with hq | rfl
  ·rcases List.mem_or_eq_of_mem_set hq with hq | rfl
   ·exact h.zs q hq
   ·rw [hzd]
    refine ⟨hzm.1, by show (z.eras.set k _).length ≤ 100; rw [List.length_set]; exact hzm.2.1, fun e2 he2 => ?_⟩
    rcases List.mem_or_eq_of_mem_set he2 with h2 | rfl
    ·exact hzm.2.2 e2 h2
    ·rw [hed]
     exact spoil_sm (hzm.2.2 e (List.mem_of_getElem? he)) _ _ _
  ·exact ⟨by decide, Nat.zero_le _, fun e he => by cases he⟩
theorem eraL_sm (u : DUntil) : SmE (eraL u) := ⟨Nat.zero_le _, by show lmtN.size ≤ 100; decide, by show (-1000000 : Int) ≤ 0 ∧ (0 : Int) ≤ 1000000; decide, by show (-1000000 : Int) ≤ 0 ∧ (0 : Int) ≤ 1000000; decide, by show (-1000000 : Int) ≤ 0 ∧ (0 : Int) ≤ 1000000; decide⟩
theorem nearE_sm (x : DRule) : SmE (nearE x) := ⟨by show rN.size ≤ 100; decide, by show lmtN.size ≤ 100; decide, by show (-1000000 : Int) ≤ 0 ∧ (0 : Int) ≤ 1000000; decide, by show (-1000000 : Int) ≤ 0 ∧ (0 : Int) ≤ 1000000; decide, by show (-1000000 : Int) ≤ 2 ∧ (2 : Int) ≤ 1000000; decide⟩
theorem near_sml {rs : List DRule} (hS : DrSet rs) (h5 : rs.length ≤ 5) (hn : ∀ r ∈ rs, r.name = rN) (x : DRule) : Sml (nearS rs x) := by
 refine ⟨by show rs.length ≤ 100; omega, by show 1 ≤ 100; decide, Nat.zero_le _, Nat.zero_le _, (fun r hr => ?_), (fun z hz => ?_), (fun l hl => by cases hl)⟩
 ·have q := hS.rule r hr
  have := q.save
  exact ⟨by rw [hn r hr]; decide, let_size q.letter, by omega, by omega⟩
 ·rw [show (nearS rs x).zones = [⟨zN, nearL x⟩] from rfl, List.mem_singleton] at hz
  subst hz
  refine ⟨by show zN.size ≤ 100; decide, by show 3 ≤ 100; decide, fun e he => ?_⟩
  replace he : e ∈ [eraL (dec1 (x.from_ - 1)), nearE x, eraL noTil] := he
  simp only [List.mem_cons, List.not_mem_nil, or_false] at he
  rcases he with rfl | rfl | rfl
  ·exact eraL_sm _
  ·exact nearE_sm x
  ·exact eraL_sm _
theorem hour_sml (h : Int) : Sml (hourS h) := by
 refine ⟨Nat.zero_le _, by show 1 ≤ 100; decide, Nat.zero_le _, Nat.zero_le _, (fun r hr => by cases hr), (fun z hz => ?_), (fun l hl => by cases hl)⟩
 rw [show (hourS h).zones = [⟨zN, [eraL may10, eraL (hourU h), eraL noTil]⟩] from rfl, List.mem_singleton] at hz
 subst hz
 refine ⟨by show zN.size ≤ 100; decide, by show 3 ≤ 100; decide, fun e he => ?_⟩
 replace he : e ∈ [eraL may10, eraL (hourU h), eraL noTil] := he
 simp only [List.mem_cons, List.not_mem_nil, or_false] at he
 rcases he with rfl | rfl | rfl <;> exact eraL_sm _
end Go.Proofs.YtbjkhnlnedfceaaGreatDoor
