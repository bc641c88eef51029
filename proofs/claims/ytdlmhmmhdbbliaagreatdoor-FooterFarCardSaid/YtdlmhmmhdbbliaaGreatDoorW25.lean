/- Parts of the proof. -/
import Derived.Test.YtdlmhmmhdbbliaaGreatDoorW24
import Derived.Test.YtdlmhmmhdbbliaaGreatDoorW11
import Derived.Test.YtdlmhmmhdbbliaaGreatDoorW23
import Derived.Test.YtdlmhmmhdbbliaaGreatDoorW20
import Derived.Test.YtdlmhmmhdbbliaaGreatDoorW21
import Derived.Test.YtdlmhmmhdbbliaaGreatDoorW22
set_option maxHeartbeats 4000000
set_option linter.unusedVariables false
set_option linter.unusedSimpArgs false
namespace Go.Proofs.YtdlmhmmhdbbliaaGreatDoor
open Go Go.RowKit Go.Wk
def seU (a : Option Nat × Option Nat) (r : Zaa) (i : Nat) : Option Nat × Option Nat := if r.save = 0 then (a.1, some i) else (some i, a.2)
theorem ZsU : ∀ (l : List Zaa) (i : Nat) (a : Option Nat × Option Nat), (l.filter fun r => decide (r.to = 1048576)) = [] -> seF l i a = a /\ ∀ (k : Nat) r, l[k]? = some r -> r.to ≠ 1048576
 | [], _, _, _ => ⟨rfl, fun k r h => by simp at h⟩
 | x :: l, i, a, h => by
  rw [List.filter_cons] at h
  by_cases hx : x.to = 1048576
  ·rw [if_pos (decide_eq_true hx)] at h; cases h
  rw [if_neg (by simp [hx])] at h
  obtain ⟨h1, h2⟩ := ZsU l (i + 1) a h
  rw [seF, if_neg hx]
  refine ⟨h1, fun k r hk => ?_⟩
  rcases k with _ | k
  ·simp only [List.getElem?_cons_zero, Option.some.injEq] at hk
   subst hk
   exact hx
  ·exact h2 k r (by simpa using hk)
theorem Zwd {b : Zaa} : ∀ (l : List Zaa) (i : Nat) (a : Option Nat × Option Nat), (l.filter fun r => decide (r.to = 1048576)) = [b] -> ∃ k, l[k]? = some b /\ b.to = 1048576 /\ seF l i a = seU a b (i + k) /\ ∀ (j : Nat) r, l[j]? = some r -> r.to = 1048576 -> j = k
 | [], _, _, h => by cases h
 | x :: l, i, a, h => by
  rw [List.filter_cons] at h
  by_cases hx : x.to = 1048576
  ·rw [if_pos (decide_eq_true hx)] at h
   obtain ⟨h9, h8⟩ := List.cons.inj h
   subst h9
   obtain ⟨h1, h2⟩ := ZsU l (i + 1) (seU a x i) h8
   refine ⟨0, rfl, hx, ?_, fun j r hj hr => ?_⟩
   ·rw [seF, if_pos hx]
    exact h1
   ·rcases j with _ | j
    ·rfl
    ·exact absurd hr (h2 j r (by simpa using hj))
  ·rw [if_neg (by simp [hx])] at h
   obtain ⟨k, h1, h2, h3, h4⟩ := Zwd l (i + 1) a h
   refine ⟨k + 1, by simpa using h1, h2, ?_, fun j r hj hr => ?_⟩
   ·rw [seF, if_neg hx, h3, show i + (k + 1) = i + 1 + k by omega]
   ·rcases j with _ | j
    ·simp only [List.getElem?_cons_zero, Option.some.injEq] at hj
     subst hj
     exact absurd hr hx
    ·rw [h4 j r (by simpa using hj) hr]
theorem Zwc {b c : Zaa} : ∀ (l : List Zaa) (i : Nat) (a : Option Nat × Option Nat), (l.filter fun r => decide (r.to = 1048576)) = [b, c] -> ∃ k m, k ≠ m /\ l[k]? = some b /\ l[m]? = some c /\ b.to = 1048576 /\ c.to = 1048576 /\ seF l i a = seU (seU a b (i + k)) c (i + m) /\ ∀ (j : Nat) r, l[j]? = some r -> r.to = 1048576 -> j = k \/ j = m
 | [], _, _, h => by cases h
 | x :: l, i, a, h => by
  rw [List.filter_cons] at h
  by_cases hx : x.to = 1048576
  ·rw [if_pos (decide_eq_true hx)] at h
   obtain ⟨h9, h8⟩ := List.cons.inj h
   subst h9
   obtain ⟨m, h1, h2, h3, h4⟩ := Zwd l (i + 1) (seU a x i) h8
   refine ⟨0, m + 1, by omega, rfl, by simpa using h1, hx, h2, ?_, fun j r hj hr => ?_⟩
   ·rw [seF, if_pos hx]
    show seF l (i + 1) (seU a x i) = _
    rw [h3, show i + (m + 1) = i + 1 + m by omega]
    rfl
   ·rcases j with _ | j
    ·exact .inl rfl
    ·exact .inr (by rw [h4 j r (by simpa using hj) hr])
  ·rw [if_neg (by simp [hx])] at h
   obtain ⟨k, m, h0, h1, h2, h3, h4, h5, h6⟩ := Zwc l (i + 1) a h
   refine ⟨k + 1, m + 1, by omega, by simpa using h1, by simpa using h2, h3, h4, ?_, fun j r hj hr => ?_⟩
   ·rw [seF, if_neg hx, h5, show i + (k + 1) = i + 1 + k by omega, show i + (m + 1) = i + 1 + m by omega]
   ·rcases j with _ | j
    ·simp only [List.getElem?_cons_zero, Option.some.injEq] at hj
     subst hj
     exact absurd hr hx
    ·rcases h6 j r (by simpa using hj) hr with h | h
     ·exact .inl (by rw [h])
     ·exact .inr (by rw [h])
theorem ZgH {l : List Zaa} (h : Zh9 l = true) : (seF l 0 (none, none) = (none, none) /\ ∀ (k : Nat) r, l[k]? = some r -> r.to ≠ 1048576) \/
  ∃ i j a b, i ≠ j /\ l[i]? = some a /\ l[j]? = some b /\ a.to = 1048576 /\ b.to = 1048576 /\ a.save ≠ 0 /\ b.save = 0 /\ seF l 0 (none, none) = (some i, some j) /\ ∀ (k : Nat) r, l[k]? = some r -> r.to = 1048576 -> k = i \/ k = j := by
 unfold Zh9 at h
 split at h
 ·rename_i he
  exact .inl (ZsU l 0 _ he)
 ·rename_i b c he
  obtain ⟨k, m, h0, h1, h2, h3, h4, h5, h6⟩ := Zwc l 0 (none, none) he
  rw [Nat.zero_add, Nat.zero_add] at h5
  have hbc : (decide (b.save = 0) != decide (c.save = 0)) = true := by
   simp only [Bool.and_eq_true] at h
   exact h.1.1.1
  by_cases hb : b.save = 0
  ·have hc : c.save ≠ 0 := fun hc => by rw [decide_eq_true hb, decide_eq_true hc] at hbc; cases hbc
   refine .inr ⟨m, k, c, b, fun hh => h0 hh.symm, h2, h1, h4, h3, hc, hb, ?_, fun j r hj hr => (h6 j r hj hr).symm⟩
   rw [h5]
   unfold seU
   rw [if_neg hc, if_pos hb]
  ·have hc : c.save = 0 := by
    by_cases hc : c.save = 0
    ·exact hc
    ·rw [decide_eq_false hb, decide_eq_false hc] at hbc; cases hbc
   refine .inr ⟨k, m, b, c, h0, h1, h2, h3, h4, hb, hc, ?_, h6⟩
   rw [h5]
   unfold seU
   rw [if_pos hc, if_neg hb]
 ·cases h
theorem Zsi : 2000000000 <= Zax 1152921504606846976 := by decide +kernel
theorem Zbh.never {l : List Zaa} (h : Zbh l) {y : Int} (hy : y <= 3000) (hold : ∀ r ∈ l, r.to < y) {off t : Int} (ho : -43200 <= off /\ off <= 43200) (h0 : 86400 * jan1 y <= t) (h1 : t <= 38000000000000000) :
  ∃ x, befD l 1152921504606846976 = some x /\ EvOf l x /\ atS l off t = behS l x := by
 have full : ∀ f, EvOf l f -> ∃ e, befD l 1152921504606846976 = some e /\ f.nominal <= e.nominal := fun f hf => by
  obtain ⟨j, r, z, hj, hz⟩ := hf
  have hm := List.mem_of_getElem? hj
  have hr := h.rule r hm
  have hl := hr.lastYr
  have ho := hold r hm
  have ht := hr.t1
  have hly : lastY r = r.to /\ r.to <= 2149 := by unfold lastY; rw [if_neg (by omega)]; omega
  obtain ⟨g, hg⟩ := hr.onY (Zah l) (j : Int) (y := lastY r) hl.1 (Int.le_refl _)
  have hzl := Zo3 hz
  have hfg : f.nominal <= g.nominal := by
   rcases Int.lt_or_eq_of_le hzl with hlt | rfl
   ·exact Int.le_of_lt (ZdN hz hg hlt)
   ·rw [hz] at hg
    cases hg
    exact Int.le_refl _
  have hgn : g.nominal < 1152921504606846976 := by
   have := (hr.ev h.least hg).2.2.2.2.2
   have hb := Zdu r.month
   have hm2 : mar1 (lastY r) <= mar1 2149 := ZfB (by omega)
   have h6 : mar1 2149 <= 70000 := by decide
   omega
  have hnf := Zsi
  obtain ⟨e', k1, k2⟩ := Zge (Zah l) 1152921504606846976 r (j : Int) 20 (min (lastY r) (Zax 1152921504606846976 + 2)) 0 g (by decide) (by
   rw [show min (lastY r) (Zax 1152921504606846976 + 2) - ((0 : Nat) : Int) = lastY r by omega]; exact hg) hgn
  obtain ⟨e, k3, k4⟩ := ZgT (Zah l) 1152921504606846976 (Zax 1152921504606846976) l 0 none j r e' hj (by rw [Nat.zero_add]; exact k1)
  exact ⟨e, k3, by omega⟩
 have near := h.inst_near ho
 have early : ∀ f, EvOf l f -> Zcr l f off <= t := fun f hf => by
  have nf := near f
  obtain ⟨j, r, z, hj, hz⟩ := hf
  have hm := List.mem_of_getElem? hj
  obtain ⟨_, _, _, e4, _, e6⟩ := (h.rule r hm).ev h.least hz
  have ho := hold r hm
  have ht := (h.rule r hm).t1
  have := e4 (by omega)
  have hb := Zdu r.month
  have hmm : mar1 z <= mar1 (y - 1) := ZfB (by omega)
  have := ZkE (y - 1)
  rw [show y - 1 + 1 = y by omega] at this
  omega
 obtain ⟨s, _, _, ⟨r, hr, _⟩, _⟩ := h.saves
 obtain ⟨j, hj⟩ := List.mem_iff_getElem?.1 hr
 have hrr := h.rule r hr
 obtain ⟨g, hg⟩ := hrr.onY (Zah l) (j : Int) (y := r.from_) (Int.le_refl _) hrr.lastYr.1
 have hgE : EvOf l g := ⟨j, r, _, hj, hg⟩
 obtain ⟨x, hx, _⟩ := full g hgE
 obtain ⟨hxE, _⟩ := ZiI hx
 have hge := early g hgE
 have hlo := h.low hgE
 have ng := near g
 obtain ⟨o, o1, o2⟩ := h.atS_last ho (t := t) (by omega) (by omega)
 refine ⟨x, hx, hxE, ?_⟩
 rw [o2]
 cases o with
 | none => exact absurd (o1 g hgE) (by omega)
 | some e =>
  obtain ⟨e1, _, e3⟩ := o1
  have q1 := e3 x hxE (early x hxE)
  obtain ⟨x', hx', q2⟩ := full e e1
  rw [hx] at hx'
  cases hx'
  rw [h.eq e1 hxE (by omega)]
  rfl
def ofF (s : Zai) (l : List DEra) : Za4 :=
 if (Zdv l).kind = 2 then
  match seF (ofB s.rules (Zdv l).set) 0 (none, none) with
  | (some i, some j) => ZfK (Zdv l) ((ofB s.rules (Zdv l).set).getD i dR0) ((ofB s.rules (Zdv l).set).getD j dR0)
  | _ => match befD (ofB s.rules (Zdv l).set) 1152921504606846976 with
   | some x => Zbq (Zdv l) (ruE (ofB s.rules (Zdv l).set) x).save (ruE (ofB s.rules (Zdv l).set) x).letter
   | none => Zbq (Zdv l) 0 ByteArray.empty
 else Zbq (Zdv l) (Zdv l).save ByteArray.empty
theorem ZhX {e : DEra} {x : Int × ByteArray} (hf : e.format ∈ fmtU) (hx : DrSt e x) {t : Int} (ht : -40000000000000000 <= t /\ t <= 40000000000000000) : pxAt (Zbq e x.1 x.2) t = Zfi e x := by
 obtain ⟨_, hab⟩ := Zoe hf hx
 obtain ⟨h1, h2, _⟩ := hx
 unfold Zbq pxAt Zfi
 by_cases h0 : x.1 = 0
 ·rw [if_pos h0]
  dsimp only
  rw [if_neg (by rintro ⟨hh, _⟩; exact hh rfl), h0, Int.add_zero]
  rfl
 ·rw [if_neg h0]
  have hp := ZrY (p := ⟨xxxB, e.off, Zc2 e x.1 x.2, e.off + x.1, ⟨2, 0, 0, 0, 0⟩, ⟨1, 365, 0, 0, 86400 + x.1⟩⟩) (save := x.1) (t := t) rfl rfl rfl (by dsimp only; omega) ht
  rw [if_pos ⟨hab, hp⟩, decide_eq_false h0]
  rfl
theorem Zbi.off_bd {rs : List Zaa} {e : DEra} {b : Bool} (h : Zbi rs e b) : -46800 <= e.off /\ e.off <= 46800 := by
 rcases h with ⟨_, _, _, h1, h2, _⟩ | ⟨_, _, _, h1, h2, _⟩ | ⟨_, _, _, h1, h2, _⟩ <;> omega
theorem Zqj {R : List Zaa} {e : DEra} (hS : Zbh R) (ho : -43200 <= e.off /\ e.off <= 43200) (hf : e.format ∈ fmtU) (hst : ∀ r ∈ R, DrSt e (r.save, r.letter)) {y : Int} (hy : y <= 3000) (hold : ∀ r ∈ R, r.from_ < y /\ (r.to = 1048576 \/ r.to < y))
  {i j : Nat} {a b : Zaa} (hij : i ≠ j) (hi : R[i]? = some a) (hj : R[j]? = some b) (ha : a.to = 1048576) (hb : b.to = 1048576) (hsa : a.save ≠ 0) (hsb : b.save = 0) (hu : ∀ (k : Nat) r, R[k]? = some r -> r.to = 1048576 -> k = i \/ k = j)
  {t : Int} (h0 : 86400 * jan1 (y + 1) <= t) (h1 : t <= 38000000000000000) : pxAt (ZfK e a b) t = Zfi e (atS R e.off t) := by
 have hma := List.mem_of_getElem? hi
 have hmb := List.mem_of_getElem? hj
 have hra := hS.rule a hma
 have hrb := hS.rule b hmb
 have hva := hS.save0 a hma
 obtain ⟨xa, da, ba⟩ := ZsR hra hi ha (n := e.off) (b := 0) (by omega) (by omega)
 obtain ⟨xb, db, bb⟩ := ZsR hrb hj hb (n := e.off) (b := a.save) (by omega) (by omega)
 have hin : ∀ z, 1900 <= z -> z <= 2000000000 -> inY z = true := fun z z0 z1 => by unfold inY; rw [decide_eq_true (by omega), decide_eq_true (by omega)]; rfl
 have hfa := hra.f0
 have hfb := hrb.f0
 have hba : ZvV R a i e.off b.save (fun z => 86400 * Zbt xa z + xa.sec - e.off) := fun z z0 z1 => by
  obtain ⟨v, v1, v2, v3⟩ := ba z (hin z (by omega) z1) z0 z1
  refine ⟨v, v1, by dsimp only; omega, fun hs => ?_⟩
  have := v3 (by omega)
  dsimp only
  omega
 have hbb : ZvV R b j e.off a.save (fun z => 86400 * Zbt xb z + xb.sec - (e.off + a.save)) := fun z z0 z1 => by
  obtain ⟨v, v1, v2, v3⟩ := bb z (hin z (by omega) z1) z0 z1
  refine ⟨v, v1, by dsimp only; omega, fun hs => ?_⟩
  have := v3 hs
  dsimp only
  omega
 have hp : ZfK e a b = ⟨Zc2 e b.save b.letter, e.off, Zc2 e a.save a.letter, e.off + a.save, xa, xb⟩ := by
  unfold ZfK
  rw [da, db]
 rw [hp]
 have hdst : Zc2 e a.save a.letter ≠ ByteArray.empty := (Zoe hf (hst a hma)).2
 generalize hP : (⟨Zc2 e b.save b.letter, e.off, Zc2 e a.save a.letter, e.off + a.save, xa, xb⟩ : Za4) = P
 have hbeg : ∀ z, Zqi P z = [(86400 * Zbt xa z + xa.sec - e.off, true), (86400 * Zbt xb z + xb.sec - (e.off + a.save), false)] := fun z => by rw [<- hP]; rfl
 obtain ⟨m1, _, m3⟩ := ZrX t (ZfR P (Zax t - 2) 5) (-4611686018427387904, false)
 have hL : ZcB P t = List.foldl (ZaS t) (-4611686018427387904, false) (ZfR P (Zax t - 2) 5) := rfl
 have hno : ∀ {x r : Int × Bool}, pxNo x r -> x.1 <= r.1 := fun hh => by
  rcases hh with hh | ⟨hh, _⟩ <;> omega
 have hmx : ∀ j : Nat, j < 5 -> (86400 * Zbt xa (Zax t - 2 + (j : Nat)) + xa.sec - e.off <= t -> 86400 * Zbt xa (Zax t - 2 + (j : Nat)) + xa.sec - e.off <= (ZcB P t).1) /\
   (86400 * Zbt xb (Zax t - 2 + (j : Nat)) + xb.sec - (e.off + a.save) <= t -> 86400 * Zbt xb (Zax t - 2 + (j : Nat)) + xb.sec - (e.off + a.save) <= (ZcB P t).1) := fun j hj => by
  refine ⟨fun hh => ?_, fun hh => ?_⟩
  ·have := hno (m3 (86400 * Zbt xa (Zax t - 2 + (j : Nat)) + xa.sec - e.off, true) ((Zdr 5 _).2 ⟨j, hj, by rw [hbeg]; exact List.mem_cons_self⟩) hh)
   rw [hL]
   exact this
  ·have := hno (m3 (86400 * Zbt xb (Zax t - 2 + (j : Nat)) + xb.sec - (e.off + a.save), false) ((Zdr 5 _).2 ⟨j, hj, by rw [hbeg]; exact List.mem_cons_of_mem _ List.mem_cons_self⟩) hh)
   rw [hL]
   exact this
 have hin5 : ZcB P t = (-4611686018427387904, false) \/ ((ZcB P t).1 <= t /\ ∃ j : Nat, j < 5 /\ (ZcB P t = (86400 * Zbt xa (Zax t - 2 + (j : Nat)) + xa.sec - e.off, true) \/ ZcB P t = (86400 * Zbt xb (Zax t - 2 + (j : Nat)) + xb.sec - (e.off + a.save), false))) := by
  rw [hL]
  rcases m1 with m1 | ⟨m1, m2⟩
  ·exact .inl m1
  ·obtain ⟨j, hj, hin⟩ := (Zdr 5 _).1 m1
   rw [hbeg] at hin
   refine .inr ⟨m2, j, hj, ?_⟩
   rcases List.mem_cons.1 hin with hin | hin
   ·exact .inl hin
   ·exact .inr (List.mem_singleton.1 hin)
 have hres : ∃ v, ZuC R e.off t (some v) /\ ((behS R v = (a.save, a.letter) /\ (ZcB P t).2 = true) \/ (behS R v = (b.save, b.letter) /\ (ZcB P t).2 = false)) := by
  have hsea : sea a.month ≠ sea b.month := by
   have := hra.f1
   have := hrb.f1
   rcases ZkJ hS.dist hi hj hij with (hh | hh) | (hh | hh)
   ·omega
   ·exact hh
   ·omega
   ·exact fun h => hh h.symm
  have hA := hold a hma
  have hB := hold b hmb
  rcases Znr hra.mon hrb.mon hsea with hlt | hlt
  ·have hAlt : Alt R y i j a b := ⟨hS, hy, hi, hj, ha, hb, hA.1, hB.1, hlt, hu, fun r hr => (hold r hr).2⟩
   exact hAlt.main ho hba hbb h0 h1 hin5 hmx
  ·have hAlt : Alt R y j i b a := ⟨hS, hy, hj, hi, hb, ha, hB.1, hA.1, hlt, fun k r hk hr => (hu k r hk hr).symm, fun r hr => (hold r hr).2⟩
   obtain ⟨v, v1, v2⟩ := hAlt.main ho hbb hba h0 h1 (kp := false) (kq := true) (r := ZcB P t)
    (by rcases hin5 with h | ⟨h, j, hj, h2⟩
        ·exact .inl h
        ·exact .inr ⟨h, j, hj, h2.symm⟩)
    (fun j hj => ⟨(hmx j hj).2, (hmx j hj).1⟩)
   exact ⟨v, v1, v2.symm⟩
 obtain ⟨v, v1, v2⟩ := hres
 have hyl := hold a hma
 have hj0 := ZeS (z := y + 1) (by omega)
 obtain ⟨o, o1, o2⟩ := hS.atS_last ho (t := t) (by omega) (by omega)
 have hov : atS R e.off t = behS R v := by
  rw [o2]
  obtain ⟨w1, w2, w3⟩ := v1
  cases o with
  | none => exact absurd (o1 v w1) (by omega)
  | some u =>
   obtain ⟨u1, u2, u3⟩ := o1
   have q1 := u3 v w1 w2
   have q2 := w3 u u1 u2
   rw [hS.eq u1 w1 (by omega)]
   rfl
 rw [hov]
 unfold pxAt
 rcases v2 with ⟨v2, v3⟩ | ⟨v2, v3⟩
 ·rw [v2, if_pos ⟨by rw [<- hP]; exact hdst, v3⟩, <- hP]
  unfold Zfi
  dsimp only
  rw [decide_eq_false hsa]
  rfl
 ·rw [v2, if_neg (by rintro ⟨_, hh⟩; rw [v3] at hh; cases hh), <- hP]
  unfold Zfi
  dsimp only
  rw [hsb, Int.add_zero]
  rfl
theorem Zbo.last_at {s : Zai} {l : List DEra} {Y : Nat -> Int} (h : Zbo s.rules l Y) {t : Int} (h0 : 86400 * jan1 (Zb3 s l + 1) <= t) (h1 : t <= 38000000000000000) : Zf7 s.rules l t = l.length - 1 := by
 obtain ⟨r, hr⟩ := h.sp
 have hlen := h.len
 obtain ⟨y0, _, y2, _⟩ := Zkm h
 have hj0 := ZeS (z := Zb3 s l + 1) (by omega)
 obtain ⟨x, a1, a2, _, _, a5, a6⟩ := Znk hr (List.length_pos_iff.1 (by omega)) (t := t) (by omega) (by omega)
 obtain ⟨_, _, b3⟩ := ZoQ s.rules l _ 0 r hr _ x a2
 rcases b3 with ⟨b3, _⟩ | ⟨b3, _, e, b5, b6⟩
 ·omega
 ·exfalso
  have hT := h.til _ e b5
  rw [if_pos b3] at hT
  have hy := h.yr _ b3
  obtain ⟨_, _, c2⟩ := (h.era _ e b5).un hT hy
  have hey := y2 _ e b3 b5
  have hyr : Y (Zf7 s.rules l t) + 1 <= Zb3 s l := by
   rcases hT with ⟨_, _, _, q, _⟩ | ⟨_, _, _, q, _⟩ <;> rw [q] at hey <;> dsimp only at hey <;> omega
  have := ZkE (Y (Zf7 s.rules l t))
  have := ZkF (show Y (Zf7 s.rules l t) + 1 <= Zb3 s l from hyr)
  have := Zcq (Zb3 s l) 1
  have e1 : Zb3 s l + ((1 : Nat) : Int) = Zb3 s l + 1 := by omega
  rw [e1] at this
  omega
theorem ZxA {s : Zai} {l : List DEra} {Y : Nat -> Int} (h : Zbo s.rules l Y) {t : Int} (h0 : 86400 * jan1 (Zb3 s l + 1) <= t) (h1 : t <= 38000000000000000) : pxAt (ofF s l) t = Zqx s.rules l t := by
 have hlen := h.len
 obtain ⟨e, he, e2⟩ := Zdi (l := l) (k := l.length - 1) (d := dE0) (by omega)
 have hE := h.era _ e he
 obtain ⟨y0, y1, _, y3⟩ := Zkm h
 rw [Zst he (h.last_at h0 h1)]
 have hle : Zdv l = e := e2
 unfold ofF
 unfold Za2 at y3
 rw [hle] at y3 ⊢
 have hj0 := ZeS (z := Zb3 s l + 1) (by omega)
 have ht : -40000000000000000 <= t /\ t <= 40000000000000000 := by omega
 by_cases h2 : e.kind = 2
 ·rw [if_pos h2] at y3
  rw [if_pos h2, Zbi.st_set h2]
  obtain ⟨_, ho, hS, _⟩ := hE.set2 h2
  generalize hR : ofB s.rules e.set = R at *
  have hst := hE.st2 (by omega) (by omega)
  rw [hR] at hst
  rcases ZgH hS.last with ⟨c1, c2⟩ | ⟨i, j, a, b, c1, c2, c3, c4, c5, c6, c7, c8, c9⟩
  ·rw [c1]
   dsimp only
   have hj1 := Zcq (Zb3 s l) 1
   have e1 : Zb3 s l + ((1 : Nat) : Int) = Zb3 s l + 1 := by omega
   rw [e1] at hj1
   obtain ⟨x, x1, x2, x3⟩ := hS.never (y := Zb3 s l) (by omega) (fun r hr => by
    obtain ⟨k, hk⟩ := List.mem_iff_getElem?.1 hr
    rcases (y3 r hr).2.2 with hh | hh
    ·exact absurd hh (c2 k r hk)
    ·exact hh) ho (t := t) (by omega) h1
   rw [x1, x3]
   dsimp only
   obtain ⟨k, r, z, hk, hz⟩ := x2
   have hru : ruE R x = r := by
    unfold ruE
    rw [(Zbr hz).2.1, List.getD_eq_getElem?_getD, Int.toNat_natCast, hk]
    rfl
   unfold behS
   rw [hru]
   exact ZhX (x := (r.save, r.letter)) hE.fmt (hst r (List.mem_of_getElem? hk)) ht
  ·rw [c8]
   dsimp only
   rw [List.getD_eq_getElem?_getD, List.getD_eq_getElem?_getD, c2, c3]
   exact Zqj hS ho hE.fmt hst (y := Zb3 s l) (by omega) (fun r hr => (y3 r hr).2) c1 c2 c3 c4 c5 c6 c7 c9 h0 h1
 ·rw [if_neg h2, hE.st_flat h2]
  refine ZhX (x := (e.save, ByteArray.empty)) hE.fmt ?_ ht
  have := hE.state 0
  rw [hE.st_flat h2] at this
  exact this
end Go.Proofs.YtdlmhmmhdbbliaaGreatDoor
set_option maxHeartbeats 4000000
namespace Go.Proofs.YtdlmhmmhdbbliaaGreatDoor
open Go Go.RowKit Go.Wk
attribute [local irreducible] W RL Does Zau Zaj retQ Calls Pu Stp RD Qy Ay Zak RLI WI
theorem ZqA (Ar Az Al As : Option Addr) (cr cz cl cs : Nat) (a : Zai) (name : ByteArray) (w : World) (hA : Zat w Ar Az Al As cr cz cl cs a) (hn : a.zones.length + a.links.length <= 1000000) :
  Does Tryz.prog 96 [srcV Ar Az Al As cr cz cl cs a, .string name] w (fun v O => v = .tuple #[.int .i64 (Za7 a (a.links.length + 1) [] name).1, .int .i64 (Za7 a (a.links.length + 1) [] name).2] /\ O = []) := by
 obtain ⟨res, hres⟩ : ∃ res, Za7 a (a.links.length + 1) [] name = res := ⟨_, rfl⟩
 rw [hres]
 refine Zab Tryz.func96 rfl rfl rfl rfl ?_
 repeat (first | refine walk ?_ | (refine jg ?_; (try intro F); (first | (apply Zag (h := fun w' hw _ => Zh5 Ar Az Al As cr cz cl cs a w' (hA.up hw) (by omega)); rfl; rintro v O' ⟨b1, m1, rfl, rfl, i1, d1, n1⟩) | (apply Zag (h := fun w' hw _ => ZfW Ar Az Al As cr cz cl cs a w' (hA.up hw) (by omega)); rfl; rintro v O' ⟨b2, m2, rfl, rfl, i2, d2, n2⟩) | (refine ZaV (fun w' hw hO => Zif Ar Az Al As cr cz cl cs a b1 b2 m1 m2 name w' (hA.up hw) (hO.of (A := .mp b1 m1) (by repeat' constructor)) (hO.of (A := .mp b2 m2) (by repeat' constructor)) i1 i2 d2 n2) ?_) | (refine bx ?_; intro bk)); refine fin ?_) | (refine jn ?_; (try intro F); (first | (refine bx ?_; intro bk) | (apply Zae; exact PuA)); refine fin ?_))
 rw [hres]
 exact rtB
end Go.Proofs.YtdlmhmmhdbbliaaGreatDoor
namespace Go.Proofs.YtdlmhmmhdbbliaaGreatDoor
open Go Go.RowKit Go.Wk
attribute [local irreducible] W RL Does Zau Zaj retQ Calls Pu Stp RD Qy Ay Zak
theorem ZpY (Ar Az Al As : Option Addr) (cr cz cl cs : Nat) (a : Zai) (name : ByteArray) (p : Zay) (e : Int) (w : World) (h : Zdl w Ar Az Al As cr cz cl cs a) (hf : accD a = some (p, e)) :
  Does Tryz.prog 64 [srcV Ar Az Al As cr cz cl cs a, .string name] w (fun v O => v = .tuple #[.int .i64 0, .int .i64 e] /\ O = []) := by
 have ha := fun w' (hw : Bel w.heap.size w w') => Zzy Ar Az Al As cr cz cl cs a p e w' (h.up hw) hf
 have hb : (!decide (e = 0)) = true := by rw [decide_eq_false (ZxU hf)]; rfl
 refine Zab Tryz.func64 rfl rfl rfl rfl ?_
 repeat (first | (apply RL_pu; rfl; (apply ZaD; rfl; rfl; exact hb)) | (refine js ?_; (first | (apply Zag (h := fun w' hw _ => ha w' hw); rfl; rintro v O' ⟨⟨p1, p2, p3, rfl⟩, rfl⟩) | (refine bx ?_; intro bk))) | refine walk1 ?_)
 exact rtB
theorem Zrl (Ar Az Al As : Option Addr) (cr cz cl cs : Nat) (a : Zai) (name : ByteArray) (w : World) (h : Zdl w Ar Az Al As cr cz cl cs a) (hf : accD a = none) (hn : a.zones.length + a.links.length <= 1000000) :
  Does Tryz.prog 64 [srcV Ar Az Al As cr cz cl cs a, .string name] w (fun v O => v = .tuple #[.int .i64 (Za7 a (a.links.length + 1) [] name).1, .int .i64 (Za7 a (a.links.length + 1) [] name).2] /\ O = []) := by
 have ha := fun w' (hw : Bel w.heap.size w w') => ZyV Ar Az Al As cr cz cl cs a w' (h.up hw) hf
 have hl := fun w' (hw : Bel w.heap.size w w') => ZqA Ar Az Al As cr cz cl cs a name w' (h.A.up hw) hn
 generalize Za7 a (a.links.length + 1) [] name = x at *
 refine Zab Tryz.func64 rfl rfl rfl rfl ?_
 repeat (first | (refine js ?_; (first | (refine Zac ha ?_) | (refine Zac hl ?_) | (refine bx ?_; intro bk))) | refine walk ?_)
 exact rtB
def tOk (t : Int) : Bool := decide (-36028797018963968 <= t) && decide (t <= 36028797018963968)
theorem ZhL {t : Int} : tOk t = true ↔ -36028797018963968 <= t /\ t <= 36028797018963968 := by unfold tOk; simp
theorem Zzc {G : Prop} (h : G := by (apply Zbg; rfl; rfl; exact b1)) : G := h
theorem Zzb {G : Prop} (h : G := by (first | exact Zzc | (apply ZaM; rfl; rfl; exact b2))) : G := h
theorem Zt6 {G : Prop} (h : G := by (first | exact Zzb | (apply Pu_indexAddr; rfl; rfl; omega; omega; exact hnz) | (apply Pu_loadON; rfl; exact hcz; rfl))) : G := h
theorem Zwo {G : Prop} (h : G := by first | (apply Qy_y; rfl; exact Zt6) | exact QyA) : G := h
theorem Zwy {G : Prop} (h : G := by repeat (first | exact QF.nil | (apply QF.mk; rfl; rfl; decide +kernel; exact Zwo))) : G := h
theorem ZsQ (Ar Az Al As : Option Addr) (cr cz cl cs : Nat) (a : Zai) (name : ByteArray) (t : Int) (i : Nat) (z : ZaY) (l : List ZbA) (x : ZbA) (Ae : Option Addr) (ce : Nat) (w : World) (h : Zdl w Ar Az Al As cr cz cl cs a) (ht : tOk t = true)
  (hz : ∀ w', Bel w.heap.size w w' -> Does Tryz.prog 64 [srcV Ar Az Al As cr cz cl cs a, .string name] w' (fun v O => v = .tuple #[.int .i64 i, .int .i64 0] /\ O = []))
  (hi : a.zones[i]? = some z) (hnz : Az ≠ none) (hcz : Zal w ((adr Az).add (i * 2)) [.string z.name, .slice Ae z.eras.length ce])
  (hE : ∀ k e, z.eras[k]? = some e -> k + 1 < z.eras.length -> RsSm (ruEr a.rules e) /\ UnOk e (ruEr a.rules e)) (hl : Znm a.rules z.eras = some l) (hx : Zjr l t = (x, true)) :
  Does Tryz.prog 25 [srcV Ar Az Al As cr cz cl cs a, .string name, .int .i64 t] w (fun v O => v = .tuple #[.agg #[.string z.name, .slice Ae z.eras.length ce], .int .i64 x.era, .int .i64 0] /\ O = []) := by
 have h2 := ZhL.1 ht
 have b1 : decide (t < -36028797018963968) = false := decide_eq_false (by omega)
 have b2 : decide (36028797018963968 < t) = false := decide_eq_false (by omega)
 have hil : i < a.zones.length := (List.getElem?_eq_some_iff.1 hi).1
 have hlz := h.A.zle
 have hlc := h.A.zcap
 simp only [maxLen] at hlc
 have hsp := fun w' (hw : Bel w.heap.size w w') => Zp8 Ar Az Al As cr cz cl cs a i z l w' (h.G.up hw) (h.A.up hw) h.S.nr (h.S.zs z (List.mem_of_getElem? hi)).2.1 hi hE hl
 have hfi := fun (A : Option Addr) (c : Nat) w' (hR : RdSl w' A c ZbA.enc 3 l) => Znl A c l t w' hR
 rw [hx] at hfi
 clear hx hl hE hi
 obtain ⟨x1, x2, x3⟩ := x
 simp only [ZbA.enc] at hfi
 refine Zab Tryz.func25 rfl rfl rfl rfl ?_
 repeat (first | refine und ?_ | (apply RL_pu; rfl; exact Zt6) | (apply RD_Q; rfl; rfl; decide +kernel; rfl; rfl; exact Zwo) | refine walk1 ?_ | (refine jg ?_; (try intro F); (first | (refine Zac hz ?_) | (apply Zag (h := fun w' hw _ => hsp w' hw); rfl; rintro v O' ⟨A3, c3, rfl, rfl⟩) | (refine ZaV (fun w' hw hO => hfi A3 c3 w' (Zbj ZbA.len (hO.of (by repeat' constructor)))) ?_) | (refine bx ?_; intro bk) | (refine stA ?_)); first | refine ⟨_, EndsA, Zwy, ?_⟩ | refine fin ?_) | (refine jn ?_; (try intro F); (first | (refine bx ?_; intro bk) | (refine stA ?_) | (apply Zae; first | exact Zt6 | exact PuA)); first | refine ⟨_, EndsA, Zwy, ?_⟩ | refine fin ?_) | (apply RD_W; rfl; intro bk))
 exact Zhm _ _ _ [] (.cellB rfl (by repeat' constructor) rfl rfl) (.tmp rfl) (.tmp rfl) .nil ⟨rfl, rfl⟩
theorem ZxM (Ar Az Al As : Option Addr) (cr cz cl cs : Nat) (a : Zai) (name : ByteArray) (t : Int) (zn : ByteArray) (Ae : Option Addr) (ce : Nat) (l : List DEra) (k : Nat) (x : DEra) (y : Zde) (w : World)
  (hf : ∀ w', Bel w.heap.size w w' -> Does Tryz.prog 25 [srcV Ar Az Al As cr cz cl cs a, .string name, .int .i64 t] w' (fun v O => v = .tuple #[.agg #[.string zn, .slice Ae l.length ce], .int .i64 k, .int .i64 0] /\ O = []))
  (hE : RdSl w Ae ce DEra.enc 13 l) (hx : l[k]? = some x)
  (hl : ∀ w', Bel w.heap.size w w' -> Does Tryz.prog 26 [srcV Ar Az Al As cr cz cl cs a, .agg x.enc.toArray, .int .i64 t] w' (fun v O => v = .tuple #[.agg y.enc.toArray, .int .i64 0] /\ O = [])) :
  Does Tryz.prog 9 [srcV Ar Az Al As cr cz cl cs a, .string name, .int .i64 t] w (fun v O => v = .tuple #[.agg y.enc.toArray, .int .i64 0] /\ O = []) := by
 have hel := hE.le
 have hec := hE.cap
 simp only [maxLen] at hec
 have hkl : k < l.length := (List.getElem?_eq_some_iff.1 hx).1
 obtain ⟨hna, hca⟩ := hE.rd k _ hx
 obtain ⟨off, kd, esv, sset, fm, ⟨ui, uy, um, ⟨ud1, ud2, ud3⟩, ⟨uc1, uc2⟩⟩⟩ := x
 obtain ⟨y1, y2, y3⟩ := y
 simp only [DEra.enc, Zde.enc] at hca hl ⊢
 refine Zab Tryz.func9 rfl rfl rfl rfl ?_
 repeat (first | (apply RL_pu; rfl; exact PuI) | (apply RD_Q; rfl; rfl; decide +kernel; rfl; rfl; exact QyI) | refine walk1 ?_ | (refine jg ?_; (try intro F); (first | (refine Zac hf ?_) | (refine Zac hl ?_) | (refine bx ?_; intro bk) | (refine stA ?_)); first | refine ⟨_, EndsA, QFI, ?_⟩ | refine fin ?_) | (refine jn ?_; (try intro F); (first | (refine bx ?_; intro bk) | (refine stA ?_) | (apply Zae; first | exact PuI | exact PuA)); first | refine ⟨_, EndsA, QFI, ?_⟩ | refine fin ?_) | (apply RD_W; rfl; intro bk))
 exact rtC
def Zkj (a : Zai) (name : ByteArray) : Int × Int := match accD a with
 | some (_, e) => (0, e)
 | none => (((Za7 a (a.links.length + 1) [] name).1 : Nat), (Za7 a (a.links.length + 1) [] name).2)
structure MnOk (a : Zai) : Prop where
 acc : accD a = none
 un : ∀ z ∈ a.zones, ∀ k e, z.eras[k]? = some e -> k + 1 < z.eras.length -> RsSm (ruEr a.rules e) /\ UnOk e (ruEr a.rules e)
 ne : ∀ z ∈ a.zones, z.eras ≠ []
 sp : ∀ z ∈ a.zones, ∃ r, Znm a.rules z.eras = some r
 lc : ∀ z ∈ a.zones, ∀ e ∈ z.eras, LcOk a.rules e
 st : ∀ z ∈ a.zones, ∀ e ∈ z.eras, ∀ t, (-1000000000 <= (ZbE a.rules e t).1 /\ (ZbE a.rules e t).1 <= 1000000000) /\ (ZbE a.rules e t).2.size <= 1000000000 /\ abE e (ZbE a.rules e t) = 0
section
variable (Ar Az Al As : Option Addr) (cr cz cl cs : Nat) (a : Zai) (name : ByteArray) (t : Int) (w : World)
theorem Zm7 (h : Zdl w Ar Az Al As cr cz cl cs a) (hn : a.zones.length + a.links.length <= 1000000) :
  Does Tryz.prog 64 [srcV Ar Az Al As cr cz cl cs a, .string name] w (fun v O => v = .tuple #[.int .i64 (Zkj a name).1, .int .i64 (Zkj a name).2] /\ O = []) := by
 unfold Zkj
 cases ha : accD a with
 | some x =>
  obtain ⟨p, e⟩ := x
  exact ZpY Ar Az Al As cr cz cl cs a name p e w h ha
 | none => exact Zrl Ar Az Al As cr cz cl cs a name w h ha hn
theorem Zrm (h : Zdl w Ar Az Al As cr cz cl cs a) (hn : a.zones.length + a.links.length <= 1000000) {i : Nat} (hz : Zkj a name = (((i : Nat) : Int), 0)) :
  Does Tryz.prog 64 [srcV Ar Az Al As cr cz cl cs a, .string name] w (fun v O => v = .tuple #[.int .i64 i, .int .i64 0] /\ O = []) := by
 have := Zm7 Ar Az Al As cr cz cl cs a name w h hn
 rwa [hz] at this
theorem Zsn (h : Zdl w Ar Az Al As cr cz cl cs a) (hM : MeG w) (m : MnOk a) {z : ZaY} (hz : z ∈ a.zones) {e : DEra} (he : e ∈ z.eras) (ht : -1000000000000000000 <= t /\ t <= 1000000000000000000) :
  Does Tryz.prog 26 [srcV Ar Az Al As cr cz cl cs a, .agg e.enc.toArray, .int .i64 t] w (fun v O => v = .tuple #[.agg (Zfi e (ZbE a.rules e t)).enc.toArray, .int .i64 0] /\ O = []) := by
 obtain ⟨h1, h2, h3⟩ := m.st z hz e he t
 exact Zl2 Ar Az Al As cr cz cl cs a e t w h.L h.G hM h.A h.S.nr (m.lc z hz e he) ht h1 h2 h3
theorem Zzr (h : Zdl w Ar Az Al As cr cz cl cs a) (hn : a.zones.length + a.links.length <= 1000000) (m : MnOk a) (ht : tOk t = true) {i : Nat} {z : ZaY} (hz : Zkj a name = (((i : Nat) : Int), 0)) (hi : a.zones[i]? = some z) (Ae : Option Addr) (ce : Nat) (hnz : Az ≠ none) (hcz : Zal w ((adr Az).add (i * 2)) [.string z.name, .slice Ae z.eras.length ce]) :
  Does Tryz.prog 25 [srcV Ar Az Al As cr cz cl cs a, .string name, .int .i64 t] w (fun v O => v = .tuple #[.agg #[.string z.name, .slice Ae z.eras.length ce], .int .i64 (Zf7 a.rules z.eras t), .int .i64 0] /\ O = []) := by
 have hmem := List.mem_of_getElem? hi
 have h2 := ZhL.1 ht
 obtain ⟨r, hr⟩ := m.sp z hmem
 obtain ⟨x, _, _, hf, hx, _⟩ := Znk hr (m.ne z hmem) (t := t) (by omega) (by omega)
 have := ZsQ Ar Az Al As cr cz cl cs a name t i z r x Ae ce w h ht (fun w' hw => Zrm Ar Az Al As cr cz cl cs a name w' (h.up hw) hn hz) hi hnz hcz (m.un z hmem) hr hf
 rwa [hx] at this
theorem mAt (h : Zdl w Ar Az Al As cr cz cl cs a) (hM : MeG w) (hn : a.zones.length + a.links.length <= 1000000) (m : MnOk a) (ht : tOk t = true) {i : Nat} {z : ZaY} (hz : Zkj a name = (((i : Nat) : Int), 0)) (hi : a.zones[i]? = some z) :
  Does Tryz.prog 9 [srcV Ar Az Al As cr cz cl cs a, .string name, .int .i64 t] w (fun v O => v = .tuple #[.agg (Zqx a.rules z.eras t).enc.toArray, .int .i64 0] /\ O = []) := by
 have hmem := List.mem_of_getElem? hi
 have h2 := ZhL.1 ht
 obtain ⟨hnz, cs1, ⟨Ae, ce, hEz, rfl⟩, hcz⟩ := h.A.z i _ hi
 obtain ⟨r, hr⟩ := m.sp z hmem
 obtain ⟨x, hk, _⟩ := Znk hr (m.ne z hmem) (t := t) (by omega) (by omega)
 obtain ⟨e, he, hd⟩ := Zdi (d := dE0) hk
 unfold Zqx
 rw [hd]
 exact ZxM Ar Az Al As cr cz cl cs a name t z.name Ae ce z.eras (Zf7 a.rules z.eras t) e _ w (fun w' hw => Zzr Ar Az Al As cr cz cl cs a name t w' (h.up hw) hn m ht hz hi Ae ce hnz (hcz.up hw (Nat.le_refl _))) hEz he fun w' hw => Zsn Ar Az Al As cr cz cl cs a t w' (h.up hw) (hM.up hw) m hmem (List.mem_of_getElem? he) (by omega)
end
theorem Zl4 {x : ByteArray} (h : x ∈ [ByteArray.empty, (⟨#[83]⟩ : ByteArray), ⟨#[68]⟩, ⟨#[68, 84]⟩]) : x.size <= 1000000000 := by
 have : ∀ x ∈ [ByteArray.empty, (⟨#[83]⟩ : ByteArray), ⟨#[68]⟩, ⟨#[68, 84]⟩], x.size <= 1000000000 := by decide
 exact this x h
theorem ZsM {x : ByteArray} (h : x ∈ fmtU) : x.size <= 1000000000 := by
 have : ∀ x ∈ fmtU, x.size <= 1000000000 := by decide
 exact this x h
theorem Zxt {a : Zai} (hacc : accD a = none) (h : ∀ z ∈ a.zones, ∃ Y, Zbo a.rules z.eras Y) : MnOk a := by
 have hd : ∀ z ∈ a.zones, ∀ e ∈ z.eras, ∃ b, Zbi a.rules e b := fun z hz e he => by
  obtain ⟨Y, hY⟩ := h z hz
  obtain ⟨k, hk⟩ := List.mem_iff_getElem?.1 he
  exact ⟨_, hY.era k e hk⟩
 refine ⟨hacc, fun z hz k e he hk => ?_, fun z hz hn => ?_, fun z hz => ?_, fun z hz e he => ?_, fun z hz e he t => ?_⟩
 ·obtain ⟨Y, hY⟩ := h z hz
  exact hY.un k e he hk
 ·obtain ⟨Y, hY⟩ := h z hz
  have := hY.len.1
  rw [hn] at this
  simp at this
 ·obtain ⟨Y, hY⟩ := h z hz
  exact hY.sp
 ·obtain ⟨b, hb⟩ := hd z hz e he
  have h0 := hb.st0.1
  dsimp only at h0
  have hk : 0 <= e.kind /\ e.kind <= 2 := by rcases hb with ⟨h0, _⟩ | ⟨h0, _⟩ | ⟨h0, _⟩ <;> omega
  have hs : -10800 <= e.save /\ e.save <= 10800 := by
   rcases hb with ⟨_, h0, _⟩ | ⟨_, h0, _⟩ | ⟨_, _, h0, _⟩ <;> omega
  refine ⟨hk, by omega, by omega, fun h2 => ?_, ZsM hb.fmt⟩
  have := hb.rs
  unfold ruEr at this
  rwa [if_pos h2] at this
 ·obtain ⟨b, hb⟩ := hd z hz e he
  obtain ⟨h1, h2, h3⟩ := hb.state t
  exact ⟨by omega, Zl4 h3, (Zoe hb.fmt (hb.state t)).1⟩
end Go.Proofs.YtdlmhmmhdbbliaaGreatDoor
namespace Go.Wk
open Go Go.RowKit
section
variable {P : Program} {n : Nat} {wr : World} {fr : Fr} {O : List It} {ty : TypeId}
theorem Zre {t t' : TypeId} {x : Operand} (hu : ∃ te, P.underlying t = some (.pointer te)) (hx : ev fr x = some (.pointer none)) : Pu P n wr fr O (.binOp .neq t x (.const (.pointer none)) t') ty (.bool false) := fun a w hs _ _ _ _ => by
 obtain ⟨te, hu⟩ := hu
 have hc : a.eval (.const (.pointer none)) = .pointer none := rfl
 have h : (binOp .neq t (.pointer none) (.pointer none)).run P w = .ok (.bool false) w := by
  have : ∀ d, (Op.equalIn (d + 1) t (.pointer none) (.pointer none)).run P w = .ok true w := fun d => by
   simp [Op.equalIn, run_underlying hu]
  have hb : binOp .neq t (.pointer none) (.pointer none) = (do pure (.bool (!(<- Op.equal t (.pointer none) (.pointer none))))) := rfl
  rw [hb, show Op.equal t (.pointer none) (.pointer none) = Op.equalIn (9999 + 1) t (.pointer none) (.pointer none) from rfl]
  simp only [Sem.run_bind, this 9999, Result.andThen_ok, Sem.run_pure, Bool.not_true]
 have hg : (eqGuard .neq t x (.const (.pointer none)) (.pointer none) (.pointer none)).run P w = .ok () w := by
  simp [eqGuard]
 simp only [execOp, hs.sim.ev hx, hc, Sem.run_bind, hg, Result.andThen_ok, h, Sem.run_pure]
end
end Go.Wk
namespace Go.Proofs.YtdlmhmmhdbbliaaGreatDoor
open Go Go.RowKit Go.Wk
attribute [local irreducible] W RL Does Zau Zaj retQ Calls Pu Stp RD Qy Ay Zak
theorem ZwX {G : Prop} (h : G := by (first | (apply Pu_indexAddr; rfl; rfl; omega; omega; exact hna2) | (apply Pu_loadON; rfl; exact hca2; rfl) | (apply ZaD; rfl; rfl; exact b3))) : G := h
theorem ZpQ {G : Prop} (h : G := by (first | (apply ZaF; rfl; rfl; omega; omega; (intro w' _ hO; exact (ZaU (hO.of (A := .row (.slice B R.length d) 82 11 R.length (R.flatMap Zaa.enc)) (by repeat' constructor)) hg1).1)) | (apply Za3; rfl; (focus repeat' constructor); exact hgn; rfl) | (apply ZaD; rfl; rfl; exact b2) | (apply ZaC; rfl; rfl; exact b4))) : G := h
theorem ZwW {G : Prop} (h : G := by (first | (apply ZaF; rfl; rfl; omega; omega; (intro w' _ hO; exact (ZaU (hO.of (A := .row (.slice B R.length d) 82 11 R.length (R.flatMap Zaa.enc)) (by repeat' constructor)) hg1).1)) | (apply Za3; rfl; (focus repeat' constructor); exact hgn; rfl) | (apply ZaD; rfl; rfl; exact b2))) : G := h
theorem Zuc {G : Prop} (h : G := by (first | (apply Zre; exact ⟨_, Tryz.underlying89⟩; rfl) | (apply ZaF; rfl; rfl; omega; omega; (intro w' _ hO; exact (ZaU (hO.of (A := .row (.slice B R.length d) 82 11 R.length (R.flatMap Zaa.enc)) (by repeat' constructor)) hgx1).1)) | (apply Za3; rfl; (focus repeat' constructor); exact hgx; exact Zaa.len r))) : G := h
theorem Zwr {G : Prop} (h : G := by first | (apply Qy_y; rfl; exact Zuc) | exact QyA) : G := h
theorem ZwB {G : Prop} (h : G := by repeat (first | exact QF.nil | (apply QF.mk; rfl; rfl; decide +kernel; exact Zwr))) : G := h
theorem Zu5 (Ar Az Al As : Option Addr) (cr cz cl cs : Nat) (a : Zai) (k : Nat) (z : ZaY) (e : DEra) (x : Zad) (r : Zaa) (w : World) (h : Zdl w Ar Az Al As cr cz cl cs a) (hf : accD a = none) (hk : a.zones[k]? = some z) (he : z.eras[z.eras.length - 1]? = some e)
  (hkd : e.kind = 2) (hE1 : FtE e) (hse : seF (Za2 a z.eras) 0 (none, none) = (none, none)) (hbx : befD (Za2 a z.eras) 1152921504606846976 = some x) (hx : 0 <= x.rule) (hrx : (Za2 a z.eras)[x.rule.toNat]? = some r) (hr : FtRu r) (hR : Zx0 (Za2 a z.eras)) :
  Does Tryz.prog 8 [srcV Ar Az Al As cr cz cl cs a, .int .i64 k] w (fun v O => v = .tuple #[.agg (Zbq e r.save r.letter).enc.toArray, .int .i64 0] /\ O = []) := by
 obtain ⟨hna, cs1, ⟨A, c, hE, rfl⟩, hca⟩ := h.A.z k _ hk
 have hl : 0 < z.eras.length := by have := (List.getElem?_eq_some_iff.1 he).1; omega
 have hfi := fun w' (hw : Bel w.heap.size w w') => ZkM Ar Az Al As cr cz cl cs a k z A c w' (h.up hw) hf hk hna (hca.up hw (Nat.le_refl _)) (hE.up hw) (List.length_pos_iff.1 hl)
 have htw := fun w' (hw : Bel w.heap.size w w') => Zf1 e r w' (h.L.up hw) hE1 hr
 have hel := (h.S.zs z (List.mem_of_getElem? hk)).2.1
 have hRl := ZeN h.S.nr z.eras
 have hbf := fun B d w' (hw : Bel w.heap.size w w') (hA : RdSl w' B d Zaa.enc 11 (Za2 a z.eras)) => ZdU B d (Za2 a z.eras) 1152921504606846976 w' (h.G.up hw) hA hRl hR (by decide)
 rw [hbx] at hbf
 obtain ⟨hna2, hca2⟩ := hE.rd _ _ he
 rw [show z.eras.length - 1 = ((z.eras.length : Int) - 1).toNat by omega] at hca2
 generalize Zbq e r.save r.letter = p at *
 have b3 : (!decide (e.kind = 2)) = false := by rw [decide_eq_true hkd]; rfl
 generalize Za2 a z.eras = R at *
 have hxl : x.rule.toNat < R.length := (List.getElem?_eq_some_iff.1 hrx).1
 have hgx1 := ZaB Zaa.len R x.rule.toNat _ 0 _ hrx rfl
 have hgx : ∀ m v, (Zaa.enc r)[m]? = some v -> (R.flatMap Zaa.enc)[x.rule.toNat * 11 + m]? = some v := fun m v hm => ZaB Zaa.len R _ _ m v hrx hm
 clear h hf hk hca he hE hkd hE1 hrx hr hbx hR
 obtain ⟨off, kd, esv, st, fm, ⟨ui, uy, um, ⟨ud1, ud2, ud3⟩, ⟨uc1, uc2⟩⟩⟩ := e
 obtain ⟨p1, p2, p3, p4, ⟨p5, p6, p7, p8, p9⟩, ⟨q1, q2, q3, q4, q5⟩⟩ := p
 obtain ⟨xy, xr, xn⟩ := x
 change Zal w _ [.int .i64 off, .int .i64 kd, .int .i64 esv, .string st, .string fm, .bool ui, .int .i64 uy, .int .i64 um, .int .i64 ud1, .int .i64 ud2, .int .i64 ud3, .int .i64 uc1, .int .i64 uc2] at hca2
 change ∀ w', Bel w.heap.size w w' -> Does _ _ [.agg #[.int .i64 off, .int .i64 kd, .int .i64 esv, .string st, .string fm, .bool ui, .int .i64 uy, .int .i64 um, .int .i64 ud1, .int .i64 ud2, .int .i64 ud3, .int .i64 uc1, .int .i64 uc2], .agg r.enc.toArray] w' (fun v O => v = .agg #[.string p1, .int .i64 p2, .string p3, .int .i64 p4, .int .i64 p5, .int .i64 p6, .int .i64 p7, .int .i64 p8, .int .i64 p9, .int .i64 q1, .int .i64 q2, .int .i64 q3, .int .i64 q4, .int .i64 q5] /\ O = []) at htw
 change ∀ B d w', Bel w.heap.size w w' -> RdSl w' B d Zaa.enc 11 R -> Does _ _ _ w' (fun v O => v = .tuple #[.agg #[.int .i64 xy, .int .i64 xr, .int .i64 xn], .bool true] /\ O = []) at hbf
 dsimp only at b3 hx hxl hgx1 hgx ⊢
 refine Zab Tryz.func8 rfl rfl rfl rfl ?_
 repeat (first | (apply RL_pu; rfl; exact ZwX) | (apply RD_Q; rfl; rfl; decide +kernel; rfl; rfl; exact QyFtN0) | refine walk1 ?_ | (refine jg ?_; (try intro F); (first | (apply Zag (h := fun w' hw _ => hfi w' hw); rfl; rintro v O' ⟨B, d, rfl, rfl⟩) | (refine bx ?_; intro bk) | (refine stA ?_)); first | refine ⟨_, EndsA, QFFtN0, ?_⟩ | refine fin ?_) | (refine jn ?_; (try intro F); (first | (refine bx ?_; intro bk) | (refine stA ?_) | (apply Zae; first | exact ZwX | exact PuA)); first | refine ⟨_, EndsA, QFFtN0, ?_⟩ | refine fin ?_) | (apply RD_W; rfl; intro bk))
 rename_i b2 b4
 generalize bk = b9
 refine Zao [(4, .pointer (some ⟨b4, 0, none⟩)), (7, .slice B R.length d), (9, .pointer (some ⟨b9, 0, none⟩)), (41, .slice B R.length d), (42, .int .i64 R.length)] [.row (.slice B R.length d) 82 11 R.length (R.flatMap Zaa.enc), .blk b9 [.int .i64 off, .int .i64 kd, .int .i64 esv, .string st, .string fm, .bool ui, .int .i64 uy, .int .i64 um, .int .i64 ud1, .int .i64 ud2, .int .i64 ud3, .int .i64 uc1, .int .i64 uc2] 75, .blk b4 [.string ByteArray.empty, .int .i64 0, .string ByteArray.empty, .int .i64 0, .int .i64 0, .int .i64 0, .int .i64 0, .int .i64 0, .int .i64 0, .int .i64 0, .int .i64 0, .int .i64 0, .int .i64 0, .int .i64 0] 41]
  (fun g : OfG => [(43, .int .i64 g.k), (10, .pointer (g.s.map fun i => (adr B).add (i * 11))), (11, .pointer (g.e.map fun i => (adr B).add (i * 11)))]) (fun _ => []) (fun g => g.k <= R.length /\ seF (R.drop g.k) g.k (g.s, g.e) = (none, none)) (fun g => R.length - g.k) ⟨0, none, none⟩ SFA SOA ⟨Nat.zero_le _, hse⟩ ?_
 clear hse
 rintro ⟨k, s, t⟩ ⟨hkl, hi⟩
 dsimp only at hkl hi ⊢
 repeat (first | refine walk ?_ | (refine jn ?_; (try intro F); (first | (refine bx ?_; intro bk) | (refine stA ?_) | (apply Zae; exact PuA)); refine fin ?_) | (apply RD_W; rfl; intro bk))
 refine Zaf rfl (fun hc => ?_) (fun hc => ?_)
 ·simp only [decide_eq_true_eq, Int.ofNat_lt] at hc
  rw [Zan hc, seF] at hi
  have hg1 := ZaB Zaa.len R k _ 0 _ (List.getElem?_eq_getElem hc) rfl
  have hgn : ∀ j v, (Zaa.enc R[k])[j]? = some v -> (R.flatMap Zaa.enc)[k * 11 + j]? = some v := fun j v hj => ZaB Zaa.len R k _ j v (List.getElem?_eq_getElem hc) hj
  generalize R[k] = r1 at *
  obtain ⟨nm, fr, to, mo, ⟨dk, dw, dd⟩, ⟨cs', cb⟩, sv, le⟩ := r1
  simp only [Zaa.enc] at hgn hg1
  dsimp only at hi
  by_cases hto : to = 1048576
  ·have b2 : (!decide (to = 1048576)) = false := by rw [decide_eq_true hto]; rfl
   rw [if_pos hto] at hi
   by_cases hsv : sv = 0
   ·have b4 : decide (sv = 0) = true := decide_eq_true hsv
    rw [if_pos hsv] at hi
    repeat (first | (apply RL_pu; rfl; exact ZpQ) | (apply RD_Q; rfl; rfl; decide +kernel; rfl; rfl; exact QyFtN1) | refine walk1 ?_ | (refine jn ?_; (try intro F); (first | (refine bx ?_; intro bk) | (refine stA ?_) | (apply Zae; first | exact ZpQ | exact PuA)); first | refine ⟨_, EndsA, QFFtN1, ?_⟩ | refine fin ?_) | (apply RD_W; rfl; intro bk))
    exact ⟨⟨k + 1, s, some k⟩, OA, ⟨OA, hi⟩, SFA, SOA⟩
   ·have b4 : decide (sv = 0) = false := decide_eq_false hsv
    rw [if_neg hsv] at hi
    repeat (first | (apply RL_pu; rfl; exact ZpQ) | (apply RD_Q; rfl; rfl; decide +kernel; rfl; rfl; exact QyFtN1) | refine walk1 ?_ | (refine jn ?_; (try intro F); (first | (refine bx ?_; intro bk) | (refine stA ?_) | (apply Zae; first | exact ZpQ | exact PuA)); first | refine ⟨_, EndsA, QFFtN1, ?_⟩ | refine fin ?_) | (apply RD_W; rfl; intro bk))
    exact ⟨⟨k + 1, some k, t⟩, OA, ⟨OA, hi⟩, SFA, SOA⟩
  ·have b2 : (!decide (to = 1048576)) = true := by rw [decide_eq_false hto]; rfl
   rw [if_neg hto] at hi
   repeat (first | (apply RL_pu; rfl; exact ZwW) | (apply RD_Q; rfl; rfl; decide +kernel; rfl; rfl; exact QyFtN2) | refine walk1 ?_ | (refine jn ?_; (try intro F); (first | (refine bx ?_; intro bk) | (refine stA ?_) | (apply Zae; first | exact ZwW | exact PuA)); first | refine ⟨_, EndsA, QFFtN2, ?_⟩ | refine fin ?_) | (apply RD_W; rfl; intro bk))
   exact ⟨⟨k + 1, s, t⟩, OA, ⟨OA, hi⟩, SFA, SOA⟩
 ·simp only [decide_eq_false_iff_not, Int.ofNat_lt] at hc
  rw [List.drop_eq_nil_of_le (by omega), seF] at hi
  obtain ⟨rfl, rfl⟩ := Prod.mk.inj hi
  simp only [Option.map_none]
  repeat (first | refine und ?_ | (apply RL_pu; rfl; exact Zuc) | (apply RD_Q; rfl; rfl; decide +kernel; rfl; rfl; exact Zwr) | refine walk1 ?_ | (refine jg ?_; (try intro F); (first | (refine ZaV (fun w' hw hO => hbf B d w' hw (Zbj Zaa.len (hO.of (A := .row (.slice B R.length d) 82 11 R.length (R.flatMap Zaa.enc)) (by repeat' constructor)))) ?_) | (refine Zac htw ?_) | (refine bx ?_; intro bk) | (refine stA ?_)); first | refine ⟨_, EndsA, ZwB, ?_⟩ | refine fin ?_) | (refine jn ?_; (try intro F); (first | (refine bx ?_; intro bk) | (refine stA ?_) | (apply Zae; first | exact Zuc | exact PuA)); first | refine ⟨_, EndsA, ZwB, ?_⟩ | refine fin ?_) | (apply RD_W; rfl; intro bk))
  exact rtC
theorem Zzo (Ar Az Al As : Option Addr) (cr cz cl cs : Nat) (a : Zai) (k : Nat) (z : ZaY) (Y : Nat -> Int) (w : World) (h : Zdl w Ar Az Al As cr cz cl cs a) (hF : FtG w) (hf : accD a = none) (hk : a.zones[k]? = some z) (hY : Zbo a.rules z.eras Y) :
  Does Tryz.prog 8 [srcV Ar Az Al As cr cz cl cs a, .int .i64 k] w (fun v O => v = .tuple #[.agg (ofF a z.eras).enc.toArray, .int .i64 0] /\ O = []) := by
 have hlen := hY.len
 obtain ⟨e, he, e2⟩ := Zdi (l := z.eras) (k := z.eras.length - 1) (d := dE0) (by omega)
 have hE := hY.era _ e he
 have hle : Zdv z.eras = e := e2
 have ho := hE.off_bd
 have hE1 : FtE e := ⟨ZsM hE.fmt, by omega⟩
 unfold ofF
 rw [hle]
 by_cases h2 : e.kind = 2
 ·have hru : Za2 a z.eras = ofB a.rules e.set := by unfold Za2; rw [hle, if_pos h2]
  rw [if_pos h2]
  obtain ⟨_, _, hS, _⟩ := hE.set2 h2
  have hrs := hE.rs.b
  have hruE : ruEr a.rules e = ofB a.rules e.set := by unfold ruEr; rw [if_pos h2]
  rw [hruE, <- hru] at hrs
  rw [<- hru] at hS ⊢
  have hfr : ∀ r ∈ Za2 a z.eras, FtRu r := fun r hr => ⟨Zl4 (hS.rule r hr).letter, by have := (hS.rule r hr).save; omega⟩
  rcases ZgH hS.last with ⟨c1, c2⟩ | ⟨i, j, r, q, c1, c2, c3, c4, c5, c6, c7, c8, c9⟩
  ·rw [c1]
   dsimp only
   have hold : ∀ r ∈ Za2 a z.eras, r.to < 3000 := fun r hr => by
    obtain ⟨n, hn⟩ := List.mem_iff_getElem?.1 hr
    have := c2 n r hn
    have := (hS.rule r hr).t1
    omega
   obtain ⟨x, x1, ⟨n, r, y, hn, hy⟩, _⟩ := hS.never (y := 3000) (by decide) hold (off := 0) (by decide) (t := 38000000000000000) (by decide) (by decide)
   have hxr := (Zbr hy).2.1
   have hru2 : ruE (Za2 a z.eras) x = r := by
    unfold ruE
    rw [hxr, List.getD_eq_getElem?_getD, Int.toNat_natCast, hn]
    rfl
   rw [x1]
   dsimp only
   rw [hru2]
   exact Zu5 Ar Az Al As cr cz cl cs a k z e x r w h hf hk he h2 hE1 c1 x1 (by omega) (by rw [hxr, Int.toNat_natCast]; exact hn) (hfr r (List.mem_of_getElem? hn)) hrs
  ·rw [c8]
   dsimp only
   rw [List.getD_eq_getElem?_getD, List.getD_eq_getElem?_getD, c2, c3]
   exact Zv4 Ar Az Al As cr cz cl cs a k z e i j r q w h hF hf hk he h2 hE1 c8 c2 c3 (hfr r (List.mem_of_getElem? c2)) (hfr q (List.mem_of_getElem? c3))
 ·rw [if_neg h2]
  refine Zsc Ar Az Al As cr cz cl cs a k z e w h hf hk he h2 hE1 ?_
  rcases hE with ⟨_, hs, _⟩ | ⟨_, hs, _⟩ | ⟨hk2, _⟩
  ·omega
  ·omega
  ·exact absurd hk2 h2
end Go.Proofs.YtdlmhmmhdbbliaaGreatDoor
