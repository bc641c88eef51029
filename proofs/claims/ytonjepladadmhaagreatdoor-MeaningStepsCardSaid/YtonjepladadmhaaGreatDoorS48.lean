/- Plain law: the last event before a nominal time, the first one behind it, and the state at an instant, for sets of drafts (layers 17 and 19). Plain law: the ends of spans, and what an event of an era changes; the events behind an instant (layers 17, 23 and 26). -/
import Derived.Test.YtonjepladadmhaaGreatDoorS38
import Derived.Test.YtonjepladadmhaaGreatDoorS25
set_option maxHeartbeats 4000000
set_option linter.unusedVariables false
set_option linter.unusedSimpArgs false
namespace Go.Proofs.YtonjepladadmhaaGreatDoor
open Go Go.RowKit Go.Wk
theorem beIn_sound (least nominal : Int) (r : DRule) (i : Int) : ∀ (k : Nat) (y : Int) (e : DEvent), beIn least nominal r i y k = some e → ∃ y', onR least r i y' = some e ∧ e.nominal < nominal
 | 0, _, _, h => by cases h
 | k + 1, y, e, h => by
  rw [beIn] at h
  cases he : onR least r i y with
  | none => rw [he] at h; exact beIn_sound least nominal r i k (y - 1) e h
  | some e' =>
   rw [he] at h
   dsimp only at h
   by_cases hc : e'.nominal < nominal
   ·rw [if_pos hc] at h
    cases h
    exact ⟨y, he, hc⟩
   ·rw [if_neg hc] at h
    exact beIn_sound least nominal r i k (y - 1) e h
theorem beIn_full (least nominal : Int) (r : DRule) (i : Int) : ∀ (k : Nat) (y : Int) (q : Nat) (e : DEvent), q < k → onR least r i (y - q) = some e → e.nominal < nominal → ∃ e', beIn least nominal r i y k = some e' ∧ e.nominal ≤ e'.nominal
 | 0, _, _, _, h, _, _ => absurd h (by omega)
 | k + 1, y, q, e, h, h1, h2 => by
  rw [beIn]
  cases he : onR least r i y with
  | none =>
   cases q with
   | zero => rw [show y - ((0 : Nat) : Int) = y by omega, he] at h1; cases h1
   | succ q => exact beIn_full least nominal r i k (y - 1) q e (by omega) (by rw [show y - 1 - (q : Int) = y - ((q + 1 : Nat) : Int) by omega]; exact h1) h2
  | some e' =>
   dsimp only
   by_cases hc : e'.nominal < nominal
   ·rw [if_pos hc]
    refine ⟨e', rfl, ?_⟩
    cases q with
    | zero => rw [show y - ((0 : Nat) : Int) = y by omega, he] at h1; cases h1; exact Int.le_refl _
    | succ q => exact Int.le_of_lt (onR_mono h1 he (by omega))
   ·rw [if_neg hc]
    cases q with
    | zero => rw [show y - ((0 : Nat) : Int) = y by omega, he] at h1; cases h1; exact absurd h2 hc
    | succ q => exact beIn_full least nominal r i k (y - 1) q e (by omega) (by rw [show y - 1 - (q : Int) = y - ((q + 1 : Nat) : Int) by omega]; exact h1) h2
theorem befGo_sound (least nominal yr : Int) : ∀ (l : List DRule) (i : Nat) (b : Option DEvent) (e : DEvent), befGo least nominal yr l i b = some e → b = some e ∨ ∃ (j : Nat) (r : DRule), l[j]? = some r ∧ beIn least nominal r ((i + j : Nat) : Int) (min (lastY r) (yr + 2)) 20 = some e
 | [], _, _, _, h => .inl h
 | r :: l, i, b, e, h => by
  rw [befGo] at h
  rcases befGo_sound least nominal yr l (i + 1) _ e h with h1 | ⟨j, r', h1, h2⟩
  ·cases he : beIn least nominal r i (min (lastY r) (yr + 2)) 20 with
   | none => rw [he] at h1; exact .inl h1
   | some e' =>
    rw [he] at h1
    have hr : ∀ x, e' = x → ∃ (j : Nat) (r' : DRule), (r :: l)[j]? = some r' ∧ beIn least nominal r' ((i + j : Nat) : Int) (min (lastY r') (yr + 2)) 20 = some x := fun x hx => ⟨0, r, rfl, by rw [← hx]; exact he⟩
    cases b with
    | none => cases h1; exact .inr (hr _ rfl)
    | some b =>
     dsimp only at h1
     split at h1
     ·cases h1; exact .inr (hr _ rfl)
     ·exact .inl h1
  ·exact .inr ⟨j + 1, r', by simpa using h1, by rw [show i + (j + 1) = i + 1 + j by omega]; exact h2⟩
theorem befGo_ge (least nominal yr : Int) : ∀ (l : List DRule) (i : Nat) (b : DEvent), ∃ e, befGo least nominal yr l i (some b) = some e ∧ b.nominal ≤ e.nominal
 | [], _, b => ⟨b, rfl, Int.le_refl _⟩
 | r :: l, i, b => by
  rw [befGo]
  cases he : beIn least nominal r i (min (lastY r) (yr + 2)) 20 with
  | none => exact befGo_ge least nominal yr l (i + 1) b
  | some e' =>
   dsimp only
   split
   ·rename_i hlt
    obtain ⟨e, h1, h2⟩ := befGo_ge least nominal yr l (i + 1) e'
    have : b.nominal ≤ e'.nominal := by
     unfold ordE at hlt
     split at hlt
     ·omega
     ·split at hlt
      ·omega
      ·omega
    exact ⟨e, h1, by omega⟩
   ·exact befGo_ge least nominal yr l (i + 1) b
theorem befGo_full (least nominal yr : Int) : ∀ (l : List DRule) (i : Nat) (b : Option DEvent) (j : Nat) (r : DRule) (e' : DEvent), l[j]? = some r → beIn least nominal r ((i + j : Nat) : Int) (min (lastY r) (yr + 2)) 20 = some e' → ∃ e, befGo least nominal yr l i b = some e ∧ e'.nominal ≤ e.nominal
 | [], _, _, _, _, _, h, _ => by simp at h
 | r0 :: l, i, b, 0, r, e', h, h2 => by
  simp only [List.getElem?_cons_zero, Option.some.injEq] at h
  subst h
  rw [befGo, show beIn least nominal r0 (i : Int) (min (lastY r0) (yr + 2)) 20 = some e' from h2]
  cases b with
  | none => exact befGo_ge least nominal yr l (i + 1) e'
  | some b =>
   dsimp only
   split
   ·exact befGo_ge least nominal yr l (i + 1) e'
   ·rename_i hlt
    obtain ⟨e, g1, g2⟩ := befGo_ge least nominal yr l (i + 1) b
    refine ⟨e, g1, ?_⟩
    unfold ordE at hlt
    split at hlt
    ·omega
    ·split at hlt <;> omega
 | r0 :: l, i, b, j + 1, r, e', h, h2 => by
  rw [befGo]
  exact befGo_full least nominal yr l (i + 1) _ j r e' (by simpa using h) (by rw [show i + 1 + j = i + (j + 1) by omega]; exact h2)
def EvOf (l : List DRule) (e : DEvent) : Prop := ∃ (j : Nat) (r : DRule) (y : Int), l[j]? = some r ∧ onR (leastD l) r (j : Int) y = some e
theorem _root_.Go.Wk.DrRule.lastYr {r : DRule} (h : DrRule r) : r.from_ ≤ Go.Wk.lastY r ∧ Go.Wk.lastY r ≤ 2000000000 := by
 have h0 := h.f0
 have h1 := h.f1
 have h2 := h.ft
 unfold Go.Wk.lastY
 split <;> omega
theorem _root_.Go.Wk.DrRule.onY {r : DRule} (h : DrRule r) (least i : Int) {y : Int} (h0 : r.from_ ≤ y) (h1 : y ≤ Go.Wk.lastY r) : ∃ e, onR least r i y = some e := by
 have hf0 := h.f0
 have hl := h.lastYr
 have hck : clkChk r.at_ = true := by
  have := h.clk
  unfold clkChk
  simp
  omega
 have hin : inY y = true := by
  unfold inY
  simp
  omega
 obtain ⟨m0, m1⟩ := h.mon12
 have ho := (h.day.on hin m0 m1).1
 unfold onR
 rw [if_neg (by rw [hck]; rintro (q | q | q); omega; omega; cases q), if_neg (by rw [ho]; decide)]
 exact ⟨_, rfl⟩
theorem onR_last {least : Int} {r : DRule} {i y : Int} {e : DEvent} (h : onR least r i y = some e) : y ≤ Go.Wk.lastY r := by
 unfold onR at h
 split at h
 ·cases h
 ·rename_i h1
  exact Int.not_lt.1 fun hh => h1 (.inr (.inl hh))
section
variable {l : List DRule} (h : DrSet l)
include h
omit h in
theorem befD_ev {n : Int} {e : DEvent} (he : befD l n = some e) : EvOf l e ∧ e.nominal < n := by
 rcases befGo_sound _ _ _ l 0 none e he with h1 | ⟨j, r, h1, h2⟩
 ·cases h1
 ·obtain ⟨y, h3, h4⟩ := beIn_sound _ _ _ _ _ _ _ h2
  rw [Nat.zero_add] at h3
  exact ⟨⟨j, r, y, h1, h3⟩, h4⟩
theorem DrSet.befD_full {n : Int} (h0 : -4000000000000 ≤ n) (h1 : n ≤ 4000000000000) {f : DEvent} (hf : EvOf l f) (hn : f.nominal < n) : ∃ e, befD l n = some e ∧ f.nominal ≤ e.nominal := by
 obtain ⟨j, r, y, hj, hy⟩ := hf
 have hr := h.rule r (List.mem_of_getElem? hj)
 obtain ⟨b1, b2⟩ := yearOf_jan h0 h1
 have hle := h.least.2
 obtain ⟨c1, c2⟩ := onR_in hle hy
 have hyy : y ≤ yearOf n + 1 := year_near (by omega)
 have hyl := onR_last hy
 obtain ⟨_, _, hyf, _⟩ := hr.ev h.least hy
 have key : ∃ (q : Nat) (g : DEvent), q < 20 ∧ onR (leastD l) r (j : Int) (min (Go.Wk.lastY r) (yearOf n + 2) - q) = some g ∧ g.nominal < n ∧ f.nominal ≤ g.nominal := by
  by_cases hq : min (Go.Wk.lastY r) (yearOf n + 2) - y < 20
  ·refine ⟨(min (Go.Wk.lastY r) (yearOf n + 2) - y).toNat, f, by omega, ?_, hn, Int.le_refl _⟩
   rw [show min (Go.Wk.lastY r) (yearOf n + 2) - ((min (Go.Wk.lastY r) (yearOf n + 2) - y).toNat : Int) = y by omega]
   exact hy
  ·obtain ⟨g, hg⟩ := hr.onY (leastD l) (j : Int) (y := min (Go.Wk.lastY r) (yearOf n + 2) - 10) (by omega) (by omega)
   refine ⟨10, g, by omega, hg, ?_, Int.le_of_lt (onR_mono hy hg (by omega))⟩
   refine Int.not_le.1 fun hh => ?_
   obtain ⟨d1, d2⟩ := onR_in hle hg
   have : yearOf n ≤ min (Go.Wk.lastY r) (yearOf n + 2) - 10 + 1 := year_near (by omega)
   omega
 obtain ⟨q, g, g1, g2, g3, g4⟩ := key
 obtain ⟨e', k1, k2⟩ := beIn_full (leastD l) n r (j : Int) 20 _ q g g1 g2 g3
 obtain ⟨e, k3, k4⟩ := befGo_full (leastD l) n (yearOf n) l 0 none j r e' hj (by rw [Nat.zero_add]; exact k1)
 exact ⟨e, k3, by omega⟩
theorem DrSet.uniq {e f : DEvent} (he : EvOf l e) (hf : EvOf l f) (hn : e ≠ f) : 259200 ≤ e.nominal - f.nominal ∨ 259200 ≤ f.nominal - e.nominal := by
 obtain ⟨j, r, y, h1, h2⟩ := he
 obtain ⟨k, s, z, h3, h4⟩ := hf
 exact h.far2 h1 h3 h2 h4 hn
theorem DrSet.eq {e f : DEvent} (he : EvOf l e) (hf : EvOf l f) (hn : e.nominal - f.nominal < 259200 ∧ f.nominal - e.nominal < 259200) : e = f := by
 by_cases hne : e = f
 ·exact hne
 ·have := h.uniq he hf hne
  omega
theorem DrSet.save0 : ∀ r ∈ l, -10800 ≤ r.save ∧ r.save ≤ 10800 := fun r hr => by
 have := (h.rule r hr).save
 omega
theorem DrSet.bef_bd (n : Int) : -10800 ≤ (befS l n).1 ∧ (befS l n).1 ≤ 10800 := befS_P (P := fun x => -10800 ≤ x.1 ∧ x.1 ≤ 10800) (by decide) (fun r hr => h.save0 r hr) n
theorem DrSet.inst_near {off : Int} (ho : -43200 ≤ off ∧ off ≤ 43200) (e : DEvent) : e.nominal - 54000 ≤ instE l e off ∧ instE l e off ≤ e.nominal + 54000 := by
 have hb := h.bef_bd e.nominal
 have hl := h.least
 unfold instE
 split
 ·omega
 ·split <;> omega
theorem DrSet.low {e : DEvent} (he : EvOf l e) : -4000000000 ≤ e.nominal := by
 obtain ⟨j, r, y, h1, h2⟩ := he
 have hr := h.rule r (List.mem_of_getElem? h1)
 obtain ⟨_, _, hyf, _, hlo, _⟩ := hr.ev h.least h2
 have hm : mar1 1900 ≤ mar1 y := mar1_le (by have := hr.f0; omega)
 have h5 : -30000 ≤ mar1 1900 := by decide
 have hs := loS_bd r.month
 have hll : -29 ≤ loS r.month := hs.1
 omega
end
def LastI (l : List DRule) (off t : Int) : Option DEvent → Prop
 | some e => EvOf l e ∧ instE l e off ≤ t ∧ ∀ f, EvOf l f → instE l f off ≤ t → f.nominal ≤ e.nominal
 | none => ∀ f, EvOf l f → t < instE l f off
def stOf (l : List DRule) : Option DEvent → Int × ByteArray
 | some e => behS l e
 | none => iniS l
section
variable {l : List DRule} (h : DrSet l) {off t : Int} (ho : -43200 ≤ off ∧ off ≤ 43200)
include h
theorem DrSet.round {n : Int} (h0 : -4000000000000 ≤ n) (h1 : n ≤ 4000000000000) (hI : ∀ f, EvOf l f → instE l f off ≤ t → f.nominal < n) :
  (befD l n = none ∧ LastI l off t none) ∨ ∃ e, befD l n = some e ∧ EvOf l e ∧ e.nominal < n ∧ ((instE l e off ≤ t ∧ LastI l off t (some e)) ∨ (t < instE l e off ∧ ∀ f, EvOf l f → instE l f off ≤ t → f.nominal < e.nominal)) := by
 cases hb : befD l n with
 | none =>
  refine .inl ⟨rfl, fun f hf => Int.not_le.1 fun hh => ?_⟩
  obtain ⟨e, he, _⟩ := h.befD_full h0 h1 hf (hI f hf hh)
  rw [hb] at he
  cases he
 | some e =>
  obtain ⟨h2, h3⟩ := befD_ev hb
  have hmax : ∀ f, EvOf l f → instE l f off ≤ t → f.nominal ≤ e.nominal := fun f hf hh => by
   obtain ⟨e', he, hle⟩ := h.befD_full h0 h1 hf (hI f hf hh)
   rw [hb] at he
   cases he
   exact hle
  refine .inr ⟨e, rfl, h2, h3, ?_⟩
  by_cases ht : instE l e off ≤ t
  ·exact .inl ⟨ht, h2, ht, hmax⟩
  ·refine .inr ⟨by omega, fun f hf hh => ?_⟩
   have h4 := hmax f hf hh
   by_cases hfe : f = e
   ·subst hfe
    exact absurd hh ht
   ·have := h.uniq hf h2 hfe
    omega
include ho
theorem DrSet.atS_last (h0 : -3000000000000 ≤ t) (h1 : t ≤ 3000000000000) : ∃ o, LastI l off t o ∧ atS l off t = stOf l o := by
 have near := h.inst_near ho
 have I1 : ∀ f, EvOf l f → instE l f off ≤ t → f.nominal < t + 259200 := fun f _ hh => by have := near f; omega
 unfold atS
 rcases h.round (t := t) (off := off) (n := t + 259200) (by omega) (by omega) I1 with ⟨a1, a2⟩ | ⟨e1, a1, a2, a3, ⟨a4, a5⟩ | ⟨a4, a5⟩⟩
 ·exact ⟨none, a2, by rw [atGo, a1]; rfl⟩
 ·exact ⟨some e1, a5, by rw [atGo, a1]; dsimp only; rw [if_pos a4]; rfl⟩
 have l1 := h.low a2
 rw [atGo, a1]
 dsimp only
 rw [if_neg (by omega)]
 rcases h.round (t := t) (off := off) (n := e1.nominal) (by omega) (by omega) a5 with ⟨b1, b2⟩ | ⟨e2, b1, b2, b3, ⟨b4, b5⟩ | ⟨b4, b5⟩⟩
 ·exact ⟨none, b2, by rw [atGo, b1]; rfl⟩
 ·exact ⟨some e2, b5, by rw [atGo, b1]; dsimp only; rw [if_pos b4]; rfl⟩
 have l2 := h.low b2
 have d2 := h.uniq b2 a2 (fun hh => by rw [hh] at b3; omega)
 rw [atGo, b1]
 dsimp only
 rw [if_neg (by omega)]
 rcases h.round (t := t) (off := off) (n := e2.nominal) (by omega) (by omega) b5 with ⟨c1, c2⟩ | ⟨e3, c1, c2, c3, ⟨c4, c5⟩ | ⟨c4, c5⟩⟩
 ·exact ⟨none, c2, by rw [atGo, c1]; rfl⟩
 ·exact ⟨some e3, c5, by rw [atGo, c1]; dsimp only; rw [if_pos c4]; rfl⟩
 exfalso
 have d3 := h.uniq c2 b2 (fun hh => by rw [hh] at c3; omega)
 have := near e3
 omega
theorem DrSet.at_inst {v : DEvent} (hv : EvOf l v) (h0 : -2000000000000 ≤ v.nominal) (h1 : v.nominal ≤ 2000000000000) : atS l off (instE l v off) = behS l v := by
 have near := h.inst_near ho
 have nv := near v
 obtain ⟨o, k1, k2⟩ := h.atS_last ho (t := instE l v off) (by omega) (by omega)
 rw [k2]
 cases o with
 | none => exact absurd (k1 v hv) (by omega)
 | some e =>
  obtain ⟨k3, k4, k5⟩ := k1
  have k6 := k5 v hv (Int.le_refl _)
  have ne := near e
  rw [h.eq k3 hv (by omega)]
  rfl
theorem DrSet.at_before {v : DEvent} (hv : EvOf l v) (h0 : -2000000000000 ≤ v.nominal) (h1 : v.nominal ≤ 2000000000000) : atS l off (instE l v off - 1) = befS l v.nominal := by
 have near := h.inst_near ho
 have nv := near v
 obtain ⟨o, k1, k2⟩ := h.atS_last ho (t := instE l v off - 1) (by omega) (by omega)
 have hb : befD l v.nominal = o := by
  cases hb : befD l v.nominal with
  | none =>
   cases o with
   | none => rfl
   | some e =>
    obtain ⟨k3, k4, _⟩ := k1
    have ne := near e
    have hne : e ≠ v := fun hh => by rw [hh] at k4; omega
    have hd := h.uniq k3 hv hne
    obtain ⟨g, hg, _⟩ := h.befD_full (n := v.nominal) (by omega) (by omega) k3 (by omega)
    rw [hb] at hg
    cases hg
  | some g =>
   obtain ⟨g1, g2⟩ := befD_ev hb
   have ng := near g
   have hd := h.uniq g1 hv (fun hh => by rw [hh] at g2; omega)
   cases o with
   | none => exact absurd (k1 g g1) (by omega)
   | some e =>
    obtain ⟨k3, k4, k5⟩ := k1
    have ne := near e
    have k6 := k5 g g1 (by omega)
    have hne : e ≠ v := fun hh => by rw [hh] at k4; omega
    have hd2 := h.uniq k3 hv hne
    obtain ⟨g', hg', hle⟩ := h.befD_full (n := v.nominal) (by omega) (by omega) k3 (by omega)
    rw [hb] at hg'
    cases hg'
    rw [h.eq g1 k3 (by omega)]
 rw [k2]
 unfold befS
 rw [hb]
 cases o <;> rfl
theorem DrSet.at_change {a b : Int} (h0 : -3000000000000 ≤ a) (h1 : b ≤ 3000000000000) (hab : a ≤ b) (hne : atS l off a ≠ atS l off b) : ∃ e, EvOf l e ∧ a < instE l e off ∧ instE l e off ≤ b := by
 obtain ⟨o1, p1, p2⟩ := h.atS_last ho (t := a) (by omega) (by omega)
 obtain ⟨o2, q1, q2⟩ := h.atS_last ho (t := b) (by omega) (by omega)
 rw [p2, q2] at hne
 cases o2 with
 | none =>
  cases o1 with
  | none => exact absurd rfl hne
  | some e =>
   obtain ⟨p3, p4, _⟩ := p1
   exact absurd (q1 e p3) (by omega)
 | some e =>
  obtain ⟨q3, q4, q5⟩ := q1
  refine ⟨e, q3, Int.not_le.1 fun hh => ?_, q4⟩
  cases o1 with
  | none => exact absurd (p1 e q3) (by omega)
  | some g =>
   obtain ⟨p3, p4, p5⟩ := p1
   have r1 := p5 e q3 hh
   have r2 := q5 g p3 (by omega)
   exact hne (by rw [h.eq p3 q3 (by omega)])
end
theorem sp_shape (rs : List DRule) : ∀ (l : List DEra) (st : Int) (i : Nat) (r : List DSpan), spGo rs l st i = some r → ∀ (k : Nat) (x : DSpan), r[k]? = some x →
  (k = 0 → x.start = st) ∧ (∀ j, k = j + 1 → ∃ e p, l[j]? = some e ∧ r[j]? = some p ∧ x.start = endT e (ruEr rs e) ∧ p.fin = x.start ∧ p.start < p.fin ∧ j + 1 < l.length) ∧
  ((k + 1 = l.length ∧ x.fin = 9223372036854775807) ∨ (k + 1 < l.length ∧ x.start < x.fin ∧ ∃ e, l[k]? = some e ∧ x.fin = endT e (ruEr rs e)))
 | [], _, _, _, h, k, x, hx => by
  simp only [spGo, Option.some.injEq] at h
  subst h
  simp at hx
 | [e], st, i, r, h, k, x, hx => by
  simp only [spGo, Option.some.injEq] at h
  subst h
  rcases k with _ | k
  ·simp only [List.getElem?_cons_zero, Option.some.injEq] at hx
   subst hx
   exact ⟨fun _ => rfl, fun j hj => by omega, .inl ⟨rfl, rfl⟩⟩
  ·simp at hx
 | e :: f :: l, st, i, r, h, k, x, hx => by
  rw [spGo] at h
  by_cases hT : endT e (ruEr rs e) ≤ st
  ·rw [if_pos hT] at h; cases h
  rw [if_neg hT] at h
  obtain ⟨r2, h2, rfl⟩ := Option.map_eq_some_iff.1 h
  rcases k with _ | k
  ·simp only [List.getElem?_cons_zero, Option.some.injEq] at hx
   subst hx
   exact ⟨fun _ => rfl, fun j hj => by omega, .inr ⟨by simp, by dsimp only; omega, e, rfl, rfl⟩⟩
  ·simp only [List.getElem?_cons_succ] at hx
   obtain ⟨a1, a2, a3⟩ := sp_shape rs (f :: l) _ (i + 1) r2 h2 k x hx
   refine ⟨fun hh => by omega, fun j hj => ?_, ?_⟩
   ·obtain rfl : k = j := by omega
    rcases k with _ | k
    ·exact ⟨e, _, rfl, rfl, a1 rfl, (a1 rfl).symm, by dsimp only; omega, by simp⟩
    ·obtain ⟨g, p, b1, b2, b3, b4, b5, b6⟩ := a2 k rfl
     exact ⟨g, p, by simpa using b1, by simpa using b2, b3, b4, b5, by simp only [List.length_cons] at b6 ⊢; omega⟩
   ·rcases a3 with ⟨a3, a4⟩ | ⟨a3, a4, g, a5, a6⟩
    ·exact .inl ⟨by simp only [List.length_cons] at a3 ⊢; omega, a4⟩
    ·exact .inr ⟨by simp only [List.length_cons] at a3 ⊢; omega, a4, g, by simpa using a5, a6⟩
theorem sp_ord (rs : List DRule) : ∀ (l : List DEra) (st : Int) (i : Nat) (r : List DSpan), spGo rs l st i = some r → ∀ (n k : Nat) (x y : DSpan), r[n]? = some x → r[k]? = some y → n < k → x.fin ≤ y.start
 | [], _, _, _, h, n, k, x, y, hx, _, _ => by
  simp only [spGo, Option.some.injEq] at h
  subst h
  simp at hx
 | [e], st, i, r, h, n, k, x, y, _, hy, hn => by
  simp only [spGo, Option.some.injEq] at h
  subst h
  rcases k with _ | k
  ·omega
  ·simp at hy
 | e :: f :: l, st, i, r, h, n, k, x, y, hx, hy, hn => by
  rw [spGo] at h
  by_cases hT : endT e (ruEr rs e) ≤ st
  ·rw [if_pos hT] at h; cases h
  rw [if_neg hT] at h
  obtain ⟨r2, h2, rfl⟩ := Option.map_eq_some_iff.1 h
  rcases k with _ | k
  ·omega
  simp only [List.getElem?_cons_succ] at hy
  rcases n with _ | n
  ·simp only [List.getElem?_cons_zero, Option.some.injEq] at hx
   subst hx
   exact sp_start rs (f :: l) _ (i + 1) r2 h2 y (List.mem_of_getElem? hy)
  ·simp only [List.getElem?_cons_succ] at hx
   exact sp_ord rs (f :: l) _ (i + 1) r2 h2 n k x y hx hy (by omega)
theorem eraAt_mono {rs : List DRule} {l : List DEra} {r : List DSpan} (hr : spAll rs l = some r) (hl : l ≠ []) {a b : Int} (h0 : -9223372036854775808 ≤ a) (hab : a ≤ b) (h1 : b < 9223372036854775807) : eraAt rs l a ≤ eraAt rs l b ∧ eraAt rs l b < l.length := by
 obtain ⟨x, a1, a2, _, _, a5, a6⟩ := sp_find hr hl (t := a) h0 (by omega)
 obtain ⟨y, b1, b2, _, _, b5, b6⟩ := sp_find hr hl (t := b) (by omega) h1
 refine ⟨Nat.not_lt.1 fun hh => ?_, b1⟩
 have := sp_ord rs l _ 0 r hr _ _ y x b2 a2 hh
 omega
section
variable {rs : List DRule} {l : List DEra} {Y : Nat → Int} (h : DrEras rs l Y) {r : List DSpan} (hr : spAll rs l = some r)
include h
theorem DrEras.end_bd {k : Nat} {e : DEra} (he : l[k]? = some e) (hk : k + 1 < l.length) : -5000000000 ≤ endT e (ruEr rs e) ∧ endT e (ruEr rs e) ≤ 10000000000 := by
 have hT := h.til k e he
 rw [if_pos hk] at hT
 have hy := h.yr k hk
 obtain ⟨_, h1, h2⟩ := (h.era k e he).un hT hy
 have hm : mar1 1850 ≤ mar1 (Y k) := mar1_le hy.1
 have hm2 : mar1 (Y k) ≤ mar1 2148 := mar1_le hy.2
 have h5 : -50000 ≤ mar1 1850 := by decide
 have h6 : mar1 2148 ≤ 70000 := by decide
 omega
include hr
theorem DrEras.span {k : Nat} {x : DSpan} (hx : r[k]? = some x) : (k = 0 → x.start = -9223372036854775808) ∧
  (0 < k → (-5000000000 ≤ x.start ∧ x.start ≤ 10000000000) ∧ eraAt rs l x.start = k ∧ eraAt rs l (x.start - 1) = k - 1) ∧ -5000000000 ≤ x.fin ∧ eraAt rs l (max x.start (-36028797018963968)) = k := by
 obtain ⟨a1, a2, a3⟩ := sp_shape rs l _ 0 r hr k x hx
 have hlt : (0 < k → -5000000000 ≤ x.start ∧ x.start ≤ 10000000000) := fun hk => by
  obtain ⟨e, p, b1, b2, b3, b4, b5, b6⟩ := a2 (k - 1) (by omega)
  have := h.end_bd b1 b6
  omega
 have hf : -5000000000 ≤ x.fin ∧ x.start < x.fin := by
  rcases a3 with ⟨_, a4⟩ | ⟨a4, a5, e, a6, a7⟩
  ·rcases k with _ | k
   ·have := a1 rfl; omega
   ·have := hlt (by omega); omega
  ·have := h.end_bd a6 a4
   omega
 refine ⟨a1, fun hk => ⟨hlt hk, eraAt_uniq hr hx (by omega) (by omega), ?_⟩, hf.1, eraAt_uniq hr hx (by omega) (by omega)⟩
 obtain ⟨e, p, b1, b2, b3, b4, b5, b6⟩ := a2 (k - 1) (by omega)
 exact eraAt_uniq hr b2 (by omega) (by omega)
omit h hr in
theorem locAt_era {k : Nat} {e : DEra} (he : l[k]? = some e) {t : Int} (hk : eraAt rs l t = k) : locAt rs l t = localD e (stateD rs e t) := by
 unfold locAt
 rw [hk, List.getD_eq_getElem?_getD, he]
 rfl
end
theorem DrEra.st_flat {rs : List DRule} {e : DEra} {b : Bool} (h : DrEra rs e b) (hk : e.kind ≠ 2) (t : Int) : stateD rs e t = (e.save, ByteArray.empty) := by
 unfold stateD
 rcases h with ⟨h0, h1, _⟩ | ⟨h0, _⟩ | ⟨h0, _⟩
 ·rw [if_pos h0, h1]
 ·rw [if_neg (by omega), if_pos h0]
 ·exact absurd h0 hk
theorem DrEra.st_set {rs : List DRule} {e : DEra} (hk : e.kind = 2) (t : Int) : stateD rs e t = atS (ofB rs e.set) e.off t := by
 unfold stateD
 rw [if_neg (by omega), if_neg (by omega)]
theorem DrEra.set2 {rs : List DRule} {e : DEra} {b : Bool} (h : DrEra rs e b) (hk : e.kind = 2) : b = false ∧ (-43200 ≤ e.off ∧ e.off ≤ 43200) ∧ DrSet (ofB rs e.set) ∧ 0 < (ofB rs e.set).length ∧ (ofB rs e.set).length ≤ 5 := by
 rcases h with ⟨h0, _⟩ | ⟨h0, _⟩ | ⟨_, h1, _, h2, h3, _, h4, h5⟩
 ·omega
 ·omega
 ·obtain ⟨s, _, _, ⟨r, hr, _⟩, _⟩ := h4.saves
  exact ⟨h1, ⟨h2, h3⟩, h4, List.length_pos_of_mem hr, h5⟩
theorem DrSet.evF {l : List DRule} (h : DrSet l) {i : Nat} {u : DRule} {y : Int} {v : DEvent} (hu : l[i]? = some u) (hv : onR (leastD l) u i y = some v) (hy : y ≤ 2400) :
  EvOf l v ∧ v.rule = i ∧ behS l v = (u.save, u.letter) ∧ -4000000000 ≤ v.nominal ∧ v.nominal ≤ 20000000000 := by
 have hE : EvOf l v := ⟨i, u, y, hu, hv⟩
 obtain ⟨e1, e2, _, _, _, e5⟩ := (h.rule u (List.mem_of_getElem? hu)).ev h.least hv
 have hm : mar1 y ≤ mar1 2400 := mar1_le hy
 have h6 : mar1 2400 ≤ 200000 := by decide
 have hb := loS_bd u.month
 refine ⟨hE, e2, ?_, h.low hE, by omega⟩
 unfold behS ruE
 rw [e2, List.getD_eq_getElem?_getD, Int.toNat_natCast, hu]
 rfl
theorem DrEras.step {rs : List DRule} {l : List DEra} {Y : Nat → Int} (h : DrEras rs l Y) {r : List DSpan} (hr : spAll rs l = some r) {k : Nat} {x : DSpan} {e : DEra} (hx : r[k]? = some x) (he : l[k]? = some e) (h2 : e.kind = 2)
  {i : Nat} {u : DRule} {y : Int} {v : DEvent} (hu : (ofB rs e.set)[i]? = some u) (hv : onR (leastD (ofB rs e.set)) u i y = some v) (hy : y ≤ 2400) (h3 : x.start < instE (ofB rs e.set) v e.off) (h4 : instE (ofB rs e.set) v e.off < x.fin) :
  (-36028797018963968 < instE (ofB rs e.set) v e.off ∧ instE (ofB rs e.set) v e.off ≤ 36028797018963968) ∧ locAt rs l (instE (ofB rs e.set) v e.off) = localD e (u.save, u.letter) ∧ locAt rs l (instE (ofB rs e.set) v e.off - 1) = localD e (befS (ofB rs e.set) v.nominal) := by
 obtain ⟨_, ho, hS, _⟩ := (h.era k e he).set2 h2
 obtain ⟨hE, _, hb, n0, n1⟩ := hS.evF hu hv hy
 have nv := hS.inst_near ho v
 refine ⟨⟨by omega, by omega⟩, ?_, ?_⟩
 ·rw [locAt_era he (eraAt_uniq hr hx (by omega) h4), DrEra.st_set h2, hS.at_inst ho hE (by omega) (by omega), hb]
 ·rw [locAt_era he (eraAt_uniq hr hx (by omega) (by omega)), DrEra.st_set h2, hS.at_before ho hE (by omega) (by omega)]
theorem _root_.Go.Wk.DrRule.far30 {a b : DRule} (ha : DrRule a) (hb : DrRule b) {least i j y z : Int} {e f : DEvent} (hl : -3600 ≤ least ∧ least ≤ 0) (he : onR least a i y = some e) (hf : onR least b j z = some f) (hd : y = z → Dist a b ∨ Dist b a) :
  2588400 ≤ e.nominal - f.nominal ∨ 2588400 ≤ f.nominal - e.nominal := by
 obtain ⟨_, _, a1, a2, a3, a4⟩ := ha.ev hl he
 obtain ⟨_, _, b1, b2, b3, b4⟩ := hb.ev hl hf
 have la := loS_bd a.month
 have lb := loS_bd b.month
 rcases Int.lt_trichotomy y z with h | h | h
 ·have := mar1_lt h
  omega
 ·subst h
  have hs : sea a.month ≠ sea b.month := by
   have af := ha.f1
   have bf := hb.f1
   rcases hd rfl with (h | h) | (h | h)
   ·have := a2 (by omega); omega
   ·exact h
   ·have := b2 (by omega); omega
   ·exact fun hh => h hh.symm
  have := sea_far ha.mon hb.mon hs
  omega
 ·have := mar1_lt h
  omega
section
variable {l : List DRule} (h : DrSet l)
include h
theorem DrSet.gap {e f : DEvent} (he : EvOf l e) (hf : EvOf l f) (hn : e ≠ f) : 2588400 ≤ e.nominal - f.nominal ∨ 2588400 ≤ f.nominal - e.nominal := by
 obtain ⟨j, a, y, ha, h2⟩ := he
 obtain ⟨k, b, z, hb, h4⟩ := hf
 refine (h.rule a (List.mem_of_getElem? ha)).far30 (h.rule b (List.mem_of_getElem? hb)) h.least h2 h4 fun hyz => ?_
 subst hyz
 refine get_pair h.dist ha hb fun hjk => hn ?_
 subst hjk
 rw [ha] at hb
 cases hb
 exact Option.some.inj (h2.symm.trans h4)
omit h in
theorem afterD_ev {n : Int} {e : DEvent} (he : afterD l n = some e) : EvOf l e ∧ n < e.nominal := by
 rcases afterGo_sound' _ _ _ l 0 none e he with h1 | ⟨j, r, h1, h2⟩
 ·cases h1
 ·obtain ⟨q, h3, h4⟩ := evIn_sound' _ _ _ _ _ _ _ h2
  rw [Nat.zero_add] at h3
  exact ⟨⟨j, r, _, h1, h3⟩, h4⟩
theorem DrSet.afterD_full {n : Int} (h0 : -4000000000000 ≤ n) (h1 : n ≤ 4000000000000) {f : DEvent} (hf : EvOf l f) (hn : n < f.nominal) : ∃ e, afterD l n = some e ∧ e.nominal ≤ f.nominal := by
 obtain ⟨j, r, y, hj, hy⟩ := hf
 have hr := h.rule r (List.mem_of_getElem? hj)
 obtain ⟨b1, b2⟩ := yearOf_jan h0 h1
 have hle := h.least.2
 obtain ⟨c1, c2⟩ := onR_in hle hy
 have hyy : yearOf n ≤ y + 1 := year_near (by omega)
 have hyl := onR_last hy
 obtain ⟨_, _, hyf, _⟩ := hr.ev h.least hy
 have hf0 := hr.f0
 have key : ∃ (q : Nat) (g : DEvent), q < 20 ∧ onR (leastD l) r (j : Int) (max (max r.from_ (-2000000000)) (yearOf n - 2) + q) = some g ∧ n < g.nominal ∧ g.nominal ≤ f.nominal := by
  by_cases hq : y - max (max r.from_ (-2000000000)) (yearOf n - 2) < 20
  ·refine ⟨(y - max (max r.from_ (-2000000000)) (yearOf n - 2)).toNat, f, by omega, ?_, hn, Int.le_refl _⟩
   rw [show max (max r.from_ (-2000000000)) (yearOf n - 2) + ((y - max (max r.from_ (-2000000000)) (yearOf n - 2)).toNat : Int) = y by omega]
   exact hy
  ·obtain ⟨g, hg⟩ := hr.onY (leastD l) (j : Int) (y := max (max r.from_ (-2000000000)) (yearOf n - 2) + 10) (by omega) (by omega)
   refine ⟨10, g, by omega, hg, ?_, Int.le_of_lt (onR_mono hg hy (by omega))⟩
   refine Int.not_le.1 fun hh => ?_
   obtain ⟨d1, d2⟩ := onR_in hle hg
   have : max (max r.from_ (-2000000000)) (yearOf n - 2) + 10 ≤ yearOf n + 1 := year_near (by omega)
   omega
 obtain ⟨q, g, g1, g2, g3, g4⟩ := key
 obtain ⟨e', k1, k2⟩ := evIn_full' (leastD l) n r (j : Int) 20 _ q g g1 g2 g3
 obtain ⟨e, k3, k4⟩ := afterGo_full' (leastD l) n (yearOf n) l 0 none j r e' hj (by rw [Nat.zero_add]; exact k1)
 exact ⟨e, k3, by omega⟩
theorem DrSet.next {f v : DEvent} (hf : EvOf l f) (hv : EvOf l v) (h0 : v.nominal ≤ 4000000000) (hle : v.nominal ≤ f.nominal) (hne : v ≠ f) : ∃ e, afterD l v.nominal = some e ∧ EvOf l e ∧ e.nominal ≤ f.nominal ∧ v.nominal + 2588400 ≤ e.nominal := by
 have hlo := h.low hv
 have hg := h.gap hv hf hne
 obtain ⟨e, h1, h2⟩ := h.afterD_full (by omega) (by omega) hf (n := v.nominal) (by omega)
 obtain ⟨h3, h4⟩ := afterD_ev h1
 have hg2 := h.gap h3 hv (fun hh => by rw [hh] at h4; omega)
 exact ⟨e, h1, h3, h2, by omega⟩
end
theorem DrEras.stays {rs : List DRule} {l : List DEra} {Y : Nat → Int} (h : DrEras rs l Y) {k : Nat} {e : DEra} (he : l[k]? = some e) {a b : Int} (h0 : -3000000000000 ≤ a) (hab : a ≤ b) (h1 : b ≤ 3000000000000) (hka : eraAt rs l a = k) (hkb : eraAt rs l b = k) (hne : locAt rs l a ≠ locAt rs l b) :
  e.kind = 2 ∧ ∃ f, EvOf (ofB rs e.set) f ∧ a < instE (ofB rs e.set) f e.off ∧ instE (ofB rs e.set) f e.off ≤ b := by
 rw [locAt_era he hka, locAt_era he hkb] at hne
 have hE := h.era k e he
 by_cases h2 : e.kind = 2
 ·obtain ⟨_, ho, hS, _⟩ := hE.set2 h2
  rw [DrEra.st_set h2, DrEra.st_set h2] at hne
  exact ⟨h2, hS.at_change ho h0 h1 hab fun hh => hne (by rw [hh])⟩
 ·rw [hE.st_flat h2, hE.st_flat h2] at hne
  exact absurd rfl hne
end Go.Proofs.YtonjepladadmhaaGreatDoor
