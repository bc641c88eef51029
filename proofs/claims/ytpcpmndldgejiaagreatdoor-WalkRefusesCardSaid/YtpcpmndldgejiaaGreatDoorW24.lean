/- Parts of the proof. -/
import Derived.Test.YtpcpmndldgejiaaGreatDoorW23
import Derived.Test.YtpcpmndldgejiaaGreatDoorW11
import Derived.Test.YtpcpmndldgejiaaGreatDoorW18
set_option maxHeartbeats 4000000
set_option linter.unusedVariables false
set_option linter.unusedSimpArgs false
namespace Go.Proofs.YtpcpmndldgejiaaGreatDoor
open Go Go.RowKit Go.Wk
def Zh8 (l : List Zaa) (off t : Int) : Nat -> Int -> Option (Option Int)
 | 0, _ => none
 | k + 1, n => match Zb9 l n with
  | none => some none
  | some e => if t < Zbk l e off then some (some (Zbk l e off)) else Zh8 l off t k e.nominal
def evtD (l : List Zaa) (off t : Int) : Option (Option Int) := Zh8 l off t 4 (t - 259200)
theorem Znv (off t : Int) (k : Nat) (n : Int) : Zh8 [] off t (k + 1) n = some none := rfl
def minO (fin : Int) : Option Int -> Int
 | some u => if u < fin then u else fin
 | none => fin
def Zdt (fin : Int) (o : Option Int) : Option Int := if 36028797018963968 < minO fin o then none else some (minO fin o)
def Ze4 (rs : List Zaa) (l : List DEra) (t : Int) : Int := match ZfB rs l with
 | some r => (Zey r t).1.fin
 | none => 0
def eAt (rs : List Zaa) (l : List DEra) (t : Int) : DEra := l.getD (Za9 rs l t) dE0
def nxD (rs : List Zaa) (l : List DEra) (t : Int) : Option Int := Zdt (Ze4 rs l t) ((evtD (ruEr rs (eAt rs l t)) (eAt rs l t).off t).getD none)
def FstI (l : List Zaa) (off t : Int) : Option Int -> Prop
 | some u => t < u /\ (∃ e, EvOf l e /\ Zbk l e off = u) /\ ∀ f, EvOf l f -> t < Zbk l f off -> u <= Zbk l f off
 | none => ∀ f, EvOf l f -> Zbk l f off <= t
section
variable {l : List Zaa} (h : Zbl l) {off t : Int} (ho : -43200 <= off /\ off <= 43200)
include h ho
theorem Zbl.evt_round {n : Int} (h0 : -4000000000000 <= n) (h1 : n <= 4000000000000) (hI : ∀ f, EvOf l f -> t < Zbk l f off -> n < f.nominal) :
  (Zb9 l n = none /\ FstI l off t none) \/ ∃ e, Zb9 l n = some e /\ EvOf l e /\ n < e.nominal /\ ((t < Zbk l e off /\ FstI l off t (some (Zbk l e off))) \/ (Zbk l e off <= t /\ ∀ f, EvOf l f -> t < Zbk l f off -> e.nominal < f.nominal)) := by
 have near := h.inst_near ho
 cases hb : Zb9 l n with
 | none =>
  refine .inl ⟨rfl, fun f hf => Int.not_lt.1 fun hh => ?_⟩
  obtain ⟨e, he, _⟩ := h.afterD_full h0 h1 hf (hI f hf hh)
  rw [hb] at he
  cases he
 | some e =>
  obtain ⟨h2, h3⟩ := ZgV hb
  have hmin : ∀ f, EvOf l f -> t < Zbk l f off -> e.nominal <= f.nominal := fun f hf hh => by
   obtain ⟨e', he, hle⟩ := h.afterD_full h0 h1 hf (hI f hf hh)
   rw [hb] at he
   cases he
   exact hle
  refine .inr ⟨e, rfl, h2, h3, ?_⟩
  by_cases ht : t < Zbk l e off
  ·refine .inl ⟨ht, ht, ⟨e, h2, rfl⟩, fun f hf hh => ?_⟩
   have h4 := hmin f hf hh
   by_cases hfe : f = e
   ·subst hfe
    exact Int.le_refl _
   ·have h5 := h.gap hf h2 hfe
    have := near f
    have := near e
    omega
  ·refine .inr ⟨by omega, fun f hf hh => ?_⟩
   have h4 := hmin f hf hh
   by_cases hfe : f = e
   ·subst hfe
    exact absurd hh ht
   ·have := h.gap hf h2 hfe
    omega
theorem Zbl.evt (h0 : -3000000000000 <= t) (h1 : t <= 3000000000000) : ∃ o, evtD l off t = some o /\ FstI l off t o := by
 have near := h.inst_near ho
 have I1 : ∀ f, EvOf l f -> t < Zbk l f off -> t - 259200 < f.nominal := fun f _ hh => by have := near f; omega
 unfold evtD
 rcases h.evt_round ho (t := t) (n := t - 259200) (by omega) (by omega) I1 with ⟨a1, a2⟩ | ⟨e1, a1, a2, a3, ⟨a4, a5⟩ | ⟨a4, a5⟩⟩
 ·exact ⟨none, by rw [Zh8, a1], a2⟩
 ·exact ⟨_, by rw [Zh8, a1]; dsimp only; rw [if_pos a4], a5⟩
 have ne1 := near e1
 rw [Zh8, a1]
 dsimp only
 rw [if_neg (by omega)]
 rcases h.evt_round ho (t := t) (n := e1.nominal) (by omega) (by omega) a5 with ⟨b1, b2⟩ | ⟨e2, b1, b2, b3, ⟨b4, b5⟩ | ⟨b4, b5⟩⟩
 ·exact ⟨none, by rw [Zh8, b1], b2⟩
 ·exact ⟨_, by rw [Zh8, b1]; dsimp only; rw [if_pos b4], b5⟩
 exfalso
 have d3 := h.gap b2 a2 (fun hh => by rw [hh] at b3; omega)
 have := near e2
 omega
end
def Brk (rs : List Zaa) (l : List DEra) (t b : Int) : Prop := t < b /\ (b = Ze4 rs l t \/ ((eAt rs l t).kind = 2 /\ ∃ f, EvOf (ofB rs (eAt rs l t).set) f /\ Zbk (ofB rs (eAt rs l t).set) f (eAt rs l t).off = b))
def IsNx (rs : List Zaa) (l : List DEra) (t : Int) : Option Int -> Prop
 | some u => Brk rs l t u /\ u <= 36028797018963968 /\ ∀ b, Brk rs l t b -> u <= b
 | none => ∀ b, Brk rs l t b -> 36028797018963968 < b
theorem IsNx.uniq {rs : List Zaa} {l : List DEra} {t : Int} {o p : Option Int} (h : IsNx rs l t o) (g : IsNx rs l t p) : o = p := by
 cases o with
 | none =>
  cases p with
  | none => rfl
  | some v => exact absurd (h v g.1) (by have := g.2.1; omega)
 | some u =>
  cases p with
  | none => exact absurd (g u h.1) (by have := h.2.1; omega)
  | some v =>
   have := h.2.2 v g.1
   have := g.2.2 u h.1
   rw [show u = v by omega]
theorem ZyU (fin : Int) (o : Option Int) : minO fin o <= fin /\ ∀ u, o = some u -> minO fin o <= u := by
 cases o with
 | none => exact ⟨Int.le_refl _, fun u hu => by cases hu⟩
 | some v =>
  unfold minO
  dsimp only
  refine ⟨by split <;> omega, fun u hu => ?_⟩
  cases hu
  split <;> omega
theorem ZoJ (fin : Int) (o : Option Int) : minO fin o = fin \/ o = some (minO fin o) := by
 cases o with
 | none => exact .inl rfl
 | some v =>
  unfold minO
  dsimp only
  split
  ·exact .inr rfl
  ·exact .inl rfl
section
variable {rs : List Zaa} {l : List DEra} {Y : Nat -> Int} (h : ZaJ rs l Y)
include h
theorem ZaJ.at {t : Int} (h0 : -9223372036854775808 <= t) (h1 : t < 9223372036854775807) : ∃ r x, ZfB rs l = some r /\ r[Za9 rs l t]? = some x /\ x.start <= t /\ t < x.fin /\ Ze4 rs l t = x.fin /\ Zey r t = (x, true) /\ x.era = (Za9 rs l t : Nat) /\ l[Za9 rs l t]? = some (eAt rs l t) /\ ZbC rs (eAt rs l t) (decide (Za9 rs l t = 0)) := by
 obtain ⟨r, hr⟩ := h.sp
 have hne : l ≠ [] := fun hh => by have := h.len.1; rw [hh] at this; simp at this
 obtain ⟨x, a1, a2, a3, a4, a5, a6⟩ := ZeI hr hne (t := t) h0 h1
 obtain ⟨e, he, hd⟩ := Ze1 (d := dE0) a1
 refine ⟨r, x, hr, a2, a5, a6, ?_, a3, a4, ?_, ?_⟩
 ·unfold Ze4
  rw [hr]
  dsimp only
  rw [a3]
 ·unfold eAt
  rw [hd]
  exact he
 ·unfold eAt
  rw [hd]
  exact h.era _ e he
theorem ZaJ.same {t s : Int} (h0 : -9223372036854775808 <= t) (h1 : t <= s) (h2 : s < Ze4 rs l t) (h3 : s < 9223372036854775807) : Za9 rs l s = Za9 rs l t /\ Ze4 rs l s = Ze4 rs l t /\ eAt rs l s = eAt rs l t := by
 obtain ⟨r, x, a1, a2, a3, a4, a5, a6, a7, a8, a9⟩ := h.at (t := t) h0 (by omega)
 rw [a5] at h2 ⊢
 have hk := Zr0 a1 a2 (t := s) (by omega) h2
 refine ⟨hk, ?_, by unfold eAt; rw [hk]⟩
 obtain ⟨r', y, b1, b2, _, _, b5, _⟩ := h.at (t := s) (by omega) h3
 rw [a1] at b1
 cases b1
 rw [hk, a2] at b2
 cases b2
 exact b5
theorem ZaJ.evt_at {t : Int} (h0 : -3000000000000 <= t) (h1 : t <= 3000000000000) : ∃ o, evtD (ruEr rs (eAt rs l t)) (eAt rs l t).off t = some o /\ (((eAt rs l t).kind = 2 /\ FstI (ofB rs (eAt rs l t).set) (eAt rs l t).off t o) \/ ((eAt rs l t).kind ≠ 2 /\ o = none)) := by
 obtain ⟨r, x, a1, a2, a3, a4, a5, a6, a7, a8, a9⟩ := h.at (t := t) (by omega) (by omega)
 by_cases h2 : (eAt rs l t).kind = 2
 ·obtain ⟨_, ho, hS, _⟩ := a9.set2 h2
  obtain ⟨o, b1, b2⟩ := hS.evt ho (t := t) (by omega) (by omega)
  exact ⟨o, by unfold ruEr; rw [if_pos h2]; exact b1, .inl ⟨h2, b2⟩⟩
 ·exact ⟨none, by unfold ruEr; rw [if_neg h2]; exact Znv _ _ _ _, .inr ⟨h2, rfl⟩⟩
theorem ZaJ.nx {t : Int} (h0 : -3000000000000 <= t) (h1 : t <= 3000000000000) : IsNx rs l t (nxD rs l t) := by
 obtain ⟨r, x, a1, a2, a3, a4, a5, a6, a7, a8, a9⟩ := h.at (t := t) (by omega) (by omega)
 obtain ⟨o, b1, b2⟩ := h.evt_at h0 h1
 unfold nxD
 rw [b1, Option.getD_some]
 obtain ⟨m1, m2⟩ := ZyU (Ze4 rs l t) o
 have hle : ∀ b, Brk rs l t b -> minO (Ze4 rs l t) o <= b := by
  rintro b ⟨hb, rfl | ⟨hk, f, hf, rfl⟩⟩
  ·exact m1
  ·rcases b2 with ⟨_, b2⟩ | ⟨hn, _⟩
   ·cases o with
    | none => exact absurd (b2 f hf) (by omega)
    | some u =>
     have := m2 u rfl
     have := b2.2.2 f hf hb
     omega
   ·exact absurd hk hn
 unfold Zdt
 by_cases hm : 36028797018963968 < minO (Ze4 rs l t) o
 ·rw [if_pos hm]
  intro b hb
  have := hle b hb
  omega
 ·rw [if_neg hm]
  refine ⟨?_, by omega, hle⟩
  rcases ZoJ (Ze4 rs l t) o with hh | hh
  ·exact ⟨by omega, .inl hh⟩
  ·rcases b2 with ⟨hk, b2⟩ | ⟨_, b2⟩
   ·rw [hh] at b2
    exact ⟨b2.1, .inr ⟨hk, b2.2.1⟩⟩
   ·rw [b2] at hh
    cases hh
theorem ZaJ.brk {t s : Int} (h0 : -9223372036854775808 <= t) (h1 : t <= s) (h2 : s < Ze4 rs l t) (h3 : s < 9223372036854775807) (b : Int) : Brk rs l s b ↔ Brk rs l t b /\ s < b := by
 obtain ⟨_, a2, a3⟩ := h.same h0 h1 h2 h3
 unfold Brk
 rw [a2, a3]
 constructor
 ·rintro ⟨b1, b2⟩
  exact ⟨⟨by omega, b2⟩, b1⟩
 ·rintro ⟨⟨b1, b2⟩, b3⟩
  exact ⟨b3, b2⟩
theorem ZaJ.fin_brk {t : Int} (h0 : -9223372036854775808 <= t) (h1 : t < 9223372036854775807) : Brk rs l t (Ze4 rs l t) := by
 obtain ⟨r, x, a1, a2, a3, a4, a5, _⟩ := h.at (t := t) h0 h1
 exact ⟨by omega, .inl rfl⟩
theorem ZaJ.nx_again {t u s : Int} (h0 : -3000000000000 <= t) (h1 : s <= 3000000000000) (hu : nxD rs l t = some u) (ht : t <= s) (hs : s < u) : nxD rs l s = some u := by
 have hn := h.nx (t := t) h0 (by omega)
 rw [hu] at hn
 obtain ⟨n1, n2, n3⟩ := hn
 have hf := n3 _ (h.fin_brk (t := t) (by omega) (by omega))
 refine (h.nx (t := s) (by omega) h1).uniq ⟨(h.brk (t := t) (by omega) ht (by omega) (by omega) u).2 ⟨n1, hs⟩, n2, fun b hb => n3 b ((h.brk (t := t) (by omega) ht (by omega) (by omega) b).1 hb).1⟩
theorem ZaJ.nx_same {t s : Int} (h0 : -3000000000000 <= t) (h1 : s <= 3000000000000) (ht : t <= s) (hs : ∀ u, nxD rs l t = some u -> s < u) : ZaD rs l s = ZaD rs l t /\ Za9 rs l s = Za9 rs l t := by
 have hn := h.nx (t := t) h0 (by omega)
 have hB : ∀ b, Brk rs l t b -> s < b := fun b hb => by
  cases hu : nxD rs l t with
  | none =>
   rw [hu] at hn
   have := hn b hb
   omega
  | some u =>
   rw [hu] at hn
   have := hs u hu
   have := hn.2.2 b hb
   omega
 have hf := hB _ (h.fin_brk (t := t) (by omega) (by omega))
 obtain ⟨a1, a2, a3⟩ := h.same (t := t) (by omega) ht hf (by omega)
 refine ⟨?_, a1⟩
 by_cases hne : ZaD rs l t = ZaD rs l s
 ·exact hne.symm
 ·obtain ⟨r, x, _, _, _, _, _, _, _, b8, _⟩ := h.at (t := t) (by omega) (by omega)
  obtain ⟨k2, f, hf1, hf2, hf3⟩ := h.stays b8 h0 ht h1 rfl a1 hne
  have := hB _ ⟨hf2, .inr ⟨k2, f, hf1, rfl⟩⟩
  omega
theorem ZaJ.nx_lt {t u : Int} (h0 : -3000000000000 <= t) (h1 : t <= 3000000000000) (hu : nxD rs l t = some u) : t < u /\ u <= 36028797018963968 := by
 have hn := h.nx (t := t) h0 h1
 rw [hu] at hn
 exact ⟨hn.1.1, hn.2.1⟩
end
end Go.Proofs.YtpcpmndldgejiaaGreatDoor
set_option maxHeartbeats 4000000
namespace Go.Proofs.YtpcpmndldgejiaaGreatDoor
open Go Go.RowKit Go.Wk
attribute [local irreducible] W RL Does Zay Zam retQ Calls Pu Stp RD Qy Ay Zan RLI WI
theorem Zhk (Ar Az Al As : Option Addr) (cr cz cl cs : Nat) (a : Zai) (name : ByteArray) (w : World) (hA : Zaj w Ar Az Al As cr cz cl cs a) (hn : a.zones.length + a.links.length <= 1000000) :
  Does Tryz.prog 59 [srcV Ar Az Al As cr cz cl cs a, .string name] w (fun v O => v = .tuple #[.int .i64 (ZaK a (a.links.length + 1) [] name).1, .int .i64 (ZaK a (a.links.length + 1) [] name).2] /\ O = []) := by
 obtain ⟨res, hres⟩ : ∃ res, ZaK a (a.links.length + 1) [] name = res := ⟨_, rfl⟩
 rw [hres]
 refine Zab Tryz.func59 rfl rfl rfl rfl ?_
 repeat (first | refine walk ?_ | (refine jg ?_; (try intro F); (first | (apply Zag (h := fun w' hw _ => ZiV Ar Az Al As cr cz cl cs a w' (hA.up hw) (by omega)); rfl; rintro v O' ⟨b1, m1, rfl, rfl, i1, d1, n1⟩) | (apply Zag (h := fun w' hw _ => ZgD Ar Az Al As cr cz cl cs a w' (hA.up hw) (by omega)); rfl; rintro v O' ⟨b2, m2, rfl, rfl, i2, d2, n2⟩) | (refine ZaF (fun w' hw hO => Zi8 Ar Az Al As cr cz cl cs a b1 b2 m1 m2 name w' (hA.up hw) (hO.of (A := .mp b1 m1) (by repeat' constructor)) (hO.of (A := .mp b2 m2) (by repeat' constructor)) i1 i2 d2 n2) ?_) | (refine bx ?_; intro bk)); refine fin ?_) | (refine jn ?_; (try intro F); (first | (refine bx ?_; intro bk) | (apply Zae; exact PuA)); refine fin ?_))
 rw [hres]
 exact rtB
end Go.Proofs.YtpcpmndldgejiaaGreatDoor
namespace Go.Proofs.YtpcpmndldgejiaaGreatDoor
open Go Go.RowKit Go.Wk
attribute [local irreducible] W RL Does Zay Zam retQ Calls Pu Stp RD Qy Ay Zan
theorem Zrj (Ar Az Al As : Option Addr) (cr cz cl cs : Nat) (a : Zai) (name : ByteArray) (p : ZaH) (e : Int) (w : World) (h : ZcO w Ar Az Al As cr cz cl cs a) (hf : accD a = some (p, e)) :
  Does Tryz.prog 73 [srcV Ar Az Al As cr cz cl cs a, .string name] w (fun v O => v = .tuple #[.int .i64 0, .int .i64 e] /\ O = []) := by
 have ha := fun w' (hw : Bel w.heap.size w w') => ZAV Ar Az Al As cr cz cl cs a p e w' (h.up hw) hf
 have hb : (!decide (e = 0)) = true := by rw [decide_eq_false (Zzh hf)]; rfl
 refine Zab Tryz.func73 rfl rfl rfl rfl ?_
 repeat (first | (apply RL_pu; rfl; (apply ZaE; rfl; rfl; exact hb)) | (refine js ?_; (first | (apply Zag (h := fun w' hw _ => ha w' hw); rfl; rintro v O' ⟨⟨p1, p2, p3, rfl⟩, rfl⟩) | (refine bx ?_; intro bk))) | refine walk1 ?_)
 exact rtB
theorem Zsu (Ar Az Al As : Option Addr) (cr cz cl cs : Nat) (a : Zai) (name : ByteArray) (w : World) (h : ZcO w Ar Az Al As cr cz cl cs a) (hf : accD a = none) (hn : a.zones.length + a.links.length <= 1000000) :
  Does Tryz.prog 73 [srcV Ar Az Al As cr cz cl cs a, .string name] w (fun v O => v = .tuple #[.int .i64 (ZaK a (a.links.length + 1) [] name).1, .int .i64 (ZaK a (a.links.length + 1) [] name).2] /\ O = []) := by
 have ha := fun w' (hw : Bel w.heap.size w w') => ZAU Ar Az Al As cr cz cl cs a w' (h.up hw) hf
 have hl := fun w' (hw : Bel w.heap.size w w') => Zhk Ar Az Al As cr cz cl cs a name w' (h.A.up hw) hn
 generalize ZaK a (a.links.length + 1) [] name = x at *
 refine Zab Tryz.func73 rfl rfl rfl rfl ?_
 repeat (first | (refine js ?_; (first | (refine Zac ha ?_) | (refine Zac hl ?_) | (refine bx ?_; intro bk))) | refine walk ?_)
 exact rtB
def tOk (t : Int) : Bool := decide (-36028797018963968 <= t) && decide (t <= 36028797018963968)
theorem ZaP {t : Int} : tOk t = true ↔ -36028797018963968 <= t /\ t <= 36028797018963968 := by unfold tOk; simp
theorem ZAB {G : Prop} (h : G := by (apply Zbi; rfl; rfl; exact b1)) : G := h
theorem ZAA {G : Prop} (h : G := by (first | exact ZAB | (apply ZaN; rfl; rfl; exact b2))) : G := h
theorem Zvn {G : Prop} (h : G := by (first | exact ZAA | (apply Pu_indexAddr; rfl; rfl; omega; omega; exact hnz) | (apply Pu_loadON; rfl; exact hcz; rfl))) : G := h
theorem ZxG {G : Prop} (h : G := by first | (apply Qy_y; rfl; exact Zvn) | exact QyA) : G := h
theorem ZxS {G : Prop} (h : G := by repeat (first | exact QF.nil | (apply QF.mk; rfl; rfl; decide +kernel; exact ZxG))) : G := h
theorem ZtW (Ar Az Al As : Option Addr) (cr cz cl cs : Nat) (a : Zai) (name : ByteArray) (t : Int) (i : Nat) (z : ZaY) (l : List ZaI) (x : ZaI) (Ae : Option Addr) (ce : Nat) (w : World) (h : ZcO w Ar Az Al As cr cz cl cs a) (ht : tOk t = true)
  (hz : ∀ w', Bel w.heap.size w w' -> Does Tryz.prog 73 [srcV Ar Az Al As cr cz cl cs a, .string name] w' (fun v O => v = .tuple #[.int .i64 i, .int .i64 0] /\ O = []))
  (hi : a.zones[i]? = some z) (hnz : Az ≠ none) (hcz : Zao w ((adr Az).add (i * 2)) [.string z.name, .slice Ae z.eras.length ce])
  (hE : ∀ k e, z.eras[k]? = some e -> k + 1 < z.eras.length -> RsSm (ruEr a.rules e) /\ UnOk e (ruEr a.rules e)) (hl : ZfB a.rules z.eras = some l) (hx : Zey l t = (x, true)) :
  Does Tryz.prog 34 [srcV Ar Az Al As cr cz cl cs a, .string name, .int .i64 t] w (fun v O => v = .tuple #[.agg #[.string z.name, .slice Ae z.eras.length ce], .int .i64 x.era, .int .i64 0] /\ O = []) := by
 have h2 := ZaP.1 ht
 have b1 : decide (t < -36028797018963968) = false := decide_eq_false (by omega)
 have b2 : decide (36028797018963968 < t) = false := decide_eq_false (by omega)
 have hil : i < a.zones.length := (List.getElem?_eq_some_iff.1 hi).1
 have hlz := h.A.zle
 have hlc := h.A.zcap
 simp only [maxLen] at hlc
 have hsp := fun w' (hw : Bel w.heap.size w w') => Zkl Ar Az Al As cr cz cl cs a i z l w' (h.G.up hw) (h.A.up hw) h.S.nr (h.S.zs z (List.mem_of_getElem? hi)).2.1 hi hE hl
 have hfi := fun (A : Option Addr) (c : Nat) w' (hR : RdSl w' A c ZaI.enc 3 l) => ZfZ A c l t w' hR
 rw [hx] at hfi
 clear hx hl hE hi
 obtain ⟨x1, x2, x3⟩ := x
 simp only [ZaI.enc] at hfi
 refine Zab Tryz.func34 rfl rfl rfl rfl ?_
 repeat (first | refine und ?_ | (apply RL_pu; rfl; exact Zvn) | (apply RD_Q; rfl; rfl; decide +kernel; rfl; rfl; exact ZxG) | refine walk1 ?_ | (refine jg ?_; (try intro F); (first | (refine Zac hz ?_) | (apply Zag (h := fun w' hw _ => hsp w' hw); rfl; rintro v O' ⟨A3, c3, rfl, rfl⟩) | (refine ZaF (fun w' hw hO => hfi A3 c3 w' (ZaW ZaI.len (hO.of (by repeat' constructor)))) ?_) | (refine bx ?_; intro bk) | (refine stA ?_)); first | refine ⟨_, EndsA, ZxS, ?_⟩ | refine fin ?_) | (refine jn ?_; (try intro F); (first | (refine bx ?_; intro bk) | (refine stA ?_) | (apply Zae; first | exact Zvn | exact PuA)); first | refine ⟨_, EndsA, ZxS, ?_⟩ | refine fin ?_) | (apply RD_W; rfl; intro bk))
 exact ZfD _ _ _ [] (.cellB rfl (by repeat' constructor) rfl rfl) (.tmp rfl) (.tmp rfl) .nil ⟨rfl, rfl⟩
theorem Zt3 (Ar Az Al As : Option Addr) (cr cz cl cs : Nat) (a : Zai) (name : ByteArray) (t : Int) (zn : ByteArray) (Ae : Option Addr) (ne ce : Nat) (k e : Int) (w : World)
  (hf : ∀ w', Bel w.heap.size w w' -> Does Tryz.prog 34 [srcV Ar Az Al As cr cz cl cs a, .string name, .int .i64 t] w' (fun v O => v = .tuple #[.agg #[.string zn, .slice Ae ne ce], .int .i64 k, .int .i64 e] /\ O = [])) :
  Does Tryz.prog 15 [srcV Ar Az Al As cr cz cl cs a, .string name, .int .i64 t] w (fun v O => v = .tuple #[.int .i64 k, .int .i64 e] /\ O = []) := by
 refine Zab Tryz.func15 rfl rfl rfl rfl ?_
 repeat (first | (refine js ?_; (first | (refine Zac hf ?_) | (refine bx ?_; intro bk))) | refine walk ?_)
 exact rtB
theorem Zzf (Ar Az Al As : Option Addr) (cr cz cl cs : Nat) (a : Zai) (name : ByteArray) (t : Int) (zn : ByteArray) (Ae : Option Addr) (ce : Nat) (l : List DEra) (k : Nat) (x : DEra) (y : Zaf) (w : World)
  (hf : ∀ w', Bel w.heap.size w w' -> Does Tryz.prog 34 [srcV Ar Az Al As cr cz cl cs a, .string name, .int .i64 t] w' (fun v O => v = .tuple #[.agg #[.string zn, .slice Ae l.length ce], .int .i64 k, .int .i64 0] /\ O = []))
  (hE : RdSl w Ae ce DEra.enc 13 l) (hx : l[k]? = some x)
  (hl : ∀ w', Bel w.heap.size w w' -> Does Tryz.prog 35 [srcV Ar Az Al As cr cz cl cs a, .agg x.enc.toArray, .int .i64 t] w' (fun v O => v = .tuple #[.agg y.enc.toArray, .int .i64 0] /\ O = [])) :
  Does Tryz.prog 18 [srcV Ar Az Al As cr cz cl cs a, .string name, .int .i64 t] w (fun v O => v = .tuple #[.agg y.enc.toArray, .int .i64 0] /\ O = []) := by
 have hel := hE.le
 have hec := hE.cap
 simp only [maxLen] at hec
 have hkl : k < l.length := (List.getElem?_eq_some_iff.1 hx).1
 obtain ⟨hna, hca⟩ := hE.rd k _ hx
 obtain ⟨off, kd, esv, sset, fm, ⟨ui, uy, um, ⟨ud1, ud2, ud3⟩, ⟨uc1, uc2⟩⟩⟩ := x
 obtain ⟨y1, y2, y3⟩ := y
 simp only [DEra.enc, Zaf.enc] at hca hl ⊢
 refine Zab Tryz.func18 rfl rfl rfl rfl ?_
 repeat (first | (apply RL_pu; rfl; exact PuI) | (apply RD_Q; rfl; rfl; decide +kernel; rfl; rfl; exact QyI) | refine walk1 ?_ | (refine jg ?_; (try intro F); (first | (refine Zac hf ?_) | (refine Zac hl ?_) | (refine bx ?_; intro bk) | (refine stA ?_)); first | refine ⟨_, EndsA, QFI, ?_⟩ | refine fin ?_) | (refine jn ?_; (try intro F); (first | (refine bx ?_; intro bk) | (refine stA ?_) | (apply Zae; first | exact PuI | exact PuA)); first | refine ⟨_, EndsA, QFI, ?_⟩ | refine fin ?_) | (apply RD_W; rfl; intro bk))
 exact rtC
def ZbI (a : Zai) (name : ByteArray) : Int × Int := match accD a with
 | some (_, e) => (0, e)
 | none => (((ZaK a (a.links.length + 1) [] name).1 : Nat), (ZaK a (a.links.length + 1) [] name).2)
structure MnOk (a : Zai) : Prop where
 acc : accD a = none
 un : ∀ z ∈ a.zones, ∀ k e, z.eras[k]? = some e -> k + 1 < z.eras.length -> RsSm (ruEr a.rules e) /\ UnOk e (ruEr a.rules e)
 ne : ∀ z ∈ a.zones, z.eras ≠ []
 sp : ∀ z ∈ a.zones, ∃ r, ZfB a.rules z.eras = some r
 lc : ∀ z ∈ a.zones, ∀ e ∈ z.eras, LcOk a.rules e
 st : ∀ z ∈ a.zones, ∀ e ∈ z.eras, ∀ t, (-1000000000 <= (ZaZ a.rules e t).1 /\ (ZaZ a.rules e t).1 <= 1000000000) /\ (ZaZ a.rules e t).2.size <= 1000000000 /\ abE e (ZaZ a.rules e t) = 0
section
variable (Ar Az Al As : Option Addr) (cr cz cl cs : Nat) (a : Zai) (name : ByteArray) (t : Int) (w : World)
theorem Zol (h : ZcO w Ar Az Al As cr cz cl cs a) (hn : a.zones.length + a.links.length <= 1000000) :
  Does Tryz.prog 73 [srcV Ar Az Al As cr cz cl cs a, .string name] w (fun v O => v = .tuple #[.int .i64 (ZbI a name).1, .int .i64 (ZbI a name).2] /\ O = []) := by
 unfold ZbI
 cases ha : accD a with
 | some x =>
  obtain ⟨p, e⟩ := x
  exact Zrj Ar Az Al As cr cz cl cs a name p e w h ha
 | none => exact Zsu Ar Az Al As cr cz cl cs a name w h ha hn
theorem Zsv (h : ZcO w Ar Az Al As cr cz cl cs a) (hn : a.zones.length + a.links.length <= 1000000) {i : Nat} (hz : ZbI a name = (((i : Nat) : Int), 0)) :
  Does Tryz.prog 73 [srcV Ar Az Al As cr cz cl cs a, .string name] w (fun v O => v = .tuple #[.int .i64 i, .int .i64 0] /\ O = []) := by
 have := Zol Ar Az Al As cr cz cl cs a name w h hn
 rwa [hz] at this
theorem Ztp (h : ZcO w Ar Az Al As cr cz cl cs a) (hM : MeG w) (m : MnOk a) {z : ZaY} (hz : z ∈ a.zones) {e : DEra} (he : e ∈ z.eras) (ht : -1000000000000000000 <= t /\ t <= 1000000000000000000) :
  Does Tryz.prog 35 [srcV Ar Az Al As cr cz cl cs a, .agg e.enc.toArray, .int .i64 t] w (fun v O => v = .tuple #[.agg (ZfM e (ZaZ a.rules e t)).enc.toArray, .int .i64 0] /\ O = []) := by
 obtain ⟨h1, h2, h3⟩ := m.st z hz e he t
 exact Zm4 Ar Az Al As cr cz cl cs a e t w h.L h.G hM h.A h.S.nr (m.lc z hz e he) ht h1 h2 h3
theorem ZzZ (h : ZcO w Ar Az Al As cr cz cl cs a) (hn : a.zones.length + a.links.length <= 1000000) (m : MnOk a) (ht : tOk t = true) {i : Nat} {z : ZaY} (hz : ZbI a name = (((i : Nat) : Int), 0)) (hi : a.zones[i]? = some z) (Ae : Option Addr) (ce : Nat) (hnz : Az ≠ none) (hcz : Zao w ((adr Az).add (i * 2)) [.string z.name, .slice Ae z.eras.length ce]) :
  Does Tryz.prog 34 [srcV Ar Az Al As cr cz cl cs a, .string name, .int .i64 t] w (fun v O => v = .tuple #[.agg #[.string z.name, .slice Ae z.eras.length ce], .int .i64 (Za9 a.rules z.eras t), .int .i64 0] /\ O = []) := by
 have hmem := List.mem_of_getElem? hi
 have h2 := ZaP.1 ht
 obtain ⟨r, hr⟩ := m.sp z hmem
 obtain ⟨x, _, _, hf, hx, _⟩ := ZeI hr (m.ne z hmem) (t := t) (by omega) (by omega)
 have := ZtW Ar Az Al As cr cz cl cs a name t i z r x Ae ce w h ht (fun w' hw => Zsv Ar Az Al As cr cz cl cs a name w' (h.up hw) hn hz) hi hnz hcz (m.un z hmem) hr hf
 rwa [hx] at this
theorem mAt (h : ZcO w Ar Az Al As cr cz cl cs a) (hM : MeG w) (hn : a.zones.length + a.links.length <= 1000000) (m : MnOk a) (ht : tOk t = true) {i : Nat} {z : ZaY} (hz : ZbI a name = (((i : Nat) : Int), 0)) (hi : a.zones[i]? = some z) :
  Does Tryz.prog 18 [srcV Ar Az Al As cr cz cl cs a, .string name, .int .i64 t] w (fun v O => v = .tuple #[.agg (ZaD a.rules z.eras t).enc.toArray, .int .i64 0] /\ O = []) := by
 have hmem := List.mem_of_getElem? hi
 have h2 := ZaP.1 ht
 obtain ⟨hnz, cs1, ⟨Ae, ce, hEz, rfl⟩, hcz⟩ := h.A.z i _ hi
 obtain ⟨r, hr⟩ := m.sp z hmem
 obtain ⟨x, hk, _⟩ := ZeI hr (m.ne z hmem) (t := t) (by omega) (by omega)
 obtain ⟨e, he, hd⟩ := Ze1 (d := dE0) hk
 unfold ZaD
 rw [hd]
 exact Zzf Ar Az Al As cr cz cl cs a name t z.name Ae ce z.eras (Za9 a.rules z.eras t) e _ w (fun w' hw => ZzZ Ar Az Al As cr cz cl cs a name t w' (h.up hw) hn m ht hz hi Ae ce hnz (hcz.up hw (Nat.le_refl _))) hEz he fun w' hw => Ztp Ar Az Al As cr cz cl cs a t w' (h.up hw) (hM.up hw) m hmem (List.mem_of_getElem? he) (by omega)
theorem mEra (h : ZcO w Ar Az Al As cr cz cl cs a) (hn : a.zones.length + a.links.length <= 1000000) (m : MnOk a) (ht : tOk t = true) {i : Nat} {z : ZaY} (hz : ZbI a name = (((i : Nat) : Int), 0)) (hi : a.zones[i]? = some z) :
  Does Tryz.prog 15 [srcV Ar Az Al As cr cz cl cs a, .string name, .int .i64 t] w (fun v O => v = .tuple #[.int .i64 (Za9 a.rules z.eras t), .int .i64 0] /\ O = []) := by
 obtain ⟨hnz, cs1, ⟨Ae, ce, hEz, rfl⟩, hcz⟩ := h.A.z i _ hi
 exact Zt3 Ar Az Al As cr cz cl cs a name t z.name Ae z.eras.length ce _ 0 w fun w' hw => ZzZ Ar Az Al As cr cz cl cs a name t w' (h.up hw) hn m ht hz hi Ae ce hnz (hcz.up hw (Nat.le_refl _))
end
theorem Zty {x : ByteArray} (h : x ∈ [ByteArray.empty, (⟨#[83]⟩ : ByteArray), ⟨#[68]⟩, ⟨#[68, 84]⟩]) : x.size <= 1000000000 := by
 have : ∀ x ∈ [ByteArray.empty, (⟨#[83]⟩ : ByteArray), ⟨#[68]⟩, ⟨#[68, 84]⟩], x.size <= 1000000000 := by decide
 exact this x h
theorem ZyZ {x : ByteArray} (h : x ∈ fmtU) : x.size <= 1000000000 := by
 have : ∀ x ∈ fmtU, x.size <= 1000000000 := by decide
 exact this x h
theorem Zto {a : Zai} (hacc : accD a = none) (h : ∀ z ∈ a.zones, ∃ Y, ZaJ a.rules z.eras Y) : MnOk a := by
 have hd : ∀ z ∈ a.zones, ∀ e ∈ z.eras, ∃ b, ZbC a.rules e b := fun z hz e he => by
  obtain ⟨Y, hY⟩ := h z hz
  obtain ⟨k, hk⟩ := List.mem_iff_getElem?.1 he
  exact ⟨_, hY.era k e hk⟩
 refine ⟨hacc, fun z hz k e he hk => ?_, fun z hz hn => ?_, fun z hz => ?_, fun z hz e he => ?_, fun z hz e he t => ?_⟩
 ·obtain ⟨Y, hY⟩ := h z hz
  exact hY.un k e he hk
 ·obtain ⟨Y, hY⟩ := h z hz
  have := hY.len.1
  rw [hn] at this
  simp at this
 ·obtain ⟨Y, hY⟩ := h z hz
  exact hY.sp
 ·obtain ⟨b, hb⟩ := hd z hz e he
  have h0 := hb.st0.1
  dsimp only at h0
  have hk : 0 <= e.kind /\ e.kind <= 2 := by rcases hb with ⟨h0, _⟩ | ⟨h0, _⟩ | ⟨h0, _⟩ <;> omega
  have hs : -10800 <= e.save /\ e.save <= 10800 := by
   rcases hb with ⟨_, h0, _⟩ | ⟨_, h0, _⟩ | ⟨_, _, h0, _⟩ <;> omega
  refine ⟨hk, by omega, by omega, fun h2 => ?_, ZyZ hb.fmt⟩
  have := hb.rs
  unfold ruEr at this
  rwa [if_pos h2] at this
 ·obtain ⟨b, hb⟩ := hd z hz e he
  obtain ⟨h1, h2, h3⟩ := hb.state t
  exact ⟨by omega, Zty h3, (Zzi hb.fmt (hb.state t)).1⟩
end Go.Proofs.YtpcpmndldgejiaaGreatDoor
namespace Go.Wk
open Go Go.RowKit
structure WvG where
 k : Nat
 n : Int
end Go.Wk
namespace Go.Proofs.YtpcpmndldgejiaaGreatDoor
open Go Go.RowKit Go.Wk
attribute [local irreducible] W RL Does Zay Zam retQ Calls Pu Stp RD Qy Ay Zan
theorem Zyb {G : Prop} (h : G := by (apply Zcv; rfl; rfl; exact e1)) : G := h
theorem Za8 (t : Int) (w : World) : Does Tryz.prog 25 [.int .i64 t] w (fun v O => v = .bool (tOk t) /\ O = []) := by
 unfold tOk
 refine Zab Tryz.func25 rfl rfl rfl rfl ?_
 by_cases h1 : -36028797018963968 <= t
 ·have e1 : decide (-36028797018963968 <= t) = true := decide_eq_true h1
  repeat (first | (apply RL_pu; rfl; exact Zyb) | refine walk1 ?_)
  exact ret_1 _ [] (.tmp rfl) .nil ⟨by rw [e1]; rfl, rfl⟩
 ·have e1 : decide (-36028797018963968 <= t) = false := decide_eq_false h1
  repeat (first | (apply RL_pu; rfl; exact Zyb) | refine walk1 ?_)
  exact ret_1 _ [] (.tmp rfl) .nil ⟨by rw [e1]; rfl, rfl⟩
theorem Zy4 {l : List Zaa} {e : Zad} (h : EvOf l e) : 0 <= e.rule /\ e.rule < l.length := by
 obtain ⟨j, r, y, h1, h2⟩ := h
 have h3 := (ZdA h2).2.1
 have := (List.getElem?_eq_some_iff.1 h1).1
 omega
theorem Zuw {l : List Zaa} (h : RsSm l) (n : Int) : EvOk (Zb9 l n) := Zhw _ _ _ (Zd1 l h.r).2 l 0 none fun e he => (by cases he)
def optV (o : Option Int) : Value := .tuple #[.int .i64 (o.getD 0), .bool o.isSome]
theorem Zya {G : Prop} (h : G := by (apply ZaN; rfl; rfl; exact d0)) : G := h
theorem Znw (A : Option Addr) (c : Nat) (l : List Zaa) (off t : Int) (o : Option Int) (w : World) (hG : Glob w) (hA : RdSl w A c Zaa.enc 11 l) (h : RsSm l) (ho : -1000000000 <= off /\ off <= 1000000000) (ht : -1000000000000000000 <= t /\ t <= 1000000000000000000) (hr : evtD l off t = some o) :
  Does Tryz.prog 72 [.slice A l.length c, .int .i64 off, .int .i64 t] w (fun v O => v = optV o /\ O = []) := by
 have hsub := fun w' => Zp4 t 259200 (by omega) (by omega) w'
 have hRo : RsOk l := fun r hr => ⟨h.r r hr, h.f r hr⟩
 have haf := fun n (hb : -4611686018427387904 <= n /\ n <= 4611686018427387904) w' (hw : Bel w.heap.size w w') => Zk1 A c l n w' (hG.up hw) (hA.up hw) h.n hRo hb
 unfold evtD at hr
 unfold optV
 refine Zab Tryz.func72 rfl rfl rfl rfl ?_
 repeat (first | (refine js ?_; (first | (refine Zac (fun w' _ => hsub w') ?_) | (refine bx ?_; intro bk))) | refine walk ?_)
 refine Zaq [(0, .slice A l.length c), (1, .int .i64 off), (2, .int .i64 t), (9, .bool true)] [] (fun g : WvG => [(8, .int .i64 g.n)]) (fun _ => []) (fun g => (-4611686018427387904 <= g.n /\ g.n <= 4611686018427387904) /\ Zh8 l off t g.k g.n = some o) (fun g => g.k) ⟨4, t - 259200⟩ SFA SOA ⟨by dsimp only; omega, hr⟩ ?_
 clear hr
 rintro ⟨k, n⟩ ⟨hn, hi⟩
 dsimp only at hn hi ⊢
 rcases k with _ | k
 ·cases hi
 rw [Zh8] at hi
 have ha := haf n hn
 have hbd := Zuw h n
 have hev := fun e (he : Zb9 l n = some e) => ZgV he
 cases hq : Zb9 l n with
 | none =>
  rw [hq] at ha hi
  cases hi
  simp only [evV, Zad.enc, dEv0, Option.isSome] at ha
  repeat (first | (refine js ?_; (first | (refine Zac ha ?_) | (refine bx ?_; intro bk))) | refine walk ?_)
  exact rtB
 | some e =>
  rw [hq] at ha hi
  obtain ⟨e1, e2⟩ := hev e hq
  have e3 := Zy4 e1
  have e4 := hbd e hq
  have hin := fun w' (hw : Bel w.heap.size w w') => Znd A c l e off w' (hG.up hw) (hA.up hw) h e3 (by omega) ho
  clear hbd hev
  dsimp only at hi
  obtain ⟨ey, er, en⟩ := e
  simp only [evV, Zad.enc, Option.isSome] at ha hin
  dsimp only at e2 e3 e4
  generalize Zbk l ⟨ey, er, en⟩ off = T at *
  by_cases hT : t < T
  ·rw [if_pos hT] at hi
   cases hi
   have d0 : decide (t < T) = true := decide_eq_true hT
   repeat (first | (apply RL_pu; rfl; exact Zya) | (refine js ?_; (first | (refine Zac ha ?_) | (refine Zac hin ?_) | (refine bx ?_; intro bk))) | refine walk1 ?_)
   exact rtB
  ·rw [if_neg hT] at hi
   have d0 : decide (t < T) = false := decide_eq_false hT
   repeat (first | (apply RL_pu; rfl; exact Zya) | (refine js ?_; (first | (refine Zac ha ?_) | (refine Zac hin ?_) | (refine bx ?_; intro bk))) | refine walk1 ?_)
   exact ⟨⟨k, en⟩, OA, ⟨by dsimp only; omega, hi⟩, SFA, SOA⟩
def stW (e : DEra) (l : List Zaa) (t : Int) : Int × ByteArray := if e.kind = 1 then (e.save, ByteArray.empty) else if e.kind = 2 then atS l e.off t else (0, ByteArray.empty)
theorem Zm3 (e : DEra) (A : Option Addr) (c : Nat) (l : List Zaa) (t : Int) (w : World) (hL : LibW w) (hG : Glob w) (hA : RdSl w A c Zaa.enc 11 l) (hk : 0 <= e.kind /\ e.kind <= 2) (ho : -1000000000 <= e.off /\ e.off <= 1000000000) (hf : e.format.size <= 1000000000) (hR : e.kind = 2 -> RsSm l) (ht : -1000000000000000000 <= t /\ t <= 1000000000000000000)
  (hx : -1000000000 <= (stW e l t).1 /\ (stW e l t).1 <= 1000000000) (hxl : (stW e l t).2.size <= 1000000000) (hab : abE e (stW e l t) = 0) :
  Does Tryz.prog 63 [.agg e.enc.toArray, .slice A l.length c, .int .i64 t] w (fun v O => v = .tuple #[.agg (ZfM e (stW e l t)).enc.toArray, .int .i64 0] /\ O = []) := by
 have hfa := fun w' (hw : Bel w.heap.size w w') => Zfl e.format (stW e l t).2 e.off (stW e l t).1 w' (hL.up hw) hf hxl (by unfold I64; omega) (by unfold I64; omega)
 have hsa := fun w' (hw : Bel w.heap.size w w') (h2 : e.kind = 2) => Zmz A c l e.off t w' (hG.up hw) (hA.up hw) (hR h2) ho ht
 unfold abE at hab
 unfold xpV at hfa
 rw [hab] at hfa
 unfold ZfM
 change ∀ w', Bel w.heap.size w w' -> Does _ _ _ w' (fun v O => v = .tuple #[.string (Zps e (stW e l t).1 (stW e l t).2), .int .i64 0] /\ O = []) at hfa
 clear hab
 obtain ⟨ab, hab⟩ : ∃ ab, Zps e (stW e l t).1 (stW e l t).2 = ab := ⟨_, rfl⟩
 rw [hab] at hfa ⊢
 clear hab
 unfold stW at hx hfa ⊢
 have hc : e.kind = 0 \/ e.kind = 1 \/ e.kind = 2 := by omega
 generalize atS l e.off t = x at *
 obtain ⟨off, kd, esv, sset, fm, ⟨ui, uy, um, ⟨ud1, ud2, ud3⟩, ⟨uc1, uc2⟩⟩⟩ := e
 obtain ⟨xs, xl⟩ := x
 dsimp only at hc hk ho hx hfa hsa ⊢
 unfold stV at hsa
 simp only [Zaf.enc]
 rcases hc with rfl | rfl | rfl
 ·rw [if_neg (by decide), if_neg (by decide)] at hx hfa
  rw [if_neg (by decide), if_neg (by decide)]
  dsimp only at hx hfa ⊢
  show Does _ _ [.agg #[.int .i64 off, .int .i64 0, .int .i64 esv, .string sset, .string fm, .bool ui, .int .i64 uy, .int .i64 um, .int .i64 ud1, .int .i64 ud2, .int .i64 ud3, .int .i64 uc1, .int .i64 uc2], _, _] w _
  refine Zab Tryz.func63 rfl rfl rfl rfl ?_
  repeat (first | (refine js ?_; (first | (refine Zac hfa ?_) | (refine bx ?_; intro bk))) | refine walk ?_)
  exact rtC
 ·rw [if_pos rfl] at hx hfa
  rw [if_pos rfl]
  dsimp only at hx hfa ⊢
  show Does _ _ [.agg #[.int .i64 off, .int .i64 1, .int .i64 esv, .string sset, .string fm, .bool ui, .int .i64 uy, .int .i64 um, .int .i64 ud1, .int .i64 ud2, .int .i64 ud3, .int .i64 uc1, .int .i64 uc2], _, _] w _
  refine Zab Tryz.func63 rfl rfl rfl rfl ?_
  repeat (first | (refine js ?_; (first | (refine Zac hfa ?_) | (refine bx ?_; intro bk))) | refine walk ?_)
  exact rtC
 ·rw [if_neg (by decide), if_pos rfl] at hx hfa
  rw [if_neg (by decide), if_pos rfl]
  dsimp only at hx hfa ⊢
  replace hsa := fun w' hw => hsa w' hw rfl
  show Does _ _ [.agg #[.int .i64 off, .int .i64 2, .int .i64 esv, .string sset, .string fm, .bool ui, .int .i64 uy, .int .i64 um, .int .i64 ud1, .int .i64 ud2, .int .i64 ud3, .int .i64 uc1, .int .i64 uc2], _, _] w _
  refine Zab Tryz.func63 rfl rfl rfl rfl ?_
  repeat (first | (refine js ?_; (first | (refine Zac hfa ?_) | (refine Zac hsa ?_) | (refine bx ?_; intro bk))) | refine walk ?_)
  exact rtC
structure PaL where
 Ae : Option Addr
 ce : Nat
 As : Option Addr
 cs : Nat
 Ar : Option Addr
 cr : Nat
def PaL.cells (p : PaL) (l : List DEra) (r : List ZaI) : List Value := [.slice p.Ae l.length p.ce, .slice p.As r.length p.cs, .slice p.Ar l.length p.cr]
structure Zoj (w : World) (p : PaL) (rs : List Zaa) (l : List DEra) (r : List ZaI) : Prop where
 e : RdSl w p.Ae p.ce DEra.enc 13 l
 s : RdSl w p.As p.cs ZaI.enc 3 r
 u : RdLL w p.Ar p.cr Zaa.enc 11 (l.map (ruEr rs))
theorem Zob {G : Prop} (h : G := by (first | (apply Pu_indexAddr; rfl; rfl; omega; omega; first | exact hna | exact hne) | (apply Pu_loadO1; rfl; exact hcu 0 _ rfl) | (apply Pu_loadO1; rfl; exact hce 0 _ rfl) | (apply ZaN; rfl; rfl; exact d1))) : G := h
theorem ZuK {G : Prop} (h : G := by first | (apply Qy_y; rfl; exact Zob) | exact QyA) : G := h
theorem Zq4 {G : Prop} (h : G := by repeat (first | exact QF.nil | (apply QF.mk; rfl; rfl; decide +kernel; exact ZuK))) : G := h
theorem Zve {G : Prop} (h : G := by (first | (apply Pu_indexAddr; rfl; rfl; omega; omega; first | exact hna | exact hne) | (apply Pu_loadO1; rfl; exact hcu 0 _ rfl) | (apply Pu_loadO1; rfl; exact hce 0 _ rfl) | (apply Zbi; rfl; rfl; exact d0) | (apply ZaN; rfl; rfl; exact d1))) : G := h
theorem ZxA {G : Prop} (h : G := by first | (apply Qy_y; rfl; exact Zve) | exact QyA) : G := h
theorem ZfS {G : Prop} (h : G := by repeat (first | exact QF.nil | (apply QF.mk; rfl; rfl; decide +kernel; exact ZxA))) : G := h
theorem Zp0 {G G' : Prop} (k : G') (h : Hold G' -> G := by intro k9; (first | (apply RL_pu; rfl; exact Zve) | (apply RD_Q; rfl; rfl; decide +kernel; rfl; rfl; exact ZxA) | refine walk1 ?_ | (refine jg ?_; (try intro F); (first | (refine Zac hfi ?_) | (refine Zac hev ?_) | (refine stA ?_)); first | refine ⟨_, EndsA, ZfS, ?_⟩ | refine fin ?_) | (refine jn ?_; (try intro F); (first | (refine stA ?_) | (apply Zae; first | exact Zve | exact PuA)); first | refine ⟨_, EndsA, ZfS, ?_⟩ | refine fin ?_)); exact k9.out) : G := h ⟨k⟩
theorem ZiN (p : PaL) (rs : List Zaa) (l : List DEra) (r : List ZaI) (t : Int) (k : Nat) (x : ZaI) (e : DEra) (o : Option Int) (w : World) (hG : Glob w) (hP : Zoj w p rs l r) (hx : Zey r t = (x, true)) (hk : x.era = (k : Nat)) (he : l[k]? = some e) (hR : RsSm (ruEr rs e)) (ho : -1000000000 <= e.off /\ e.off <= 1000000000) (ht : -1000000000000000000 <= t /\ t <= 1000000000000000000) (hv : evtD (ruEr rs e) e.off t = some o) :
  Does Tryz.prog 33 [.agg (p.cells l r).toArray, .int .i64 t] w (fun v O => v = optV (Zdt x.fin o) /\ O = []) := by
 have hfi := fun w' (hw : Bel w.heap.size w w') => ZfZ p.As p.cs r t w' (hP.s.up hw)
 rw [hx] at hfi
 have hkl : k < l.length := (List.getElem?_eq_some_iff.1 he).1
 obtain ⟨hne, hce⟩ := hP.e.rd k e he
 obtain ⟨hna, B, cb, hB, hcu⟩ := hP.u.rd k (ruEr rs e) (by rw [List.getElem?_map, he]; rfl)
 have hlc := hP.u.le
 rw [List.length_map] at hlc
 have hev := fun w' (hw : Bel w.heap.size w w') => Znw B cb (ruEr rs e) e.off t o w' (hG.up hw) (hB.up hw) hR ho ht hv
 obtain ⟨xs, xf, xe⟩ := x
 dsimp only at hk hfi
 subst hk
 simp only [ZaI.enc] at hfi
 rcases o with _ | u
 ·rcases Int.lt_or_le 36028797018963968 xf with hm | hm
  ·have d1 : decide (36028797018963968 < xf) = true := decide_eq_true hm
   rw [show Zdt xf none = none from by unfold Zdt; rw [show minO xf none = xf from rfl, if_pos hm]]
   dsimp only [optV, Option.getD, Option.isSome] at hev ⊢
   show Does _ _ [.agg #[.slice p.Ae l.length p.ce, .slice p.As r.length p.cs, .slice p.Ar l.length p.cr], _] w _
   refine Zab Tryz.func33 rfl rfl rfl rfl ?_
   repeat (first | (apply RL_pu; rfl; exact Zob) | (apply RD_Q; rfl; rfl; decide +kernel; rfl; rfl; exact ZuK) | refine walk1 ?_ | (refine jg ?_; (try intro F); (first | (refine Zac hfi ?_) | (refine Zac hev ?_) | (refine bx ?_; intro bk) | (refine stA ?_)); first | refine ⟨_, EndsA, Zq4, ?_⟩ | refine fin ?_) | (refine jn ?_; (try intro F); (first | (refine bx ?_; intro bk) | (refine stA ?_) | (apply Zae; first | exact Zob | exact PuA)); first | refine ⟨_, EndsA, Zq4, ?_⟩ | refine fin ?_) | (apply RD_W; rfl; intro bk))
   exact rtB
  ·have d1 : decide (36028797018963968 < xf) = false := decide_eq_false (by omega)
   rw [show Zdt xf none = some xf from by unfold Zdt; rw [show minO xf none = xf from rfl, if_neg (by omega)]]
   dsimp only [optV, Option.getD, Option.isSome] at hev ⊢
   show Does _ _ [.agg #[.slice p.Ae l.length p.ce, .slice p.As r.length p.cs, .slice p.Ar l.length p.cr], _] w _
   refine Zab Tryz.func33 rfl rfl rfl rfl ?_
   repeat (first | (apply RL_pu; rfl; exact Zob) | (apply RD_Q; rfl; rfl; decide +kernel; rfl; rfl; exact ZuK) | refine walk1 ?_ | (refine jg ?_; (try intro F); (first | (refine Zac hfi ?_) | (refine Zac hev ?_) | (refine bx ?_; intro bk) | (refine stA ?_)); first | refine ⟨_, EndsA, Zq4, ?_⟩ | refine fin ?_) | (refine jn ?_; (try intro F); (first | (refine bx ?_; intro bk) | (refine stA ?_) | (apply Zae; first | exact Zob | exact PuA)); first | refine ⟨_, EndsA, Zq4, ?_⟩ | refine fin ?_) | (apply RD_W; rfl; intro bk))
   exact rtB
 ·rcases Int.lt_or_le u xf with hu | hu
  ·have d0 : decide (u < xf) = true := decide_eq_true hu
   rcases Int.lt_or_le 36028797018963968 u with hm | hm
   ·have d1 : decide (36028797018963968 < u) = true := decide_eq_true hm
    rw [show Zdt xf (some u) = none from by unfold Zdt; rw [show minO xf (some u) = u from if_pos hu, if_pos hm]]
    dsimp only [optV, Option.getD, Option.isSome] at hev ⊢
    show Does _ _ [.agg #[.slice p.Ae l.length p.ce, .slice p.As r.length p.cs, .slice p.Ar l.length p.cr], _] w _
    refine Zab Tryz.func33 rfl rfl rfl rfl ?_
    repeat (first | refine Zp0 ?_ | (refine jg ?_; (try intro F); (refine bx ?_; intro bk); first | refine ⟨_, EndsA, ZfS, ?_⟩ | refine fin ?_) | (refine jn ?_; (try intro F); (refine bx ?_; intro bk); first | refine ⟨_, EndsA, ZfS, ?_⟩ | refine fin ?_) | (apply RD_W; rfl; intro bk))
    exact rtB
   ·have d1 : decide (36028797018963968 < u) = false := decide_eq_false (by omega)
    rw [show Zdt xf (some u) = some u from by unfold Zdt; rw [show minO xf (some u) = u from if_pos hu, if_neg (by omega)]]
    dsimp only [optV, Option.getD, Option.isSome] at hev ⊢
    show Does _ _ [.agg #[.slice p.Ae l.length p.ce, .slice p.As r.length p.cs, .slice p.Ar l.length p.cr], _] w _
    refine Zab Tryz.func33 rfl rfl rfl rfl ?_
    repeat (first | refine Zp0 ?_ | (refine jg ?_; (try intro F); (refine bx ?_; intro bk); first | refine ⟨_, EndsA, ZfS, ?_⟩ | refine fin ?_) | (refine jn ?_; (try intro F); (refine bx ?_; intro bk); first | refine ⟨_, EndsA, ZfS, ?_⟩ | refine fin ?_) | (apply RD_W; rfl; intro bk))
    exact rtB
  ·have d0 : decide (u < xf) = false := decide_eq_false (by omega)
   rcases Int.lt_or_le 36028797018963968 xf with hm | hm
   ·have d1 : decide (36028797018963968 < xf) = true := decide_eq_true hm
    rw [show Zdt xf (some u) = none from by unfold Zdt; rw [show minO xf (some u) = xf from if_neg (by omega), if_pos hm]]
    dsimp only [optV, Option.getD, Option.isSome] at hev ⊢
    show Does _ _ [.agg #[.slice p.Ae l.length p.ce, .slice p.As r.length p.cs, .slice p.Ar l.length p.cr], _] w _
    refine Zab Tryz.func33 rfl rfl rfl rfl ?_
    repeat (first | refine Zp0 ?_ | (refine jg ?_; (try intro F); (refine bx ?_; intro bk); first | refine ⟨_, EndsA, ZfS, ?_⟩ | refine fin ?_) | (refine jn ?_; (try intro F); (refine bx ?_; intro bk); first | refine ⟨_, EndsA, ZfS, ?_⟩ | refine fin ?_) | (apply RD_W; rfl; intro bk))
    exact rtB
   ·have d1 : decide (36028797018963968 < xf) = false := decide_eq_false (by omega)
    rw [show Zdt xf (some u) = some xf from by unfold Zdt; rw [show minO xf (some u) = xf from if_neg (by omega), if_neg (by omega)]]
    dsimp only [optV, Option.getD, Option.isSome] at hev ⊢
    show Does _ _ [.agg #[.slice p.Ae l.length p.ce, .slice p.As r.length p.cs, .slice p.Ar l.length p.cr], _] w _
    refine Zab Tryz.func33 rfl rfl rfl rfl ?_
    repeat (first | refine Zp0 ?_ | (refine jg ?_; (try intro F); (refine bx ?_; intro bk); first | refine ⟨_, EndsA, ZfS, ?_⟩ | refine fin ?_) | (refine jn ?_; (try intro F); (refine bx ?_; intro bk); first | refine ⟨_, EndsA, ZfS, ?_⟩ | refine fin ?_) | (apply RD_W; rfl; intro bk))
    exact rtB
theorem Zvd {G : Prop} (h : G := by (first | (apply Pu_indexAddr; rfl; rfl; omega; omega; first | exact hna | exact hne) | (apply Pu_loadO1; rfl; exact hcu 0 _ rfl) | (apply Pu_loadON; rfl; exact hce; rfl))) : G := h
theorem Zxz {G : Prop} (h : G := by first | (apply Qy_y; rfl; exact Zvd) | exact QyA) : G := h
theorem ZxR {G : Prop} (h : G := by repeat (first | exact QF.nil | (apply QF.mk; rfl; rfl; decide +kernel; exact Zxz))) : G := h
theorem Zlw (p : PaL) (rs : List Zaa) (l : List DEra) (r : List ZaI) (t : Int) (k : Nat) (x : ZaI) (e : DEra) (w : World) (hL : LibW w) (hG : Glob w) (hP : Zoj w p rs l r) (hx : Zey r t = (x, true)) (hk : x.era = (k : Nat)) (he : l[k]? = some e) (hlc : LcOk rs e) (ht : -1000000000000000000 <= t /\ t <= 1000000000000000000)
  (hs : -1000000000 <= (ZaZ rs e t).1 /\ (ZaZ rs e t).1 <= 1000000000) (hsl : (ZaZ rs e t).2.size <= 1000000000) (hab : abE e (ZaZ rs e t) = 0) :
  Does Tryz.prog 27 [.agg (p.cells l r).toArray, .int .i64 t] w (fun v O => v = .tuple #[.agg (ZfM e (ZaZ rs e t)).enc.toArray, .int .i64 0] /\ O = []) := by
 have hfi := fun w' (hw : Bel w.heap.size w w') => ZfZ p.As p.cs r t w' (hP.s.up hw)
 rw [hx] at hfi
 have hkl : k < l.length := (List.getElem?_eq_some_iff.1 he).1
 obtain ⟨hne, hce⟩ := hP.e.rd k e he
 obtain ⟨hna, B, cb, hB, hcu⟩ := hP.u.rd k (ruEr rs e) (by rw [List.getElem?_map, he]; rfl)
 have hlc2 := hP.u.le
 rw [List.length_map] at hlc2
 have hst : stW e (ruEr rs e) t = ZaZ rs e t := by
  have hk2 := hlc.k
  unfold stW ZaZ ruEr
  by_cases h0 : e.kind = 0
  ·rw [if_neg (by omega), if_neg (by omega), if_pos h0]
  ·rw [if_neg h0]
   by_cases h1 : e.kind = 1
   ·rw [if_pos h1, if_pos h1]
   ·rw [if_neg h1, if_neg h1, if_pos (show e.kind = 2 by omega), if_pos (show e.kind = 2 by omega)]
 have hlo := fun w' (hw : Bel w.heap.size w w') => Zm3 e B cb (ruEr rs e) t w' (hL.up hw) (hG.up hw) (hB.up hw) hlc.k hlc.o hlc.f (fun h2 => by unfold ruEr; rw [if_pos h2]; exact hlc.r h2) ht (by rw [hst]; exact hs) (by rw [hst]; exact hsl) (by rw [hst]; exact hab)
 rw [hst] at hlo
 clear hst hs hsl hab
 generalize ZfM e (ZaZ rs e t) = L at *
 obtain ⟨xs, xf, xe⟩ := x
 dsimp only at hk hfi
 subst hk
 obtain ⟨l1, l2, l3⟩ := L
 obtain ⟨off, kd, esv, sset, fm, ⟨ui, uy, um, ⟨ud1, ud2, ud3⟩, ⟨uc1, uc2⟩⟩⟩ := e
 simp only [ZaI.enc, Zaf.enc, DEra.enc] at hfi hlo hce ⊢
 show Does _ _ [.agg #[.slice p.Ae l.length p.ce, .slice p.As r.length p.cs, .slice p.Ar l.length p.cr], _] w _
 refine Zab Tryz.func27 rfl rfl rfl rfl ?_
 repeat (first | (apply RL_pu; rfl; exact Zvd) | (apply RD_Q; rfl; rfl; decide +kernel; rfl; rfl; exact Zxz) | refine walk1 ?_ | (refine jg ?_; (try intro F); (first | (refine Zac hfi ?_) | (refine Zac hlo ?_) | (refine bx ?_; intro bk) | (refine stA ?_)); first | refine ⟨_, EndsA, ZxR, ?_⟩ | refine fin ?_) | (refine jn ?_; (try intro F); (first | (refine bx ?_; intro bk) | (refine stA ?_) | (apply Zae; first | exact Zvd | exact PuA)); first | refine ⟨_, EndsA, ZxR, ?_⟩ | refine fin ?_) | (apply RD_W; rfl; intro bk))
 exact rtC
end Go.Proofs.YtpcpmndldgejiaaGreatDoor
