/- Parts of the proof. -/
import Derived.Test.YtpcpmndldgejiaaGreatDoorW24
import Derived.Test.YtpcpmndldgejiaaGreatDoorW05
import Derived.Test.YtpcpmndldgejiaaGreatDoorW22
import Derived.Test.YtpcpmndldgejiaaGreatDoorW25
set_option maxHeartbeats 4000000
set_option linter.unusedVariables false
set_option linter.unusedSimpArgs false
namespace Go.Proofs.YtpcpmndldgejiaaGreatDoor
open Go Go.RowKit Go.Wk
def ixL (x : Zaf) : List Zaf -> Nat -> Option Nat
 | [], _ => none
 | y :: l, i => if y = x then some i else ixL x l (i + 1)
def Zdq (ty : List Zaf) (x : Zaf) : Nat × List Zaf := match ixL x ty 0 with
 | some i => (i, ty)
 | none => (ty.length, ty ++ [x])
def ZjK (rs : List Zaa) (l : List DEra) (to : Int) : Nat -> Int -> Zaf -> List Zaf -> List (Int × Nat) -> Option (List (Int × Nat) × List Zaf)
 | 0, _, _, _, _ => none
 | k + 1, t, now, ty, out => match nxD rs l t with
  | none => some (out, ty)
  | some u => if to < u then some (out, ty)
   else if ZaD rs l u = now then ZjK rs l to k u now ty out
   else ZjK rs l to k u (ZaD rs l u) (Zdq ty (ZaD rs l u)).2 (out ++ [(u, (Zdq ty (ZaD rs l u)).1)])
def allD (rs : List Zaa) (l : List DEra) (a b : Int) : Option (List (Int × Nat) × List Zaf) := ZjK rs l b 50001 a (ZaD rs l a) [ZaD rs l a] []
def chG (rs : List Zaa) (l : List DEra) (to : Int) : Nat -> Int -> Zaf -> Option (List Int)
 | 0, _, _ => none
 | k + 1, t, now => match nxD rs l t with
  | none => some []
  | some u => if to < u then some []
   else if ZaD rs l u = now then chG rs l to k u now
   else (chG rs l to k u (ZaD rs l u)).map fun c => u :: c
def tyF (rs : List Zaa) (l : List DEra) : List Int -> List Zaf -> List (Int × Nat) × List Zaf
 | [], ty => ([], ty)
 | u :: c, ty => ((u, (Zdq ty (ZaD rs l u)).1) :: (tyF rs l c (Zdq ty (ZaD rs l u)).2).1, (tyF rs l c (Zdq ty (ZaD rs l u)).2).2)
theorem ZlX (rs : List Zaa) (l : List DEra) (to : Int) : ∀ (k : Nat) (t : Int) (now : Zaf) (ty : List Zaf) (out : List (Int × Nat)), ZjK rs l to k t now ty out = (chG rs l to k t now).map fun c => (out ++ (tyF rs l c ty).1, (tyF rs l c ty).2)
 | 0, _, _, _, _ => rfl
 | k + 1, t, now, ty, out => by
  rw [ZjK, chG]
  cases nxD rs l t with
  | none => simp [tyF]
  | some u =>
   dsimp only
   by_cases h1 : to < u
   ·rw [if_pos h1, if_pos h1]
    simp [tyF]
   ·rw [if_neg h1, if_neg h1]
    by_cases h2 : ZaD rs l u = now
    ·rw [if_pos h2, if_pos h2, ZlX rs l to k u now ty out]
    ·rw [if_neg h2, if_neg h2, ZlX rs l to k u _ _ _]
     cases chG rs l to k u (ZaD rs l u) with
     | none => rfl
     | some c => simp [tyF]
structure IsCh (rs : List Zaa) (l : List DEra) (a b : Int) (c : List Int) : Prop where
 inc : c.Pairwise (· < ·)
 mem : ∀ u, u ∈ c ↔ a < u /\ u <= b /\ ZaD rs l (u - 1) ≠ ZaD rs l u
theorem ZmD : ∀ (c d : List Int), c.Pairwise (· < ·) -> d.Pairwise (· < ·) -> (∀ u, u ∈ c ↔ u ∈ d) -> c = d
 | [], [], _, _, _ => rfl
 | [], x :: d, _, _, h => absurd ((h x).2 List.mem_cons_self) (by simp)
 | x :: c, [], _, _, h => absurd ((h x).1 List.mem_cons_self) (by simp)
 | x :: c, y :: d, hc, hd, h => by
  obtain ⟨c1, c2⟩ := List.pairwise_cons.1 hc
  obtain ⟨d1, d2⟩ := List.pairwise_cons.1 hd
  have hxy : x = y := by
   rcases List.mem_cons.1 ((h x).1 List.mem_cons_self) with hx | hx
   ·exact hx
   ·rcases List.mem_cons.1 ((h y).2 List.mem_cons_self) with hy | hy
    ·exact hy.symm
    ·have := c1 y hy
     have := d1 x hx
     omega
  subst hxy
  rw [ZmD c d c2 d2 fun u => ?_]
  constructor
  ·intro hu
   rcases List.mem_cons.1 ((h u).1 (List.mem_cons_of_mem _ hu)) with rfl | hh
   ·exact absurd (c1 u hu) (by omega)
   ·exact hh
  ·intro hu
   rcases List.mem_cons.1 ((h u).2 (List.mem_cons_of_mem _ hu)) with rfl | hh
   ·exact absurd (d1 u hu) (by omega)
   ·exact hh
theorem IsCh.uniq {rs : List Zaa} {l : List DEra} {a b : Int} {c d : List Int} (h : IsCh rs l a b c) (g : IsCh rs l a b d) : c = d :=
 ZmD c d h.inc g.inc fun u => (h.mem u).trans (g.mem u).symm
theorem IsCh.app {rs : List Zaa} {l : List DEra} {a m b : Int} {c d : List Int} (h : IsCh rs l a m c) (g : IsCh rs l m b d) (h1 : a <= m) (h2 : m <= b) : IsCh rs l a b (c ++ d) := by
 refine ⟨List.pairwise_append.2 ⟨h.inc, g.inc, fun x hx y hy => ?_⟩, fun u => ?_⟩
 ·have := (h.mem x).1 hx
  have := (g.mem y).1 hy
  omega
 ·rw [List.mem_append, h.mem u, g.mem u]
  constructor
  ·rintro (⟨a1, a2, a3⟩ | ⟨a1, a2, a3⟩)
   ·exact ⟨a1, by omega, a3⟩
   ·exact ⟨by omega, a2, a3⟩
  ·rintro ⟨a1, a2, a3⟩
   by_cases hu : u <= m
   ·exact .inl ⟨a1, hu, a3⟩
   ·exact .inr ⟨by omega, a2, a3⟩
section
variable {rs : List Zaa} {l : List DEra} {Y : Nat -> Int} (h : ZaJ rs l Y)
include h
theorem ZaJ.ch_is {to : Int} (h1 : to <= 3000000000000) : ∀ (k : Nat) (t : Int) (c : List Int), -3000000000000 <= t -> t <= 3000000000000 -> chG rs l to k t (ZaD rs l t) = some c -> IsCh rs l t to c
 | 0, _, _, _, _, hc => by cases hc
 | k + 1, t, c, h0, h3, hc => by
  rw [chG] at hc
  have stay : ∀ s, t <= s -> s <= to -> (∀ u, nxD rs l t = some u -> s < u) -> ZaD rs l s = ZaD rs l t := fun s hs hs2 hu => (h.nx_same (t := t) (s := s) h0 (by omega) hs hu).1
  have empty : (∀ u, nxD rs l t = some u -> to < u) -> IsCh rs l t to [] := fun hu => ⟨List.Pairwise.nil, fun v => ⟨fun hv => (by cases hv), fun ⟨g1, g2, g3⟩ => absurd ((stay (v - 1) (by omega) (by omega) fun u hh => by have := hu u hh; omega).trans (stay v (by omega) g2 fun u hh => by have := hu u hh; omega).symm) g3⟩⟩
  cases hn : nxD rs l t with
  | none =>
   rw [hn] at hc
   cases hc
   exact empty fun u hu => by rw [hn] at hu; cases hu
  | some u =>
   rw [hn] at hc
   dsimp only at hc
   by_cases h4 : to < u
   ·rw [if_pos h4] at hc
    cases hc
    exact empty fun v hv => by rw [hn] at hv; cases hv; exact h4
   rw [if_neg h4] at hc
   have hlt := (h.nx_lt h0 h3 hn).1
   have hst : ∀ s, t <= s -> s < u -> ZaD rs l s = ZaD rs l t := fun s hs hs2 => stay s hs (by omega) fun v hv => by rw [hn] at hv; cases hv; exact hs2
   have hno : ∀ v, t < v -> v < u -> ZaD rs l (v - 1) = ZaD rs l v := fun v a1 a2 => (hst (v - 1) (by omega) (by omega)).trans (hst v (by omega) a2).symm
   have hpr := hst (u - 1) (by omega) (by omega)
   by_cases h5 : ZaD rs l u = ZaD rs l t
   ·rw [if_pos h5, <- h5] at hc
    have ih := ZaJ.ch_is h1 k u c (by omega) (by omega) hc
    refine ⟨ih.inc, fun v => ?_⟩
    rw [ih.mem v]
    constructor
    ·rintro ⟨a1, a2, a3⟩
     exact ⟨by omega, a2, a3⟩
    ·rintro ⟨a1, a2, a3⟩
     refine ⟨?_, a2, a3⟩
     rcases Int.lt_trichotomy v u with hv | hv | hv
     ·exact absurd (hno v a1 hv) a3
     ·subst hv
      exact absurd (hpr.trans h5.symm) a3
     ·exact hv
   ·rw [if_neg h5] at hc
    obtain ⟨d, hd, rfl⟩ := Option.map_eq_some_iff.1 hc
    have ih := ZaJ.ch_is h1 k u d (by omega) (by omega) hd
    refine ⟨List.pairwise_cons.2 ⟨fun v hv => ((ih.mem v).1 hv).1, ih.inc⟩, fun v => ?_⟩
    rw [List.mem_cons, ih.mem v]
    constructor
    ·rintro (rfl | ⟨a1, a2, a3⟩)
     ·exact ⟨hlt, by omega, fun hh => h5 (hh.symm.trans hpr)⟩
     ·exact ⟨by omega, a2, a3⟩
    ·rintro ⟨a1, a2, a3⟩
     rcases Int.lt_trichotomy v u with hv | hv | hv
     ·exact absurd (hno v a1 hv) a3
     ·exact .inl hv
     ·exact .inr ⟨hv, a2, a3⟩
def Zyx (rs : List Zaa) (l : List DEra) (t : Int) : Prop := (eAt rs l t).kind = 2 /\ ∃ f, EvOf (ofB rs (eAt rs l t).set) f /\ Zbk (ofB rs (eAt rs l t).set) f (eAt rs l t).off = t
theorem ZaJ.ch_fuel {to : Int} (h1 : to <= 3000000000000) : ∀ (k : Nat) (t : Int) (now : Zaf) (m : Nat), -3000000000000 <= t -> t <= 3000000000000 -> (m = 0 -> Zyx rs l t) -> max (to - t) 0 / 2480400 + 3 * (4 - (Za9 rs l t : Int)) + m < k -> ∃ c, chG rs l to k t now = some c
 | 0, t, now, m, h0, h3, hm, hk => by
  obtain ⟨_, x, _, a2, _, _, _, _, _, a8, _⟩ := h.at (t := t) (by omega) (by omega)
  have := (List.getElem?_eq_some_iff.1 a8).1
  have := h.len.2
  omega
 | k + 1, t, now, m, h0, h3, hm, hk => by
  obtain ⟨r, x, a1, a2, a3, a4, a5, a6, a7, a8, a9⟩ := h.at (t := t) (by omega) (by omega)
  have hl := (List.getElem?_eq_some_iff.1 a8).1
  have hl4 := h.len.2
  have hnx := h.nx (t := t) h0 h3
  rw [chG]
  cases hn : nxD rs l t with
  | none => exact ⟨_, rfl⟩
  | some u =>
   dsimp only
   by_cases h4 : to < u
   ·exact ⟨_, by rw [if_pos h4]⟩
   rw [if_neg h4]
   rw [hn] at hnx
   obtain ⟨⟨n1, n2⟩, n3, n4⟩ := hnx
   have hff := n4 _ (h.fin_brk (t := t) (by omega) (by omega))
   have key : ∀ now', ∃ c, chG rs l to k u now' = some c := fun now' => by
    by_cases hf : u = Ze4 rs l t
    ·clear n2
     refine ZaJ.ch_fuel h1 k u now' 1 (by omega) (by omega) (fun hh => by cases hh) ?_
     have hmn : Za9 rs l t <= Za9 rs l u /\ Za9 rs l u < l.length := Zhr a1 (fun hh => by rw [hh] at hl; simp at hl) (by omega) (by omega) (by omega)
     have hne : Za9 rs l u ≠ Za9 rs l t := fun hh => by
      obtain ⟨r', y, b1, b2, b3, b4, b5, _⟩ := h.at (t := u) (by omega) (by omega)
      rw [a1] at b1
      cases b1
      rw [hh, a2] at b2
      cases b2
      omega
     omega
    ·obtain ⟨c1, c2, c3⟩ := h.same (t := t) (s := u) (by omega) (by omega) (by omega) (by omega)
     rcases n2 with n2 | ⟨n5, f, n6, n7⟩
     ·exact absurd n2 hf
     refine ZaJ.ch_fuel h1 k u now' 0 (by omega) (by omega) (fun _ => by unfold Zyx; rw [c3]; exact ⟨n5, f, n6, n7⟩) ?_
     rw [c1]
     by_cases hm0 : m = 0
     ·obtain ⟨_, g, g1, g2⟩ := hm hm0
      obtain ⟨_, ho, hS, _⟩ := a9.set2 n5
      have near := hS.inst_near ho
      have nf := near f
      have ng := near g
      have hgp := hS.gap n6 g1 (fun hh => by rw [hh] at n7; omega)
      omega
     ·omega
   by_cases h5 : ZaD rs l u = now
   ·rw [if_pos h5]
    exact key _
   ·rw [if_neg h5]
    obtain ⟨c, hc⟩ := key (ZaD rs l u)
    exact ⟨_, by rw [hc]; rfl⟩
theorem ZaJ.all {a b : Int} (h0 : -3000000000000 <= a) (h1 : a <= 3000000000000) (h2 : b <= 3000000000000) (h3 : b - a <= 100000000000) : ∃ c, IsCh rs l a b c /\ allD rs l a b = some (tyF rs l c [ZaD rs l a]) := by
 obtain ⟨c, hc⟩ := h.ch_fuel h2 50001 a (ZaD rs l a) 1 h0 h1 (fun hh => by cases hh) (by omega)
 refine ⟨c, h.ch_is h2 _ _ _ h0 h1 hc, ?_⟩
 unfold allD
 rw [ZlX, hc]
 simp
end
theorem ZiW {rs : List Zaa} {l : List DEra} : ∀ (n : Nat) (x : Int), (∀ v, x < v -> v <= x + n -> ZaD rs l (v - 1) = ZaD rs l v) -> ZaD rs l (x + n) = ZaD rs l x
 | 0, x, _ => by rw [show x + ((0 : Nat) : Int) = x by omega]
 | n + 1, x, h => by
  have h1 := h (x + ((n + 1 : Nat) : Int)) (by omega) (Int.le_refl _)
  rw [show x + ((n + 1 : Nat) : Int) - 1 = x + n by omega] at h1
  rw [<- h1]
  exact ZiW n x fun v a1 a2 => h v a1 (by omega)
theorem IsCh.head {rs : List Zaa} {l : List DEra} {a b u : Int} {c : List Int} (h : IsCh rs l a b (u :: c)) : a < u /\ u <= b /\ ZaD rs l (u - 1) = ZaD rs l a /\ ZaD rs l u ≠ ZaD rs l a /\ IsCh rs l u b c := by
 obtain ⟨i1, i2⟩ := List.pairwise_cons.1 h.inc
 obtain ⟨m1, m2, m3⟩ := (h.mem u).1 List.mem_cons_self
 have hp : ZaD rs l (u - 1) = ZaD rs l a := by
  have := ZiW (rs := rs) (l := l) (u - 1 - a).toNat a fun v a1 a2 => by
   by_cases hv : ZaD rs l (v - 1) = ZaD rs l v
   ·exact hv
   ·rcases List.mem_cons.1 ((h.mem v).2 ⟨a1, by omega, hv⟩) with rfl | hm
    ·omega
    ·have := i1 v hm
     omega
  rwa [show a + ((u - 1 - a).toNat : Int) = u - 1 by omega] at this
 refine ⟨m1, m2, hp, fun hh => m3 (hp.trans hh.symm), i2, fun v => ?_⟩
 constructor
 ·intro hv
  have := (h.mem v).1 (List.mem_cons_of_mem _ hv)
  exact ⟨i1 v hv, this.2⟩
 ·rintro ⟨a1, a2, a3⟩
  rcases List.mem_cons.1 ((h.mem v).2 ⟨by omega, a2, a3⟩) with rfl | hm
  ·omega
  ·exact hm
theorem IsCh.nil {rs : List Zaa} {l : List DEra} {a b : Int} (h : IsCh rs l a b []) (hab : a <= b) : ZaD rs l b = ZaD rs l a := by
 have := ZiW (rs := rs) (l := l) (b - a).toNat a fun v a1 a2 => by
  by_cases hv : ZaD rs l (v - 1) = ZaD rs l v
  ·exact hv
  ·have := (h.mem v).2 ⟨a1, by omega, hv⟩
   cases this
 rwa [show a + ((b - a).toNat : Int) = b by omega] at this
theorem Zqw {x : Zaf} : ∀ (l : List Zaf) (i j : Nat), ixL x l i = some j -> i <= j /\ l[j - i]? = some x
 | [], _, _, h => by cases h
 | y :: l, i, j, h => by
  rw [ixL] at h
  by_cases hy : y = x
  ·rw [if_pos hy] at h
   cases h
   subst hy
   exact ⟨Nat.le_refl _, by simp⟩
  ·rw [if_neg hy] at h
   obtain ⟨h1, h2⟩ := Zqw l (i + 1) j h
   refine ⟨by omega, ?_⟩
   rw [show j - i = j - (i + 1) + 1 by omega, List.getElem?_cons_succ]
   exact h2
theorem ZlG {x : Zaf} : ∀ (l : List Zaf) (i : Nat), ixL x l i = none -> x ∉ l
 | [], _, _ => by simp
 | y :: l, i, h => by
  rw [ixL] at h
  by_cases hy : y = x
  ·rw [if_pos hy] at h; cases h
  ·rw [if_neg hy] at h
   have := ZlG l (i + 1) h
   intro hm
   rcases List.mem_cons.1 hm with rfl | hm
   ·exact hy rfl
   ·exact this hm
theorem Zk2 (ty : List Zaf) (x : Zaf) (hn : ty.Nodup) : (Zdq ty x).2.Nodup /\ (Zdq ty x).2[(Zdq ty x).1]? = some x /\ (((Zdq ty x).1 < ty.length /\ (Zdq ty x).2 = ty) \/ ((Zdq ty x).1 = ty.length /\ (Zdq ty x).2 = ty ++ [x])) := by
 unfold Zdq
 cases h : ixL x ty 0 with
 | some i =>
  obtain ⟨_, h2⟩ := Zqw ty 0 i h
  rw [Nat.sub_zero] at h2
  exact ⟨hn, h2, .inl ⟨(List.getElem?_eq_some_iff.1 h2).1, rfl⟩⟩
 | none =>
  have h2 := ZlG ty 0 h
  refine ⟨List.nodup_append.2 ⟨hn, by simp, fun a ha b hb => ?_⟩, by simp, .inr ⟨rfl, rfl⟩⟩
  rw [List.mem_singleton.1 hb]
  rintro rfl
  exact h2 ha
theorem ZfY (rs : List Zaa) (l : List DEra) : ∀ (c : List Int) (ty : List Zaf), (tyF rs l c ty).1.length = c.length
 | [], _ => rfl
 | u :: c, ty => by rw [tyF, List.length_cons, ZfY rs l c]; rfl
theorem Zdy (rs : List Zaa) (l : List DEra) : ∀ (c : List Int) (ty : List Zaf), ty.Nodup -> (tyF rs l c ty).2.Nodup /\ (∃ more, (tyF rs l c ty).2 = ty ++ more) /\ ∀ (i : Nat) (u : Int), c[i]? = some u -> ∃ j, (tyF rs l c ty).1[i]? = some (u, j) /\ (tyF rs l c ty).2[j]? = some (ZaD rs l u)
 | [], ty, hn => ⟨hn, ⟨[], by simp [tyF]⟩, fun i u h => by simp at h⟩
 | u :: c, ty, hn => by
  obtain ⟨a1, a2, a3⟩ := Zk2 ty (ZaD rs l u) hn
  obtain ⟨b1, ⟨more, b2⟩, b3⟩ := Zdy rs l c _ a1
  rw [tyF]
  refine ⟨b1, ?_, fun i v hv => ?_⟩
  ·rcases a3 with ⟨_, a3⟩ | ⟨_, a3⟩
   ·exact ⟨more, by dsimp only; rw [b2, a3]⟩
   ·exact ⟨[ZaD rs l u] ++ more, by dsimp only; rw [b2, a3, List.append_assoc]⟩
  ·rcases i with _ | i
   ·simp only [List.getElem?_cons_zero, Option.some.injEq] at hv
    subst hv
    refine ⟨(Zdq ty (ZaD rs l u)).1, rfl, ?_⟩
    dsimp only
    rw [b2, List.getElem?_append_left (List.getElem?_eq_some_iff.1 a2).1]
    exact a2
   ·simp only [List.getElem?_cons_succ] at hv ⊢
    exact b3 i v hv
end Go.Proofs.YtpcpmndldgejiaaGreatDoor
namespace Go.Wk
open Go Go.RowKit
theorem Zmb {P : Program} {n : Nat} {wr : World} {fr : Fr} {O : List It} {ty t t' : TypeId} {α : Type} [DecidableEq α] {enc : α -> List Value} {x y : Operand} {i j : α} {b : Bool} [hE : EqE P t α enc] (hx : ev fr x = some (.agg (enc i).toArray)) (hy : ev fr y = some (.agg (enc j).toArray)) (h : decide (i = j) = b) :
  Pu P n wr fr O (.binOp .eql t x y t') ty (.bool b) := h ▸ Pu_eqlE hx hy
theorem Zhz {P : Program} {n : Nat} {wr : World} {fr : Fr} {O : List It} {ty t t' : TypeId} {α : Type} [DecidableEq α] {enc : α -> List Value} {x y : Operand} {i j : α} {b : Bool} [hE : EqE P t α enc] (hx : ev fr x = some (.agg (enc i).toArray)) (hy : ev fr y = some (.agg (enc j).toArray)) (h : (!decide (i = j)) = b) :
  Pu P n wr fr O (.binOp .neq t x y t') ty (.bool b) := h ▸ Pu_neqE hx hy
end Go.Wk
namespace Go.Proofs.YtpcpmndldgejiaaGreatDoor
open Go Go.RowKit Go.Wk
instance : EqE Tryz.prog 47 Zaf Zaf.enc where
 h r s w := by
  unfold Zaf.enc
  simp [go_sem, Zha]
  rcases r with ⟨_, _, _⟩
  rcases s with ⟨_, _, _⟩
  simp only [Zqk, Result.ok.injEq, and_true]
  rw [Bool.eq_iff_iff]
  simp [and_assoc]
 g := by kernel_rfl
attribute [local irreducible] W RL Does Zay Zam retQ Calls Pu Stp RD Qy Ay Zan RLI WI
def lkV (x : Zaf) : Value := .agg x.enc.toArray
theorem Zm5 (k : Zaf) (w : World) : ∀ (l : List (Zaf × Int)) (i j : Nat), (Instr.findAsking 47 (lkV k) (cent lkV j l) i).run Tryz.prog w = .ok (Zj9 k l i) w
 | [], _, _ => rfl
 | x :: l, i, j => by
  have h := EqE.h (P := Tryz.prog) (t := 47) (enc := Zaf.enc) k x.1 w
  rw [cent, Instr.findAsking, Zj9]
  simp only [lkV, Op.equal, Op.maxDepth] at h ⊢
  simp only [Sem.run_bind, h, Result.andThen_ok]
  by_cases hk : k = x.1
  ·rw [decide_eq_true hk, if_pos hk]; rfl
  ·rw [decide_eq_false hk, if_neg hk]
   have ih := Zm5 k w l (i + 1) (j + 1)
   simp only [lkV] at ih
   simpa using ih
theorem Ztv (b : Bool) (k : Zaf) (d : Nat) (w : World) : (Instr.checkKey b (d + 1 + 1) 47 (.agg k.enc.toArray)).run Tryz.prog w = .ok () w := by
 simp [Instr.checkKey, go_sem, Zaf.enc]
instance : KeyT Tryz.prog 47 Zaf lkV where
 ask k l w := by
  cases l with
  | nil => simp [Instr.findKey, go_sem, cent, Instr.findNow, Zj9]
  | cons x l =>
   have h := Zm5 k w (x :: l) 0 0
   simp only [cent] at h ⊢
   simp [Instr.findKey, go_sem, Instr.findNow, Instr.sameNow, lkV]
   exact h
 chk b k w := Ztv b k 9998 w
 stay k w := by simp [Instr.keyThatStays, Instr.sameBits, lkV, Zaf.enc, ZgS]
def Zbs (x : Int × Nat) : List Value := [.int .i64 x.1, .int .i64 x.2]
def tyGo : List Zaf -> Nat -> List (Zaf × Int)
 | [], _ => []
 | x :: l, i => (x, (i : Int)) :: tyGo l (i + 1)
def tyM (ty : List Zaf) : List (Zaf × Int) := tyGo ty 0
theorem Zit : ∀ (l : List Zaf) (i : Nat), (tyGo l i).map (·.1) = l
 | [], _ => rfl
 | x :: l, i => by rw [tyGo, List.map_cons, Zit l (i + 1)]
theorem Zp3 : ∀ (l m : List Zaf) (i : Nat), tyGo (l ++ m) i = tyGo l i ++ tyGo m (i + l.length)
 | [], _, _ => rfl
 | x :: l, m, i => by rw [List.cons_append, tyGo, tyGo, Zp3 l m (i + 1), List.cons_append, List.length_cons, show i + 1 + l.length = i + (l.length + 1) by omega]
theorem Zp2 (x : Zaf) : ∀ (l : List Zaf) (i : Nat), cget x (tyGo l i) = match ixL x l i with | some j => (j : Int) | none => 0
 | [], _ => rfl
 | y :: l, i => by
  rw [tyGo, cget, ixL]
  by_cases h : y = x
  ·rw [if_pos h, if_pos h.symm]
  ·rw [if_neg h, if_neg (fun hh => h hh.symm), Zp2 x l (i + 1)]
theorem ZtK {x : Zaf} : ∀ (l : List Zaf) (i : Nat), (ixL x l i).isSome = decide (x ∈ l)
 | [], _ => rfl
 | y :: l, i => by
  rw [ixL]
  by_cases h : y = x
  ·rw [if_pos h, h]; simp
  ·rw [if_neg h, ZtK l (i + 1)]
   have : x ≠ y := fun hh => h hh.symm
   simp [this]
theorem ZzM (x : Zaf) (ty : List Zaf) : decide (x ∈ (tyM ty).map (·.1)) = (ixL x ty 0).isSome := by rw [tyM, Zit, ZtK]
theorem ZyE (x : Zaf) (ty : List Zaf) : tyM ty ++ [(x, (ty.length : Int))] = tyM (ty ++ [x]) := by rw [tyM, tyM, Zp3, Nat.zero_add]; rfl
theorem ZyD {x : Zaf} {ty : List Zaf} (h : ixL x ty 0 = none) : x ∉ (tyM ty).map (·.1) := by rw [tyM, Zit]; exact ZlG ty 0 h
def LcAt (rs : List Zaa) (E : List DEra) (r : List ZaI) (t : Int) : Prop := ∃ (k : Nat) (x : ZaI) (e : DEra), Zey r t = (x, true) /\ x.era = (k : Nat) /\ E[k]? = some e /\ LcOk rs e /\ (-1000000000000000000 <= t /\ t <= 1000000000000000000) /\
 (-1000000000 <= (ZaZ rs e t).1 /\ (ZaZ rs e t).1 <= 1000000000) /\ (ZaZ rs e t).2.size <= 1000000000 /\ abE e (ZaZ rs e t) = 0 /\ ZaD rs E t = ZfM e (ZaZ rs e t)
theorem ZoE (p : PaL) (rs : List Zaa) (E : List DEra) (r : List ZaI) (t : Int) (w : World) (hL : LibW w) (hG : Glob w) (hP : Zoj w p rs E r) (h : LcAt rs E r t) :
  Does Tryz.prog 27 [.agg (p.cells E r).toArray, .int .i64 t] w (fun v O => v = .tuple #[.agg (ZaD rs E t).enc.toArray, .int .i64 0] /\ O = []) := by
 obtain ⟨k, x, e, h1, h2, h3, h4, h5, h6, h7, h8, h9⟩ := h
 rw [h9]
 exact Zlw p rs E r t k x e w hL hG hP h1 h2 h3 h4 h5 h6 h7 h8
def alN (e : Int) (v : Value) (O : List It) : Prop := v = .tuple #[.slice none 0 0, .slice none 0 0, .int .i64 e] /\ O = []
theorem ZnT (Ar Az Al As : Option Addr) (cr cz cl cs : Nat) (s : Zai) (name : ByteArray) (a b : Int) (w : World) (ht : (tOk a && tOk b) = false) :
  Does Tryz.prog 10 [srcV Ar Az Al As cr cz cl cs s, .string name, .int .i64 a, .int .i64 b] w (alN 3) := by
 refine Zab Tryz.func10 rfl rfl rfl rfl ?_
 repeat (first | refine walk ?_ | (refine jg ?_; (try intro F); (first | (refine Zac (fun w' _ => Za8 a w') ?_) | (refine bx ?_; intro bk) | (refine stA ?_)); refine fin ?_) | (refine jn ?_; (try intro F); (first | (refine bx ?_; intro bk) | (refine stA ?_) | (apply Zae; exact PuA)); refine fin ?_) | (apply RD_W; rfl; intro bk))
 cases ha : tOk a with
 | false =>
  repeat (first | refine walk ?_ | (refine jn ?_; (try intro F); (first | (refine bx ?_; intro bk) | (refine stA ?_) | (apply Zae; exact PuA)); refine fin ?_) | (apply RD_W; rfl; intro bk))
  exact ZfD _ _ _ [] (.cell1 rfl (by repeat' constructor)) (.cell1 rfl (by repeat' constructor)) (.cell1 rfl (by repeat' constructor)) .nil ⟨rfl, rfl⟩
 | true =>
  rw [ha, Bool.true_and] at ht
  repeat (first | refine walk ?_ | (refine jg ?_; (try intro F); (first | (refine Zac (fun w' _ => Za8 b w') ?_) | (refine bx ?_; intro bk) | (refine stA ?_)); refine fin ?_) | (refine jn ?_; (try intro F); (first | (refine bx ?_; intro bk) | (refine stA ?_) | (apply Zae; exact PuA)); refine fin ?_) | (apply RD_W; rfl; intro bk))
  rw [ht]
  repeat (first | refine walk ?_ | (refine jn ?_; (try intro F); (first | (refine bx ?_; intro bk) | (refine stA ?_) | (apply Zae; exact PuA)); refine fin ?_) | (apply RD_W; rfl; intro bk))
  exact ZfD _ _ _ [] (.cell1 rfl (by repeat' constructor)) (.cell1 rfl (by repeat' constructor)) (.cell1 rfl (by repeat' constructor)) .nil ⟨rfl, rfl⟩
theorem Zx7 {G : Prop} (h : G := by (apply ZaE; rfl; rfl; exact e3)) : G := h
theorem ZqU (Ar Az Al As : Option Addr) (cr cz cl cs : Nat) (s : Zai) (name : ByteArray) (a b : Int) (w : World) (h : ZcO w Ar Az Al As cr cz cl cs s) (hn : s.zones.length + s.links.length <= 1000000) (ht : tOk a = true) (ht2 : tOk b = true) (he : (ZbI s name).2 ≠ 0) :
  Does Tryz.prog 10 [srcV Ar Az Al As cr cz cl cs s, .string name, .int .i64 a, .int .i64 b] w (alN (ZbI s name).2) := by
 have hfe := fun w' (hw : Bel w.heap.size w w') => ZkN Ar Az Al As cr cz cl cs s name w' (h.up hw) hn he
 have e3 : (!decide ((ZbI s name).2 = 0)) = true := by rw [decide_eq_false he]; rfl
 generalize (ZbI s name).2 = e at *
 refine Zab Tryz.func10 rfl rfl rfl rfl ?_
 repeat (first | refine walk ?_ | (refine jg ?_; (try intro F); (first | (refine Zac (fun w' _ => Za8 a w') ?_) | (refine bx ?_; intro bk) | (refine stA ?_)); refine fin ?_) | (refine jn ?_; (try intro F); (first | (refine bx ?_; intro bk) | (refine stA ?_) | (apply Zae; exact PuA)); refine fin ?_) | (apply RD_W; rfl; intro bk))
 rw [ht]
 repeat (first | refine walk ?_ | (refine jg ?_; (try intro F); (first | (refine Zac (fun w' _ => Za8 b w') ?_) | (refine bx ?_; intro bk) | (refine stA ?_)); refine fin ?_) | (refine jn ?_; (try intro F); (first | (refine bx ?_; intro bk) | (refine stA ?_) | (apply Zae; exact PuA)); refine fin ?_) | (apply RD_W; rfl; intro bk))
 rw [ht2]
 repeat (first | (apply RL_pu; rfl; exact Zx7) | (apply RD_Q; rfl; rfl; decide +kernel; rfl; rfl; exact QyWaF0) | refine walk1 ?_ | (refine jg ?_; (try intro F); (first | (refine Zac hfe ?_) | (refine bx ?_; intro bk) | (refine stA ?_)); first | refine ⟨_, EndsA, QFWaF0, ?_⟩ | refine fin ?_) | (refine jn ?_; (try intro F); (first | (refine bx ?_; intro bk) | (refine stA ?_) | (apply Zae; first | exact Zx7 | exact PuA)); first | refine ⟨_, EndsA, QFWaF0, ?_⟩ | refine fin ?_) | (apply RD_W; rfl; intro bk))
 exact ZfD _ _ _ [] (.cell1 rfl (by repeat' constructor)) (.cell1 rfl (by repeat' constructor)) (.cell1 rfl (by repeat' constructor)) .nil ⟨rfl, rfl⟩
end Go.Proofs.YtpcpmndldgejiaaGreatDoor
namespace Go.Wk
open Go Go.RowKit
section
variable {P : Program} {n : Nat} {wr : World} {ops : Array Oper} {todo todo' : List (Nat × Oper)} {V : List Qp} {Al : List Ap} {K : Fr -> List It -> Prop} {fr : Fr} {O : List It}
theorem ZoQ {i : Nat} {o : Oper} {V' : List Qp} (hp : todo.Perm ((i, o) :: todo')) (hsel : Zhg o.op = true) (hg : ∀ a, Sim n fr a -> Region.wanted o (yielded ops a.tmps) = true) (hdst : Zjr o.dst n Al = true) (hV' : V'.Sublist V) (hV'' : ∀ X : List Qp, X.Sublist V -> (∀ x ∈ X, gone ops i x = false) -> X.Sublist V')
  (hstep : ∀ F, Stp P n wr fr (O ++ F) o fun v O' => ∃ O'', Ends O' F O'' /\ QF P n wr ops (updF fr o.dst v) O'' V' /\ AF P n wr ops (updF fr o.dst v) Al /\ RD P n wr ops todo' V' Al K (updF fr o.dst v) O'')
  (hR : Rg P n wr ops todo V Al fr O) (m : Nat) (F : List It) (X : List Qp) (Y : List (Ap × Nat)) (N : List Ap) (a : Act) (w : World) (hX : X.Sublist V) (hA : Al.Perm (Y.map (·.1) ++ N)) (hst : St n wr (ZaV Y ++ fr) (O ++ (ZcP Y ++ F)) (putX a X) w) (hm : todo.length + X.length + N.length <= m + 1) (hcl : ZfU ops (Tof todo X N)) (hr : ∃ o, ops[i]? = some o /\ ∀ e ∈ o.after, Region.binds .any e = true -> ¬ Tof todo X N e.on) :
  wpOp P ops (Zf3 n wr F K) i (AnyT P ops (Zf3 n wr F K) m (fun j => Tof todo X N j /\ j ≠ i)) a w := by
 have hpm : (i, o) ∈ todo := hp.mem_iff.2 List.mem_cons_self
 have hok := hR.ok _ hpm
 simp only at hok
 have hsl : ∀ p ∈ ZaV Y, look fr p.1 = none := fun p hp => by
  obtain ⟨y, hy, rfl⟩ := List.mem_map.1 hp
  obtain ⟨_, _, _, _, _, _, h, _⟩ := hR.af.mem y.1 (hA.mem_iff.2 (List.mem_append_left _ (List.mem_map.2 ⟨y, hy, rfl⟩)))
  exact h
 have hlooks : ∀ y ∈ X, y.d ∉ o.looksAt ops := fun y hy => by
  obtain ⟨oy, _, _, h3, _⟩ := hR.qf.mem y (hX.subset hy)
  exact Zga h3 hok (Zbq hr (.inr (.inl ⟨y, hy, rfl⟩)))
 have hXi : ∀ y ∈ X, i ≠ y.i := fun y hy => (List.nodup_append.1 hR.idx).2.2 _ (List.mem_map.2 ⟨_, hpm, rfl⟩) _ (List.mem_append_left _ (List.mem_map.2 ⟨y, hX.subset hy, rfl⟩))
 have hXd : ∀ y ∈ X, o.dst ≠ some y.d := fun y hy => by
  obtain ⟨oy, _, _, h3, _⟩ := hR.qf.mem y (hX.subset hy)
  exact ZkH h3 hok (hXi y hy) (Zbq hr (.inr (.inl ⟨y, hy, rfl⟩)))
 have hXV : X.Sublist V' := hV'' X hX fun y hy => by
  have hTy : Tof todo X N y.i := .inr (.inl ⟨y, hy, rfl⟩)
  have h1 := Zbq hr hTy
  have h2 : ZiH ops y.i i = false := by
   cases hh : ZiH ops y.i i with
   | false => rfl
   | true => exact absurd ⟨hTy, fun e => hXi y hy e.symm⟩ (ZiG (hcl.step hr) hh fun h => h.2 rfl)
  rw [gone, h1, h2]
  rfl
 have hsim : Sim n fr (putX a X) := hst.sim.lsub (Zdh hsl fun _ _ h => h)
 have hex := Ze5 (ops := ops) (ZdZ hsel) X a hlooks
 have hwant := hg _ hsim
 rw [hex.2] at hwant
 have hidx := (hp.map (·.1)).append_right (V.map (·.i) ++ Al.map (·.i)) |>.nodup_iff.1 hR.idx
 rw [List.map_cons, List.cons_append, List.nodup_cons] at hidx
 have hT : (fun j => Tof todo X N j /\ j ≠ i) = Tof todo' X N := by
  funext j
  apply propext
  constructor
  ·rintro ⟨⟨q, hq, rfl⟩ | h | h, hne⟩
   ·rcases List.mem_cons.1 (hp.mem_iff.1 hq) with rfl | hq
    ·exact absurd rfl hne
    ·exact .inl ⟨q, hq, rfl⟩
   ·exact .inr (.inl h)
   ·exact .inr (.inr h)
  ·rintro (⟨q, hq, rfl⟩ | ⟨x, hx, rfl⟩ | ⟨k, hk, rfl⟩)
   ·exact ⟨.inl ⟨q, hp.mem_iff.2 (List.mem_cons_of_mem _ hq), rfl⟩, fun e => hidx.1 (List.mem_append_left _ (List.mem_map.2 ⟨q, hq, e⟩))⟩
   ·exact ⟨.inr (.inl ⟨x, hx, rfl⟩), fun e => hXi x hx e.symm⟩
   ·have hkA : k ∈ Al := hA.mem_iff.2 (List.mem_append_right _ hk)
    exact ⟨.inr (.inr ⟨k, hk, rfl⟩), fun e => hidx.1 (List.mem_append_right _ (List.mem_append_right _ (List.mem_map.2 ⟨k, hkA, e⟩)))⟩
 unfold Go.wpOp
 simp only [hok, hwant, if_true]
 refine .inl ?_
 rw [hT]
 have hsize : ∀ d, o.dst = some d -> d < (putX a X).tmps.size := fun d hd => by
  rw [hd] at hdst
  simp only [Zjr, Bool.and_eq_true] at hdst
  rw [hst.sim.size]
  exact Nat.le_of_ble_eq_true hdst.1
 refine Zir (Kn := fun b w' => (∃ v, b = (putX a X).put o.dst v) /\ ∀ v, b = (putX a X).put o.dst v -> AnyT P ops (Zf3 n wr F K) m (Tof todo' X N) (a.put o.dst v) w') hex.1 (fun v w' h => h.2 v rfl) ?_ ?_
 ·rintro d w' ⟨⟨v, h⟩, _⟩
  have := congrArg (fun x : Act => x.defers.length) h
  simp [Zko] at this
 ·refine hstep (ZcP Y ++ F) _ w ⟨hsim, hst.old, hst.own⟩ _ _ ?_
  rintro v O' w' hB hH ⟨O'', hE, hQF, hAF, hRD⟩
  refine ⟨⟨v, rfl⟩, fun u hu => ?_⟩
  rw [<- Zs8 hsize hu a]
  rw [hE.eq] at hH
  refine hRD ⟨?_, ?_, hQF, hAF, fun q hq => hR.ok q (hp.mem_iff.2 (List.mem_cons_of_mem _ hq))⟩ m F X Y N _ w' hXV hA ⟨?_, hB, hH⟩ ?_ (hT ▸ hcl.step hr)
  ·refine hidx.2.sublist ?_
   exact (List.Sublist.refl _).append ((hV'.map _).append (List.Sublist.refl _))
  ·exact hR.dst.sublist ((hV'.map _).append (List.Sublist.refl _))
  ·rw [Zgy X a _ _ hXd]
   cases hd : o.dst with
   | none => exact hst.sim
   | some d =>
    rw [hd] at hdst
    simp only [Zjr, Bool.and_eq_true, List.all_eq_true, Bool.not_eq_true'] at hdst
    refine (hst.sim.put hdst.1 v).lsub (Zef fun q hq => ?_)
    obtain ⟨y, hy, rfl⟩ := List.mem_map.1 hq
    exact Nat.ne_of_beq_eq_false (hdst.2 y.1 (hA.mem_iff.2 (List.mem_append_left _ (List.mem_map.2 ⟨y, hy, rfl⟩))))
  ·have := hp.length_eq
   simp only [List.length_cons] at this
   omega
theorem ZlY {o : Oper} (hal : alOk n fr o.dst Al = true) : Zjr o.dst n Al = true := by
 unfold alOk at hal
 cases hd : o.dst with
 | none => rfl
 | some d =>
  rw [hd] at hal
  simp only [Bool.and_eq_true] at hal
  simp only [Zjr, Bool.and_eq_true]
  exact hal.1
theorem Zpp {o : Oper} {v : Value} (hal : alOk n fr o.dst Al = true) (haf : AF P n wr ops fr Al) : AF P n wr ops (updF fr o.dst v) Al := by
 cases hd : o.dst with
 | none => exact haf
 | some d =>
  unfold alOk at hal
  rw [hd] at hal
  simp only [Bool.and_eq_true, Bool.or_eq_true, List.all_eq_true, Bool.not_eq_true'] at hal
  rcases hal.2 with he | hl
  ·have : Al = [] := by simpa using he
   subst this
   exact trivial
  ·have hl' : look fr d = none := by simpa using hl
   refine AF.mono (LSub.cons hl') (fun k hk => ?_) haf
   obtain ⟨_, _, _, _, _, _, h, _⟩ := haf.mem k hk
   show look ((d, v) :: fr) k.d = none
   rw [Zf8 (Nat.ne_of_beq_eq_false (hal.1.2 k hk))]
   exact h
def okT (ops : Array Oper) (fr : Fr) (todo : List (Nat × Oper)) (i1 i2 : Nat) (o1 o2 : Oper) (ks : List Nat) : Bool := (todo.all fun p => Nat.beq p.1 i1 || (Nat.beq p.1 i2 || ((todo.any fun q => Zba ops q.1 p.1) || ks.any fun k => Zba ops k p.1))) && (Zhg o1.op && (Zhg o2.op && ((match gst ops fr o1.guard with | some b => b | none => false) && (match gst ops fr o2.guard with | some b => b | none => false))))
theorem ZoY {o : Oper} (h : (match gst ops fr o.guard with | some b => b | none => false) = true) : gst ops fr o.guard = some true := by
 split at h
 ·rename_i b hb
  rw [hb, h]
 ·cases h
theorem ZAe {i1 i2 : Nat} {o1 o2 : Oper} {td1 rest : List (Nat × Oper)} {V1 V2 : List Qp} {ks : List (Ap × List Ap)} (kk : ∀ x ∈ ks, ∀ b, RD P n wr ops todo V x.2 K ((x.1.d, x.1.val b) :: fr) (x.1.it b :: O))
  (hstep1 : ∀ F, Stp P n wr fr (O ++ F) o1 fun v O' => ∃ O'', Ends O' F O'' /\ QF P n wr ops (updF fr o1.dst v) O'' V1 /\ RD P n wr ops td1 V1 Al K (updF fr o1.dst v) O'')
  (hstep2 : ∀ F, Stp P n wr fr (O ++ F) o2 fun v O' => ∃ O'', Ends O' F O'' /\ QF P n wr ops (updF fr o2.dst v) O'' V2 /\ RD P n wr ops ((i1, o1) :: rest) V2 Al K (updF fr o2.dst v) O'')
  (hp1 : ZdM ops todo Al todo = some ((i1, o1), td1)) (hp2 : ZdM ops todo Al td1 = some ((i2, o2), rest)) (hks : ZdO ops todo [] Al = ks) (hok : okT ops fr todo i1 i2 o1 o2 (ks.map (·.1.i)) = true) (hal1 : alOk n fr o1.dst Al = true) (hal2 : alOk n fr o2.dst Al = true) (hV1 : Filt ops i1 V V1) (hV2 : Filt ops i2 V V2) :
  RD P n wr ops todo V Al K fr O := by
 have q1 := (ZdX hp1).perm
 have q2 : todo.Perm ((i2, o2) :: (i1, o1) :: rest) := q1.trans (((ZdX hp2).perm.cons _).trans (List.Perm.swap _ _ _))
 simp only [okT, Bool.and_eq_true] at hok
 obtain ⟨h1, h2, h3, h4, h5⟩ := hok
 have g1 := ZoY h4
 have g2 := ZoY h5
 refine Zd8 (fun h => ?_) ?_
 ·have := q1.length_eq
  rw [h] at this
  simp at this
 intro hR m F X Y N a w hX hA hst hm hcl p hpm hr
 have hp := List.all_eq_true.1 h1 p hpm
 simp only [Bool.or_eq_true] at hp
 rcases hp with hp | hp | hp | hp
 ·rw [Nat.eq_of_beq_eq_true hp] at hr ⊢
  exact ZoQ q1 h2 (fun a hs => Zei g1 hs) (ZlY hal1) hV1.le hV1.ge (fun F a w hs Kn Q hk => hstep1 F a w hs Kn Q fun v O' w' e1 e2 ⟨O'', e3, e4, e5⟩ => hk v O' w' e1 e2 ⟨O'', e3, e4, Zpp hal1 hR.af, e5⟩) hR m F X Y N a w hX hA hst hm hcl hr
 ·rw [Nat.eq_of_beq_eq_true hp] at hr ⊢
  exact ZoQ q2 h3 (fun a hs => Zei g2 hs) (ZlY hal2) hV2.le hV2.ge (fun F a w hs Kn Q hk => hstep2 F a w hs Kn Q fun v O' w' e1 e2 ⟨O'', e3, e4, e5⟩ => hk v O' w' e1 e2 ⟨O'', e3, e4, Zpp hal2 hR.af, e5⟩) hR m F X Y N a w hX hA hst hm hcl hr
 ·rw [List.any_eq_true] at hp
  obtain ⟨q, hq, hh⟩ := hp
  rw [Zbq hr (.inl ⟨q, hq, rfl⟩)] at hh
  cases hh
 ·rw [List.any_eq_true] at hp
  obtain ⟨j, hj, he⟩ := hp
  obtain ⟨x, hx, rfl⟩ := List.mem_map.1 hj
  have hx' := hx
  rw [<- hks] at hx'
  have hperm := Zfo Al [] x hx'
  have hkN : x.1 ∉ N := fun hk => by
   rw [Zbq hr (.inr (.inr ⟨x.1, hk, rfl⟩))] at he
   cases he
  exact ZgT (kk x hx) (hR.perm hperm) m F X Y N a w hX (hperm.symm.trans hA) hst hm hcl p hpm hr hkN
theorem ZAh {i1 i2 : Nat} {o1 o2 : Oper} {td1 rest : List (Nat × Oper)} {V1 V2 : List Qp}
  (hstep1 : ∀ F, Stp P n wr fr (O ++ F) o1 fun v O' => ∃ O'', Ends O' F O'' /\ QF P n wr ops (updF fr o1.dst v) O'' V1 /\ RD P n wr ops td1 V1 Al K (updF fr o1.dst v) O'')
  (hstep2 : ∀ F, Stp P n wr fr (O ++ F) o2 fun v O' => ∃ O'', Ends O' F O'' /\ QF P n wr ops (updF fr o2.dst v) O'' V2 /\ RD P n wr ops ((i1, o1) :: rest) V2 Al K (updF fr o2.dst v) O'')
  (hp1 : ZdM ops todo Al todo = some ((i1, o1), td1) := by rfl) (hp2 : ZdM ops todo Al td1 = some ((i2, o2), rest) := by rfl) (hks : ZdO ops todo [] Al = [] := by rfl) (hok : okT ops fr todo i1 i2 o1 o2 [] = true := by rfl) (hal1 : alOk n fr o1.dst Al = true := by rfl) (hal2 : alOk n fr o2.dst Al = true := by rfl)
  (hV1 : Filt ops i1 V V1 := by repeat (first | exact Go.Wk.Filt.nil | (apply Go.Wk.Filt.drop; rfl) | (apply Go.Wk.Filt.dropT; rfl) | (apply Go.Wk.Filt.keep; rfl))) (hV2 : Filt ops i2 V V2 := by repeat (first | exact Go.Wk.Filt.nil | (apply Go.Wk.Filt.drop; rfl) | (apply Go.Wk.Filt.dropT; rfl) | (apply Go.Wk.Filt.keep; rfl))) :
  RD P n wr ops todo V Al K fr O := ZAe (fun _ hx => by cases hx) hstep1 hstep2 hp1 hp2 hks hok hal1 hal2 hV1 hV2
def ZzH (P : Program) (n : Nat) (wr : World) (ops : Array Oper) (todo : List (Nat × Oper)) (V : List Qp) (Al : List Ap) (K : Fr -> List It -> Prop) (N : List Ap) (p : Nat × Oper) (fr : Fr) (O : List It) : Prop := Rg P n wr ops todo V Al fr O -> (∀ (m : Nat) (F : List It) (X : List Qp) (Y : List (Ap × Nat)) (a : Act) (w : World), X.Sublist V -> Al.Perm (Y.map (·.1) ++ N) -> St n wr (ZaV Y ++ fr) (O ++ (ZcP Y ++ F)) (putX a X) w -> todo.length + X.length + N.length <= m + 1 -> ZfU ops (Tof todo X N) -> (∃ o, ops[p.1]? = some o /\ ∀ e ∈ o.after, Region.binds .any e = true -> ¬ Tof todo X N e.on) -> wpOp P ops (Zf3 n wr F K) p.1 (AnyT P ops (Zf3 n wr F K) m (fun j => Tof todo X N j /\ j ≠ p.1)) a w)
theorem Zy8 {N : List Ap} {p : Nat × Oper} (hp : p ∈ todo) (h : RD P n wr ops todo V Al K fr O) : ZzH P n wr ops todo V Al K N p fr O := fun hR m F X Y a w hX hA hst hm hcl hr => (h hR (m + 1) F X Y N a w hX hA hst hm hcl).2 p.1 (.inl ⟨p, hp, rfl⟩) hr
theorem ZlP {k : Ap} {N : List Ap} {p : Nat × Oper} (hkN : k ∉ N) (kk : ∀ b, ZzH P n wr ops todo V Al K N p ((k.d, k.val b) :: fr) (k.it b :: O)) : ZzH P n wr ops todo V (k :: Al) K N p fr O := by
 intro hR m F X Y a w hX hA hst hm hcl hr
 have hkY : k ∈ Y.map (·.1) := by
  rcases List.mem_append.1 (hA.mem_iff.1 List.mem_cons_self) with h | h
  ·exact h
  ·exact absurd h hkN
 obtain ⟨⟨k', b⟩, hy, rfl⟩ := List.mem_map.1 hkY
 obtain ⟨Y1, Y2, rfl⟩ := List.append_of_mem hy
 obtain ⟨⟨o, h1, h2, h3, h4, h5, h6, h7⟩, hAF⟩ := hR.af
 have hdst : ∀ x ∈ Al, x.d ≠ k'.d := fun x hx e => by
  have := (List.nodup_append.1 hR.dst).2.1
  rw [List.map_cons, List.nodup_cons] at this
  exact this.1 (List.mem_map.2 ⟨x, hx, e⟩)
 have hA' : Al.Perm ((Y1 ++ Y2).map (·.1) ++ N) := by
  have e1 : ((Y1 ++ (k', b) :: Y2).map (·.1) ++ N).Perm (k' :: ((Y1 ++ Y2).map (·.1) ++ N)) := by
   simp only [List.map_append, List.map_cons, List.append_assoc, List.cons_append]
   exact List.perm_middle
  exact (List.perm_cons k').1 (hA.trans e1)
 refine kk b ⟨?_, ?_, hR.qf.mono (LSub.cons h6) (SubO.weak _ (SubO.refl _)), AF.mono (LSub.cons h6) (fun x hx => ?_) hAF, hR.ok⟩ m F X (Y1 ++ Y2) a w hX hA' ⟨?_, hst.old, ?_⟩ hm hcl hr
 ·refine hR.idx.sublist ?_
  simp only [List.map_cons]
  exact (List.Sublist.refl _).append ((List.Sublist.refl _).append (List.sublist_cons_self _ _))
 ·refine hR.dst.sublist ?_
  simp only [List.map_cons]
  exact (List.Sublist.refl _).append (List.sublist_cons_self _ _)
 ·obtain ⟨_, _, _, _, _, _, h, _⟩ := hAF.mem x hx
  rw [Zf8 (hdst x hx)]
  exact h
 ·refine hst.sim.lsub ?_
  have hnY1 : ∀ p ∈ ZaV Y1, p.1 ≠ k'.d := fun p hp e => by
   obtain ⟨y, hy, rfl⟩ := List.mem_map.1 hp
   have hm1 : y.1 ∈ Al := hA'.mem_iff.2 (List.mem_append_left _ (List.mem_map.2 ⟨y, List.mem_append_left _ hy, rfl⟩))
   exact hdst y.1 hm1 e
  have hnY2 : ∀ p ∈ ZaV Y2, p.1 ≠ k'.d := fun p hp e => by
   obtain ⟨y, hy, rfl⟩ := List.mem_map.1 hp
   have hm1 : y.1 ∈ Al := hA'.mem_iff.2 (List.mem_append_left _ (List.mem_map.2 ⟨y, List.mem_append_right _ hy, rfl⟩))
   exact hdst y.1 hm1 e
  intro t v hv
  have e1 := Zef (v := k'.val b) (fr := fr) (Z := ZaV (Y1 ++ Y2)) (fun p hp => by
   rw [ZaV, List.map_append] at hp
   rcases List.mem_append.1 hp with hp | hp
   ·exact hnY1 p hp
   ·exact hnY2 p hp) t v hv
  have e2 : ZaV (Y1 ++ (k', b) :: Y2) ++ fr = ZaV Y1 ++ (k'.d, k'.val b) :: (ZaV Y2 ++ fr) := by simp [ZaV]
  have e3 : ZaV (Y1 ++ Y2) ++ fr = ZaV Y1 ++ (ZaV Y2 ++ fr) := by simp [ZaV]
  rw [e2]
  rw [e3] at e1
  clear e2 e3 hv
  revert e1 hnY1
  generalize ZaV Y1 = Z
  intro hZ
  induction Z with
  | nil => exact fun h => h
  | cons z Z ih =>
   intro h
   have hz := hZ z List.mem_cons_self
   simp only [List.cons_append, look] at h ⊢
   cases hb1 : Nat.beq k'.d t with
   | true =>
    have e := Nat.eq_of_beq_eq_true hb1
    subst e
    rw [hb1] at h
    have : Nat.beq z.1 k'.d = false := by
     cases hc : Nat.beq z.1 k'.d with
     | false => rfl
     | true => exact absurd (Nat.eq_of_beq_eq_true hc) hz
    rw [this]
    refine ih (fun p hp => hZ p (List.mem_cons_of_mem _ hp)) ?_
    simp only [look, hb1]
    exact h
   | false =>
    rw [hb1] at h
    cases hb2 : Nat.beq z.1 t with
    | true => rw [hb2] at h; simpa using h
    | false =>
     rw [hb2] at h
     refine ih (fun p hp => hZ p (List.mem_cons_of_mem _ hp)) ?_
     simp only [look, hb1]
     simpa using h
 ·refine hst.own.perm ?_
  simp only [ZcP, List.map_append, List.map_cons, List.append_assoc, List.cons_append]
  have h := List.perm_middle (a := k'.it b) (l₁ := O ++ List.map (fun y : Ap × Nat => y.1.it y.2) Y1) (l₂ := List.map (fun y : Ap × Nat => y.1.it y.2) Y2 ++ F)
  simpa using h
def okA (ops : Array Oper) (fr : Fr) (todo todo' : List (Nat × Oper)) (o : Oper) (ks : List Nat) : Bool := (todo'.all fun p => (todo.any fun q => Zba ops q.1 p.1) || ks.all fun k => Zba ops k p.1) && (Zhg o.op && (match gst ops fr o.guard with | some b => b | none => false))
theorem ZAi {i : Nat} {o : Oper} {todo' : List (Nat × Oper)} {V' : List Qp} {k k2 k3 : Ap} {A0 : List Ap} (kk : ∀ b1 b2 b3, RD P n wr ops todo V A0 K ((k3.d, k3.val b3) :: (k2.d, k2.val b2) :: (k.d, k.val b1) :: fr) (k3.it b3 :: k2.it b2 :: k.it b1 :: O))
  (hstep : ∀ F, Stp P n wr fr (O ++ F) o fun v O' => ∃ O'', Ends O' F O'' /\ QF P n wr ops (updF fr o.dst v) O'' V' /\ RD P n wr ops todo' V' (k :: k2 :: k3 :: A0) K (updF fr o.dst v) O'')
  (hp : ZdM ops todo (k :: k2 :: k3 :: A0) todo = some ((i, o), todo') := by rfl) (hV : Filt ops i V V' := by repeat (first | exact Go.Wk.Filt.nil | (apply Go.Wk.Filt.drop; rfl) | (apply Go.Wk.Filt.dropT; rfl) | (apply Go.Wk.Filt.keep; rfl))) (hok : okA ops fr todo todo' o [k.i, k2.i, k3.i] = true := by rfl) (hal : alOk n fr o.dst (k :: k2 :: k3 :: A0) = true := by rfl) : RD P n wr ops todo V (k :: k2 :: k3 :: A0) K fr O := by
 have q1 := (ZdX hp).perm
 simp only [okA, Bool.and_eq_true] at hok
 obtain ⟨h1, h2, h4⟩ := hok
 have g1 := ZoY h4
 refine Zd8 (fun h => ?_) ?_
 ·have := q1.length_eq
  rw [h] at this
  simp at this
 intro hR m F X Y N a w hX hA hst hm hcl p hpm hr
 rcases List.mem_cons.1 (q1.mem_iff.1 hpm) with hpe | hin
 ·subst hpe
  exact ZoQ q1 h2 (fun a hs => Zei g1 hs) (ZlY hal) hV.le hV.ge (fun F a w hs Kn Q hk => hstep F a w hs Kn Q fun v O' w' e1 e2 ⟨O'', e3, e4, e5⟩ => hk v O' w' e1 e2 ⟨O'', e3, e4, Zpp hal hR.af, e5⟩) hR m F X Y N a w hX hA hst hm hcl hr
 ·have hh := List.all_eq_true.1 h1 p hin
  simp only [Bool.or_eq_true] at hh
  rcases hh with hh | hh
  ·rw [List.any_eq_true] at hh
   obtain ⟨q, hq, hh⟩ := hh
   rw [Zbq hr (.inl ⟨q, hq, rfl⟩)] at hh
   cases hh
  ·have out : ∀ x : Ap, x.i ∈ [k.i, k2.i, k3.i] -> x ∉ N := fun x hx hN => by
    have := List.all_eq_true.1 hh _ hx
    rw [Zbq hr (.inr (.inr ⟨x, hN, rfl⟩))] at this
    cases this
   exact ZlP (out k (by simp)) (fun b1 => ZlP (out k2 (by simp)) fun b2 => ZlP (out k3 (by simp)) fun b3 => Zy8 hpm (kk b1 b2 b3)) hR m F X Y a w hX hA hst hm hcl hr
end
end Go.Wk
