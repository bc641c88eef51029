/- Plain law: drafts of layer 23 are accepted: no fault of any kind. Contracts: links.zones, targets, follow; maps.Clone. -/
import Derived.Test.YtonjepladadmhaaGreatDoorQ17
import Derived.Test.YtonjepladadmhaaGreatDoorQ19
import Derived.Test.YtonjepladadmhaaGreatDoorQ14
import Derived.Test.YtonjepladadmhaaGreatDoorQ09
import Derived.Test.YtonjepladadmhaaGreatDoorQ18
set_option maxHeartbeats 4000000
set_option linter.unusedVariables false
set_option linter.unusedSimpArgs false
namespace Go.Proofs.YtonjepladadmhaaGreatDoor
open Go Go.RowKit Go.Wk
def sN (j : Nat) : ByteArray := sR ++ dig (j : Int)
theorem sN_ne : ∀ i j : Fin 3, i ≠ j → sN i.val ≠ sN j.val := by decide +kernel
theorem sN_ok : ∀ i : Fin 3, setB (sN i.val) = true := by decide +kernel
theorem rules23_names (sets : List (List Int)) : ∀ m, ∀ r ∈ rules23 sets m, ∃ j, j < m ∧ r.name = sN j
 | 0, r, h => by cases h
 | m + 1, r, h => by
  rw [rules23, List.mem_append] at h
  rcases h with h | h
  ·obtain ⟨j, h1, h2⟩ := rules23_names sets m r h
   exact ⟨j, by omega, h2⟩
  ·exact ⟨m, by omega, made17_name' _ _ r h⟩
theorem rules23_of (sets : List (List Int)) : ∀ m, m ≤ 3 → ∀ j, j < 3 → ofB (rules23 sets m) (sN j) = if j < m then made17 (sets.getD j []) (sN j) else []
 | 0, _, j, _ => rfl
 | m + 1, hm, j, hj => by
  rw [rules23, ofB_app, rules23_of sets m (by omega) j hj]
  by_cases h : j = m
  ·subst h
   rw [if_neg (by omega), if_pos (by omega), List.nil_append]
   exact ofB_all (made17_name' _ _)
  ·have hno : ofB (made17 (sets.getD m []) (sR ++ dig (m : Int))) (sN j) = [] := ofB_no (y := sN m) (made17_name' _ _) (sN_ne ⟨m, by omega⟩ ⟨j, hj⟩ fun e => h (Fin.mk.inj e).symm)
   rw [hno, List.append_nil]
   by_cases h2 : j < m
   ·rw [if_pos h2, if_pos (by omega)]
   ·rw [if_neg h2, if_neg (by omega)]
theorem rules23_set (sets : List (List Int)) (m : Nat) (hm : m ≤ 3) (j : Nat) (hj : j < m) : DrSet (ofB (rules23 sets m) (sN j)) ∧ (ofB (rules23 sets m) (sN j)).length ≤ 5 := by
 rw [rules23_of sets m hm j (by omega), if_pos hj]
 exact ⟨made17_set _ _, made17_len _ _⟩
theorem rules23_sets (sets : List (List Int)) (m : Nat) (hm : m ≤ 3) : setsGo (rules23 sets m) (namesB (rules23 sets m) []) = none := by
 refine setsGo_none' _ fun x hx => ?_
 rcases namesB_mem' _ _ x hx with h | ⟨r, h1, h2⟩
 ·cases h
 ·obtain ⟨j, h3, h4⟩ := rules23_names sets m r h1
  rw [← h2, h4]
  exact (rules23_set sets m hm j h3).1.fault (sN_ok ⟨j, by omega⟩)
theorem fmt23_mem (n : Int) : fmt23 n ∈ fmtU := by
 have h0 := Int.emod_nonneg n (b := 6) (by decide)
 have h1 := Int.emod_lt_of_pos n (b := 6) (by decide)
 unfold fmt23
 generalize n % 6 = x at *
 have hc : x = 0 ∨ x = 1 ∨ x = 2 ∨ x = 3 ∨ x = 4 ∨ x = 5 := by omega
 rcases hc with rfl | rfl | rfl | rfl | rfl | rfl
 ·exact .head _
 ·exact .tail _ (.head _)
 ·exact .tail _ (.tail _ (.tail _ (.tail _ (.tail _ (.tail _ (.head _))))))
 ·exact .tail _ (.tail _ (.tail _ (.head _)))
 ·exact .tail _ (.tail _ (.tail _ (.tail _ (.head _))))
 ·exact .tail _ (.tail _ (.tail _ (.tail _ (.tail _ (.tail _ (.tail _ (.head _)))))))
theorem era23_dr (rs : List DRule) (ns : Nat) (hns : 1 ≤ ns) (e : E23) (k : Nat) (year : Int) (fin_ : Bool) (hs : ∀ j, j < ns → DrSet (ofB rs (sN j)) ∧ (ofB rs (sN j)).length ≤ 5) :
  DrEra rs (era23 e (decide ((k : Int) = 0)) ns year fin_) (decide (k = 0)) := by
 have o := tmod_rng e.off 48 (by decide)
 have hf := fmt23_mem e.format
 have hk0 := Int.emod_nonneg e.kind (b := 3) (by decide)
 have hk1 := Int.emod_lt_of_pos e.kind (b := 3) (by decide)
 have hs0 := Int.emod_nonneg e.set (b := 4) (by decide)
 have hs1 := Int.emod_lt_of_pos e.set (b := 4) (by decide)
 have ht0 := Int.emod_nonneg e.set (b := (ns : Int)) (by omega)
 have ht1 := Int.emod_lt_of_pos e.set (b := (ns : Int)) (by omega)
 have hkd : kind23 e (decide ((k : Int) = 0)) = 0 ∨ kind23 e (decide ((k : Int) = 0)) = 1 ∨ (kind23 e (decide ((k : Int) = 0)) = 2 ∧ k ≠ 0) := by
  unfold kind23
  split
  ·exact .inl rfl
  ·rename_i hh
   have hc : e.kind % 3 = 0 ∨ e.kind % 3 = 1 ∨ e.kind % 3 = 2 := by omega
   rcases hc with hc | hc | hc
   ·exact .inl hc
   ·exact .inr (.inl hc)
   ·refine .inr (.inr ⟨hc, fun hk => hh ⟨?_, hc⟩⟩)
    subst hk
    rfl
 unfold DrEra era23
 dsimp only
 rcases hkd with h | h | ⟨h, hk⟩
 ·refine .inl ⟨h, ?_, ?_, by omega, by omega, hf⟩
  ·unfold save23; rw [if_neg (by omega)]
  ·unfold set23; rw [if_neg (by omega)]
 ·refine .inr (.inl ⟨h, ?_, ?_, by omega, by omega, hf⟩)
  ·unfold save23; rw [if_pos h]; omega
  ·unfold set23; rw [if_neg (by omega)]
 ·have he : set23 e (decide ((k : Int) = 0)) ns = sN (e.set % (ns : Int)).toNat := by
   unfold set23 sN
   rw [if_pos h, Int.toNat_of_nonneg ht0]
  obtain ⟨h1, h2⟩ := hs (e.set % (ns : Int)).toNat (by omega)
  refine .inr (.inr ⟨h, decide_eq_false hk, ?_, by omega, by omega, hf, ?_, ?_⟩)
  ·unfold save23; rw [if_neg (by omega)]
  ·rw [he]; exact h1
  ·rw [he]; exact h2
theorem eras23_get (ns : Int) (l : List E23) : ∀ (c k : Nat) (e : DEra), (eras23 ns l c).1[k]? = some e → k < c ∧ e = era23 (l.getD k e23Z) (decide ((k : Int) = 0)) ns (eras23 ns l (k + 1)).2 (decide ((k : Int) < (l.length : Int) - 1))
 | 0, k, e, h => by simp [eras23] at h
 | c + 1, k, e, h => by
  have hl := eras23_len ns l c
  simp only [eras23] at h
  rcases Nat.lt_trichotomy k c with hk | hk | hk
  ·rw [List.getElem?_append_left (by omega)] at h
   obtain ⟨h1, h2⟩ := eras23_get ns l c k e h
   exact ⟨by omega, h2⟩
  ·rw [List.getElem?_append_right (by omega), hl, hk, Nat.sub_self] at h
   simp only [List.getElem?_cons_zero, Option.some.injEq] at h
   subst h hk
   exact ⟨by omega, rfl⟩
  ·rw [List.getElem?_eq_none (by simp; omega)] at h
   cases h
theorem eras23_yr (ns : Int) (l : List E23) : ∀ k : Nat, 1904 + k ≤ (eras23 ns l k).2 ∧ (eras23 ns l k).2 ≤ 1904 + 30 * k ∧ (eras23 ns l k).2 < (eras23 ns l (k + 1)).2
 | 0 => by
  have h3 := Int.emod_nonneg (l.getD 0 e23Z).years (b := 30) (by decide)
  simp only [eras23]
  omega
 | k + 1 => by
  obtain ⟨h1, h2, _⟩ := eras23_yr ns l k
  have h3 := Int.emod_nonneg (l.getD k e23Z).years (b := 30) (by decide)
  have h4 := Int.emod_lt_of_pos (l.getD k e23Z).years (b := 30) (by decide)
  have h5 := Int.emod_nonneg (l.getD (k + 1) e23Z).years (b := 30) (by decide)
  simp only [eras23] at h1 h2 ⊢
  omega
theorem zone23_dr (rs : List DRule) (ns : Nat) (hns : 1 ≤ ns) (i : Nat) (l : List E23) (hs : ∀ j, j < ns → DrSet (ofB rs (sN j)) ∧ (ofB rs (sN j)).length ≤ 5) : ∃ Y, DrEras rs (zone23 ns i l).eras Y := by
 have hl := el23_len l
 show ∃ Y, DrEras rs (eras23 ns (el23 l) (el23 l).length).1 Y
 generalize el23 l = m at *
 have hlen := eras23_len ns m m.length
 refine ⟨fun k => (eras23 ns m (k + 1)).2 - 1, by omega, fun k e he => ?_, fun k hk => ?_, fun k hk => ?_, fun k e he => ?_⟩
 ·obtain ⟨h1, rfl⟩ := eras23_get ns m m.length k e he
  exact era23_dr rs ns hns _ k _ _ hs
 ·have := eras23_yr ns m (k + 1)
  omega
 ·have := eras23_yr ns m (k + 1)
  show (eras23 ns m (k + 1)).2 - 1 < (eras23 ns m (k + 1 + 1)).2 - 1
  omega
 ·obtain ⟨h1, rfl⟩ := eras23_get ns m m.length k e he
  generalize m.getD k e23Z = x at *
  have o := tmod_rng x.at_ 24 (by decide)
  have b0 := Int.emod_nonneg x.base (b := 3) (by decide)
  have b1 := Int.emod_lt_of_pos x.base (b := 3) (by decide)
  have d0 := Int.emod_nonneg x.day (b := 20) (by decide)
  have d1 := Int.emod_lt_of_pos x.day (b := 20) (by decide)
  have w0 := Int.emod_nonneg x.day (b := 7) (by decide)
  have w1 := Int.emod_lt_of_pos x.day (b := 7) (by decide)
  show if k + 1 < _ then DrTil (til23 x (eras23 ns m (k + 1)).2 (decide ((k : Int) < (m.length : Int) - 1))) ((eras23 ns m (k + 1)).2 - 1) else til23 x (eras23 ns m (k + 1)).2 (decide ((k : Int) < (m.length : Int) - 1)) = noTil
  rw [hlen]
  by_cases hk : k + 1 < m.length
  ·rw [if_pos hk, decide_eq_true (by omega)]
   unfold til23
   rw [if_pos rfl]
   refine .inr ⟨day23 x, _, _, by rw [show (eras23 ns m (k + 1)).2 - 1 + 1 = (eras23 ns m (k + 1)).2 by omega], ?_, by omega, by omega, by omega, by omega⟩
   unfold day23
   split
   ·exact .inr ⟨rfl, ⟨w0, by dsimp only; omega⟩, rfl⟩
   ·exact .inl ⟨rfl, rfl, by dsimp only; omega, by dsimp only; omega⟩
  ·rw [if_neg hk, decide_eq_false (by omega)]
   rfl
theorem zones23_dr (rs : List DRule) (ns : Nat) (hns : 1 ≤ ns) (zs : List (List E23)) (hs : ∀ j, j < ns → DrSet (ofB rs (sN j)) ∧ (ofB rs (sN j)).length ≤ 5) : ∀ i, ∀ z ∈ zones23 ns zs i, ∃ Y, DrEras rs z.eras Y
 | 0, z, h => by cases h
 | i + 1, z, h => by
  rw [zones23, List.mem_append, List.mem_singleton] at h
  rcases h with h | rfl
  ·exact zones23_dr rs ns hns zs hs i z h
  ·exact zone23_dr rs ns hns i _ hs
theorem ns23 (d : DD23) : 1 ≤ d.ns ∧ d.ns ≤ 3 := by unfold DD23.ns; omega
theorem made23_zones (d : DD23) : ∀ z ∈ (made23 d).zones, ∃ Y, DrEras (made23 d).rules z.eras Y :=
 zones23_dr (rules23 d.sets d.ns) d.ns (ns23 d).1 (zl23 d.zones) (fun j hj => rules23_set d.sets d.ns (ns23 d).2 j hj) (zl23 d.zones).length
theorem made23_sets (d : DD23) : setsD (made23 d) = none := rules23_sets d.sets d.ns (ns23 d).2
def zoneN23 : List ByteArray := [⟨#[65, 114, 101, 97, 47, 90, 48]⟩, ⟨#[65, 114, 101, 97, 47, 90, 49]⟩, ⟨#[65, 114, 101, 97, 47, 90, 50]⟩]
def linkN23 : List ByteArray := [⟨#[79, 108, 100, 47, 76, 48]⟩, ⟨#[79, 108, 100, 47, 76, 49]⟩, ⟨#[79, 108, 100, 47, 76, 50]⟩, ⟨#[79, 108, 100, 47, 76, 51]⟩]
theorem zoneN23_eq : ∀ i : Fin 3, sZ ++ dig ((i.val : Nat) : Int) = zoneN23.getD i.val ByteArray.empty := by decide +kernel
theorem linkN23_eq : ∀ i : Fin 4, sL ++ dig ((i.val : Nat) : Int) = linkN23.getD i.val ByteArray.empty := by decide +kernel
def lkT23 (nz c : Nat) : ByteArray := if c < nz then zoneN23.getD c ByteArray.empty else linkN23.getD (c - nz) ByteArray.empty
def lks23 (nz : Nat) (c : Nat → Nat) : Nat → List DLink
 | 0 => []
 | i + 1 => lks23 nz c i ++ [⟨lkT23 nz (c i), linkN23.getD i ByteArray.empty⟩]
def zns23 : Nat → List DZone
 | 0 => []
 | i + 1 => zns23 i ++ [⟨zoneN23.getD i ByteArray.empty, []⟩]
def ch4 (a b c d : Nat) (i : Nat) : Nat := match i with | 0 => a | 1 => b | 2 => c | _ => d
theorem links23_all : ∀ nz : Fin 4, ∀ nl : Fin 5, ∀ a : Fin 3, ∀ b : Fin 4, ∀ c : Fin 5, ∀ d : Fin 6, a.val < nz.val → b.val < nz.val + 1 → c.val < nz.val + 2 → d.val < nz.val + 3 →
  linksD ⟨[], zns23 nz.val, lks23 nz.val (ch4 a.val b.val c.val d.val) nl.val, []⟩ = none := by decide +kernel
theorem zones23_bare (sets : Int) (zs : List (List E23)) : ∀ i, i ≤ 3 → (zones23 sets zs i).map bare' = zns23 i
 | 0, _ => rfl
 | i + 1, h => by
  rw [zones23, List.map_append, zones23_bare sets zs i (by omega), zns23, ← zoneN23_eq ⟨i, by omega⟩]
  rfl
theorem link23_is (nz : Nat) (h1 : 1 ≤ nz) (h3 : nz ≤ 3) (n : Int) (i : Nat) (hi : i < 4) : ∃ c, c < nz + i ∧ link23 nz n i = ⟨lkT23 nz c, linkN23.getD i ByteArray.empty⟩ := by
 have a0 := Int.emod_nonneg n (b := (nz : Int) + i) (by omega)
 have a1 := Int.emod_lt_of_pos n (b := (nz : Int) + i) (by omega)
 have b0 := Int.emod_nonneg n (b := (nz : Int)) (by omega)
 have b1 := Int.emod_lt_of_pos n (b := (nz : Int)) (by omega)
 unfold link23
 rw [linkN23_eq ⟨i, hi⟩]
 by_cases h : n % ((nz : Int) + i) ≥ nz
 ·refine ⟨(n % ((nz : Int) + i)).toNat, by omega, ?_⟩
  rw [if_pos h]
  unfold lkT23
  rw [if_neg (by omega), ← linkN23_eq ⟨(n % ((nz : Int) + i)).toNat - nz, by omega⟩]
  dsimp only
  rw [show (((n % ((nz : Int) + i)).toNat - nz : Nat) : Int) = n % ((nz : Int) + i) - nz by omega]
 ·refine ⟨(n % (nz : Int)).toNat, by omega, ?_⟩
  rw [if_neg h]
  unfold lkT23
  rw [if_pos (by omega), ← zoneN23_eq ⟨(n % (nz : Int)).toNat, by omega⟩]
  dsimp only
  rw [Int.toNat_of_nonneg b0]
theorem lks23_congr (nz : Nat) (c c' : Nat → Nat) : ∀ n, (∀ i, i < n → c i = c' i) → lks23 nz c n = lks23 nz c' n
 | 0, _ => rfl
 | n + 1, h => by rw [lks23, lks23, lks23_congr nz c c' n fun i hi => h i (by omega), h n (by omega)]
theorem links23_lks (nz : Nat) (h1 : 1 ≤ nz) (h3 : nz ≤ 3) (L : List Int) : ∀ i : Nat, i ≤ 4 → ∃ c : Nat → Nat, (∀ k, c k < nz + k) ∧ links23 nz L i = lks23 nz c i
 | 0, _ => ⟨fun _ => 0, fun k => by dsimp only; omega, rfl⟩
 | i + 1, h => by
  obtain ⟨c, q1, q2⟩ := links23_lks nz h1 h3 L i (by omega)
  obtain ⟨x, q3, q4⟩ := link23_is nz h1 h3 (L.getD i 0) i (by omega)
  refine ⟨fun k => if k = i then x else c k, fun k => ?_, ?_⟩
  ·dsimp only
   split
   ·rename_i e; rw [e]; exact q3
   ·exact q1 k
  ·rw [links23, q2, q4, lks23, lks23_congr nz (fun k => if k = i then x else c k) c i fun k hk => if_neg (by omega), if_pos rfl]
theorem made23_links (d : DD23) : linksD (made23 d) = none := by
 obtain ⟨z1, z3⟩ := zl23_len d.zones
 have hl : (d.links.take 4).length ≤ 4 := by rw [List.length_take]; omega
 obtain ⟨c, q1, q2⟩ := links23_lks (zl23 d.zones).length z1 z3 (d.links.take 4) (d.links.take 4).length hl
 rw [linksD_bare]
 unfold made23 bareS
 dsimp only
 rw [zones23_bare _ _ _ z3, q2, lks23_congr _ c (ch4 (c 0) (c 1) (c 2) (c 3)) _ fun i hi => by
  have hc : i = 0 ∨ i = 1 ∨ i = 2 ∨ i = 3 := by omega
  rcases hc with rfl | rfl | rfl | rfl <;> rfl]
 have r0 := q1 0
 have r1 := q1 1
 have r2 := q1 2
 have r3 := q1 3
 exact links23_all ⟨_, by omega⟩ ⟨_, by omega⟩ ⟨c 0, by omega⟩ ⟨c 1, by omega⟩ ⟨c 2, by omega⟩ ⟨c 3, by omega⟩ (by dsimp only; omega) (by dsimp only; omega) (by dsimp only; omega) (by dsimp only; omega)
theorem made23_sizes (d : DD23) : sizesD (made23 d) = none := by
 have h1 := rules23_len d.sets d.ns
 have hm := (ns23 d).2
 obtain ⟨z1, z3⟩ := zl23_len d.zones
 have hr : (made23 d).rules.length ≤ 15 := by
  show (rules23 d.sets d.ns).length ≤ 15
  omega
 have hz : (made23 d).zones.length ≤ 3 := by
  show (zones23 d.ns (zl23 d.zones) (zl23 d.zones).length).length ≤ 3
  rw [zones23_len]; exact z3
 have hk : (made23 d).links.length ≤ 4 := by
  show (links23 (zl23 d.zones).length (d.links.take 4) (d.links.take 4).length).length ≤ 4
  rw [links23_len, List.length_take]; omega
 have hf : (made23 d).zones.findIdx? (fun z => decide (60 < z.eras.length)) = none := by
  rw [List.findIdx?_eq_none_iff]
  intro z hz
  obtain ⟨Y, h⟩ := made23_zones d z hz
  have := h.len
  exact decide_eq_false (by omega)
 unfold sizesD
 rw [if_neg (by omega), if_neg (by omega), hf]
 dsimp only
 rw [if_neg (by omega), if_neg (by show ¬ 2000 < ([] : List ByteArray).length; decide)]
theorem made23_acc (d : DD23) : accD (made23 d) = none := by
 unfold accD
 rw [made23_sizes d, made23_sets d, made23_links d, zonesGo_none _ 0 (made23_zones d)]
 rfl
attribute [local irreducible] W RL Does thenQ blockQ retQ Calls Pu Stp RD Qy Ay DoesIn
theorem firstZ_snoc (x : ByteArray) (z : DZone) : ∀ (l : List DZone) (k : Nat), firstZ x (l ++ [z]) k = (firstZ x l k).or (if z.name = x then some (k + l.length) else none)
 | [], k => by simp [firstZ]
 | y :: l, k => by
  simp only [List.cons_append, firstZ, firstZ_snoc x z l]
  split
  ·rfl
  ·rw [List.length_cons, show k + 1 + l.length = k + (l.length + 1) by omega]
theorem firstL_snoc (x : ByteArray) (z : DLink) : ∀ (l : List DLink) (k : Nat), firstL x (l ++ [z]) k = (firstL x l k).or (if z.name = x then some (k + l.length) else none)
 | [], k => by simp [firstL]
 | y :: l, k => by
  simp only [List.cons_append, firstL, firstL_snoc x z l]
  split
  ·rfl
  ·rw [List.length_cons, show k + 1 + l.length = k + (l.length + 1) by omega]
theorem firstL_lt (x : ByteArray) : ∀ (l : List DLink) (k i : Nat), firstL x l k = some i → k ≤ i ∧ i < k + l.length
 | [], _, _, h => by cases h
 | z :: l, k, i, h => by
  simp only [firstL] at h
  split at h
  ·simp only [Option.some.injEq] at h; subst h; simp
  ·have := firstL_lt x l (k + 1) i h; simp only [List.length_cons]; omega
theorem firstZ_mem {z : DZone} : ∀ {l : List DZone} (k : Nat), z ∈ l → ∃ j, firstZ z.name l k = some j
 | y :: l, k, h => by
  simp only [firstZ]
  split
  ·exact ⟨_, rfl⟩
  ·rename_i hn
   rcases List.mem_cons.1 h with rfl | h
   ·exact absurd rfl hn
   ·exact firstZ_mem (k + 1) h
theorem firstL_mem {z : DLink} : ∀ {l : List DLink} (k : Nat), z ∈ l → ∃ j, firstL z.name l k = some j
 | y :: l, k, h => by
  simp only [firstL]
  split
  ·exact ⟨_, rfl⟩
  ·rename_i hn
   rcases List.mem_cons.1 h with rfl | h
   ·exact absurd rfl hn
   ·exact firstL_mem (k + 1) h
def IxM (m : List (ByteArray × Value)) (f : ByteArray → Option Nat) : Prop := ∀ x, mget m x = (f x).map fun i : Nat => Value.int .i64 (i : Int)
theorem IxM.some {m : List (ByteArray × Value)} {f : ByteArray → Option Nat} (h : IxM m f) {x : ByteArray} {i : Nat} (hf : f x = some i) : (mget m x).getD (.int .i64 0) = .int .i64 i ∧ (mget m x).isSome = true := by
 rw [h x, hf]; exact ⟨rfl, rfl⟩
theorem IxM.none {m : List (ByteArray × Value)} {f : ByteArray → Option Nat} (h : IxM m f) {x : ByteArray} (hf : f x = none) : (mget m x).getD (.int .i64 0) = .int .i64 0 ∧ (mget m x).isSome = false := by
 rw [h x, hf]; exact ⟨rfl, rfl⟩
theorem IxM.set {m : List (ByteArray × Value)} {f f' : ByteArray → Option Nat} (h : IxM m f) {k : ByteArray} {i : Nat} (hf : ∀ x, f' x = if x = k then Option.some i else f x) : IxM (mset m k (.int .i64 i)) f' := fun x => by
 rw [mget_mset, hf x]
 split
 ·rfl
 ·exact h x
def NewIx (f : ByteArray → Option Nat) (N : Nat) (v : Value) (O : List It) : Prop := ∃ b m, v = .map (some b) ∧ O = [.mp b m] ∧ IxM m f ∧ Nd m ∧ m.length ≤ N
structure LG where
 k : Nat
 mp : List (ByteArray × Value)
theorem PuLnk0 {G : Prop} (h : G := by (first | exact PuI | (apply Pu_lookupOkC; rfl; rfl; (focus repeat' constructor); exact hv0; exact hc0))) : G := h
theorem lzones_spec (Ar Az Al As : Option Addr) (cr cz cl cs : Nat) (a : DSource) (w : World) (hA : RdSource w Ar Az Al As cr cz cl cs a) (hn : a.zones.length ≤ 1000000) :
  Does Tryz.prog 86 [srcV Ar Az Al As cr cz cl cs a] w (NewIx (fun x => firstZ x a.zones 0) a.zones.length) := by
 refine Does_of_W Tryz.func86 rfl rfl rfl rfl ?_
 repeat (first | (refine js ?_; (first | (apply Stp_makeMapN; rfl; intro bk) | (refine bx ?_; intro bk))) | refine walk ?_)
 refine W_loopF [(3, .map (some bk)), (13, .slice Az a.zones.length cz), (14, .int .i64 a.zones.length)] [] (fun g : LG => [(15, .int .i64 g.k)]) (fun g => [.mp bk g.mp]) (fun g => g.k ≤ a.zones.length ∧ IxM g.mp (fun x => firstZ x (a.zones.take g.k) 0) ∧ Nd g.mp ∧ g.mp.length ≤ g.k) (fun g => a.zones.length - g.k) ⟨0, []⟩ SFA SOA ⟨Nat.zero_le _, fun x => rfl, List.nodup_nil, Nat.le_refl _⟩ ?_
 obtain ⟨bm, hbm⟩ : ∃ bm, bk = bm := ⟨_, rfl⟩
 rw [hbm]
 clear hbm bk
 rintro ⟨k, mp⟩ ⟨hk, hm, hd, hl⟩
 dsimp only at hk hm hd hl ⊢
 repeat (first | (refine js ?_; (refine bx ?_; intro bk)) | refine walk ?_)
 refine W_cond rfl (fun hc => ?_) (fun hc => ?_)
 ·simp only [decide_eq_true_eq, Int.ofNat_lt] at hc
  obtain ⟨hna, cs1, ⟨Ae, ce, _, rfl⟩, hca⟩ := hA.z k _ (List.getElem?_eq_getElem hc)
  have ht := List.take_append_getElem hc
  have hlen : (a.zones.take k).length = k := by rw [List.length_take]; omega
  generalize a.zones[k] = z at *
  have hsn := fun x => firstZ_snoc x z (a.zones.take k) 0
  rw [ht, hlen] at hsn
  cases hf : firstZ z.name (a.zones.take k) 0 with
  | none =>
   obtain ⟨hv0, hc0⟩ := hm.none hf
   repeat (first | (apply RL_pu; rfl; exact PuLnk0) | (refine js ?_; (refine bx ?_; intro bk)) | refine walk1 ?_)
   refine ⟨⟨k + 1, mset mp z.name (.int .i64 k)⟩, OA, ⟨OA, hm.set (k := z.name) (i := k) (fun x => ?_), hd.set _ _, ?_⟩, SFA, SOA⟩
   ·dsimp only
    rw [hsn x]
    by_cases e : x = z.name
    ·subst e; simp [hf]
    ·rw [if_neg e, if_neg (fun h => e h.symm), Option.or_none]
   ·have := mset_len z.name (.int .i64 (k : Int)) mp
    dsimp only
    omega
  | some j =>
   obtain ⟨hv0, hc0⟩ := hm.some hf
   repeat (first | (apply RL_pu; rfl; exact PuLnk0) | (refine js ?_; (refine bx ?_; intro bk)) | refine walk1 ?_)
   refine ⟨⟨k + 1, mp⟩, OA, ⟨OA, fun x => ?_, hd, OA⟩, SFA, SOA⟩
   dsimp only
   rw [hm x, hsn x]
   dsimp only
   by_cases e : z.name = x
   ·subst e; rw [hf]; rfl
   ·rw [if_neg e, Option.or_none]
 ·simp only [decide_eq_false_iff_not, Int.ofNat_lt] at hc
  rw [List.take_of_length_le (by omega)] at hm
  repeat (first | (refine js ?_; (refine bx ?_; intro bk)) | refine walk ?_)
  exact ret_1 _ [.mp bm mp] (.tmp rfl) SOA ⟨bm, mp, rfl, rfl, hm, hd, by omega⟩
theorem ltargets_spec (Ar Az Al As : Option Addr) (cr cz cl cs : Nat) (a : DSource) (w : World) (hA : RdSource w Ar Az Al As cr cz cl cs a) (hn : a.links.length ≤ 1000000) :
  Does Tryz.prog 88 [srcV Ar Az Al As cr cz cl cs a] w (NewIx (fun x => firstL x a.links 0) a.links.length) := by
 refine Does_of_W Tryz.func88 rfl rfl rfl rfl ?_
 repeat (first | (refine js ?_; (first | (apply Stp_makeMapN; rfl; intro bk) | (refine bx ?_; intro bk))) | refine walk ?_)
 refine W_loopF [(3, .map (some bk)), (13, .slice Al a.links.length cl), (14, .int .i64 a.links.length)] [] (fun g : LG => [(15, .int .i64 g.k)]) (fun g => [.mp bk g.mp]) (fun g => g.k ≤ a.links.length ∧ IxM g.mp (fun x => firstL x (a.links.take g.k) 0) ∧ Nd g.mp ∧ g.mp.length ≤ g.k) (fun g => a.links.length - g.k) ⟨0, []⟩ SFA SOA ⟨Nat.zero_le _, fun x => rfl, List.nodup_nil, Nat.le_refl _⟩ ?_
 obtain ⟨bm, hbm⟩ : ∃ bm, bk = bm := ⟨_, rfl⟩
 rw [hbm]
 clear hbm bk
 rintro ⟨k, mp⟩ ⟨hk, hm, hd, hl⟩
 dsimp only at hk hm hd hl ⊢
 repeat (first | (refine js ?_; (refine bx ?_; intro bk)) | refine walk ?_)
 refine W_cond rfl (fun hc => ?_) (fun hc => ?_)
 ·simp only [decide_eq_true_eq, Int.ofNat_lt] at hc
  obtain ⟨hna, hca⟩ := hA.l.rd k _ (List.getElem?_eq_getElem hc)
  have ht := List.take_append_getElem hc
  have hlen : (a.links.take k).length = k := by rw [List.length_take]; omega
  generalize a.links[k] = z at *
  have hsn := fun x => firstL_snoc x z (a.links.take k) 0
  rw [ht, hlen] at hsn
  cases hf : firstL z.name (a.links.take k) 0 with
  | none =>
   obtain ⟨hv0, hc0⟩ := hm.none hf
   repeat (first | (apply RL_pu; rfl; exact PuLnk0) | (refine js ?_; (refine bx ?_; intro bk)) | refine walk1 ?_)
   refine ⟨⟨k + 1, mset mp z.name (.int .i64 k)⟩, OA, ⟨OA, hm.set (k := z.name) (i := k) (fun x => ?_), hd.set _ _, ?_⟩, SFA, SOA⟩
   ·dsimp only
    rw [hsn x]
    by_cases e : x = z.name
    ·subst e; simp [hf]
    ·rw [if_neg e, if_neg (fun h => e h.symm), Option.or_none]
   ·have := mset_len z.name (.int .i64 (k : Int)) mp
    dsimp only
    omega
  | some j =>
   obtain ⟨hv0, hc0⟩ := hm.some hf
   repeat (first | (apply RL_pu; rfl; exact PuLnk0) | (refine js ?_; (refine bx ?_; intro bk)) | refine walk1 ?_)
   refine ⟨⟨k + 1, mp⟩, OA, ⟨OA, fun x => ?_, hd, OA⟩, SFA, SOA⟩
   dsimp only
   rw [hm x, hsn x]
   dsimp only
   by_cases e : z.name = x
   ·subst e; rw [hf]; rfl
   ·rw [if_neg e, Option.or_none]
 ·simp only [decide_eq_false_iff_not, Int.ofNat_lt] at hc
  rw [List.take_of_length_le (by omega)] at hm
  repeat (first | (refine js ?_; (refine bx ?_; intro bk)) | refine walk ?_)
  exact ret_1 _ [.mp bm mp] (.tmp rfl) SOA ⟨bm, mp, rfl, rfl, hm, hd, by omega⟩
theorem clone_is : isClone Tryz.prog 183 := fun args w => by
 rw [run_callFunc_extern Tryz.func183 (by kernel_rfl) (by kernel_rfl) (by kernel_rfl) (e := Extern.MapsClone.clone) (by kernel_rfl)]
theorem mclone_spec (b : Nat) (m : List (ByteArray × Value)) (w : World) (h : MpAt w b m) :
  Does Tryz.prog 142 [.map (some b)] w (fun v O => ∃ b2, v = .map (some b2) ∧ O = [.mp b2 m]) := by
 refine Does_of_W Tryz.func142 rfl rfl rfl rfl ?_
 repeat (first | (apply RL_pu; rfl; (first | (apply Pu_eqNilMap; rfl) | (apply Pu_ifaceMap; rfl) | (apply Pu_assertMap; rfl))) | (refine js ?_; (apply Stp_mapsClone; exact clone_is; rfl; (intro w' hw _; exact h.up hw (Nat.le_refl _)); intro bk)) | refine walk1 ?_)
 exact ret_1 _ _ (.tmp rfl) (.refl _) ⟨_, rfl, rfl⟩
structure FG where
 seen : List ByteArray
 x : ByteArray
 mp : List (ByteArray × Value)
 f : Nat
theorem memB_cons (x y : ByteArray) (l : List ByteArray) : memB x (y :: l) = (decide (y = x) || memB x l) := rfl
theorem PuLnk2 {G : Prop} (h : G := by (apply Pu_lookupOkOld; rfl; rfl; exact h1; exact hv0; exact hc0)) : G := h
theorem PuLnk3 {G : Prop} (h : G := by (first | exact PuLnk2 | (apply Pu_lookupOkOld; rfl; rfl; exact h2; exact hv1; exact hc1) | (apply Pu_lookupOkC; rfl; rfl; (focus repeat' constructor); exact hv2; exact hc2))) : G := h
theorem follow_spec (Ar Az Al As : Option Addr) (cr cz cl cs : Nat) (a : DSource) (b1 b2 : Nat) (mk ml : List (ByteArray × Value)) (name : ByteArray) (w : World) (hA : RdSource w Ar Az Al As cr cz cl cs a) (h1 : MpAt w b1 mk) (h2 : MpAt w b2 ml)
  (hk : IxM mk fun x => firstZ x a.zones 0) (hl : IxM ml fun x => firstL x a.links 0) (hd : Nd ml) (hlen : ml.length ≤ a.links.length) :
  Does Tryz.prog 91 [srcV Ar Az Al As cr cz cl cs a, .map (some b1), .map (some b2), .string name] w (fun v O => v = .tuple #[.int .i64 (followD a (a.links.length + 1) [] name).1, .int .i64 (followD a (a.links.length + 1) [] name).2] ∧ O = []) := by
 obtain ⟨res, hres⟩ : ∃ res, followD a (a.links.length + 1) [] name = res := ⟨_, rfl⟩
 rw [hres]
 refine Does_of_W Tryz.func91 rfl rfl rfl rfl ?_
 repeat (first | (refine js ?_; (first | (apply Stp_call (h := fun w' hw _ => mclone_spec b2 ml w' (h2.up hw (Nat.le_refl _))); rfl; rintro v O' ⟨bc, rfl, rfl⟩) | (refine bx ?_; intro bk))) | refine walk ?_)
 refine W_loopF [(1, .map (some b1)), (2, .map (some b2)), (4, .pointer (some ⟨bk, 0, none⟩)), (10, .map (some bc))] [.blk bk [.slice Ar a.rules.length cr, .slice Az a.zones.length cz, .slice Al a.links.length cl, .slice As a.shifts.length cs] 45] (fun g : FG => [(3, .string g.x)]) (fun g => [.mp bc g.mp])
  (fun g => Nd g.mp ∧ (∀ x, mget g.mp x = if memB x g.seen then none else mget ml x) ∧ followD a g.f g.seen g.x = res ∧ g.mp.length < g.f) (fun g => g.mp.length) ⟨[], name, ml, a.links.length + 1⟩ SFA SOA ⟨hd, fun x => rfl, hres, by dsimp only; omega⟩ ?_
 rintro ⟨seen, x, mp, f⟩ ⟨hd2, hm, hi, hf⟩
 dsimp only at hd2 hm hi hf ⊢
 obtain ⟨f, rfl⟩ : ∃ f', f = f' + 1 := ⟨f - 1, by omega⟩
 rw [followD] at hi
 cases hz : firstZ x a.zones 0 with
 | some i =>
  rw [hz] at hi
  obtain ⟨hv0, hc0⟩ := hk.some hz
  repeat (first | (apply RL_pu; rfl; exact PuLnk2) | (refine js ?_; (refine bx ?_; intro bk)) | refine walk1 ?_)
  exact ret_2 _ _ [] (.tmp rfl) (.tmp rfl) .nil ⟨by rw [← hi] <;> rfl, rfl⟩
 | none =>
  rw [hz] at hi
  obtain ⟨hv0, hc0⟩ := hk.none hz
  cases hy : firstL x a.links 0 with
  | none =>
   rw [hy] at hi
   obtain ⟨hv1, hc1⟩ := hl.none hy
   have hg : mget mp x = none := by
    rw [hm x, hl x]
    dsimp only
    rw [hy]
    split <;> rfl
   have hv2 : (mget mp x).getD (.int .i64 0) = .int .i64 0 := by rw [hg]; rfl
   have hc2 : (mget mp x).isSome = false := by rw [hg]; rfl
   repeat (first | (apply RL_pu; rfl; exact PuLnk3) | (refine js ?_; (refine bx ?_; intro bk)) | refine walk1 ?_)
   exact ret_2 _ _ [] (.tmp rfl) (.tmp rfl) .nil ⟨by rw [← hi] <;> rfl, rfl⟩
  | some i =>
   rw [hy] at hi
   dsimp only at hi
   obtain ⟨hv1, hc1⟩ := hl.some hy
   cases hs : memB x seen with
   | true =>
    rw [hs, if_pos rfl] at hi
    have hg : mget mp x = none := by rw [hm x, hs]; rfl
    have hv2 : (mget mp x).getD (.int .i64 0) = .int .i64 0 := by rw [hg]; rfl
    have hc2 : (mget mp x).isSome = false := by rw [hg]; rfl
    repeat (first | (apply RL_pu; rfl; exact PuLnk3) | (refine js ?_; (refine bx ?_; intro bk)) | refine walk1 ?_)
    exact ret_2 _ _ [] (.tmp rfl) (.tmp rfl) .nil ⟨by rw [← hi] <;> rfl, rfl⟩
   | false =>
    rw [hs, if_neg (by decide)] at hi
    have hg : mget mp x = some (.int .i64 i) := by rw [hm x, hs, hl x]; dsimp only; rw [hy]; rfl
    have hv2 : (mget mp x).getD (.int .i64 0) = .int .i64 i := by rw [hg]; rfl
    have hc2 : (mget mp x).isSome = true := by rw [hg]; rfl
    have hdl := mdel_len x hc2
    have hlt : i < a.links.length := by have := firstL_lt x a.links 0 i hy; omega
    obtain ⟨hna, hca⟩ := hA.l.rd i _ (List.getElem?_eq_getElem hlt)
    rw [List.getElem?_eq_getElem hlt] at hi
    generalize a.links[i] = lk at *
    simp only [Option.map_some, Option.getD_some] at hi
    repeat (first | (apply RL_pu; rfl; (first | exact PuLnk3 | exact PuI)) | (refine js ?_; (first | (apply Stp_delete; rfl; rfl; (focus repeat' constructor)) | (refine bx ?_; intro bk))) | refine walk1 ?_)
    refine ⟨⟨x :: seen, lk.target, mdel mp x, f⟩, OA, ⟨hd2.del _, fun y => ?_, hi, OA⟩, SFA, SOA⟩
    dsimp only
    rw [mget_mdel x y hd2, hm y, memB_cons]
    by_cases e : x = y
    ·subst e; simp
    ·rw [if_neg (fun h => e h.symm), show decide (x = y) = false from decide_eq_false e, Bool.false_or]
end Go.Proofs.YtonjepladadmhaaGreatDoor
