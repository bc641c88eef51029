/- Plain law: names of sources, and of drafts of layer 23 (layers 15 and 26). Contract: analemmalaw23.Draft: Made. Helpers of the laws of layer 26: the local time as a law makes it; small lemmas. -/
import Derived.Test.YtonjepladadmhaaGreatDoorS39
import Derived.Test.YtonjepladadmhaaGreatDoorS37
import Derived.Test.YtonjepladadmhaaGreatDoorS28
set_option maxHeartbeats 4000000
set_option linter.unusedVariables false
set_option linter.unusedSimpArgs false
namespace Go.Proofs.YtonjepladadmhaaGreatDoor
open Go Go.RowKit Go.Wk
theorem accD_links {a : DSource} (h : accD a = none) : linksD a = none := by
 unfold accD at h
 simp only [Option.or_eq_none_iff] at h
 exact h.2.2.2.1
theorem zoneFault_none {s : DSource} : ∀ (l : List DZone) (i : Nat), zoneFault s l i = none → ∀ (j : Nat) (z : DZone), l[j]? = some z → firstZ z.name s.zones 0 = some (i + j)
 | [], _, _, j, z, h => by simp at h
 | x :: l, i, h, j, z, hz => by
  rw [zoneFault] at h
  by_cases h1 : zoneB x.name = false
  ·rw [if_pos h1] at h; cases h
  rw [if_neg h1] at h
  by_cases h2 : firstZ x.name s.zones 0 ≠ some i
  ·rw [if_pos h2] at h; cases h
  rw [if_neg h2] at h
  rcases j with _ | j
  ·simp only [List.getElem?_cons_zero, Option.some.injEq] at hz
   subst hz
   exact Decidable.not_not.1 h2
  ·simp only [List.getElem?_cons_succ] at hz
   rw [zoneFault_none l (i + 1) h j z hz, Option.some.injEq]
   omega
theorem zoneD_zone {a : DSource} (h : accD a = none) {i : Nat} {z : DZone} (hi : a.zones[i]? = some z) : zoneD a z.name = (((i : Nat) : Int), 0) := by
 have hl := accD_links h
 unfold linksD at hl
 rw [Option.or_eq_none_iff] at hl
 have hf := zoneFault_none _ _ hl.1 i z hi
 unfold zoneD
 rw [h]
 dsimp only
 rw [followD, hf]
 dsimp only
 rw [Nat.zero_add]
theorem firstZ_no {x : ByteArray} : ∀ (l : List DZone) (k : Nat), (∀ z ∈ l, z.name ≠ x) → firstZ x l k = none
 | [], _, _ => rfl
 | z :: l, k, h => by
  rw [firstZ, if_neg (h z List.mem_cons_self)]
  exact firstZ_no l (k + 1) fun y hy => h y (List.mem_cons_of_mem _ hy)
theorem firstL_no {x : ByteArray} : ∀ (l : List DLink) (k : Nat), (∀ z ∈ l, z.name ≠ x) → firstL x l k = none
 | [], _, _ => rfl
 | z :: l, k, h => by
  rw [firstL, if_neg (h z List.mem_cons_self)]
  exact firstL_no l (k + 1) fun y hy => h y (List.mem_cons_of_mem _ hy)
theorem zoneD_no {a : DSource} (h : accD a = none) {x : ByteArray} (hz : ∀ z ∈ a.zones, z.name ≠ x) (hl : ∀ l ∈ a.links, l.name ≠ x) : zoneD a x = (0, 9) := by
 unfold zoneD
 rw [h]
 dsimp only
 rw [followD, firstZ_no _ _ hz]
 dsimp only
 rw [firstL_no _ _ hl]
 rfl
theorem zoneD_acc {a : DSource} {p : DPlace} {e : Int} (h : accD a = some (p, e)) (x : ByteArray) : zoneD a x = (0, e) := by unfold zoneD; rw [h]
theorem draft23_mem (d : DD23) {x : ByteArray} (hx : x ∈ (made23 d).zones.map DZone.name ∨ x ∈ (made23 d).links.map DLink.name) : x ∈ draftN23 (zl23 d.zones).length (d.links.take 4).length := by
 obtain ⟨h1, h2⟩ := made23_allN d
 unfold draftN23
 rw [List.mem_append]
 rcases hx with hx | hx
 ·exact .inl (by rw [← h1]; exact hx)
 ·exact .inr (by rw [← h2]; exact hx)
theorem nm23 (d : DD23) {x : ByteArray} (hx : x ∈ (made23 d).zones.map DZone.name ∨ x ∈ (made23 d).links.map DLink.name) : ∃ (i : Nat) (z : DZone), zoneD (made23 d) x = (((i : Nat) : Int), 0) ∧ (made23 d).zones[i]? = some z ∧ (followD (made23 d) ((made23 d).links.length + 1) [] x).1 = i ∧ (followD (made23 d) ((made23 d).links.length + 1) [] x).2 = 0 := by
 obtain ⟨h1, h2⟩ := made23_find d x (draft23_mem d hx)
 obtain ⟨z, hz⟩ : ∃ z, (made23 d).zones[(followD (made23 d) ((made23 d).links.length + 1) [] x).1]? = some z := ⟨_, List.getElem?_eq_getElem h2⟩
 refine ⟨_, z, ?_, hz, rfl, h1⟩
 unfold zoneD
 rw [made23_acc d]
 dsimp only
 rw [h1]
theorem mn23 (d : DD23) : MnOk (made23 d) := mnOk_dr (made23_acc d) (made23_zones d)
def nobodyN : ByteArray := ⟨#[78, 111, 98, 111, 100, 121]⟩
theorem nobody_no : ∀ nz : Fin 4, ∀ nl : Fin 5, ∀ x ∈ draftN23 nz.val nl.val, x ≠ nobodyN := by decide +kernel
theorem nobody23 (d : DD23) : zoneD (made23 d) nobodyN = (0, 9) := by
 obtain ⟨z1, z3⟩ := zl23_len d.zones
 have hl : (d.links.take 4).length ≤ 4 := by rw [List.length_take]; omega
 have hn := nobody_no ⟨_, Nat.lt_succ_of_le z3⟩ ⟨_, Nat.lt_succ_of_le hl⟩
 refine zoneD_no (made23_acc d) (fun z hz => hn _ ?_) (fun l hl => hn _ ?_)
 ·exact draft23_mem d (.inl (List.mem_map.2 ⟨z, hz, rfl⟩))
 ·exact draft23_mem d (.inr (List.mem_map.2 ⟨l, hl, rfl⟩))
theorem n12_23 (d : DD23) : (made23 d).zones.length + (made23 d).links.length ≤ 12 := by
 have h1 := made23_nz d
 have h2 := made23_nl d
 obtain ⟨z1, z3⟩ := zl23_len d.zones
 omega
attribute [local irreducible] W RL Does thenQ blockQ retQ Calls Pu Stp RD Qy Ay DoesIn made17 era23 eras23 zones23 links23 rules23 dig fmt23
structure Pl (α : Type) where
 l : List α
 B : Option Addr
 c : Nat
structure RdLF {α : Type} (w : World) (A : Option Addr) (enc : α → List Value) (sz : Nat) (pl : List (Pl α)) : Prop where
 rd : ∀ k p, pl[k]? = some p → A ≠ none ∧ RdSl w p.B p.c enc sz p.l ∧ CellsAt w ((adr A).add (k * 1)) [.slice p.B p.l.length p.c]
theorem RdLF.up {α : Type} {w w' : World} {A : Option Addr} {enc : α → List Value} {sz : Nat} {pl : List (Pl α)} (h : RdLF w A enc sz pl) (hb : Bel w.heap.size w w') : RdLF w' A enc sz pl :=
 ⟨fun k p hk => ⟨(h.rd k p hk).1, (h.rd k p hk).2.1.up hb, (h.rd k p hk).2.2.up hb (Nat.le_refl _)⟩⟩
theorem RdLL.places {α : Type} {w : World} {A : Option Addr} {c : Nat} {enc : α → List Value} {sz : Nat} {ll : List (List α)} (h : RdLL w A c enc sz ll) : ∃ pl : List (Pl α), pl.map Pl.l = ll ∧ RdLF w A enc sz pl ∧ ∀ p ∈ pl, p.l.length ≤ p.c ∧ p.c ≤ maxLen := by
 have key : ∀ i : Fin ll.length, ∃ p : Pl α, p.l = ll[i] ∧ A ≠ none ∧ RdSl w p.B p.c enc sz p.l ∧ CellsAt w ((adr A).add (i.val * 1)) [.slice p.B p.l.length p.c] := fun i => by
  obtain ⟨h1, B, cb, h2, h3⟩ := h.rd i.val ll[i] (List.getElem?_eq_getElem i.isLt)
  exact ⟨⟨ll[i], B, cb⟩, rfl, h1, h2, h3⟩
 obtain ⟨f, hf⟩ := Classical.axiomOfChoice key
 have hget : ∀ k p, (List.ofFn f)[k]? = some p → ∃ hk : k < ll.length, p = f ⟨k, hk⟩ := fun k p hp => by
  have hk := (List.getElem?_eq_some_iff.1 hp).1
  rw [List.length_ofFn] at hk
  rw [List.getElem?_ofFn, dif_pos hk] at hp
  exact ⟨hk, (Option.some.inj hp).symm⟩
 refine ⟨List.ofFn f, ?_, ⟨fun k p hp => ?_⟩, fun p hp => ?_⟩
 ·apply List.ext_getElem
  ·simp
  ·intro k h1 h2
   simp [(hf ⟨k, h2⟩).1]
 ·obtain ⟨hk, rfl⟩ := hget k p hp
  exact (hf ⟨k, hk⟩).2
 ·obtain ⟨k, hk⟩ := List.getElem?_of_mem hp
  obtain ⟨hk1, rfl⟩ := hget k p hk
  exact ⟨(hf ⟨k, hk1⟩).2.2.1.le, (hf ⟨k, hk1⟩).2.2.1.cap⟩
structure R3 where
 k : Nat
 A : Option Addr
 c : Nat
 m : Nat
 xs : List Value
structure Z3 where
 k : Nat
 A : Option Addr
 c : Nat
 m : Nat
 xs : List Value
 Zr : List ZE
structure E3 where
 k : Nat
 y : Int
 A : Option Addr
 c : Nat
 m : Nat
 xs : List Value
theorem wkMade230 {G G' : Prop} (k : G') (h : Hold G' → G := by intro k9; (first | refine walk ?_ | (refine jn ?_; (try intro F); (first | (refine stA ?_) | (apply Stp_pu; exact PuA)); refine fin ?_)); exact k9.out) : G := h ⟨k⟩
theorem PuMade230 {G : Prop} (h : G := by (first | (apply Pu_indexAddr; rfl; rfl; omega; omega; exact hAn) | exact PuI)) : G := h
theorem QyMade230 {G : Prop} (h : G := by first | (apply Qy_y; rfl; exact PuMade230) | exact QyA) : G := h
theorem QFMade230 {G : Prop} (h : G := by repeat (first | exact QF.nil | (apply QF.mk; rfl; rfl; decide +kernel; exact QyMade230))) : G := h
theorem PuMade231 {G : Prop} (h : G := by (apply Pu_addS; rfl; rfl; (rw [dig_size _ (by omega) (by omega)]; decide))) : G := h
theorem QyMade231 {G : Prop} (h : G := by first | (apply Qy_y; rfl; exact PuMade231) | exact QyA) : G := h
theorem QFMade231 {G : Prop} (h : G := by repeat (first | exact QF.nil | (apply QF.mk; rfl; rfl; decide +kernel; exact QyMade231))) : G := h
theorem PuMade232 {G : Prop} (h : G := by (first | (apply Pu_minI; rfl; rfl) | (apply Pu_sliceH; rfl; rfl; (split <;> omega); (split <;> omega)))) : G := h
theorem QyMade232 {G : Prop} (h : G := by first | (apply Qy_y; rfl; exact PuMade232) | exact QyA) : G := h
theorem QFMade232 {G : Prop} (h : G := by repeat (first | exact QF.nil | (apply QF.mk; rfl; rfl; decide +kernel; exact QyMade232))) : G := h
theorem PuMade233 {G : Prop} (h : G := by (first | exact PuI | (apply Pu_addS; rfl; rfl; (rw [dig_size _ (by omega) (by omega)]; decide)))) : G := h
theorem QyMade233 {G : Prop} (h : G := by first | (apply Qy_y; rfl; exact PuMade233) | exact QyA) : G := h
theorem QFMade233 {G : Prop} (h : G := by repeat (first | exact QF.nil | (apply QF.mk; rfl; rfl; decide +kernel; exact QyMade233))) : G := h
theorem PuMade234 {G : Prop} (h : G := by (first | (apply Pu_indexAddrH; rfl; rfl; omega; omega; (intro w' hb hO; exact ((hX w' hb (hO.of (A := X) (by repeat' constructor))).rd k _ hpk).1)) | (apply Pu_load1 (v := .slice B l.length cb); rfl; (intro w' hb hO; exact ((hX w' hb (hO.of (A := X) (by repeat' constructor))).rd k _ hpk).2.2 0 _ rfl)) | (apply Pu_addS; rfl; rfl; (rw [dig_size _ (by omega) (by omega)]; decide)) | (apply Pu_minI; rfl; rfl) | (apply Pu_sliceH; rfl; rfl; (split <;> omega); (split <;> omega)))) : G := h
theorem QyMade234 {G : Prop} (h : G := by first | (apply Qy_y; rfl; exact PuMade234) | exact QyA) : G := h
theorem QFMade234 {G : Prop} (h : G := by repeat (first | exact QF.nil | (apply QF.mk; rfl; rfl; decide +kernel; exact QyMade234))) : G := h
theorem PuMade235 {G : Prop} (h : G := by (first | (apply Pu_indexAddrH; rfl; rfl; omega; omega; (intro w' hb hO; exact ((hX2 w' hb (hO.of (A := X) (by repeat' constructor)) (hO.of (A := X2) (by repeat' constructor))).rd j e hge).1)) | (apply Pu_loadN (cs := e.enc); rfl; rfl; (intro w' hb hO; exact ((hX2 w' hb (hO.of (A := X) (by repeat' constructor)) (hO.of (A := X2) (by repeat' constructor))).rd j e hge).2)))) : G := h
theorem QyMade235 {G : Prop} (h : G := by first | (apply Qy_y; rfl; exact PuMade235) | exact QyA) : G := h
theorem QFMade235 {G : Prop} (h : G := by repeat (first | exact QF.nil | (apply QF.mk; rfl; rfl; decide +kernel; exact QyMade235))) : G := h
set_option maxHeartbeats 8000000 in
theorem made23_spec (As Az Al : Option Addr) (cs cz cl : Nat) (d : DD23) (w : World) (hS : RdLL w As cs byEnc 1 d.sets) (hZ : RdLL w Az cz E23.enc 8 d.zones) (hL : RdSl w Al cl byEnc 1 d.links) (hrs : ∀ l ∈ d.sets, ∀ x ∈ l, inR .u8 x) (hrz : ∀ l ∈ d.zones, ∀ x ∈ l, x.ok) (hrl : ∀ x ∈ d.links, inR .u8 x) :
  Does Tryz.prog 15 [d23V As Az Al cs cz cl d] w (NewSrcR (made23 d)) := by
 have hs1 := hS.le
 have hs2 := hS.cap
 have hz1 := hZ.le
 have hz2 := hZ.cap
 have hl1 := hL.le
 have hl2 := hL.cap
 simp only [maxLen] at hs2 hz2 hl2
 have hns : 1 ≤ d.ns ∧ d.ns ≤ 3 := by unfold DD23.ns; omega
 refine Does_of_W Tryz.func15 rfl rfl rfl rfl ?_
 repeat (first | ((apply RL_pu; rfl; first | (apply Pu_minI; rfl; rfl) | (apply Pu_maxI; rfl; rfl))) | refine walkB ?_ | (refine jn ?_; (try intro F); (first | (refine bx ?_; intro bk) | (refine stA ?_) | (apply Stp_pu; exact PuA)); refine fin ?_) | (apply RD_W; rfl; intro bk))
 rename_i b1 b2
 generalize bk = b3
 rw [show (if (1 : Int) < (if (3 : Int) < d.sets.length then (3 : Int) else d.sets.length) then (if (3 : Int) < d.sets.length then (3 : Int) else d.sets.length) else 1) = (d.ns : Int) from by unfold DD23.ns; split <;> split <;> omega]
 refine W_nil 27 11 (W_nil 51 2 (W_nil 63 2 (W_nil 9 1 ?_)))
 refine W_post (fun fr' O' => ∃ A1 c1, Sub [(1, .pointer (some ⟨b1, 0, none⟩)), (2, .pointer (some ⟨b2, 0, none⟩)), (3, .pointer (some ⟨b3, 0, none⟩)), (4, .int .i64 d.ns)] fr' ∧ SubO [.blk b3 [.slice A1 (rules23 d.sets d.ns).length c1, .slice none 0 0, .slice none 0 0, .slice none 0 0] 45, rowR A1 c1 (rules23 d.sets d.ns), rowZ none 0 [], rowL none 0 [], rowS none 0 [], .blk b1 [.slice As d.sets.length cs, .slice Az d.zones.length cz, .slice Al d.links.length cl] 39, .blk b2 [.slice none 0 0, .slice none 0 0, .slice none 0 0, .slice none 0 0] 45] O') ?_ ?_
 ·apply W_block
  refine W_loopF [(23, .int .i64 d.ns), (1, .pointer (some ⟨b1, 0, none⟩)), (2, .pointer (some ⟨b2, 0, none⟩)), (3, .pointer (some ⟨b3, 0, none⟩)), (4, .int .i64 d.ns)] [rowZ none 0 [], rowL none 0 [], rowS none 0 [], .blk b1 [.slice As d.sets.length cs, .slice Az d.zones.length cz, .slice Al d.links.length cl] 39, .blk b2 [.slice none 0 0, .slice none 0 0, .slice none 0 0, .slice none 0 0] 45] (fun g : R3 => [(24, .int .i64 g.k)]) (fun g => [.blk b3 [.slice g.A g.m g.c, .slice none 0 0, .slice none 0 0, .slice none 0 0] 45, .row (.slice g.A g.m g.c) 27 11 g.m g.xs]) (fun g => g.k ≤ d.ns ∧ g.m = (rules23 d.sets g.k).length ∧ g.xs = (rules23 d.sets g.k).flatMap DRule.enc) (fun g => d.ns - g.k) ⟨0, none, 0, 0, []⟩ SFA SOA ⟨Nat.zero_le _, by simp [rules23], by simp [rules23]⟩ ?_
  rintro ⟨k, A0, c0, m0, x0⟩ ⟨hk, hm0, hx0⟩
  dsimp only at hk hm0 hx0 ⊢
  have hlen := rules23_len d.sets k
  repeat (first | refine wkMade230 ?_ | (refine jn ?_; (try intro F); (refine bx ?_; intro bk); refine fin ?_) | (apply RD_W; rfl; intro bk))
  refine W_cond rfl (fun h => ?_) (fun h => ?_)
  ·have hk2 : k < d.ns := by simpa using h
   have hlen2 := made17_le5 (d.sets.getD k []) (sR ++ dig k)
   repeat (first | refine wkMade230 ?_ | (refine jn ?_; (try intro F); (refine bx ?_; intro bk); refine fin ?_) | (apply RD_W; rfl; intro bk))
   refine W_post (fun fr' O' => ∃ B cb, RdSl w B cb byEnc 1 (d.sets.getD k []) ∧ (∀ x ∈ d.sets.getD k [], inR .u8 x) ∧ Sub [(6, .slice B (d.sets.getD k []).length cb), (5, .int .i64 k), (24, .int .i64 k), (23, .int .i64 d.ns), (1, .pointer (some ⟨b1, 0, none⟩)), (2, .pointer (some ⟨b2, 0, none⟩)), (3, .pointer (some ⟨b3, 0, none⟩)), (4, .int .i64 d.ns)] fr' ∧ SubO [.blk b3 [.slice A0 m0 c0, .slice none 0 0, .slice none 0 0, .slice none 0 0] 45, .row (.slice A0 m0 c0) 27 11 m0 x0, rowZ none 0 [], rowL none 0 [], rowS none 0 [], .blk b1 [.slice As d.sets.length cs, .slice Az d.zones.length cz, .slice Al d.links.length cl] 39, .blk b2 [.slice none 0 0, .slice none 0 0, .slice none 0 0, .slice none 0 0] 45] O') ?_ ?_
   ·refine W_cond rfl (fun h2 => ?_) (fun h2 => ?_)
    ·have hks : k < d.sets.length := by simpa using h2
     obtain ⟨hAn, B, cb, hB, hca⟩ := hS.rd k _ (List.getElem?_eq_getElem hks)
     have hrl2 := hrs _ (List.getElem_mem hks)
     have e : d.sets.getD k [] = d.sets[k] := by rw [List.getD_eq_getElem?_getD, List.getElem?_eq_getElem hks]; rfl
     rw [e]
     generalize d.sets[k] = l at *
     repeat (first | (apply RL_pu; rfl; exact PuMade230) | (apply RD_Q; rfl; rfl; decide +kernel; rfl; rfl; exact QyMade230) | refine walk1 ?_ | (refine jn ?_; (try intro F); (first | (refine bx ?_; intro bk) | (refine stA ?_) | (apply Stp_pu; first | exact PuMade230 | exact PuA)); first | refine ⟨_, EndsA, QFMade230, ?_⟩ | refine fin ?_) | (apply RD_W; rfl; intro bk))
     exact ⟨rfl, B, cb, hB, hrl2, SFA, SOA⟩
    ·have hks : ¬ k < d.sets.length := by simpa using h2
     have e : d.sets.getD k [] = [] := by rw [List.getD_eq_getElem?_getD, List.getElem?_eq_none (by omega)]; rfl
     rw [e]
     repeat (first | refine wkMade230 ?_ | (refine jn ?_; (try intro F); (refine bx ?_; intro bk); refine fin ?_) | (apply RD_W; rfl; intro bk))
     exact ⟨rfl, none, 0, nilRd _ _ _, fun x hx => by simp at hx, SFA, SOA⟩
   rintro fr' O' ⟨B, cb, hB, hrl2, hf, hO⟩
   apply thenQ_n
   refine W_sub hf hO ?_
   clear hf hO fr' O'
   have hstep : rules23 d.sets (k + 1) = rules23 d.sets k ++ made17 (d.sets.getD k []) (sR ++ dig k) := by rw [rules23]
   generalize d.sets.getD k [] = l at *
   repeat (first | (apply RL_pu; rfl; exact PuMade231) | (apply RD_Q; rfl; rfl; decide +kernel; rfl; rfl; exact QyMade231) | refine walk1 ?_ | (refine jg ?_; (try intro F); (first | (refine callE (fun w' _ => itoa_spec k (by omega) (by omega) w') ?_) | (apply Stp_call (h := fun w' hw _ => made17_spec B cb l (sR ++ dig k) w' (hB.up hw) hrl2); rfl; rintro v O' ⟨A1, c1, rfl, rfl⟩) | (apply Stp_append (t := 40); rfl; rfl; (intro A' c'; (focus repeat' constructor)); (intro w' _ hO; exact rowRaw (hO.of (A := .row (.slice A1 _ c1) _ _ _ _) (by repeat' constructor))); exact flat_len DRule.len _; exact all_flat oneR _; (simp only [maxLen]; omega); omega; intro A' c' hc1 hc2 hc3) | (refine bx ?_; intro bk) | (refine stA ?_)); first | refine ⟨_, EndsA, QFMade231, ?_⟩ | refine fin ?_) | (refine jn ?_; (try intro F); (first | (apply Stp_append (t := 40); rfl; rfl; (intro A' c'; (focus repeat' constructor)); (intro w' _ hO; exact rowRaw (hO.of (A := .row (.slice A1 _ c1) _ _ _ _) (by repeat' constructor))); exact flat_len DRule.len _; exact all_flat oneR _; (simp only [maxLen]; omega); omega; intro A' c' hc1 hc2 hc3) | (refine bx ?_; intro bk) | (refine stA ?_) | (apply Stp_pu; first | exact PuMade231 | exact PuA)); first | refine ⟨_, EndsA, QFMade231, ?_⟩ | refine fin ?_) | (apply RD_W; rfl; intro bk))
   exact ⟨⟨k + 1, A', c', m0 + (made17 l (sR ++ dig k)).length, x0 ++ (made17 l (sR ++ dig k)).flatMap DRule.enc⟩, OA, ⟨OA, by rw [hstep, List.length_append, hm0], by rw [hstep, List.flatMap_append, hx0]⟩, SFA, SOA⟩
  have hk2 : k = d.ns := by simp only [decide_eq_false_iff_not, Int.ofNat_lt] at h; omega
  subst hm0 hx0
  rw [hk2]
  repeat (first | refine wkMade230 ?_ | (refine jn ?_; (try intro F); (refine bx ?_; intro bk); refine fin ?_) | (apply RD_W; rfl; intro bk))
  exact ⟨rfl, A0, c0, SFA, SOA⟩
 rintro fr' O' ⟨A1, c1, hf, hO⟩
 apply thenQ_n
 refine W_sub hf hO ?_
 clear hf hO fr' O'
 have hRR := rules23_len d.sets d.ns
 unfold made23
 generalize rules23 d.sets d.ns = RR at *
 repeat (first | (apply RL_pu; rfl; exact PuMade232) | (apply RD_Q; rfl; rfl; decide +kernel; rfl; rfl; exact QyMade232) | refine walk1 ?_ | (refine jn ?_; (try intro F); (first | (refine bx ?_; intro bk) | (refine stA ?_) | (apply Stp_pu; first | exact PuMade232 | exact PuA)); first | refine ⟨_, EndsA, QFMade232, ?_⟩ | refine fin ?_) | (apply RD_W; rfl; intro bk))
 rw [show (if (3 : Int) < d.zones.length then (3 : Int) else d.zones.length).toNat = (d.zones.take 3).length from by rw [List.length_take]; split <;> omega]
 refine W_post (fun fr' O' => ∃ (X : It) (A : Option Addr) (c : Nat) (pl : List (Pl E23)), pl.map Pl.l = zl23 d.zones ∧ (∀ p ∈ pl, p.l.length ≤ p.c ∧ p.c ≤ maxLen) ∧ (∀ w', Bel w.heap.size w w' → X.sat w' → RdLF w' A E23.enc 8 pl) ∧ Sub [(7, .slice A (zl23 d.zones).length c), (1, .pointer (some ⟨b1, 0, none⟩)), (2, .pointer (some ⟨b2, 0, none⟩)), (3, .pointer (some ⟨b3, 0, none⟩)), (4, .int .i64 d.ns)] fr' ∧ SubO (X :: .blk b3 [.slice A1 RR.length c1, .slice none 0 0, .slice none 0 0, .slice none 0 0] 45 :: rowZ none 0 [] :: rowR A1 c1 RR :: rowL none 0 [] :: rowS none 0 [] :: .blk b1 [.slice As d.sets.length cs, .slice Az d.zones.length cz, .slice Al d.links.length cl] 39 :: .blk b2 [.slice none 0 0, .slice none 0 0, .slice none 0 0, .slice none 0 0] 45 :: []) O') ?_ ?_
 ·refine W_cond rfl (fun h => ?_) (fun h => ?_)
  ·have h0 : d.zones.length = 0 := by
    have := of_decide_eq_true h
    rw [List.length_take] at this
    omega
   rw [show zl23 d.zones = [[]] from if_pos h0]
   repeat (first | refine wkMade230 ?_ | (refine jn ?_; (try intro F); (refine bx ?_; intro bk); refine fin ?_) | (apply RD_W; rfl; intro bk))
   exact ⟨rfl, .blk bk [.slice none 0 0] _, some ⟨bk, 0, none⟩, 1, [⟨[], none, 0⟩], rfl, fun p hp => by rw [List.mem_singleton.1 hp]; exact ⟨Nat.le_refl 0, Nat.zero_le _⟩, fun w' _ hX => ⟨fun k p hk => by
    cases k with
    | zero =>
     simp only [List.getElem?_cons_zero, Option.some.injEq] at hk
     subst hk
     exact ⟨by simp, nilRd _ _ _, fun j v hj => by rw [add_of_add, Nat.zero_mul, Nat.zero_add]; exact (blkRaw hX _ v hj).2⟩
    | succ k => simp at hk⟩, SFA, SOA⟩
  ·have h0 : d.zones.length ≠ 0 := by
    have := of_decide_eq_false h
    rw [List.length_take] at this
    omega
   rw [show zl23 d.zones = d.zones.take 3 from if_neg h0]
   obtain ⟨pl, p1, p2, p3⟩ := (hZ.take 3).places
   refine W_toFact [] _ (fun _ => True) (.refl _) (fun _ _ => trivial) ?_
   repeat (first | refine wkMade230 ?_ | (refine jn ?_; (try intro F); (refine bx ?_; intro bk); refine fin ?_) | (apply RD_W; rfl; intro bk))
   exact ⟨rfl, .fact (foot []) (fun _ => True), Az, cz, pl, p1, p3, fun w' hb _ => p2.up hb, SFA, SOA⟩
 rintro fr' O' ⟨X, Az', cz', pl, hpl, hpb, hX, hf, hO⟩
 apply thenQ_n
 refine W_sub hf hO ?_
 clear hf hO fr' O'
 obtain ⟨zb1, zb2⟩ := zl23_len d.zones
 have hzok : ∀ l ∈ zl23 d.zones, ∀ x ∈ l, x.ok := by
  intro l hl x hx
  unfold zl23 at hl
  split at hl
  ·rw [List.mem_singleton.1 hl] at hx; simp at hx
  ·exact hrz l (List.mem_of_mem_take hl) x hx
 generalize hZL : zl23 d.zones = ZL at *
 repeat (first | refine walkB ?_ | (refine jn ?_; (try intro F); (first | (refine bx ?_; intro bk) | (refine stA ?_) | (apply Stp_pu; exact PuA)); refine fin ?_) | (apply RD_W; rfl; intro bk))
 refine W_post (fun fr' O' => ∃ (A : Option Addr) (cc m : Nat) (xs : List Value) (Zr : List ZE), (m = Zr.length ∧ xs = Zr.reverse.flatMap ZE.enc ∧ Zr.reverse.map ZE.z = zones23 d.ns ZL ZL.length) ∧ Sub [(7, .slice Az' ZL.length cz'), (1, .pointer (some ⟨b1, 0, none⟩)), (2, .pointer (some ⟨b2, 0, none⟩)), (3, .pointer (some ⟨b3, 0, none⟩)), (4, .int .i64 d.ns)] fr' ∧ SubO (.blk b3 [.slice A1 RR.length c1, .slice A m cc, .slice none 0 0, .slice none 0 0] 45 :: .row (.slice A m cc) 51 2 m xs :: X :: rowR A1 c1 RR :: rowL none 0 [] :: rowS none 0 [] :: .blk b1 [.slice As d.sets.length cs, .slice Az d.zones.length cz, .slice Al d.links.length cl] 39 :: .blk b2 [.slice none 0 0, .slice none 0 0, .slice none 0 0, .slice none 0 0] 45 :: Zr.map eraRow) O') ?_ ?_
 rotate_left
 ·rintro fr' O' ⟨A2, c2, m2, x2, Zr, ⟨hm, hx, hzz⟩, hf, hO⟩
  replace hO := SubO.permT (l := [_, _, _, _, _, _, _, _]) hO ((List.reverse_perm Zr).symm.map eraRow)
  apply thenQ_n
  refine W_sub hf hO ?_
  clear hf hO fr' O'
  rw [← List.length_reverse] at hm
  generalize Zr.reverse = Zs at *
  have hzl := zones23_len d.ns ZL ZL.length
  generalize zones23 d.ns ZL ZL.length = ZS at *
  have hZl : Zs.length = ZL.length := by rw [← hzl, ← hzz, List.length_map]
  subst hm hx
  repeat (first | (apply RL_pu; rfl; exact PuMade232) | (apply RD_Q; rfl; rfl; decide +kernel; rfl; rfl; exact QyMade232) | refine walk1 ?_ | (refine jn ?_; (try intro F); (first | (refine bx ?_; intro bk) | (refine stA ?_) | (apply Stp_pu; first | exact PuMade232 | exact PuA)); first | refine ⟨_, EndsA, QFMade232, ?_⟩ | refine fin ?_) | (apply RD_W; rfl; intro bk))
  rw [show (if (4 : Int) < d.links.length then (4 : Int) else d.links.length).toNat = (d.links.take 4).length from by rw [List.length_take]; split <;> omega]
  have hL4 := hL.take 4
  have hr4 : ∀ x ∈ d.links.take 4, inR .u8 x := fun x hx => hrl x (List.mem_of_mem_take hx)
  have hl4 : (d.links.take 4).length ≤ 4 := by rw [List.length_take]; omega
  generalize d.links.take 4 = LL at *
  refine W_loopF [(7, .slice Az' ZL.length cz'), (123, .slice Al LL.length cl), (124, .int .i64 LL.length), (1, .pointer (some ⟨b1, 0, none⟩)), (2, .pointer (some ⟨b2, 0, none⟩)), (3, .pointer (some ⟨b3, 0, none⟩)), (4, .int .i64 d.ns)] (.row (.slice A2 Zs.length c2) 51 2 Zs.length (Zs.flatMap ZE.enc) :: X :: rowR A1 c1 RR :: rowS none 0 [] :: .blk b1 [.slice As d.sets.length cs, .slice Az d.zones.length cz, .slice Al d.links.length cl] 39 :: .blk b2 [.slice none 0 0, .slice none 0 0, .slice none 0 0, .slice none 0 0] 45 :: Zs.map eraRow) (fun g : R3 => [(125, .int .i64 g.k)]) (fun g => [.blk b3 [.slice A1 RR.length c1, .slice A2 Zs.length c2, .slice g.A g.m g.c, .slice none 0 0] 45, .row (.slice g.A g.m g.c) 63 2 g.m g.xs]) (fun g => g.k ≤ LL.length ∧ g.m = (links23 ZL.length LL g.k).length ∧ g.xs = (links23 ZL.length LL g.k).flatMap DLink.enc) (fun g => LL.length - g.k) ⟨0, none, 0, 0, []⟩ SFA STA ⟨Nat.zero_le _, by simp [links23], by simp [links23]⟩ ?_
  rintro ⟨k, A3, c3, m3, x3⟩ ⟨hk, hm3, hx3⟩
  dsimp only at hk hm3 hx3 ⊢
  have hll := links23_len ZL.length LL k
  rw [hll] at hm3
  repeat (first | refine wkMade230 ?_ | (refine jn ?_; (try intro F); (refine bx ?_; intro bk); refine fin ?_) | (apply RD_W; rfl; intro bk))
  refine W_cond rfl (fun h => ?_) (fun h => ?_)
  ·have hk2 : k < LL.length := by simpa using h
   obtain ⟨hna, hca⟩ := hL4.rd _ _ (List.getElem?_eq_getElem hk2)
   have hv := hr4 _ (List.getElem_mem hk2)
   have hstp : links23 ZL.length LL (k + 1) = links23 ZL.length LL k ++ [link23 ZL.length LL[k] k] := by
    rw [links23, List.getD_eq_getElem?_getD, List.getElem?_eq_getElem hk2]
    rfl
   rw [inR_u8] at hv
   generalize LL[k] = v at *
   have g1 := Int.emod_nonneg v (b := (ZL.length : Int)) (by omega)
   have g2 := Int.emod_lt_of_pos v (b := (ZL.length : Int)) (by omega)
   have g3 := Int.emod_nonneg v (b := (ZL.length : Int) + k) (by omega)
   have g4 := Int.emod_lt_of_pos v (b := (ZL.length : Int) + k) (by omega)
   repeat (first | (apply RL_pu; rfl; exact PuMade233) | (apply RD_Q; rfl; rfl; decide +kernel; rfl; rfl; exact QyMade233) | refine walk1 ?_ | (refine jg ?_; (try intro F); (first | (refine callE (fun w' _ => itoa_spec (v % (ZL.length : Int)) (by omega) (by omega) w') ?_) | (refine bx ?_; intro bk) | (refine stA ?_)); first | refine ⟨_, EndsA, QFMade233, ?_⟩ | refine fin ?_) | (refine jn ?_; (try intro F); (first | (refine bx ?_; intro bk) | (refine stA ?_) | (apply Stp_pu; first | exact PuMade233 | exact PuA)); first | refine ⟨_, EndsA, QFMade233, ?_⟩ | refine fin ?_) | (apply RD_W; rfl; intro bk))
   refine W_cond rfl (fun h2 => ?_) (fun h2 => ?_)
   ·have h2' := of_decide_eq_true h2
    have e : link23 ZL.length v k = ⟨sL ++ dig (v % ((ZL.length : Int) + k) - ZL.length), sL ++ dig k⟩ := by rw [link23, if_pos h2']
    rw [e] at hstp
    repeat (first | (apply RL_pu; rfl; exact PuMade231) | (apply RD_Q; rfl; rfl; decide +kernel; rfl; rfl; exact QyMade231) | refine walk1 ?_ | (refine jg ?_; (try intro F); (first | (refine callE (fun w' _ => itoa_spec (v % ((ZL.length : Int) + k) - ZL.length) (by omega) (by omega) w') ?_) | (refine callE (fun w' _ => itoa_spec k (by omega) (by omega) w') ?_) | (apply Stp_append (t := 42); rfl; rfl; (intro A' c'; (focus repeat' constructor)); (intro w' _ hO; exact blkRaw (hO.of (by repeat' constructor))); rfl; rfl; (simp only [maxLen]; omega); omega; intro A' c' hc1 hc2 hc3) | (refine bx ?_; intro bk) | (refine stA ?_)); first | refine ⟨_, EndsA, QFMade231, ?_⟩ | refine fin ?_) | (refine jn ?_; (try intro F); (first | (apply Stp_append (t := 42); rfl; rfl; (intro A' c'; (focus repeat' constructor)); (intro w' _ hO; exact blkRaw (hO.of (by repeat' constructor))); rfl; rfl; (simp only [maxLen]; omega); omega; intro A' c' hc1 hc2 hc3) | (refine bx ?_; intro bk) | (refine stA ?_) | (apply Stp_pu; first | exact PuMade231 | exact PuA)); first | refine ⟨_, EndsA, QFMade231, ?_⟩ | refine fin ?_) | (apply RD_W; rfl; intro bk))
    exact ⟨⟨k + 1, A', c', m3 + 1, x3 ++ (⟨sL ++ dig (v % ((ZL.length : Int) + k) - ZL.length), sL ++ dig k⟩ : DLink).enc⟩, OA, ⟨OA, by rw [hstp, List.length_append, hll, hm3]; rfl, by rw [hstp, List.flatMap_append, hx3]; rfl⟩, SFA, STA⟩
   have h2' := of_decide_eq_false h2
   have e : link23 ZL.length v k = ⟨sZ ++ dig (v % (ZL.length : Int)), sL ++ dig k⟩ := by rw [link23, if_neg h2']
   rw [e] at hstp
   repeat (first | (apply RL_pu; rfl; exact PuMade231) | (apply RD_Q; rfl; rfl; decide +kernel; rfl; rfl; exact QyMade231) | refine walk1 ?_ | (refine jg ?_; (try intro F); (first | (refine callE (fun w' _ => itoa_spec k (by omega) (by omega) w') ?_) | (apply Stp_append (t := 42); rfl; rfl; (intro A' c'; (focus repeat' constructor)); (intro w' _ hO; exact blkRaw (hO.of (by repeat' constructor))); rfl; rfl; (simp only [maxLen]; omega); omega; intro A' c' hc1 hc2 hc3) | (refine bx ?_; intro bk) | (refine stA ?_)); first | refine ⟨_, EndsA, QFMade231, ?_⟩ | refine fin ?_) | (refine jn ?_; (try intro F); (first | (apply Stp_append (t := 42); rfl; rfl; (intro A' c'; (focus repeat' constructor)); (intro w' _ hO; exact blkRaw (hO.of (by repeat' constructor))); rfl; rfl; (simp only [maxLen]; omega); omega; intro A' c' hc1 hc2 hc3) | (refine bx ?_; intro bk) | (refine stA ?_) | (apply Stp_pu; first | exact PuMade231 | exact PuA)); first | refine ⟨_, EndsA, QFMade231, ?_⟩ | refine fin ?_) | (apply RD_W; rfl; intro bk))
   exact ⟨⟨k + 1, A', c', m3 + 1, x3 ++ (⟨sZ ++ dig (v % (ZL.length : Int)), sL ++ dig k⟩ : DLink).enc⟩, OA, ⟨OA, by rw [hstp, List.length_append, hll, hm3]; rfl, by rw [hstp, List.flatMap_append, hx3]; rfl⟩, SFA, STA⟩
  have hkl : k = LL.length := by simp only [decide_eq_false_iff_not, Int.ofNat_lt] at h; omega
  rw [← hkl]
  rw [← hll] at hm3
  generalize links23 ZL.length LL k = ls at *
  subst hm3 hx3
  repeat (first | refine wkMade230 ?_ | (refine jn ?_; (try intro F); (refine bx ?_; intro bk); refine fin ?_) | (apply RD_W; rfl; intro bk))
  exact ret_1 (.agg #[.slice A1 RR.length c1, .slice A2 Zs.length c2, .slice A3 ls.length c3, .slice none 0 0]) (rowR A1 c1 RR :: rowZ A2 c2 Zs :: rowL A3 c3 ls :: rowS none 0 [] :: Zs.map eraRow) (.cellB rfl (by repeat' constructor) rfl rfl) STA ⟨A1, c1, A2, c2, A3, c3, none, 0, Zs, by simp [srcV, ← hzz], hzz, rfl⟩
 apply W_block
 refine W_loop (fun g : Z3 => [(60, .int .i64 g.k), (58, .slice Az' ZL.length cz'), (59, .int .i64 ZL.length), (7, .slice Az' ZL.length cz'), (1, .pointer (some ⟨b1, 0, none⟩)), (2, .pointer (some ⟨b2, 0, none⟩)), (3, .pointer (some ⟨b3, 0, none⟩)), (4, .int .i64 d.ns)]) (fun g => .blk b3 [.slice A1 RR.length c1, .slice g.A g.m g.c, .slice none 0 0, .slice none 0 0] 45 :: .row (.slice g.A g.m g.c) 51 2 g.m g.xs :: X :: rowR A1 c1 RR :: rowL none 0 [] :: rowS none 0 [] :: .blk b1 [.slice As d.sets.length cs, .slice Az d.zones.length cz, .slice Al d.links.length cl] 39 :: .blk b2 [.slice none 0 0, .slice none 0 0, .slice none 0 0, .slice none 0 0] 45 :: g.Zr.map eraRow)
  (fun g => g.k ≤ ZL.length ∧ g.m = g.Zr.length ∧ g.xs = g.Zr.reverse.flatMap ZE.enc ∧ g.Zr.reverse.map ZE.z = zones23 d.ns ZL g.k) (fun g => ZL.length - g.k) ⟨0, none, 0, 0, [], []⟩ SFA SOA ⟨Nat.zero_le _, rfl, rfl, by simp [zones23]⟩ ?_
 rintro ⟨k, A2, c2, m2, x2, Zr⟩ ⟨hk, hm, hx, hzz⟩
 dsimp only at hk hm hx hzz ⊢
 have hzl := zones23_len d.ns ZL k
 have hZl : Zr.length = k := by rw [← hzl, ← hzz, List.length_map, List.length_reverse]
 repeat (first | refine wkMade230 ?_ | (refine jn ?_; (try intro F); (refine bx ?_; intro bk); refine fin ?_) | (apply RD_W; rfl; intro bk))
 refine W_cond rfl (fun h => ?_) (fun h => ?_)
 ·have hk2 : k < ZL.length := by simpa using h
  have hkp : k < pl.length := by rw [← hpl, List.length_map] at hk2; exact hk2
  have hpk : pl[k]? = some pl[k] := List.getElem?_eq_getElem hkp
  have hpm : pl[k] ∈ pl := List.getElem_mem hkp
  obtain ⟨pb1, pb2⟩ := hpb _ hpm
  have hlm : pl[k].l ∈ ZL := by rw [← hpl]; exact List.mem_map.2 ⟨_, hpm, rfl⟩
  have hok := hzok _ hlm
  have hstz : zones23 d.ns ZL (k + 1) = zones23 d.ns ZL k ++ [zone23 d.ns k pl[k].l] := by
   rw [zones23, List.getD_eq_getElem?_getD, ← hpl, List.getElem?_map, hpk]
   rfl
  generalize pl[k] = p at *
  obtain ⟨l, B, cb⟩ := p
  dsimp only at *
  simp only [maxLen] at pb2
  generalize hT : Zr.map eraRow = T
  repeat (first | (apply RL_pu; rfl; exact PuMade234) | (apply RD_Q; rfl; rfl; decide +kernel; rfl; rfl; exact QyMade234) | refine walk1 ?_ | (refine jg ?_; (try intro F); (first | (refine callE (fun w' _ => itoa_spec k (by omega) (by omega) w') ?_) | (refine bx ?_; intro bk) | (refine stA ?_)); first | refine ⟨_, EndsA, QFMade234, ?_⟩ | refine fin ?_) | (refine jn ?_; (try intro F); (first | (refine bx ?_; intro bk) | (refine stA ?_) | (apply Stp_pu; first | exact PuMade234 | exact PuA)); first | refine ⟨_, EndsA, QFMade234, ?_⟩ | refine fin ?_) | (apply RD_W; rfl; intro bk))
  rw [show (if (4 : Int) < l.length then (4 : Int) else l.length).toNat = (l.take 4).length from by rw [List.length_take]; split <;> omega]
  generalize bk = b10
  refine W_post (fun fr' O' => ∃ (X2 : It) (B2 : Option Addr) (c4 : Nat), (el23 l).length ≤ c4 ∧ (∀ w', Bel w.heap.size w w' → X.sat w' → X2.sat w' → RdSl w' B2 c4 E23.enc 8 (el23 l)) ∧ Sub [(9, .slice B2 (el23 l).length c4), (8, .int .i64 k), (10, .pointer (some ⟨b10, 0, none⟩)), (60, .int .i64 k), (58, .slice Az' ZL.length cz'), (59, .int .i64 ZL.length), (7, .slice Az' ZL.length cz'), (1, .pointer (some ⟨b1, 0, none⟩)), (2, .pointer (some ⟨b2, 0, none⟩)), (3, .pointer (some ⟨b3, 0, none⟩)), (4, .int .i64 d.ns)] fr' ∧ SubO (.blk b10 [.string (sZ ++ dig k), .slice none 0 0] 51 :: X2 :: .blk b3 [.slice A1 RR.length c1, .slice A2 m2 c2, .slice none 0 0, .slice none 0 0] 45 :: .row (.slice A2 m2 c2) 51 2 m2 x2 :: X :: rowR A1 c1 RR :: rowL none 0 [] :: rowS none 0 [] :: .blk b1 [.slice As d.sets.length cs, .slice Az d.zones.length cz, .slice Al d.links.length cl] 39 :: .blk b2 [.slice none 0 0, .slice none 0 0, .slice none 0 0, .slice none 0 0] 45 :: T) O') ?_ ?_
  ·refine W_cond rfl (fun h2 => ?_) (fun h2 => ?_)
   ·have h0 : l.length = 0 := by
     have := of_decide_eq_true h2
     rw [List.length_take] at this
     omega
    rw [show el23 l = [e23Z] from if_pos h0]
    repeat (first | refine wkMade230 ?_ | (refine jn ?_; (try intro F); (refine bx ?_; intro bk); refine fin ?_) | (apply RD_W; rfl; intro bk))
    exact ⟨rfl, .blk bk e23Z.enc _, some ⟨bk, 0, none⟩, 1, Nat.le_refl 1, fun w' _ _ hX2 => litRd (c := 1) (l := [e23Z]) E23.len (Nat.le_refl 1) (by decide) hX2, SFA, STA⟩
   ·have h0 : l.length ≠ 0 := by
     have := of_decide_eq_false h2
     rw [List.length_take] at this
     omega
    rw [show el23 l = l.take 4 from if_neg h0]
    refine W_toFact [] _ (fun _ => True) (.refl _) (fun _ _ => trivial) ?_
    repeat (first | refine wkMade230 ?_ | (refine jn ?_; (try intro F); (refine bx ?_; intro bk); refine fin ?_) | (apply RD_W; rfl; intro bk))
    exact ⟨rfl, .fact (foot []) (fun _ => True), B, cb, by rw [List.length_take]; omega, fun w' hb hx1 _ => ((hX w' hb hx1).rd k _ hpk).2.1.take 4, SFA, STA⟩
  rintro fr' O' ⟨X2, B2, c4, hc4, hX2, hf, hO⟩
  apply thenQ_n
  refine W_sub hf hO ?_
  clear hf hO fr' O'
  obtain ⟨eb1, eb2⟩ := el23_len l
  have heok : ∀ e ∈ el23 l, e.ok := by
   intro e he
   unfold el23 at he
   split at he
   ·rw [List.mem_singleton.1 he]; refine ⟨?_, ?_, ?_, ?_, ?_, ?_, ?_, ?_⟩ <;> first | exact inR_u8.2 ⟨by decide, by decide⟩ | exact inR_i8.2 ⟨by decide, by decide⟩
   ·exact hok e (List.mem_of_mem_take he)
  rw [zone23] at hstz
  generalize el23 l = EL at *
  repeat (first | refine wkMade230 ?_ | (refine jn ?_; (try intro F); (refine bx ?_; intro bk); refine fin ?_) | (apply RD_W; rfl; intro bk))
  refine W_nil 55 13 ?_
  refine W_loopF [(9, .slice B2 EL.length c4), (8, .int .i64 k), (10, .pointer (some ⟨b10, 0, none⟩)), (60, .int .i64 k), (79, .slice B2 EL.length c4), (80, .int .i64 EL.length), (58, .slice Az' ZL.length cz'), (59, .int .i64 ZL.length), (7, .slice Az' ZL.length cz'), (1, .pointer (some ⟨b1, 0, none⟩)), (2, .pointer (some ⟨b2, 0, none⟩)), (3, .pointer (some ⟨b3, 0, none⟩)), (4, .int .i64 d.ns)] (X2 :: .blk b3 [.slice A1 RR.length c1, .slice A2 m2 c2, .slice none 0 0, .slice none 0 0] 45 :: .row (.slice A2 m2 c2) 51 2 m2 x2 :: X :: rowR A1 c1 RR :: rowL none 0 [] :: rowS none 0 [] :: .blk b1 [.slice As d.sets.length cs, .slice Az d.zones.length cz, .slice Al d.links.length cl] 39 :: .blk b2 [.slice none 0 0, .slice none 0 0, .slice none 0 0, .slice none 0 0] 45 :: T) (fun g : E3 => [(81, .int .i64 g.k), (11, .int .i64 g.y)]) (fun g => [.blk b10 [.string (sZ ++ dig k), .slice g.A g.m g.c] 51, .row (.slice g.A g.m g.c) 55 13 g.m g.xs])
   (fun g => g.k ≤ EL.length ∧ g.y = (eras23 d.ns EL g.k).2 ∧ g.m = (eras23 d.ns EL g.k).1.length ∧ g.xs = (eras23 d.ns EL g.k).1.flatMap DEra.enc) (fun g => EL.length - g.k) ⟨0, 1904, none, 0, 0, []⟩ SFA STA ⟨Nat.zero_le _, by simp [eras23], by simp [eras23], by simp [eras23]⟩ ?_
  rintro ⟨j, y, A3, c3, m3, x3⟩ ⟨hj, hy, hm3, hx3⟩
  dsimp only at hj hy hm3 hx3 ⊢
  have hel := eras23_len d.ns EL j
  obtain ⟨y1, y2⟩ := eras23_year d.ns EL heok j
  rw [← hy] at y1 y2
  have hm4 : m3 = j := by rw [hm3, hel]
  repeat (first | refine wkMade230 ?_ | (refine jn ?_; (try intro F); (refine bx ?_; intro bk); refine fin ?_) | (apply RD_W; rfl; intro bk))
  refine W_cond rfl (fun h => ?_) (fun h => ?_)
  ·have hj2 : j < EL.length := by simpa using h
   have hge : EL[j]? = some EL[j] := List.getElem?_eq_getElem hj2
   have heo := heok _ (List.getElem_mem hj2)
   have hst : eras23 d.ns EL (j + 1) = ((eras23 d.ns EL j).1 ++ [era23 EL[j] (decide ((j : Int) = 0)) d.ns (y + (1 + EL[j].years % 30)) (decide ((j : Int) < (EL.length : Int) - 1))], y + (1 + EL[j].years % 30)) := by
    rw [eras23, List.getD_eq_getElem?_getD, hge, ← hy]
    rfl
   generalize EL[j] = e at *
   obtain ⟨k1, k2, k3, k4, k5, k6, k7, k8⟩ := id heo
   rw [inR_u8] at k4
   repeat (first | (apply RL_pu; rfl; exact PuMade235) | (apply RD_Q; rfl; rfl; decide +kernel; rfl; rfl; exact QyMade235) | refine walk1 ?_ | (refine jg ?_; (try intro F); (first | (refine callE (fun w' _ => era23_spec e heo (decide ((j : Int) = 0)) d.ns (y + (1 + e.years % 30)) (decide ((j : Int) < (EL.length : Int) - 1)) (by omega) (by omega) w') ?_) | (apply Stp_append (t := 49); rfl; rfl; (intro A' c'; (focus repeat' constructor)); (intro w' _ hO; exact blkRaw (hO.of (by repeat' constructor))); rfl; rfl; (simp only [maxLen]; omega); omega; intro A' c' hc1 hc2 hc3) | (refine bx ?_; intro bk) | (refine stA ?_)); first | refine ⟨_, EndsA, QFMade235, ?_⟩ | refine fin ?_) | (refine jn ?_; (try intro F); (first | (apply Stp_append (t := 49); rfl; rfl; (intro A' c'; (focus repeat' constructor)); (intro w' _ hO; exact blkRaw (hO.of (by repeat' constructor))); rfl; rfl; (simp only [maxLen]; omega); omega; intro A' c' hc1 hc2 hc3) | (refine bx ?_; intro bk) | (refine stA ?_) | (apply Stp_pu; first | exact PuMade235 | exact PuA)); first | refine ⟨_, EndsA, QFMade235, ?_⟩ | refine fin ?_) | (apply RD_W; rfl; intro bk))
   exact ⟨⟨j + 1, y + (1 + e.years % 30), A', c', m3 + 1, x3 ++ (era23 e (decide ((j : Int) = 0)) d.ns (y + (1 + e.years % 30)) (decide ((j : Int) < (EL.length : Int) - 1))).enc⟩, OA, ⟨OA, by rw [hst], by rw [hst, List.length_append, ← hm3]; rfl, by rw [hst, List.flatMap_append, hx3]; simp⟩, SFA, STA⟩
  have hjl : j = EL.length := by simp only [decide_eq_false_iff_not, Int.ofNat_lt] at h; omega
  rw [← hjl] at hstz
  generalize (eras23 d.ns EL j).1 = es at *
  subst hm3 hx3
  repeat (first | refine walk ?_ | (refine jn ?_; (try intro F); (first | (apply Stp_append (t := 41); rfl; rfl; (intro A' c'; (focus repeat' constructor)); (intro w' _ hO; exact blkRaw (hO.of (by repeat' constructor))); rfl; rfl; (simp only [maxLen]; omega); omega; intro A' c' hc1 hc2 hc3) | (refine bx ?_; intro bk) | (refine stA ?_) | (apply Stp_pu; exact PuA)); refine fin ?_) | (apply RD_W; rfl; intro bk))
  subst hT
  exact ⟨⟨k + 1, A', c', m2 + 1, x2 ++ ZE.enc ⟨⟨sZ ++ dig k, es⟩, A3, c3⟩, ⟨⟨sZ ++ dig k, es⟩, A3, c3⟩ :: Zr⟩, OA, ⟨OA, by simp [hm], by simp [hx], by rw [hstz, ← hzz]; simp⟩, SFA, STA⟩
 have hkz : k = ZL.length := by simp only [decide_eq_false_iff_not, Int.ofNat_lt] at h; omega
 rw [hkz] at hzz
 repeat (first | refine wkMade230 ?_ | (refine jn ?_; (try intro F); (refine bx ?_; intro bk); refine fin ?_) | (apply RD_W; rfl; intro bk))
 exact ⟨rfl, A2, c2, m2, x2, Zr, ⟨hm, hx, hzz⟩, SFA, STA⟩
end Go.Proofs.YtonjepladadmhaaGreatDoor
namespace Go.Proofs.YtonjepladadmhaaGreatDoor
open Go Go.RowKit Go.Wk
attribute [local irreducible] W RL Does thenQ blockQ retQ Calls Pu Stp RD Qy Ay DoesIn made23
theorem Pu_castY {P : Program} {n : Nat} {wr : World} {fr : Fr} {O : List It} {op : Op} {ty : TypeId} {v v' : Value} (h : Pu P n wr fr O op ty v) (e : v = v') : Pu P n wr fr O op ty v' := e ▸ h
theorem ze_at26 {Zs : List ZE} {zs : List DZone} (h : Zs.map ZE.z = zs) {j : Nat} {z : DZone} (hg : zs[j]? = some z) : ∃ q, Zs[j]? = some q ∧ q.z = z := by
 subst h
 rw [List.getElem?_map] at hg
 cases hq : Zs[j]? with
 | none => rw [hq] at hg; cases hg
 | some q =>
  rw [hq] at hg
  exact ⟨q, rfl, Option.some.inj hg⟩
theorem emod_nat (k : Int) (n : Nat) (hn : 0 < n) : ∃ m : Nat, (m : Int) = k % max (n : Int) 1 ∧ m < n := by
 have h := Int.emod_nonneg k (b := (n : Int)) (by omega)
 have h2 := Int.emod_lt_of_pos k (b := (n : Int)) (by omega)
 rw [show max (n : Int) 1 = n by omega]
 exact ⟨(k % n).toNat, by omega, by omega⟩
theorem local26l_spec (e : DEra) (x : Int × ByteArray) (w : World) (hL : LibW w) (hf : e.format.size ≤ 1000000000) (hx : DrSt e x) (ho : -1000000 ≤ e.off ∧ e.off ≤ 1000000) (hab : abE e x = 0) :
  Does Tryz.prog 33 [.agg e.enc.toArray, stV x] w (fun v O => v = .tuple #[.agg (localD e x).enc.toArray, .bool true] ∧ O = []) := by
 have hb := hx.2.1
 have hfa := fun w' (hw : Bel w.heap.size w w') => fabbr_spec e.format x.2 e.off x.1 w' (hL.up hw) hf (letter_sz hx.2.2) (by unfold I64; omega) (by unfold I64; omega)
 unfold abE at hab
 unfold xpV at hfa
 rw [hab] at hfa
 unfold localD
 change ∀ w', Bel w.heap.size w w' → Does _ _ _ w' (fun v O => v = .tuple #[.string (abbrE e x.1 x.2), .int .i64 0] ∧ O = []) at hfa
 clear hab hx
 generalize abbrE e x.1 x.2 = ab at *
 obtain ⟨xs, xl⟩ := x
 obtain ⟨off, kd, esv, sset, fm, ⟨ui, uy, um, ⟨ud1, ud2, ud3⟩, ⟨uc1, uc2⟩⟩⟩ := e
 dsimp only at hb ho hfa ⊢
 simp only [DLocal.enc]
 show Does _ _ [.agg #[.int .i64 off, .int .i64 kd, .int .i64 esv, .string sset, .string fm, .bool ui, .int .i64 uy, .int .i64 um, .int .i64 ud1, .int .i64 ud2, .int .i64 ud3, .int .i64 uc1, .int .i64 uc2], .agg #[.int .i64 xs, .string xl]] w _
 refine Does_of_W Tryz.func33 rfl rfl rfl rfl ?_
 repeat (first | (refine js ?_; (first | (refine callE hfa ?_) | (refine bx ?_; intro bk))) | refine walk ?_)
 exact rtC
end Go.Proofs.YtonjepladadmhaaGreatDoor
