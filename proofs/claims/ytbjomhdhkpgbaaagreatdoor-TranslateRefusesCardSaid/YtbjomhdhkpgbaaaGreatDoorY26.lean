/- Parts of the proof. -/
import Derived.Test.YtbjomhdhkpgbaaaGreatDoorY24
import Derived.Test.YtbjomhdhkpgbaaaGreatDoorY09
import Derived.Test.YtbjomhdhkpgbaaaGreatDoorY07
import Derived.Test.YtbjomhdhkpgbaaaGreatDoorY23
import Derived.Test.YtbjomhdhkpgbaaaGreatDoorY04
set_option maxHeartbeats 4000000
set_option linter.unusedVariables false
set_option linter.unusedSimpArgs false
namespace Go.Proofs.YtbjomhdhkpgbaaaGreatDoor
open Go Go.RowKit Go.Wk
attribute [local irreducible] W RL Does Zap Zak retQ Calls Pu Stp RD Qy Ay Zal ZbR Zk8 ZaM ZaY ZbK ZaZ dig ZgV
structure Pl (α : Type) where
 l : List α
 B : Option Addr
 c : Nat
structure RdLF {α : Type} (w : World) (A : Option Addr) (enc : α -> List Value) (sz : Nat) (pl : List (Pl α)) : Prop where
 rd : ∀ k p, pl[k]? = some p -> A ≠ none /\ RdSl w p.B p.c enc sz p.l /\ Zam w ((adr A).add (k * 1)) [.slice p.B p.l.length p.c]
theorem RdLF.up {α : Type} {w w' : World} {A : Option Addr} {enc : α -> List Value} {sz : Nat} {pl : List (Pl α)} (h : RdLF w A enc sz pl) (hb : Bel w.heap.size w w') : RdLF w' A enc sz pl :=
 ⟨fun k p hk => ⟨(h.rd k p hk).1, (h.rd k p hk).2.1.up hb, (h.rd k p hk).2.2.up hb (Nat.le_refl _)⟩⟩
theorem RdLL.places {α : Type} {w : World} {A : Option Addr} {c : Nat} {enc : α -> List Value} {sz : Nat} {ll : List (List α)} (h : RdLL w A c enc sz ll) : ∃ pl : List (Pl α), pl.map Pl.l = ll /\ RdLF w A enc sz pl /\ ∀ p ∈ pl, p.l.length <= p.c /\ p.c <= maxLen := by
 have key : ∀ i : Fin ll.length, ∃ p : Pl α, p.l = ll[i] /\ A ≠ none /\ RdSl w p.B p.c enc sz p.l /\ Zam w ((adr A).add (i.val * 1)) [.slice p.B p.l.length p.c] := fun i => by
  obtain ⟨h1, B, cb, h2, h3⟩ := h.rd i.val ll[i] (List.getElem?_eq_getElem i.isLt)
  exact ⟨⟨ll[i], B, cb⟩, rfl, h1, h2, h3⟩
 obtain ⟨f, hf⟩ := Classical.axiomOfChoice key
 have hget : ∀ k p, (List.ofFn f)[k]? = some p -> ∃ hk : k < ll.length, p = f ⟨k, hk⟩ := fun k p hp => by
  have hk := (List.getElem?_eq_some_iff.1 hp).1
  rw [List.length_ofFn] at hk
  rw [List.getElem?_ofFn, dif_pos hk] at hp
  exact ⟨hk, (Option.some.inj hp).symm⟩
 refine ⟨List.ofFn f, ?_, ⟨fun k p hp => ?_⟩, fun p hp => ?_⟩
 ·apply List.ext_getElem
  ·simp
  ·intro k h1 h2
   simp [(hf ⟨k, h2⟩).1]
 ·obtain ⟨hk, rfl⟩ := hget k p hp
  exact (hf ⟨k, hk⟩).2
 ·obtain ⟨k, hk⟩ := List.getElem?_of_mem hp
  obtain ⟨hk1, rfl⟩ := hget k p hk
  exact ⟨(hf ⟨k, hk1⟩).2.2.1.le, (hf ⟨k, hk1⟩).2.2.1.cap⟩
structure R3 where
 k : Nat
 A : Option Addr
 c : Nat
 m : Nat
 xs : List Value
structure Z3 where
 k : Nat
 A : Option Addr
 c : Nat
 m : Nat
 xs : List Value
 Zr : List ZE
structure E3 where
 k : Nat
 y : Int
 A : Option Addr
 c : Nat
 m : Nat
 xs : List Value
theorem Zbe {G G' : Prop} (k : G') (h : Hold G' -> G := by intro k9; (first | refine walk ?_ | (refine jn ?_; (try intro F); (first | (refine stA ?_) | (apply Zag; exact PuA)); refine fin ?_)); exact k9.out) : G := h ⟨k⟩
theorem ZnC {G : Prop} (h : G := by (first | (apply Pu_indexAddr; rfl; rfl; omega; omega; exact hAn) | exact PuI)) : G := h
theorem Zdp {G : Prop} (h : G := by (apply Ze4; rfl; rfl; (rw [ZhO _ (by omega) (by omega)]; decide))) : G := h
theorem Zgw {G : Prop} (h : G := by first | (apply Qy_y; rfl; exact Zdp) | exact QyA) : G := h
theorem ZdV {G : Prop} (h : G := by repeat (first | exact QF.nil | (apply QF.mk; rfl; rfl; decide +kernel; exact Zgw))) : G := h
theorem ZgB {G : Prop} (h : G := by (first | (apply ZfW; rfl; rfl) | (apply Pu_sliceH; rfl; rfl; (split <;> omega); (split <;> omega)))) : G := h
theorem ZnB {G : Prop} (h : G := by (first | exact PuI | (apply Ze4; rfl; rfl; (rw [ZhO _ (by omega) (by omega)]; decide)))) : G := h
theorem ZnA {G : Prop} (h : G := by (first | (apply Zav; rfl; rfl; omega; omega; (intro w' hb hO; exact ((hX w' hb (hO.of (A := X) (by repeat' constructor))).rd k _ hpk).1)) | (apply Zc1 (v := .slice B l.length cb); rfl; (intro w' hb hO; exact ((hX w' hb (hO.of (A := X) (by repeat' constructor))).rd k _ hpk).2.2 0 _ rfl)) | (apply Ze4; rfl; rfl; (rw [ZhO _ (by omega) (by omega)]; decide)) | (apply ZfW; rfl; rfl) | (apply Pu_sliceH; rfl; rfl; (split <;> omega); (split <;> omega)))) : G := h
theorem Zjn {G : Prop} (h : G := by (first | (apply Zav; rfl; rfl; omega; omega; (intro w' hb hO; exact ((hX2 w' hb (hO.of (A := X) (by repeat' constructor)) (hO.of (A := X2) (by repeat' constructor))).rd j e hge).1)) | (apply Zem (cs := e.enc); rfl; rfl; (intro w' hb hO; exact ((hX2 w' hb (hO.of (A := X) (by repeat' constructor)) (hO.of (A := X2) (by repeat' constructor))).rd j e hge).2)))) : G := h
theorem Znp {G : Prop} (h : G := by first | (apply Qy_y; rfl; exact Zjn) | exact QyA) : G := h
theorem Znq {G : Prop} (h : G := by repeat (first | exact QF.nil | (apply QF.mk; rfl; rfl; decide +kernel; exact Znp))) : G := h
set_option maxHeartbeats 8000000 in
theorem Zir (As Az Al : Option Addr) (cs cz cl : Nat) (d : DD23) (w : World) (hS : RdLL w As cs Zdt 1 d.sets) (hZ : RdLL w Az cz E23.enc 8 d.zones) (hL : RdSl w Al cl Zdt 1 d.links) (hrs : ∀ l ∈ d.sets, ∀ x ∈ l, inR .u8 x) (hrz : ∀ l ∈ d.zones, ∀ x ∈ l, x.ok) (hrl : ∀ x ∈ d.links, inR .u8 x) :
  Does Tryz.prog 8 [d23V As Az Al cs cz cl d] w (Zdq (Zae d)) := by
 have hs1 := hS.le
 have hs2 := hS.cap
 have hz1 := hZ.le
 have hz2 := hZ.cap
 have hl1 := hL.le
 have hl2 := hL.cap
 simp only [maxLen] at hs2 hz2 hl2
 have hns : 1 <= d.ns /\ d.ns <= 3 := by unfold DD23.ns; omega
 refine Zaa Tryz.func8 rfl rfl rfl rfl ?_
 repeat (first | ((apply RL_pu; rfl; first | (apply ZfW; rfl; rfl) | (apply ZzQ; rfl; rfl))) | refine ZlS ?_ | (refine jn ?_; (try intro F); (first | (refine bx ?_; intro bk) | (refine stA ?_) | (apply Zag; exact PuA)); refine fin ?_) | (apply RD_W; rfl; intro bk))
 rename_i b1 b2
 generalize bk = b3
 rw [show (if (1 : Int) < (if (3 : Int) < d.sets.length then (3 : Int) else d.sets.length) then (if (3 : Int) < d.sets.length then (3 : Int) else d.sets.length) else 1) = (d.ns : Int) from by unfold DD23.ns; split <;> split <;> omega]
 refine Zdu 56 11 (Zdu 46 2 (Zdu 69 2 (Zdu 9 1 ?_)))
 refine Zcm (fun fr' O' => ∃ A1 c1, Sub [(1, .pointer (some ⟨b1, 0, none⟩)), (2, .pointer (some ⟨b2, 0, none⟩)), (3, .pointer (some ⟨b3, 0, none⟩)), (4, .int .i64 d.ns)] fr' /\ SubO [.blk b3 [.slice A1 (ZaZ d.sets d.ns).length c1, .slice none 0 0, .slice none 0 0, .slice none 0 0] 32, rowR A1 c1 (ZaZ d.sets d.ns), rowZ none 0 [], rowL none 0 [], rowS none 0 [], .blk b1 [.slice As d.sets.length cs, .slice Az d.zones.length cz, .slice Al d.links.length cl] 26, .blk b2 [.slice none 0 0, .slice none 0 0, .slice none 0 0, .slice none 0 0] 32] O') ?_ ?_
 ·apply W_block
  refine Zaq [(23, .int .i64 d.ns), (1, .pointer (some ⟨b1, 0, none⟩)), (2, .pointer (some ⟨b2, 0, none⟩)), (3, .pointer (some ⟨b3, 0, none⟩)), (4, .int .i64 d.ns)] [rowZ none 0 [], rowL none 0 [], rowS none 0 [], .blk b1 [.slice As d.sets.length cs, .slice Az d.zones.length cz, .slice Al d.links.length cl] 26, .blk b2 [.slice none 0 0, .slice none 0 0, .slice none 0 0, .slice none 0 0] 32] (fun g : R3 => [(24, .int .i64 g.k)]) (fun g => [.blk b3 [.slice g.A g.m g.c, .slice none 0 0, .slice none 0 0, .slice none 0 0] 32, .row (.slice g.A g.m g.c) 56 11 g.m g.xs]) (fun g => g.k <= d.ns /\ g.m = (ZaZ d.sets g.k).length /\ g.xs = (ZaZ d.sets g.k).flatMap DRule.enc) (fun g => d.ns - g.k) ⟨0, none, 0, 0, []⟩ SFA SOA ⟨Nat.zero_le _, by simp [ZaZ], by simp [ZaZ]⟩ ?_
  rintro ⟨k, A0, c0, m0, x0⟩ ⟨hk, hm0, hx0⟩
  dsimp only at hk hm0 hx0 ⊢
  have hlen := Zda d.sets k
  repeat (first | refine Zbe ?_ | (refine jn ?_; (try intro F); (refine bx ?_; intro bk); refine fin ?_) | (apply RD_W; rfl; intro bk))
  refine Zah rfl (fun h => ?_) (fun h => ?_)
  ·have hk2 : k < d.ns := by simpa using h
   have hlen2 := ZjZ (d.sets.getD k []) (sR ++ dig k)
   repeat (first | refine Zbe ?_ | (refine jn ?_; (try intro F); (refine bx ?_; intro bk); refine fin ?_) | (apply RD_W; rfl; intro bk))
   refine Zcm (fun fr' O' => ∃ B cb, RdSl w B cb Zdt 1 (d.sets.getD k []) /\ (∀ x ∈ d.sets.getD k [], inR .u8 x) /\ Sub [(6, .slice B (d.sets.getD k []).length cb), (5, .int .i64 k), (24, .int .i64 k), (23, .int .i64 d.ns), (1, .pointer (some ⟨b1, 0, none⟩)), (2, .pointer (some ⟨b2, 0, none⟩)), (3, .pointer (some ⟨b3, 0, none⟩)), (4, .int .i64 d.ns)] fr' /\ SubO [.blk b3 [.slice A0 m0 c0, .slice none 0 0, .slice none 0 0, .slice none 0 0] 32, .row (.slice A0 m0 c0) 56 11 m0 x0, rowZ none 0 [], rowL none 0 [], rowS none 0 [], .blk b1 [.slice As d.sets.length cs, .slice Az d.zones.length cz, .slice Al d.links.length cl] 26, .blk b2 [.slice none 0 0, .slice none 0 0, .slice none 0 0, .slice none 0 0] 32] O') ?_ ?_
   ·refine Zah rfl (fun h2 => ?_) (fun h2 => ?_)
    ·have hks : k < d.sets.length := by simpa using h2
     obtain ⟨hAn, B, cb, hB, hca⟩ := hS.rd k _ (List.getElem?_eq_getElem hks)
     have hrl2 := hrs _ (List.getElem_mem hks)
     have e : d.sets.getD k [] = d.sets[k] := by rw [List.getD_eq_getElem?_getD, List.getElem?_eq_getElem hks]; rfl
     rw [e]
     generalize d.sets[k] = l at *
     repeat (first | (apply RL_pu; rfl; exact ZnC) | (apply RD_Q; rfl; rfl; decide +kernel; rfl; rfl; exact QyMade230) | refine walk1 ?_ | (refine jn ?_; (try intro F); (first | (refine bx ?_; intro bk) | (refine stA ?_) | (apply Zag; first | exact ZnC | exact PuA)); first | refine ⟨_, EndsA, QFMade230, ?_⟩ | refine fin ?_) | (apply RD_W; rfl; intro bk))
     exact ⟨rfl, B, cb, hB, hrl2, SFA, SOA⟩
    ·have hks : ¬ k < d.sets.length := by simpa using h2
     have e : d.sets.getD k [] = [] := by rw [List.getD_eq_getElem?_getD, List.getElem?_eq_none (by omega)]; rfl
     rw [e]
     repeat (first | refine Zbe ?_ | (refine jn ?_; (try intro F); (refine bx ?_; intro bk); refine fin ?_) | (apply RD_W; rfl; intro bk))
     exact ⟨rfl, none, 0, ZwC _ _ _, fun x hx => by simp at hx, SFA, SOA⟩
   rintro fr' O' ⟨B, cb, hB, hrl2, hf, hO⟩
   apply thenQ_n
   refine Zcu hf hO ?_
   clear hf hO fr' O'
   have hstep : ZaZ d.sets (k + 1) = ZaZ d.sets k ++ ZbR (d.sets.getD k []) (sR ++ dig k) := by rw [ZaZ]
   generalize d.sets.getD k [] = l at *
   repeat (first | (apply RL_pu; rfl; exact Zdp) | (apply RD_Q; rfl; rfl; decide +kernel; rfl; rfl; exact Zgw) | refine walk1 ?_ | (refine jg ?_; (try intro F); (first | (refine Zad (fun w' _ => Zdh k (by omega) (by omega) w') ?_) | (apply Zac (h := fun w' hw _ => Zon B cb l (sR ++ dig k) w' (hB.up hw) hrl2); rfl; rintro v O' ⟨A1, c1, rfl, rfl⟩) | (apply ZaC (t := 27); rfl; rfl; (intro A' c'; (focus repeat' constructor)); (intro w' _ hO; exact ZxP (hO.of (A := .row (.slice A1 _ c1) _ _ _ _) (by repeat' constructor))); exact ZaE DRule.len _; exact ZcC oneR _; (simp only [maxLen]; omega); omega; intro A' c' hc1 hc2 hc3) | (refine bx ?_; intro bk) | (refine stA ?_)); first | refine ⟨_, EndsA, ZdV, ?_⟩ | refine fin ?_) | (refine jn ?_; (try intro F); (first | (apply ZaC (t := 27); rfl; rfl; (intro A' c'; (focus repeat' constructor)); (intro w' _ hO; exact ZxP (hO.of (A := .row (.slice A1 _ c1) _ _ _ _) (by repeat' constructor))); exact ZaE DRule.len _; exact ZcC oneR _; (simp only [maxLen]; omega); omega; intro A' c' hc1 hc2 hc3) | (refine bx ?_; intro bk) | (refine stA ?_) | (apply Zag; first | exact Zdp | exact PuA)); first | refine ⟨_, EndsA, ZdV, ?_⟩ | refine fin ?_) | (apply RD_W; rfl; intro bk))
   exact ⟨⟨k + 1, A', c', m0 + (ZbR l (sR ++ dig k)).length, x0 ++ (ZbR l (sR ++ dig k)).flatMap DRule.enc⟩, OA, ⟨OA, by rw [hstep, List.length_append, hm0], by rw [hstep, List.flatMap_append, hx0]⟩, SFA, SOA⟩
  have hk2 : k = d.ns := by simp only [decide_eq_false_iff_not, Int.ofNat_lt] at h; omega
  subst hm0 hx0
  rw [hk2]
  repeat (first | refine Zbe ?_ | (refine jn ?_; (try intro F); (refine bx ?_; intro bk); refine fin ?_) | (apply RD_W; rfl; intro bk))
  exact ⟨rfl, A0, c0, SFA, SOA⟩
 rintro fr' O' ⟨A1, c1, hf, hO⟩
 apply thenQ_n
 refine Zcu hf hO ?_
 clear hf hO fr' O'
 have hRR := Zda d.sets d.ns
 unfold Zae
 generalize ZaZ d.sets d.ns = RR at *
 repeat (first | (apply RL_pu; rfl; exact ZgB) | (apply RD_Q; rfl; rfl; decide +kernel; rfl; rfl; exact QyMade232) | refine walk1 ?_ | (refine jn ?_; (try intro F); (first | (refine bx ?_; intro bk) | (refine stA ?_) | (apply Zag; first | exact ZgB | exact PuA)); first | refine ⟨_, EndsA, QFMade232, ?_⟩ | refine fin ?_) | (apply RD_W; rfl; intro bk))
 rw [show (if (3 : Int) < d.zones.length then (3 : Int) else d.zones.length).toNat = (d.zones.take 3).length from by rw [List.length_take]; split <;> omega]
 refine Zcm (fun fr' O' => ∃ (X : It) (A : Option Addr) (c : Nat) (pl : List (Pl E23)), pl.map Pl.l = zl23 d.zones /\ (∀ p ∈ pl, p.l.length <= p.c /\ p.c <= maxLen) /\ (∀ w', Bel w.heap.size w w' -> X.sat w' -> RdLF w' A E23.enc 8 pl) /\ Sub [(7, .slice A (zl23 d.zones).length c), (1, .pointer (some ⟨b1, 0, none⟩)), (2, .pointer (some ⟨b2, 0, none⟩)), (3, .pointer (some ⟨b3, 0, none⟩)), (4, .int .i64 d.ns)] fr' /\ SubO (X :: .blk b3 [.slice A1 RR.length c1, .slice none 0 0, .slice none 0 0, .slice none 0 0] 32 :: rowZ none 0 [] :: rowR A1 c1 RR :: rowL none 0 [] :: rowS none 0 [] :: .blk b1 [.slice As d.sets.length cs, .slice Az d.zones.length cz, .slice Al d.links.length cl] 26 :: .blk b2 [.slice none 0 0, .slice none 0 0, .slice none 0 0, .slice none 0 0] 32 :: []) O') ?_ ?_
 ·refine Zah rfl (fun h => ?_) (fun h => ?_)
  ·have h0 : d.zones.length = 0 := by
    have := of_decide_eq_true h
    rw [List.length_take] at this
    omega
   rw [show zl23 d.zones = [[]] from if_pos h0]
   repeat (first | refine Zbe ?_ | (refine jn ?_; (try intro F); (refine bx ?_; intro bk); refine fin ?_) | (apply RD_W; rfl; intro bk))
   exact ⟨rfl, .blk bk [.slice none 0 0] _, some ⟨bk, 0, none⟩, 1, [⟨[], none, 0⟩], rfl, fun p hp => by rw [List.mem_singleton.1 hp]; exact ⟨Nat.le_refl 0, Nat.zero_le _⟩, fun w' _ hX => ⟨fun k p hk => by
    cases k with
    | zero =>
     simp only [List.getElem?_cons_zero, Option.some.injEq] at hk
     subst hk
     exact ⟨by simp, ZwC _ _ _, fun j v hj => by rw [Za7, Nat.zero_mul, Nat.zero_add]; exact (ZbD hX _ v hj).2⟩
    | succ k => simp at hk⟩, SFA, SOA⟩
  ·have h0 : d.zones.length ≠ 0 := by
    have := of_decide_eq_false h
    rw [List.length_take] at this
    omega
   rw [show zl23 d.zones = d.zones.take 3 from if_neg h0]
   obtain ⟨pl, p1, p2, p3⟩ := (hZ.take 3).places
   refine Zei [] _ (fun _ => True) (.refl _) (fun _ _ => trivial) ?_
   repeat (first | refine Zbe ?_ | (refine jn ?_; (try intro F); (refine bx ?_; intro bk); refine fin ?_) | (apply RD_W; rfl; intro bk))
   exact ⟨rfl, .fact (foot []) (fun _ => True), Az, cz, pl, p1, p3, fun w' hb _ => p2.up hb, SFA, SOA⟩
 rintro fr' O' ⟨X, Az', cz', pl, hpl, hpb, hX, hf, hO⟩
 apply thenQ_n
 refine Zcu hf hO ?_
 clear hf hO fr' O'
 obtain ⟨zb1, zb2⟩ := Ze6 d.zones
 have hzok : ∀ l ∈ zl23 d.zones, ∀ x ∈ l, x.ok := by
  intro l hl x hx
  unfold zl23 at hl
  split at hl
  ·rw [List.mem_singleton.1 hl] at hx; simp at hx
  ·exact hrz l (List.mem_of_mem_take hl) x hx
 generalize hZL : zl23 d.zones = ZL at *
 repeat (first | refine ZlS ?_ | (refine jn ?_; (try intro F); (first | (refine bx ?_; intro bk) | (refine stA ?_) | (apply Zag; exact PuA)); refine fin ?_) | (apply RD_W; rfl; intro bk))
 refine Zcm (fun fr' O' => ∃ (A : Option Addr) (cc m : Nat) (xs : List Value) (Zr : List ZE), (m = Zr.length /\ xs = Zr.reverse.flatMap ZE.enc /\ Zr.reverse.map ZE.z = ZaY d.ns ZL ZL.length) /\ Sub [(7, .slice Az' ZL.length cz'), (1, .pointer (some ⟨b1, 0, none⟩)), (2, .pointer (some ⟨b2, 0, none⟩)), (3, .pointer (some ⟨b3, 0, none⟩)), (4, .int .i64 d.ns)] fr' /\ SubO (.blk b3 [.slice A1 RR.length c1, .slice A m cc, .slice none 0 0, .slice none 0 0] 32 :: .row (.slice A m cc) 46 2 m xs :: X :: rowR A1 c1 RR :: rowL none 0 [] :: rowS none 0 [] :: .blk b1 [.slice As d.sets.length cs, .slice Az d.zones.length cz, .slice Al d.links.length cl] 26 :: .blk b2 [.slice none 0 0, .slice none 0 0, .slice none 0 0, .slice none 0 0] 32 :: Zr.map Zau) O') ?_ ?_
 rotate_left
 ·rintro fr' O' ⟨A2, c2, m2, x2, Zr, ⟨hm, hx, hzz⟩, hf, hO⟩
  replace hO := SubO.permT (l := [_, _, _, _, _, _, _, _]) hO ((List.reverse_perm Zr).symm.map Zau)
  apply thenQ_n
  refine Zcu hf hO ?_
  clear hf hO fr' O'
  rw [<- List.length_reverse] at hm
  generalize Zr.reverse = Zs at *
  have hzl := Zcn d.ns ZL ZL.length
  generalize ZaY d.ns ZL ZL.length = ZS at *
  have hZl : Zs.length = ZL.length := by rw [<- hzl, <- hzz, List.length_map]
  subst hm hx
  repeat (first | (apply RL_pu; rfl; exact ZgB) | (apply RD_Q; rfl; rfl; decide +kernel; rfl; rfl; exact QyMade232) | refine walk1 ?_ | (refine jn ?_; (try intro F); (first | (refine bx ?_; intro bk) | (refine stA ?_) | (apply Zag; first | exact ZgB | exact PuA)); first | refine ⟨_, EndsA, QFMade232, ?_⟩ | refine fin ?_) | (apply RD_W; rfl; intro bk))
  rw [show (if (4 : Int) < d.links.length then (4 : Int) else d.links.length).toNat = (d.links.take 4).length from by rw [List.length_take]; split <;> omega]
  have hL4 := hL.take 4
  have hr4 : ∀ x ∈ d.links.take 4, inR .u8 x := fun x hx => hrl x (List.mem_of_mem_take hx)
  have hl4 : (d.links.take 4).length <= 4 := by rw [List.length_take]; omega
  generalize d.links.take 4 = LL at *
  refine Zaq [(7, .slice Az' ZL.length cz'), (123, .slice Al LL.length cl), (124, .int .i64 LL.length), (1, .pointer (some ⟨b1, 0, none⟩)), (2, .pointer (some ⟨b2, 0, none⟩)), (3, .pointer (some ⟨b3, 0, none⟩)), (4, .int .i64 d.ns)] (.row (.slice A2 Zs.length c2) 46 2 Zs.length (Zs.flatMap ZE.enc) :: X :: rowR A1 c1 RR :: rowS none 0 [] :: .blk b1 [.slice As d.sets.length cs, .slice Az d.zones.length cz, .slice Al d.links.length cl] 26 :: .blk b2 [.slice none 0 0, .slice none 0 0, .slice none 0 0, .slice none 0 0] 32 :: Zs.map Zau) (fun g : R3 => [(125, .int .i64 g.k)]) (fun g => [.blk b3 [.slice A1 RR.length c1, .slice A2 Zs.length c2, .slice g.A g.m g.c, .slice none 0 0] 32, .row (.slice g.A g.m g.c) 69 2 g.m g.xs]) (fun g => g.k <= LL.length /\ g.m = (ZbK ZL.length LL g.k).length /\ g.xs = (ZbK ZL.length LL g.k).flatMap DLink.enc) (fun g => LL.length - g.k) ⟨0, none, 0, 0, []⟩ SFA STA ⟨Nat.zero_le _, by simp [ZbK], by simp [ZbK]⟩ ?_
  rintro ⟨k, A3, c3, m3, x3⟩ ⟨hk, hm3, hx3⟩
  dsimp only at hk hm3 hx3 ⊢
  have hll := Zd6 ZL.length LL k
  rw [hll] at hm3
  repeat (first | refine Zbe ?_ | (refine jn ?_; (try intro F); (refine bx ?_; intro bk); refine fin ?_) | (apply RD_W; rfl; intro bk))
  refine Zah rfl (fun h => ?_) (fun h => ?_)
  ·have hk2 : k < LL.length := by simpa using h
   obtain ⟨hna, hca⟩ := hL4.rd _ _ (List.getElem?_eq_getElem hk2)
   have hv := hr4 _ (List.getElem_mem hk2)
   have hstp : ZbK ZL.length LL (k + 1) = ZbK ZL.length LL k ++ [Zhq ZL.length LL[k] k] := by
    rw [ZbK, List.getD_eq_getElem?_getD, List.getElem?_eq_getElem hk2]
    rfl
   rw [Zj4] at hv
   generalize LL[k] = v at *
   have g1 := Int.emod_nonneg v (b := (ZL.length : Int)) (by omega)
   have g2 := Int.emod_lt_of_pos v (b := (ZL.length : Int)) (by omega)
   have g3 := Int.emod_nonneg v (b := (ZL.length : Int) + k) (by omega)
   have g4 := Int.emod_lt_of_pos v (b := (ZL.length : Int) + k) (by omega)
   repeat (first | (apply RL_pu; rfl; exact ZnB) | (apply RD_Q; rfl; rfl; decide +kernel; rfl; rfl; exact QyMade233) | refine walk1 ?_ | (refine jg ?_; (try intro F); (first | (refine Zad (fun w' _ => Zdh (v % (ZL.length : Int)) (by omega) (by omega) w') ?_) | (refine bx ?_; intro bk) | (refine stA ?_)); first | refine ⟨_, EndsA, QFMade233, ?_⟩ | refine fin ?_) | (refine jn ?_; (try intro F); (first | (refine bx ?_; intro bk) | (refine stA ?_) | (apply Zag; first | exact ZnB | exact PuA)); first | refine ⟨_, EndsA, QFMade233, ?_⟩ | refine fin ?_) | (apply RD_W; rfl; intro bk))
   refine Zah rfl (fun h2 => ?_) (fun h2 => ?_)
   ·have h2' := of_decide_eq_true h2
    have e : Zhq ZL.length v k = ⟨sL ++ dig (v % ((ZL.length : Int) + k) - ZL.length), sL ++ dig k⟩ := by rw [Zhq, if_pos h2']
    rw [e] at hstp
    repeat (first | (apply RL_pu; rfl; exact Zdp) | (apply RD_Q; rfl; rfl; decide +kernel; rfl; rfl; exact Zgw) | refine walk1 ?_ | (refine jg ?_; (try intro F); (first | (refine Zad (fun w' _ => Zdh (v % ((ZL.length : Int) + k) - ZL.length) (by omega) (by omega) w') ?_) | (refine Zad (fun w' _ => Zdh k (by omega) (by omega) w') ?_) | (apply ZaC (t := 29); rfl; rfl; (intro A' c'; (focus repeat' constructor)); (intro w' _ hO; exact ZbD (hO.of (by repeat' constructor))); rfl; rfl; (simp only [maxLen]; omega); omega; intro A' c' hc1 hc2 hc3) | (refine bx ?_; intro bk) | (refine stA ?_)); first | refine ⟨_, EndsA, ZdV, ?_⟩ | refine fin ?_) | (refine jn ?_; (try intro F); (first | (apply ZaC (t := 29); rfl; rfl; (intro A' c'; (focus repeat' constructor)); (intro w' _ hO; exact ZbD (hO.of (by repeat' constructor))); rfl; rfl; (simp only [maxLen]; omega); omega; intro A' c' hc1 hc2 hc3) | (refine bx ?_; intro bk) | (refine stA ?_) | (apply Zag; first | exact Zdp | exact PuA)); first | refine ⟨_, EndsA, ZdV, ?_⟩ | refine fin ?_) | (apply RD_W; rfl; intro bk))
    exact ⟨⟨k + 1, A', c', m3 + 1, x3 ++ (⟨sL ++ dig (v % ((ZL.length : Int) + k) - ZL.length), sL ++ dig k⟩ : DLink).enc⟩, OA, ⟨OA, by rw [hstp, List.length_append, hll, hm3]; rfl, by rw [hstp, List.flatMap_append, hx3]; rfl⟩, SFA, STA⟩
   have h2' := of_decide_eq_false h2
   have e : Zhq ZL.length v k = ⟨sZ ++ dig (v % (ZL.length : Int)), sL ++ dig k⟩ := by rw [Zhq, if_neg h2']
   rw [e] at hstp
   repeat (first | (apply RL_pu; rfl; exact Zdp) | (apply RD_Q; rfl; rfl; decide +kernel; rfl; rfl; exact Zgw) | refine walk1 ?_ | (refine jg ?_; (try intro F); (first | (refine Zad (fun w' _ => Zdh k (by omega) (by omega) w') ?_) | (apply ZaC (t := 29); rfl; rfl; (intro A' c'; (focus repeat' constructor)); (intro w' _ hO; exact ZbD (hO.of (by repeat' constructor))); rfl; rfl; (simp only [maxLen]; omega); omega; intro A' c' hc1 hc2 hc3) | (refine bx ?_; intro bk) | (refine stA ?_)); first | refine ⟨_, EndsA, ZdV, ?_⟩ | refine fin ?_) | (refine jn ?_; (try intro F); (first | (apply ZaC (t := 29); rfl; rfl; (intro A' c'; (focus repeat' constructor)); (intro w' _ hO; exact ZbD (hO.of (by repeat' constructor))); rfl; rfl; (simp only [maxLen]; omega); omega; intro A' c' hc1 hc2 hc3) | (refine bx ?_; intro bk) | (refine stA ?_) | (apply Zag; first | exact Zdp | exact PuA)); first | refine ⟨_, EndsA, ZdV, ?_⟩ | refine fin ?_) | (apply RD_W; rfl; intro bk))
   exact ⟨⟨k + 1, A', c', m3 + 1, x3 ++ (⟨sZ ++ dig (v % (ZL.length : Int)), sL ++ dig k⟩ : DLink).enc⟩, OA, ⟨OA, by rw [hstp, List.length_append, hll, hm3]; rfl, by rw [hstp, List.flatMap_append, hx3]; rfl⟩, SFA, STA⟩
  have hkl : k = LL.length := by simp only [decide_eq_false_iff_not, Int.ofNat_lt] at h; omega
  rw [<- hkl]
  rw [<- hll] at hm3
  generalize ZbK ZL.length LL k = ls at *
  subst hm3 hx3
  repeat (first | refine Zbe ?_ | (refine jn ?_; (try intro F); (refine bx ?_; intro bk); refine fin ?_) | (apply RD_W; rfl; intro bk))
  exact ret_1 (.agg #[.slice A1 RR.length c1, .slice A2 Zs.length c2, .slice A3 ls.length c3, .slice none 0 0]) (rowR A1 c1 RR :: rowZ A2 c2 Zs :: rowL A3 c3 ls :: rowS none 0 [] :: Zs.map Zau) (.cellB rfl (by repeat' constructor) rfl rfl) STA ⟨A1, c1, A2, c2, A3, c3, none, 0, Zs, by simp [srcV, <- hzz], hzz, rfl⟩
 apply W_block
 refine ZfC (fun g : Z3 => [(60, .int .i64 g.k), (58, .slice Az' ZL.length cz'), (59, .int .i64 ZL.length), (7, .slice Az' ZL.length cz'), (1, .pointer (some ⟨b1, 0, none⟩)), (2, .pointer (some ⟨b2, 0, none⟩)), (3, .pointer (some ⟨b3, 0, none⟩)), (4, .int .i64 d.ns)]) (fun g => .blk b3 [.slice A1 RR.length c1, .slice g.A g.m g.c, .slice none 0 0, .slice none 0 0] 32 :: .row (.slice g.A g.m g.c) 46 2 g.m g.xs :: X :: rowR A1 c1 RR :: rowL none 0 [] :: rowS none 0 [] :: .blk b1 [.slice As d.sets.length cs, .slice Az d.zones.length cz, .slice Al d.links.length cl] 26 :: .blk b2 [.slice none 0 0, .slice none 0 0, .slice none 0 0, .slice none 0 0] 32 :: g.Zr.map Zau)
  (fun g => g.k <= ZL.length /\ g.m = g.Zr.length /\ g.xs = g.Zr.reverse.flatMap ZE.enc /\ g.Zr.reverse.map ZE.z = ZaY d.ns ZL g.k) (fun g => ZL.length - g.k) ⟨0, none, 0, 0, [], []⟩ SFA SOA ⟨Nat.zero_le _, rfl, rfl, by simp [ZaY]⟩ ?_
 rintro ⟨k, A2, c2, m2, x2, Zr⟩ ⟨hk, hm, hx, hzz⟩
 dsimp only at hk hm hx hzz ⊢
 have hzl := Zcn d.ns ZL k
 have hZl : Zr.length = k := by rw [<- hzl, <- hzz, List.length_map, List.length_reverse]
 repeat (first | refine Zbe ?_ | (refine jn ?_; (try intro F); (refine bx ?_; intro bk); refine fin ?_) | (apply RD_W; rfl; intro bk))
 refine Zah rfl (fun h => ?_) (fun h => ?_)
 ·have hk2 : k < ZL.length := by simpa using h
  have hkp : k < pl.length := by rw [<- hpl, List.length_map] at hk2; exact hk2
  have hpk : pl[k]? = some pl[k] := List.getElem?_eq_getElem hkp
  have hpm : pl[k] ∈ pl := List.getElem_mem hkp
  obtain ⟨pb1, pb2⟩ := hpb _ hpm
  have hlm : pl[k].l ∈ ZL := by rw [<- hpl]; exact List.mem_map.2 ⟨_, hpm, rfl⟩
  have hok := hzok _ hlm
  have hstz : ZaY d.ns ZL (k + 1) = ZaY d.ns ZL k ++ [ZhU d.ns k pl[k].l] := by
   rw [ZaY, List.getD_eq_getElem?_getD, <- hpl, List.getElem?_map, hpk]
   rfl
  generalize pl[k] = p at *
  obtain ⟨l, B, cb⟩ := p
  dsimp only at *
  simp only [maxLen] at pb2
  generalize hT : Zr.map Zau = T
  repeat (first | (apply RL_pu; rfl; exact ZnA) | (apply RD_Q; rfl; rfl; decide +kernel; rfl; rfl; exact QyMade234) | refine walk1 ?_ | (refine jg ?_; (try intro F); (first | (refine Zad (fun w' _ => Zdh k (by omega) (by omega) w') ?_) | (refine bx ?_; intro bk) | (refine stA ?_)); first | refine ⟨_, EndsA, QFMade234, ?_⟩ | refine fin ?_) | (refine jn ?_; (try intro F); (first | (refine bx ?_; intro bk) | (refine stA ?_) | (apply Zag; first | exact ZnA | exact PuA)); first | refine ⟨_, EndsA, QFMade234, ?_⟩ | refine fin ?_) | (apply RD_W; rfl; intro bk))
  rw [show (if (4 : Int) < l.length then (4 : Int) else l.length).toNat = (l.take 4).length from by rw [List.length_take]; split <;> omega]
  generalize bk = b10
  refine Zcm (fun fr' O' => ∃ (X2 : It) (B2 : Option Addr) (c4 : Nat), (el23 l).length <= c4 /\ (∀ w', Bel w.heap.size w w' -> X.sat w' -> X2.sat w' -> RdSl w' B2 c4 E23.enc 8 (el23 l)) /\ Sub [(9, .slice B2 (el23 l).length c4), (8, .int .i64 k), (10, .pointer (some ⟨b10, 0, none⟩)), (60, .int .i64 k), (58, .slice Az' ZL.length cz'), (59, .int .i64 ZL.length), (7, .slice Az' ZL.length cz'), (1, .pointer (some ⟨b1, 0, none⟩)), (2, .pointer (some ⟨b2, 0, none⟩)), (3, .pointer (some ⟨b3, 0, none⟩)), (4, .int .i64 d.ns)] fr' /\ SubO (.blk b10 [.string (sZ ++ dig k), .slice none 0 0] 46 :: X2 :: .blk b3 [.slice A1 RR.length c1, .slice A2 m2 c2, .slice none 0 0, .slice none 0 0] 32 :: .row (.slice A2 m2 c2) 46 2 m2 x2 :: X :: rowR A1 c1 RR :: rowL none 0 [] :: rowS none 0 [] :: .blk b1 [.slice As d.sets.length cs, .slice Az d.zones.length cz, .slice Al d.links.length cl] 26 :: .blk b2 [.slice none 0 0, .slice none 0 0, .slice none 0 0, .slice none 0 0] 32 :: T) O') ?_ ?_
  ·refine Zah rfl (fun h2 => ?_) (fun h2 => ?_)
   ·have h0 : l.length = 0 := by
     have := of_decide_eq_true h2
     rw [List.length_take] at this
     omega
    rw [show el23 l = [e23Z] from if_pos h0]
    repeat (first | refine Zbe ?_ | (refine jn ?_; (try intro F); (refine bx ?_; intro bk); refine fin ?_) | (apply RD_W; rfl; intro bk))
    exact ⟨rfl, .blk bk e23Z.enc _, some ⟨bk, 0, none⟩, 1, Nat.le_refl 1, fun w' _ _ hX2 => ZrG (c := 1) (l := [e23Z]) E23.len (Nat.le_refl 1) (by decide) hX2, SFA, STA⟩
   ·have h0 : l.length ≠ 0 := by
     have := of_decide_eq_false h2
     rw [List.length_take] at this
     omega
    rw [show el23 l = l.take 4 from if_neg h0]
    refine Zei [] _ (fun _ => True) (.refl _) (fun _ _ => trivial) ?_
    repeat (first | refine Zbe ?_ | (refine jn ?_; (try intro F); (refine bx ?_; intro bk); refine fin ?_) | (apply RD_W; rfl; intro bk))
    exact ⟨rfl, .fact (foot []) (fun _ => True), B, cb, by rw [List.length_take]; omega, fun w' hb hx1 _ => ((hX w' hb hx1).rd k _ hpk).2.1.take 4, SFA, STA⟩
  rintro fr' O' ⟨X2, B2, c4, hc4, hX2, hf, hO⟩
  apply thenQ_n
  refine Zcu hf hO ?_
  clear hf hO fr' O'
  obtain ⟨eb1, eb2⟩ := Zqx l
  have heok : ∀ e ∈ el23 l, e.ok := by
   intro e he
   unfold el23 at he
   split at he
   ·rw [List.mem_singleton.1 he]; refine ⟨?_, ?_, ?_, ?_, ?_, ?_, ?_, ?_⟩ <;> first | exact Zj4.2 ⟨by decide, by decide⟩ | exact Zx1.2 ⟨by decide, by decide⟩
   ·exact hok e (List.mem_of_mem_take he)
  rw [ZhU] at hstz
  generalize el23 l = EL at *
  repeat (first | refine Zbe ?_ | (refine jn ?_; (try intro F); (refine bx ?_; intro bk); refine fin ?_) | (apply RD_W; rfl; intro bk))
  refine Zdu 54 13 ?_
  refine Zaq [(9, .slice B2 EL.length c4), (8, .int .i64 k), (10, .pointer (some ⟨b10, 0, none⟩)), (60, .int .i64 k), (79, .slice B2 EL.length c4), (80, .int .i64 EL.length), (58, .slice Az' ZL.length cz'), (59, .int .i64 ZL.length), (7, .slice Az' ZL.length cz'), (1, .pointer (some ⟨b1, 0, none⟩)), (2, .pointer (some ⟨b2, 0, none⟩)), (3, .pointer (some ⟨b3, 0, none⟩)), (4, .int .i64 d.ns)] (X2 :: .blk b3 [.slice A1 RR.length c1, .slice A2 m2 c2, .slice none 0 0, .slice none 0 0] 32 :: .row (.slice A2 m2 c2) 46 2 m2 x2 :: X :: rowR A1 c1 RR :: rowL none 0 [] :: rowS none 0 [] :: .blk b1 [.slice As d.sets.length cs, .slice Az d.zones.length cz, .slice Al d.links.length cl] 26 :: .blk b2 [.slice none 0 0, .slice none 0 0, .slice none 0 0, .slice none 0 0] 32 :: T) (fun g : E3 => [(81, .int .i64 g.k), (11, .int .i64 g.y)]) (fun g => [.blk b10 [.string (sZ ++ dig k), .slice g.A g.m g.c] 46, .row (.slice g.A g.m g.c) 54 13 g.m g.xs])
   (fun g => g.k <= EL.length /\ g.y = (ZaM d.ns EL g.k).2 /\ g.m = (ZaM d.ns EL g.k).1.length /\ g.xs = (ZaM d.ns EL g.k).1.flatMap DEra.enc) (fun g => EL.length - g.k) ⟨0, 1904, none, 0, 0, []⟩ SFA STA ⟨Nat.zero_le _, by simp [ZaM], by simp [ZaM], by simp [ZaM]⟩ ?_
  rintro ⟨j, y, A3, c3, m3, x3⟩ ⟨hj, hy, hm3, hx3⟩
  dsimp only at hj hy hm3 hx3 ⊢
  have hel := Zfg d.ns EL j
  obtain ⟨y1, y2⟩ := ZiU d.ns EL heok j
  rw [<- hy] at y1 y2
  have hm4 : m3 = j := by rw [hm3, hel]
  repeat (first | refine Zbe ?_ | (refine jn ?_; (try intro F); (refine bx ?_; intro bk); refine fin ?_) | (apply RD_W; rfl; intro bk))
  refine Zah rfl (fun h => ?_) (fun h => ?_)
  ·have hj2 : j < EL.length := by simpa using h
   have hge : EL[j]? = some EL[j] := List.getElem?_eq_getElem hj2
   have heo := heok _ (List.getElem_mem hj2)
   have hst : ZaM d.ns EL (j + 1) = ((ZaM d.ns EL j).1 ++ [Zk8 EL[j] (decide ((j : Int) = 0)) d.ns (y + (1 + EL[j].years % 30)) (decide ((j : Int) < (EL.length : Int) - 1))], y + (1 + EL[j].years % 30)) := by
    rw [ZaM, List.getD_eq_getElem?_getD, hge, <- hy]
    rfl
   generalize EL[j] = e at *
   obtain ⟨k1, k2, k3, k4, k5, k6, k7, k8⟩ := id heo
   rw [Zj4] at k4
   repeat (first | (apply RL_pu; rfl; exact Zjn) | (apply RD_Q; rfl; rfl; decide +kernel; rfl; rfl; exact Znp) | refine walk1 ?_ | (refine jg ?_; (try intro F); (first | (refine Zad (fun w' _ => ZrX e heo (decide ((j : Int) = 0)) d.ns (y + (1 + e.years % 30)) (decide ((j : Int) < (EL.length : Int) - 1)) (by omega) (by omega) w') ?_) | (apply ZaC (t := 44); rfl; rfl; (intro A' c'; (focus repeat' constructor)); (intro w' _ hO; exact ZbD (hO.of (by repeat' constructor))); rfl; rfl; (simp only [maxLen]; omega); omega; intro A' c' hc1 hc2 hc3) | (refine bx ?_; intro bk) | (refine stA ?_)); first | refine ⟨_, EndsA, Znq, ?_⟩ | refine fin ?_) | (refine jn ?_; (try intro F); (first | (apply ZaC (t := 44); rfl; rfl; (intro A' c'; (focus repeat' constructor)); (intro w' _ hO; exact ZbD (hO.of (by repeat' constructor))); rfl; rfl; (simp only [maxLen]; omega); omega; intro A' c' hc1 hc2 hc3) | (refine bx ?_; intro bk) | (refine stA ?_) | (apply Zag; first | exact Zjn | exact PuA)); first | refine ⟨_, EndsA, Znq, ?_⟩ | refine fin ?_) | (apply RD_W; rfl; intro bk))
   exact ⟨⟨j + 1, y + (1 + e.years % 30), A', c', m3 + 1, x3 ++ (Zk8 e (decide ((j : Int) = 0)) d.ns (y + (1 + e.years % 30)) (decide ((j : Int) < (EL.length : Int) - 1))).enc⟩, OA, ⟨OA, by rw [hst], by rw [hst, List.length_append, <- hm3]; rfl, by rw [hst, List.flatMap_append, hx3]; simp⟩, SFA, STA⟩
  have hjl : j = EL.length := by simp only [decide_eq_false_iff_not, Int.ofNat_lt] at h; omega
  rw [<- hjl] at hstz
  generalize (ZaM d.ns EL j).1 = es at *
  subst hm3 hx3
  repeat (first | refine walk ?_ | (refine jn ?_; (try intro F); (first | (apply ZaC (t := 28); rfl; rfl; (intro A' c'; (focus repeat' constructor)); (intro w' _ hO; exact ZbD (hO.of (by repeat' constructor))); rfl; rfl; (simp only [maxLen]; omega); omega; intro A' c' hc1 hc2 hc3) | (refine bx ?_; intro bk) | (refine stA ?_) | (apply Zag; exact PuA)); refine fin ?_) | (apply RD_W; rfl; intro bk))
  subst hT
  exact ⟨⟨k + 1, A', c', m2 + 1, x2 ++ ZE.enc ⟨⟨sZ ++ dig k, es⟩, A3, c3⟩, ⟨⟨sZ ++ dig k, es⟩, A3, c3⟩ :: Zr⟩, OA, ⟨OA, by simp [hm], by simp [hx], by rw [hstz, <- hzz]; simp⟩, SFA, STA⟩
 have hkz : k = ZL.length := by simp only [decide_eq_false_iff_not, Int.ofNat_lt] at h; omega
 rw [hkz] at hzz
 repeat (first | refine Zbe ?_ | (refine jn ?_; (try intro F); (refine bx ?_; intro bk); refine fin ?_) | (apply RD_W; rfl; intro bk))
 exact ⟨rfl, A2, c2, m2, x2, Zr, ⟨hm, hx, hzz⟩, SFA, STA⟩
end Go.Proofs.YtbjomhdhkpgbaaaGreatDoor
namespace Go.Proofs.YtbjomhdhkpgbaaaGreatDoor
open Go Go.RowKit Go.Wk
attribute [local irreducible] W RL Does Zap Zak retQ Calls Pu Stp RD Qy Ay Zal
end Go.Proofs.YtbjomhdhkpgbaaaGreatDoor
namespace Go.Proofs.YtbjomhdhkpgbaaaGreatDoor
open Go Go.RowKit Go.Wk
attribute [local irreducible] W RL Does Zap Zak retQ Calls Pu Stp RD Qy Ay
structure SE (α : Type) where
 l : List α
 A : Option Addr
 c : Nat
def SE.enc {α : Type} (q : SE α) : List Value := [.slice q.A q.l.length q.c]
theorem ZA2 {α : Type} (w : World) (enc : α -> List Value) (sz : Nat) : RdSl w none 0 enc sz [] := ⟨Nat.le_refl _, Nat.zero_le _, fun _ _ h => by simp at h⟩
theorem ZAB.at_ {m : List (ByteArray × Value)} {rs : List DRule} (h : ZAB m rs) (x : ByteArray) : ∃ A c, (mget m x).getD (.slice none 0 0) = .slice A (ofB rs x).length c /\ (∀ w, ZAC m rs w -> RdSl w A c DRule.enc 11 (ofB rs x)) /\ (mget m x).isSome = !decide ((ofB rs x).length = 0) := by
 have := h x
 cases hm : mget m x with
 | none =>
  rw [hm] at this
  rw [this]
  exact ⟨none, 0, rfl, fun _ _ => ZA2 _ _ _, rfl⟩
 | some v =>
  rw [hm] at this
  obtain ⟨h1, A, c, rfl⟩ := this
  refine ⟨A, c, rfl, fun w hw => hw x A _ c hm, ?_⟩
  have : (ofB rs x).length ≠ 0 := fun h => h1 (List.length_eq_zero_iff.1 h)
  simp [this]
end Go.Proofs.YtbjomhdhkpgbaaaGreatDoor
namespace Go.Proofs.YtbjomhdhkpgbaaaGreatDoor
open Go Go.RowKit Go.Wk
theorem ZcX (x : ByteArray) : ∀ l : List ByteArray, memB x l = true ↔ x ∈ l
 | [] => by simp [memB]
 | y :: l => by
  simp only [memB, Bool.or_eq_true, decide_eq_true_eq, ZcX x l, List.mem_cons]
  constructor
  ·rintro (h | h)
   ·exact .inl h.symm
   ·exact .inr h
  ·rintro (h | h)
   ·exact .inl h.symm
   ·exact .inr h
theorem ZgQ (x : ByteArray) : ∀ (l : List DRule) (acc : List ByteArray), x ∈ ZaP l acc ↔ x ∈ acc \/ ∃ r ∈ l, r.name = x
 | [], acc => by simp [ZaP]
 | r :: l, acc => by
  simp only [ZaP]
  split
  ·rename_i h
   rw [ZgQ x l acc]
   have hm := (ZcX r.name acc).1 h
   constructor
   ·rintro (h | ⟨q, h1, h2⟩)
    ·exact .inl h
    ·exact .inr ⟨q, List.mem_cons_of_mem _ h1, h2⟩
   ·rintro (h | ⟨q, h1, h2⟩)
    ·exact .inl h
    ·rcases List.mem_cons.1 h1 with rfl | h1
     ·exact .inl (h2 ▸ hm)
     ·exact .inr ⟨q, h1, h2⟩
  ·rw [ZgQ x l _]
   constructor
   ·rintro (h | ⟨q, h1, h2⟩)
    ·rcases List.mem_append.1 h with h | h
     ·exact .inl h
     ·exact .inr ⟨r, List.mem_cons_self, (List.mem_singleton.1 h).symm⟩
    ·exact .inr ⟨q, List.mem_cons_of_mem _ h1, h2⟩
   ·rintro (h | ⟨q, h1, h2⟩)
    ·exact .inl (List.mem_append_left _ h)
    ·rcases List.mem_cons.1 h1 with rfl | h1
     ·exact .inl (List.mem_append_right _ (List.mem_singleton.2 h2.symm))
     ·exact .inr ⟨q, h1, h2⟩
def DD23.nz (d : DD23) : Nat := (zl23 d.zones).length
def DD23.nl (d : DD23) : Nat := (d.links.take 4).length
theorem ZcH : ∀ (l : List DRule) (acc : List ByteArray), acc.Nodup -> (ZaP l acc).Nodup
 | [], _, h => h
 | r :: l, acc, h => by
  rw [ZaP]
  split
  ·exact ZcH l acc h
  ·rename_i hn
   refine ZcH l _ (List.nodup_append.2 ⟨h, by simp, fun x hx y hy he => ?_⟩)
   rw [List.mem_singleton.1 hy] at he
   exact hn ((ZcX _ _).2 (he ▸ hx))
theorem Ziq (d : DD23) : 1 <= (Zae d).zones.length := by
 rw [Zae]
 dsimp only
 rw [Zcn]
 exact (Ze6 d.zones).1
end Go.Proofs.YtbjomhdhkpgbaaaGreatDoor
