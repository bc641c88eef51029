/- Parts of the proof. -/
import Derived.Test.YtdlmhmmhdbbliaaGreatDoorW10
import Derived.Test.YtdlmhmmhdbbliaaGreatDoorW21
import Derived.Test.YtdlmhmmhdbbliaaGreatDoorW25
import Derived.Test.YtdlmhmmhdbbliaaGreatDoorW26
import Derived.Test.YtdlmhmmhdbbliaaGreatDoorW19
import Derived.Test.YtdlmhmmhdbbliaaGreatDoorW04
import Derived.LaidHandle
import Derived.LaidLaws
import Derived.LaidSub
import Derived.Stop.Joined
set_option maxHeartbeats 4000000
set_option linter.unusedVariables false
set_option linter.unusedSimpArgs false
namespace Go.Proofs.YtdlmhmmhdbbliaaGreatDoor
open Go Go.RowKit Go.Wk
attribute [local irreducible] W RL Does Zau Zaj retQ Calls Pu Stp RD Qy Ay Zak ZbV ZkN ZaK Zbu Zby ZaP dig ZgJ
structure Pl (α : Type) where
 l : List α
 B : Option Addr
 c : Nat
structure RdLF {α : Type} (w : World) (A : Option Addr) (enc : α -> List Value) (sz : Nat) (pl : List (Pl α)) : Prop where
 rd : ∀ k p, pl[k]? = some p -> A ≠ none /\ RdSl w p.B p.c enc sz p.l /\ Zal w ((adr A).add (k * 1)) [.slice p.B p.l.length p.c]
theorem RdLF.up {α : Type} {w w' : World} {A : Option Addr} {enc : α -> List Value} {sz : Nat} {pl : List (Pl α)} (h : RdLF w A enc sz pl) (hb : Bel w.heap.size w w') : RdLF w' A enc sz pl :=
 ⟨fun k p hk => ⟨(h.rd k p hk).1, (h.rd k p hk).2.1.up hb, (h.rd k p hk).2.2.up hb (Nat.le_refl _)⟩⟩
theorem RdLL.places {α : Type} {w : World} {A : Option Addr} {c : Nat} {enc : α -> List Value} {sz : Nat} {ll : List (List α)} (h : RdLL w A c enc sz ll) : ∃ pl : List (Pl α), pl.map Pl.l = ll /\ RdLF w A enc sz pl /\ ∀ p ∈ pl, p.l.length <= p.c /\ p.c <= maxLen := by
 have key : ∀ i : Fin ll.length, ∃ p : Pl α, p.l = ll[i] /\ A ≠ none /\ RdSl w p.B p.c enc sz p.l /\ Zal w ((adr A).add (i.val * 1)) [.slice p.B p.l.length p.c] := fun i => by
  obtain ⟨h1, B, cb, h2, h3⟩ := h.rd i.val ll[i] (List.getElem?_eq_getElem i.isLt)
  exact ⟨⟨ll[i], B, cb⟩, rfl, h1, h2, h3⟩
 obtain ⟨f, hf⟩ := Classical.axiomOfChoice key
 have hget : ∀ k p, (List.ofFn f)[k]? = some p -> ∃ hk : k < ll.length, p = f ⟨k, hk⟩ := fun k p hp => by
  have hk := (List.getElem?_eq_some_iff.1 hp).1
  rw [List.length_ofFn] at hk
  rw [List.getElem?_ofFn, dif_pos hk] at hp
  exact ⟨hk, (Option.some.inj hp).symm⟩
 refine ⟨List.ofFn f, ?_, ⟨fun k p hp => ?_⟩, fun p hp => ?_⟩
 ·apply List.ext_getElem
  ·simp
  ·intro k h1 h2
   simp [(hf ⟨k, h2⟩).1]
 ·obtain ⟨hk, rfl⟩ := hget k p hp
  exact (hf ⟨k, hk⟩).2
 ·obtain ⟨k, hk⟩ := List.getElem?_of_mem hp
  obtain ⟨hk1, rfl⟩ := hget k p hk
  exact ⟨(hf ⟨k, hk1⟩).2.2.1.le, (hf ⟨k, hk1⟩).2.2.1.cap⟩
structure R3 where
 k : Nat
 A : Option Addr
 c : Nat
 m : Nat
 xs : List Value
structure Z3 where
 k : Nat
 A : Option Addr
 c : Nat
 m : Nat
 xs : List Value
 Zr : List ZE
structure E3 where
 k : Nat
 y : Int
 A : Option Addr
 c : Nat
 m : Nat
 xs : List Value
theorem Za0 {G G' : Prop} (k : G') (h : Hold G' -> G := by intro k9; (first | refine walk ?_ | (refine jn ?_; (try intro F); (first | (refine stA ?_) | (apply Zae; exact PuA)); refine fin ?_)); exact k9.out) : G := h ⟨k⟩
theorem Zm4 {G : Prop} (h : G := by (first | (apply Pu_indexAddr; rfl; rfl; omega; omega; exact hAn) | exact PuI)) : G := h
theorem Zc4 {G : Prop} (h : G := by (apply ZfJ; rfl; rfl; (rw [Zhy _ (by omega) (by omega)]; decide))) : G := h
theorem Zgm {G : Prop} (h : G := by first | (apply Qy_y; rfl; exact Zc4) | exact QyA) : G := h
theorem ZdD {G : Prop} (h : G := by repeat (first | exact QF.nil | (apply QF.mk; rfl; rfl; decide +kernel; exact Zgm))) : G := h
theorem Zgp {G : Prop} (h : G := by (first | (apply ZeH; rfl; rfl) | (apply Pu_sliceH; rfl; rfl; (split <;> omega); (split <;> omega)))) : G := h
theorem Zm3 {G : Prop} (h : G := by (first | exact PuI | (apply ZfJ; rfl; rfl; (rw [Zhy _ (by omega) (by omega)]; decide)))) : G := h
theorem Zm2 {G : Prop} (h : G := by (first | (apply ZaF; rfl; rfl; omega; omega; (intro w' hb hO; exact ((hX w' hb (hO.of (A := X) (by repeat' constructor))).rd k _ hpk).1)) | (apply Zd4 (v := .slice B l.length cb); rfl; (intro w' hb hO; exact ((hX w' hb (hO.of (A := X) (by repeat' constructor))).rd k _ hpk).2.2 0 _ rfl)) | (apply ZfJ; rfl; rfl; (rw [Zhy _ (by omega) (by omega)]; decide)) | (apply ZeH; rfl; rfl) | (apply Pu_sliceH; rfl; rfl; (split <;> omega); (split <;> omega)))) : G := h
theorem Zi3 {G : Prop} (h : G := by (first | (apply ZaF; rfl; rfl; omega; omega; (intro w' hb hO; exact ((hX2 w' hb (hO.of (A := X) (by repeat' constructor)) (hO.of (A := X2) (by repeat' constructor))).rd j e hge).1)) | (apply Zgn (cs := e.enc); rfl; rfl; (intro w' hb hO; exact ((hX2 w' hb (hO.of (A := X) (by repeat' constructor)) (hO.of (A := X2) (by repeat' constructor))).rd j e hge).2)))) : G := h
theorem ZmP {G : Prop} (h : G := by first | (apply Qy_y; rfl; exact Zi3) | exact QyA) : G := h
theorem ZmQ {G : Prop} (h : G := by repeat (first | exact QF.nil | (apply QF.mk; rfl; rfl; decide +kernel; exact ZmP))) : G := h
set_option maxHeartbeats 8000000 in
theorem ZnC (As Az Al : Option Addr) (cs cz cl : Nat) (d : DD23) (w : World) (hS : RdLL w As cs Zed 1 d.sets) (hZ : RdLL w Az cz E23.enc 8 d.zones) (hL : RdSl w Al cl Zed 1 d.links) (hrs : ∀ l ∈ d.sets, ∀ x ∈ l, inR .u8 x) (hrz : ∀ l ∈ d.zones, ∀ x ∈ l, x.ok) (hrl : ∀ x ∈ d.links, inR .u8 x) :
  Does Tryz.prog 5 [d23V As Az Al cs cz cl d] w (ZuB (Zbx d)) := by
 have hs1 := hS.le
 have hs2 := hS.cap
 have hz1 := hZ.le
 have hz2 := hZ.cap
 have hl1 := hL.le
 have hl2 := hL.cap
 simp only [maxLen] at hs2 hz2 hl2
 have hns : 1 <= d.ns /\ d.ns <= 3 := by unfold DD23.ns; omega
 refine Zab Tryz.func5 rfl rfl rfl rfl ?_
 repeat (first | ((apply RL_pu; rfl; first | (apply ZeH; rfl; rfl) | (apply Zya; rfl; rfl))) | refine Zkq ?_ | (refine jn ?_; (try intro F); (first | (refine bx ?_; intro bk) | (refine stA ?_) | (apply Zae; exact PuA)); refine fin ?_) | (apply RD_W; rfl; intro bk))
 rename_i b1 b2
 generalize bk = b3
 rw [show (if (1 : Int) < (if (3 : Int) < d.sets.length then (3 : Int) else d.sets.length) then (if (3 : Int) < d.sets.length then (3 : Int) else d.sets.length) else 1) = (d.ns : Int) from by unfold DD23.ns; split <;> split <;> omega]
 refine Zfc 82 11 (Zfc 50 2 (Zfc 78 2 (Zfc 9 1 ?_)))
 refine ZbZ (fun fr' O' => ∃ A1 c1, Sub [(1, .pointer (some ⟨b1, 0, none⟩)), (2, .pointer (some ⟨b2, 0, none⟩)), (3, .pointer (some ⟨b3, 0, none⟩)), (4, .int .i64 d.ns)] fr' /\ SubO [.blk b3 [.slice A1 (ZaP d.sets d.ns).length c1, .slice none 0 0, .slice none 0 0, .slice none 0 0] 32, rowR A1 c1 (ZaP d.sets d.ns), rowZ none 0 [], rowL none 0 [], rowS none 0 [], .blk b1 [.slice As d.sets.length cs, .slice Az d.zones.length cz, .slice Al d.links.length cl] 26, .blk b2 [.slice none 0 0, .slice none 0 0, .slice none 0 0, .slice none 0 0] 32] O') ?_ ?_
 ·apply W_block
  refine Zao [(23, .int .i64 d.ns), (1, .pointer (some ⟨b1, 0, none⟩)), (2, .pointer (some ⟨b2, 0, none⟩)), (3, .pointer (some ⟨b3, 0, none⟩)), (4, .int .i64 d.ns)] [rowZ none 0 [], rowL none 0 [], rowS none 0 [], .blk b1 [.slice As d.sets.length cs, .slice Az d.zones.length cz, .slice Al d.links.length cl] 26, .blk b2 [.slice none 0 0, .slice none 0 0, .slice none 0 0, .slice none 0 0] 32] (fun g : R3 => [(24, .int .i64 g.k)]) (fun g => [.blk b3 [.slice g.A g.m g.c, .slice none 0 0, .slice none 0 0, .slice none 0 0] 32, .row (.slice g.A g.m g.c) 82 11 g.m g.xs]) (fun g => g.k <= d.ns /\ g.m = (ZaP d.sets g.k).length /\ g.xs = (ZaP d.sets g.k).flatMap Zaa.enc) (fun g => d.ns - g.k) ⟨0, none, 0, 0, []⟩ SFA SOA ⟨Nat.zero_le _, by simp [ZaP], by simp [ZaP]⟩ ?_
  rintro ⟨k, A0, c0, m0, x0⟩ ⟨hk, hm0, hx0⟩
  dsimp only at hk hm0 hx0 ⊢
  have hlen := ZcR d.sets k
  repeat (first | refine Za0 ?_ | (refine jn ?_; (try intro F); (refine bx ?_; intro bk); refine fin ?_) | (apply RD_W; rfl; intro bk))
  refine Zaf rfl (fun h => ?_) (fun h => ?_)
  ·have hk2 : k < d.ns := by simpa using h
   have hlen2 := ZjH (d.sets.getD k []) (sR ++ dig k)
   repeat (first | refine Za0 ?_ | (refine jn ?_; (try intro F); (refine bx ?_; intro bk); refine fin ?_) | (apply RD_W; rfl; intro bk))
   refine ZbZ (fun fr' O' => ∃ B cb, RdSl w B cb Zed 1 (d.sets.getD k []) /\ (∀ x ∈ d.sets.getD k [], inR .u8 x) /\ Sub [(6, .slice B (d.sets.getD k []).length cb), (5, .int .i64 k), (24, .int .i64 k), (23, .int .i64 d.ns), (1, .pointer (some ⟨b1, 0, none⟩)), (2, .pointer (some ⟨b2, 0, none⟩)), (3, .pointer (some ⟨b3, 0, none⟩)), (4, .int .i64 d.ns)] fr' /\ SubO [.blk b3 [.slice A0 m0 c0, .slice none 0 0, .slice none 0 0, .slice none 0 0] 32, .row (.slice A0 m0 c0) 82 11 m0 x0, rowZ none 0 [], rowL none 0 [], rowS none 0 [], .blk b1 [.slice As d.sets.length cs, .slice Az d.zones.length cz, .slice Al d.links.length cl] 26, .blk b2 [.slice none 0 0, .slice none 0 0, .slice none 0 0, .slice none 0 0] 32] O') ?_ ?_
   ·refine Zaf rfl (fun h2 => ?_) (fun h2 => ?_)
    ·have hks : k < d.sets.length := by simpa using h2
     obtain ⟨hAn, B, cb, hB, hca⟩ := hS.rd k _ (List.getElem?_eq_getElem hks)
     have hrl2 := hrs _ (List.getElem_mem hks)
     have e : d.sets.getD k [] = d.sets[k] := by rw [List.getD_eq_getElem?_getD, List.getElem?_eq_getElem hks]; rfl
     rw [e]
     generalize d.sets[k] = l at *
     repeat (first | (apply RL_pu; rfl; exact Zm4) | (apply RD_Q; rfl; rfl; decide +kernel; rfl; rfl; exact QyMade230) | refine walk1 ?_ | (refine jn ?_; (try intro F); (first | (refine bx ?_; intro bk) | (refine stA ?_) | (apply Zae; first | exact Zm4 | exact PuA)); first | refine ⟨_, EndsA, QFMade230, ?_⟩ | refine fin ?_) | (apply RD_W; rfl; intro bk))
     exact ⟨rfl, B, cb, hB, hrl2, SFA, SOA⟩
    ·have hks : ¬ k < d.sets.length := by simpa using h2
     have e : d.sets.getD k [] = [] := by rw [List.getD_eq_getElem?_getD, List.getElem?_eq_none (by omega)]; rfl
     rw [e]
     repeat (first | refine Za0 ?_ | (refine jn ?_; (try intro F); (refine bx ?_; intro bk); refine fin ?_) | (apply RD_W; rfl; intro bk))
     exact ⟨rfl, none, 0, Zny _ _ _, fun x hx => by simp at hx, SFA, SOA⟩
   rintro fr' O' ⟨B, cb, hB, hrl2, hf, hO⟩
   apply thenQ_n
   refine Zcz hf hO ?_
   clear hf hO fr' O'
   have hstep : ZaP d.sets (k + 1) = ZaP d.sets k ++ ZbV (d.sets.getD k []) (sR ++ dig k) := by rw [ZaP]
   generalize d.sets.getD k [] = l at *
   repeat (first | (apply RL_pu; rfl; exact Zc4) | (apply RD_Q; rfl; rfl; decide +kernel; rfl; rfl; exact Zgm) | refine walk1 ?_ | (refine jg ?_; (try intro F); (first | (refine Zac (fun w' _ => ZcX k (by omega) (by omega) w') ?_) | (apply Zag (h := fun w' hw _ => ZnE B cb l (sR ++ dig k) w' (hB.up hw) hrl2); rfl; rintro v O' ⟨A1, c1, rfl, rfl⟩) | (apply ZaA (t := 27); rfl; rfl; (intro A' c'; (focus repeat' constructor)); (intro w' _ hO; exact Zv0 (hO.of (A := .row (.slice A1 _ c1) _ _ _ _) (by repeat' constructor))); exact Zba Zaa.len _; exact Ze0 oneR _; (simp only [maxLen]; omega); omega; intro A' c' hc1 hc2 hc3) | (refine bx ?_; intro bk) | (refine stA ?_)); first | refine ⟨_, EndsA, ZdD, ?_⟩ | refine fin ?_) | (refine jn ?_; (try intro F); (first | (apply ZaA (t := 27); rfl; rfl; (intro A' c'; (focus repeat' constructor)); (intro w' _ hO; exact Zv0 (hO.of (A := .row (.slice A1 _ c1) _ _ _ _) (by repeat' constructor))); exact Zba Zaa.len _; exact Ze0 oneR _; (simp only [maxLen]; omega); omega; intro A' c' hc1 hc2 hc3) | (refine bx ?_; intro bk) | (refine stA ?_) | (apply Zae; first | exact Zc4 | exact PuA)); first | refine ⟨_, EndsA, ZdD, ?_⟩ | refine fin ?_) | (apply RD_W; rfl; intro bk))
   exact ⟨⟨k + 1, A', c', m0 + (ZbV l (sR ++ dig k)).length, x0 ++ (ZbV l (sR ++ dig k)).flatMap Zaa.enc⟩, OA, ⟨OA, by rw [hstep, List.length_append, hm0], by rw [hstep, List.flatMap_append, hx0]⟩, SFA, SOA⟩
  have hk2 : k = d.ns := by simp only [decide_eq_false_iff_not, Int.ofNat_lt] at h; omega
  subst hm0 hx0
  rw [hk2]
  repeat (first | refine Za0 ?_ | (refine jn ?_; (try intro F); (refine bx ?_; intro bk); refine fin ?_) | (apply RD_W; rfl; intro bk))
  exact ⟨rfl, A0, c0, SFA, SOA⟩
 rintro fr' O' ⟨A1, c1, hf, hO⟩
 apply thenQ_n
 refine Zcz hf hO ?_
 clear hf hO fr' O'
 have hRR := ZcR d.sets d.ns
 unfold Zbx
 generalize ZaP d.sets d.ns = RR at *
 repeat (first | (apply RL_pu; rfl; exact Zgp) | (apply RD_Q; rfl; rfl; decide +kernel; rfl; rfl; exact QyMade232) | refine walk1 ?_ | (refine jn ?_; (try intro F); (first | (refine bx ?_; intro bk) | (refine stA ?_) | (apply Zae; first | exact Zgp | exact PuA)); first | refine ⟨_, EndsA, QFMade232, ?_⟩ | refine fin ?_) | (apply RD_W; rfl; intro bk))
 rw [show (if (3 : Int) < d.zones.length then (3 : Int) else d.zones.length).toNat = (d.zones.take 3).length from by rw [List.length_take]; split <;> omega]
 refine ZbZ (fun fr' O' => ∃ (X : It) (A : Option Addr) (c : Nat) (pl : List (Pl E23)), pl.map Pl.l = zl23 d.zones /\ (∀ p ∈ pl, p.l.length <= p.c /\ p.c <= maxLen) /\ (∀ w', Bel w.heap.size w w' -> X.sat w' -> RdLF w' A E23.enc 8 pl) /\ Sub [(7, .slice A (zl23 d.zones).length c), (1, .pointer (some ⟨b1, 0, none⟩)), (2, .pointer (some ⟨b2, 0, none⟩)), (3, .pointer (some ⟨b3, 0, none⟩)), (4, .int .i64 d.ns)] fr' /\ SubO (X :: .blk b3 [.slice A1 RR.length c1, .slice none 0 0, .slice none 0 0, .slice none 0 0] 32 :: rowZ none 0 [] :: rowR A1 c1 RR :: rowL none 0 [] :: rowS none 0 [] :: .blk b1 [.slice As d.sets.length cs, .slice Az d.zones.length cz, .slice Al d.links.length cl] 26 :: .blk b2 [.slice none 0 0, .slice none 0 0, .slice none 0 0, .slice none 0 0] 32 :: []) O') ?_ ?_
 ·refine Zaf rfl (fun h => ?_) (fun h => ?_)
  ·have h0 : d.zones.length = 0 := by
    have := of_decide_eq_true h
    rw [List.length_take] at this
    omega
   rw [show zl23 d.zones = [[]] from if_pos h0]
   repeat (first | refine Za0 ?_ | (refine jn ?_; (try intro F); (refine bx ?_; intro bk); refine fin ?_) | (apply RD_W; rfl; intro bk))
   exact ⟨rfl, .blk bk [.slice none 0 0] _, some ⟨bk, 0, none⟩, 1, [⟨[], none, 0⟩], rfl, fun p hp => by rw [List.mem_singleton.1 hp]; exact ⟨Nat.le_refl 0, Nat.zero_le _⟩, fun w' _ hX => ⟨fun k p hk => by
    cases k with
    | zero =>
     simp only [List.getElem?_cons_zero, Option.some.injEq] at hk
     subst hk
     exact ⟨by simp, Zny _ _ _, fun j v hj => by rw [ZaZ, Nat.zero_mul, Nat.zero_add]; exact (ZbG hX _ v hj).2⟩
    | succ k => simp at hk⟩, SFA, SOA⟩
  ·have h0 : d.zones.length ≠ 0 := by
    have := of_decide_eq_false h
    rw [List.length_take] at this
    omega
   rw [show zl23 d.zones = d.zones.take 3 from if_neg h0]
   obtain ⟨pl, p1, p2, p3⟩ := (hZ.take 3).places
   refine Zgj [] _ (fun _ => True) (.refl _) (fun _ _ => trivial) ?_
   repeat (first | refine Za0 ?_ | (refine jn ?_; (try intro F); (refine bx ?_; intro bk); refine fin ?_) | (apply RD_W; rfl; intro bk))
   exact ⟨rfl, .fact (foot []) (fun _ => True), Az, cz, pl, p1, p3, fun w' hb _ => p2.up hb, SFA, SOA⟩
 rintro fr' O' ⟨X, Az', cz', pl, hpl, hpb, hX, hf, hO⟩
 apply thenQ_n
 refine Zcz hf hO ?_
 clear hf hO fr' O'
 obtain ⟨zb1, zb2⟩ := ZeL d.zones
 have hzok : ∀ l ∈ zl23 d.zones, ∀ x ∈ l, x.ok := by
  intro l hl x hx
  unfold zl23 at hl
  split at hl
  ·rw [List.mem_singleton.1 hl] at hx; simp at hx
  ·exact hrz l (List.mem_of_mem_take hl) x hx
 generalize hZL : zl23 d.zones = ZL at *
 repeat (first | refine Zkq ?_ | (refine jn ?_; (try intro F); (first | (refine bx ?_; intro bk) | (refine stA ?_) | (apply Zae; exact PuA)); refine fin ?_) | (apply RD_W; rfl; intro bk))
 refine ZbZ (fun fr' O' => ∃ (A : Option Addr) (cc m : Nat) (xs : List Value) (Zr : List ZE), (m = Zr.length /\ xs = Zr.reverse.flatMap ZE.enc /\ Zr.reverse.map ZE.z = Zbu d.ns ZL ZL.length) /\ Sub [(7, .slice Az' ZL.length cz'), (1, .pointer (some ⟨b1, 0, none⟩)), (2, .pointer (some ⟨b2, 0, none⟩)), (3, .pointer (some ⟨b3, 0, none⟩)), (4, .int .i64 d.ns)] fr' /\ SubO (.blk b3 [.slice A1 RR.length c1, .slice A m cc, .slice none 0 0, .slice none 0 0] 32 :: .row (.slice A m cc) 50 2 m xs :: X :: rowR A1 c1 RR :: rowL none 0 [] :: rowS none 0 [] :: .blk b1 [.slice As d.sets.length cs, .slice Az d.zones.length cz, .slice Al d.links.length cl] 26 :: .blk b2 [.slice none 0 0, .slice none 0 0, .slice none 0 0, .slice none 0 0] 32 :: Zr.map Zfm) O') ?_ ?_
 rotate_left
 ·rintro fr' O' ⟨A2, c2, m2, x2, Zr, ⟨hm, hx, hzz⟩, hf, hO⟩
  replace hO := SubO.permT (l := [_, _, _, _, _, _, _, _]) hO ((List.reverse_perm Zr).symm.map Zfm)
  apply thenQ_n
  refine Zcz hf hO ?_
  clear hf hO fr' O'
  rw [<- List.length_reverse] at hm
  generalize Zr.reverse = Zs at *
  have hzl := ZcL d.ns ZL ZL.length
  generalize Zbu d.ns ZL ZL.length = ZS at *
  have hZl : Zs.length = ZL.length := by rw [<- hzl, <- hzz, List.length_map]
  subst hm hx
  repeat (first | (apply RL_pu; rfl; exact Zgp) | (apply RD_Q; rfl; rfl; decide +kernel; rfl; rfl; exact QyMade232) | refine walk1 ?_ | (refine jn ?_; (try intro F); (first | (refine bx ?_; intro bk) | (refine stA ?_) | (apply Zae; first | exact Zgp | exact PuA)); first | refine ⟨_, EndsA, QFMade232, ?_⟩ | refine fin ?_) | (apply RD_W; rfl; intro bk))
  rw [show (if (4 : Int) < d.links.length then (4 : Int) else d.links.length).toNat = (d.links.take 4).length from by rw [List.length_take]; split <;> omega]
  have hL4 := hL.take 4
  have hr4 : ∀ x ∈ d.links.take 4, inR .u8 x := fun x hx => hrl x (List.mem_of_mem_take hx)
  have hl4 : (d.links.take 4).length <= 4 := by rw [List.length_take]; omega
  generalize d.links.take 4 = LL at *
  refine Zao [(7, .slice Az' ZL.length cz'), (123, .slice Al LL.length cl), (124, .int .i64 LL.length), (1, .pointer (some ⟨b1, 0, none⟩)), (2, .pointer (some ⟨b2, 0, none⟩)), (3, .pointer (some ⟨b3, 0, none⟩)), (4, .int .i64 d.ns)] (.row (.slice A2 Zs.length c2) 50 2 Zs.length (Zs.flatMap ZE.enc) :: X :: rowR A1 c1 RR :: rowS none 0 [] :: .blk b1 [.slice As d.sets.length cs, .slice Az d.zones.length cz, .slice Al d.links.length cl] 26 :: .blk b2 [.slice none 0 0, .slice none 0 0, .slice none 0 0, .slice none 0 0] 32 :: Zs.map Zfm) (fun g : R3 => [(125, .int .i64 g.k)]) (fun g => [.blk b3 [.slice A1 RR.length c1, .slice A2 Zs.length c2, .slice g.A g.m g.c, .slice none 0 0] 32, .row (.slice g.A g.m g.c) 78 2 g.m g.xs]) (fun g => g.k <= LL.length /\ g.m = (Zby ZL.length LL g.k).length /\ g.xs = (Zby ZL.length LL g.k).flatMap Zb5.enc) (fun g => LL.length - g.k) ⟨0, none, 0, 0, []⟩ SFA STA ⟨Nat.zero_le _, by simp [Zby], by simp [Zby]⟩ ?_
  rintro ⟨k, A3, c3, m3, x3⟩ ⟨hk, hm3, hx3⟩
  dsimp only at hk hm3 hx3 ⊢
  have hll := ZdP ZL.length LL k
  rw [hll] at hm3
  repeat (first | refine Za0 ?_ | (refine jn ?_; (try intro F); (refine bx ?_; intro bk); refine fin ?_) | (apply RD_W; rfl; intro bk))
  refine Zaf rfl (fun h => ?_) (fun h => ?_)
  ·have hk2 : k < LL.length := by simpa using h
   obtain ⟨hna, hca⟩ := hL4.rd _ _ (List.getElem?_eq_getElem hk2)
   have hv := hr4 _ (List.getElem_mem hk2)
   have hstp : Zby ZL.length LL (k + 1) = Zby ZL.length LL k ++ [Zhc ZL.length LL[k] k] := by
    rw [Zby, List.getD_eq_getElem?_getD, List.getElem?_eq_getElem hk2]
    rfl
   rw [ZjN] at hv
   generalize LL[k] = v at *
   have g1 := Int.emod_nonneg v (b := (ZL.length : Int)) (by omega)
   have g2 := Int.emod_lt_of_pos v (b := (ZL.length : Int)) (by omega)
   have g3 := Int.emod_nonneg v (b := (ZL.length : Int) + k) (by omega)
   have g4 := Int.emod_lt_of_pos v (b := (ZL.length : Int) + k) (by omega)
   repeat (first | (apply RL_pu; rfl; exact Zm3) | (apply RD_Q; rfl; rfl; decide +kernel; rfl; rfl; exact QyMade233) | refine walk1 ?_ | (refine jg ?_; (try intro F); (first | (refine Zac (fun w' _ => ZcX (v % (ZL.length : Int)) (by omega) (by omega) w') ?_) | (refine bx ?_; intro bk) | (refine stA ?_)); first | refine ⟨_, EndsA, QFMade233, ?_⟩ | refine fin ?_) | (refine jn ?_; (try intro F); (first | (refine bx ?_; intro bk) | (refine stA ?_) | (apply Zae; first | exact Zm3 | exact PuA)); first | refine ⟨_, EndsA, QFMade233, ?_⟩ | refine fin ?_) | (apply RD_W; rfl; intro bk))
   refine Zaf rfl (fun h2 => ?_) (fun h2 => ?_)
   ·have h2' := of_decide_eq_true h2
    have e : Zhc ZL.length v k = ⟨sL ++ dig (v % ((ZL.length : Int) + k) - ZL.length), sL ++ dig k⟩ := by rw [Zhc, if_pos h2']
    rw [e] at hstp
    repeat (first | (apply RL_pu; rfl; exact Zc4) | (apply RD_Q; rfl; rfl; decide +kernel; rfl; rfl; exact Zgm) | refine walk1 ?_ | (refine jg ?_; (try intro F); (first | (refine Zac (fun w' _ => ZcX (v % ((ZL.length : Int) + k) - ZL.length) (by omega) (by omega) w') ?_) | (refine Zac (fun w' _ => ZcX k (by omega) (by omega) w') ?_) | (apply ZaA (t := 29); rfl; rfl; (intro A' c'; (focus repeat' constructor)); (intro w' _ hO; exact ZbG (hO.of (by repeat' constructor))); rfl; rfl; (simp only [maxLen]; omega); omega; intro A' c' hc1 hc2 hc3) | (refine bx ?_; intro bk) | (refine stA ?_)); first | refine ⟨_, EndsA, ZdD, ?_⟩ | refine fin ?_) | (refine jn ?_; (try intro F); (first | (apply ZaA (t := 29); rfl; rfl; (intro A' c'; (focus repeat' constructor)); (intro w' _ hO; exact ZbG (hO.of (by repeat' constructor))); rfl; rfl; (simp only [maxLen]; omega); omega; intro A' c' hc1 hc2 hc3) | (refine bx ?_; intro bk) | (refine stA ?_) | (apply Zae; first | exact Zc4 | exact PuA)); first | refine ⟨_, EndsA, ZdD, ?_⟩ | refine fin ?_) | (apply RD_W; rfl; intro bk))
    exact ⟨⟨k + 1, A', c', m3 + 1, x3 ++ (⟨sL ++ dig (v % ((ZL.length : Int) + k) - ZL.length), sL ++ dig k⟩ : Zb5).enc⟩, OA, ⟨OA, by rw [hstp, List.length_append, hll, hm3]; rfl, by rw [hstp, List.flatMap_append, hx3]; rfl⟩, SFA, STA⟩
   have h2' := of_decide_eq_false h2
   have e : Zhc ZL.length v k = ⟨sZ ++ dig (v % (ZL.length : Int)), sL ++ dig k⟩ := by rw [Zhc, if_neg h2']
   rw [e] at hstp
   repeat (first | (apply RL_pu; rfl; exact Zc4) | (apply RD_Q; rfl; rfl; decide +kernel; rfl; rfl; exact Zgm) | refine walk1 ?_ | (refine jg ?_; (try intro F); (first | (refine Zac (fun w' _ => ZcX k (by omega) (by omega) w') ?_) | (apply ZaA (t := 29); rfl; rfl; (intro A' c'; (focus repeat' constructor)); (intro w' _ hO; exact ZbG (hO.of (by repeat' constructor))); rfl; rfl; (simp only [maxLen]; omega); omega; intro A' c' hc1 hc2 hc3) | (refine bx ?_; intro bk) | (refine stA ?_)); first | refine ⟨_, EndsA, ZdD, ?_⟩ | refine fin ?_) | (refine jn ?_; (try intro F); (first | (apply ZaA (t := 29); rfl; rfl; (intro A' c'; (focus repeat' constructor)); (intro w' _ hO; exact ZbG (hO.of (by repeat' constructor))); rfl; rfl; (simp only [maxLen]; omega); omega; intro A' c' hc1 hc2 hc3) | (refine bx ?_; intro bk) | (refine stA ?_) | (apply Zae; first | exact Zc4 | exact PuA)); first | refine ⟨_, EndsA, ZdD, ?_⟩ | refine fin ?_) | (apply RD_W; rfl; intro bk))
   exact ⟨⟨k + 1, A', c', m3 + 1, x3 ++ (⟨sZ ++ dig (v % (ZL.length : Int)), sL ++ dig k⟩ : Zb5).enc⟩, OA, ⟨OA, by rw [hstp, List.length_append, hll, hm3]; rfl, by rw [hstp, List.flatMap_append, hx3]; rfl⟩, SFA, STA⟩
  have hkl : k = LL.length := by simp only [decide_eq_false_iff_not, Int.ofNat_lt] at h; omega
  rw [<- hkl]
  rw [<- hll] at hm3
  generalize Zby ZL.length LL k = ls at *
  subst hm3 hx3
  repeat (first | refine Za0 ?_ | (refine jn ?_; (try intro F); (refine bx ?_; intro bk); refine fin ?_) | (apply RD_W; rfl; intro bk))
  exact ret_1 (.agg #[.slice A1 RR.length c1, .slice A2 Zs.length c2, .slice A3 ls.length c3, .slice none 0 0]) (rowR A1 c1 RR :: rowZ A2 c2 Zs :: rowL A3 c3 ls :: rowS none 0 [] :: Zs.map Zfm) (.cellB rfl (by repeat' constructor) rfl rfl) STA ⟨A1, c1, A2, c2, A3, c3, none, 0, Zs, by simp [srcV, <- hzz], hzz, rfl⟩
 apply W_block
 refine Zwi (fun g : Z3 => [(60, .int .i64 g.k), (58, .slice Az' ZL.length cz'), (59, .int .i64 ZL.length), (7, .slice Az' ZL.length cz'), (1, .pointer (some ⟨b1, 0, none⟩)), (2, .pointer (some ⟨b2, 0, none⟩)), (3, .pointer (some ⟨b3, 0, none⟩)), (4, .int .i64 d.ns)]) (fun g => .blk b3 [.slice A1 RR.length c1, .slice g.A g.m g.c, .slice none 0 0, .slice none 0 0] 32 :: .row (.slice g.A g.m g.c) 50 2 g.m g.xs :: X :: rowR A1 c1 RR :: rowL none 0 [] :: rowS none 0 [] :: .blk b1 [.slice As d.sets.length cs, .slice Az d.zones.length cz, .slice Al d.links.length cl] 26 :: .blk b2 [.slice none 0 0, .slice none 0 0, .slice none 0 0, .slice none 0 0] 32 :: g.Zr.map Zfm)
  (fun g => g.k <= ZL.length /\ g.m = g.Zr.length /\ g.xs = g.Zr.reverse.flatMap ZE.enc /\ g.Zr.reverse.map ZE.z = Zbu d.ns ZL g.k) (fun g => ZL.length - g.k) ⟨0, none, 0, 0, [], []⟩ SFA SOA ⟨Nat.zero_le _, rfl, rfl, by simp [Zbu]⟩ ?_
 rintro ⟨k, A2, c2, m2, x2, Zr⟩ ⟨hk, hm, hx, hzz⟩
 dsimp only at hk hm hx hzz ⊢
 have hzl := ZcL d.ns ZL k
 have hZl : Zr.length = k := by rw [<- hzl, <- hzz, List.length_map, List.length_reverse]
 repeat (first | refine Za0 ?_ | (refine jn ?_; (try intro F); (refine bx ?_; intro bk); refine fin ?_) | (apply RD_W; rfl; intro bk))
 refine Zaf rfl (fun h => ?_) (fun h => ?_)
 ·have hk2 : k < ZL.length := by simpa using h
  have hkp : k < pl.length := by rw [<- hpl, List.length_map] at hk2; exact hk2
  have hpk : pl[k]? = some pl[k] := List.getElem?_eq_getElem hkp
  have hpm : pl[k] ∈ pl := List.getElem_mem hkp
  obtain ⟨pb1, pb2⟩ := hpb _ hpm
  have hlm : pl[k].l ∈ ZL := by rw [<- hpl]; exact List.mem_map.2 ⟨_, hpm, rfl⟩
  have hok := hzok _ hlm
  have hstz : Zbu d.ns ZL (k + 1) = Zbu d.ns ZL k ++ [ZoG d.ns k pl[k].l] := by
   rw [Zbu, List.getD_eq_getElem?_getD, <- hpl, List.getElem?_map, hpk]
   rfl
  generalize pl[k] = p at *
  obtain ⟨l, B, cb⟩ := p
  dsimp only at *
  simp only [maxLen] at pb2
  generalize hT : Zr.map Zfm = T
  repeat (first | (apply RL_pu; rfl; exact Zm2) | (apply RD_Q; rfl; rfl; decide +kernel; rfl; rfl; exact QyMade234) | refine walk1 ?_ | (refine jg ?_; (try intro F); (first | (refine Zac (fun w' _ => ZcX k (by omega) (by omega) w') ?_) | (refine bx ?_; intro bk) | (refine stA ?_)); first | refine ⟨_, EndsA, QFMade234, ?_⟩ | refine fin ?_) | (refine jn ?_; (try intro F); (first | (refine bx ?_; intro bk) | (refine stA ?_) | (apply Zae; first | exact Zm2 | exact PuA)); first | refine ⟨_, EndsA, QFMade234, ?_⟩ | refine fin ?_) | (apply RD_W; rfl; intro bk))
  rw [show (if (4 : Int) < l.length then (4 : Int) else l.length).toNat = (l.take 4).length from by rw [List.length_take]; split <;> omega]
  generalize bk = b10
  refine ZbZ (fun fr' O' => ∃ (X2 : It) (B2 : Option Addr) (c4 : Nat), (el23 l).length <= c4 /\ (∀ w', Bel w.heap.size w w' -> X.sat w' -> X2.sat w' -> RdSl w' B2 c4 E23.enc 8 (el23 l)) /\ Sub [(9, .slice B2 (el23 l).length c4), (8, .int .i64 k), (10, .pointer (some ⟨b10, 0, none⟩)), (60, .int .i64 k), (58, .slice Az' ZL.length cz'), (59, .int .i64 ZL.length), (7, .slice Az' ZL.length cz'), (1, .pointer (some ⟨b1, 0, none⟩)), (2, .pointer (some ⟨b2, 0, none⟩)), (3, .pointer (some ⟨b3, 0, none⟩)), (4, .int .i64 d.ns)] fr' /\ SubO (.blk b10 [.string (sZ ++ dig k), .slice none 0 0] 50 :: X2 :: .blk b3 [.slice A1 RR.length c1, .slice A2 m2 c2, .slice none 0 0, .slice none 0 0] 32 :: .row (.slice A2 m2 c2) 50 2 m2 x2 :: X :: rowR A1 c1 RR :: rowL none 0 [] :: rowS none 0 [] :: .blk b1 [.slice As d.sets.length cs, .slice Az d.zones.length cz, .slice Al d.links.length cl] 26 :: .blk b2 [.slice none 0 0, .slice none 0 0, .slice none 0 0, .slice none 0 0] 32 :: T) O') ?_ ?_
  ·refine Zaf rfl (fun h2 => ?_) (fun h2 => ?_)
   ·have h0 : l.length = 0 := by
     have := of_decide_eq_true h2
     rw [List.length_take] at this
     omega
    rw [show el23 l = [e23Z] from if_pos h0]
    repeat (first | refine Za0 ?_ | (refine jn ?_; (try intro F); (refine bx ?_; intro bk); refine fin ?_) | (apply RD_W; rfl; intro bk))
    exact ⟨rfl, .blk bk e23Z.enc _, some ⟨bk, 0, none⟩, 1, Nat.le_refl 1, fun w' _ _ hX2 => ZkB (c := 1) (l := [e23Z]) E23.len (Nat.le_refl 1) (by decide) hX2, SFA, STA⟩
   ·have h0 : l.length ≠ 0 := by
     have := of_decide_eq_false h2
     rw [List.length_take] at this
     omega
    rw [show el23 l = l.take 4 from if_neg h0]
    refine Zgj [] _ (fun _ => True) (.refl _) (fun _ _ => trivial) ?_
    repeat (first | refine Za0 ?_ | (refine jn ?_; (try intro F); (refine bx ?_; intro bk); refine fin ?_) | (apply RD_W; rfl; intro bk))
    exact ⟨rfl, .fact (foot []) (fun _ => True), B, cb, by rw [List.length_take]; omega, fun w' hb hx1 _ => ((hX w' hb hx1).rd k _ hpk).2.1.take 4, SFA, STA⟩
  rintro fr' O' ⟨X2, B2, c4, hc4, hX2, hf, hO⟩
  apply thenQ_n
  refine Zcz hf hO ?_
  clear hf hO fr' O'
  obtain ⟨eb1, eb2⟩ := Zpk l
  have heok : ∀ e ∈ el23 l, e.ok := by
   intro e he
   unfold el23 at he
   split at he
   ·rw [List.mem_singleton.1 he]; refine ⟨?_, ?_, ?_, ?_, ?_, ?_, ?_, ?_⟩ <;> first | exact ZjN.2 ⟨by decide, by decide⟩ | exact Zwa.2 ⟨by decide, by decide⟩
   ·exact hok e (List.mem_of_mem_take he)
  rw [ZoG] at hstz
  generalize el23 l = EL at *
  repeat (first | refine Za0 ?_ | (refine jn ?_; (try intro F); (refine bx ?_; intro bk); refine fin ?_) | (apply RD_W; rfl; intro bk))
  refine Zfc 75 13 ?_
  refine Zao [(9, .slice B2 EL.length c4), (8, .int .i64 k), (10, .pointer (some ⟨b10, 0, none⟩)), (60, .int .i64 k), (79, .slice B2 EL.length c4), (80, .int .i64 EL.length), (58, .slice Az' ZL.length cz'), (59, .int .i64 ZL.length), (7, .slice Az' ZL.length cz'), (1, .pointer (some ⟨b1, 0, none⟩)), (2, .pointer (some ⟨b2, 0, none⟩)), (3, .pointer (some ⟨b3, 0, none⟩)), (4, .int .i64 d.ns)] (X2 :: .blk b3 [.slice A1 RR.length c1, .slice A2 m2 c2, .slice none 0 0, .slice none 0 0] 32 :: .row (.slice A2 m2 c2) 50 2 m2 x2 :: X :: rowR A1 c1 RR :: rowL none 0 [] :: rowS none 0 [] :: .blk b1 [.slice As d.sets.length cs, .slice Az d.zones.length cz, .slice Al d.links.length cl] 26 :: .blk b2 [.slice none 0 0, .slice none 0 0, .slice none 0 0, .slice none 0 0] 32 :: T) (fun g : E3 => [(81, .int .i64 g.k), (11, .int .i64 g.y)]) (fun g => [.blk b10 [.string (sZ ++ dig k), .slice g.A g.m g.c] 50, .row (.slice g.A g.m g.c) 75 13 g.m g.xs])
   (fun g => g.k <= EL.length /\ g.y = (ZaK d.ns EL g.k).2 /\ g.m = (ZaK d.ns EL g.k).1.length /\ g.xs = (ZaK d.ns EL g.k).1.flatMap DEra.enc) (fun g => EL.length - g.k) ⟨0, 1904, none, 0, 0, []⟩ SFA STA ⟨Nat.zero_le _, by simp [ZaK], by simp [ZaK], by simp [ZaK]⟩ ?_
  rintro ⟨j, y, A3, c3, m3, x3⟩ ⟨hj, hy, hm3, hx3⟩
  dsimp only at hj hy hm3 hx3 ⊢
  have hel := ZeV d.ns EL j
  obtain ⟨y1, y2⟩ := Ziw d.ns EL heok j
  rw [<- hy] at y1 y2
  have hm4 : m3 = j := by rw [hm3, hel]
  repeat (first | refine Za0 ?_ | (refine jn ?_; (try intro F); (refine bx ?_; intro bk); refine fin ?_) | (apply RD_W; rfl; intro bk))
  refine Zaf rfl (fun h => ?_) (fun h => ?_)
  ·have hj2 : j < EL.length := by simpa using h
   have hge : EL[j]? = some EL[j] := List.getElem?_eq_getElem hj2
   have heo := heok _ (List.getElem_mem hj2)
   have hst : ZaK d.ns EL (j + 1) = ((ZaK d.ns EL j).1 ++ [ZkN EL[j] (decide ((j : Int) = 0)) d.ns (y + (1 + EL[j].years % 30)) (decide ((j : Int) < (EL.length : Int) - 1))], y + (1 + EL[j].years % 30)) := by
    rw [ZaK, List.getD_eq_getElem?_getD, hge, <- hy]
    rfl
   generalize EL[j] = e at *
   obtain ⟨k1, k2, k3, k4, k5, k6, k7, k8⟩ := id heo
   rw [ZjN] at k4
   repeat (first | (apply RL_pu; rfl; exact Zi3) | (apply RD_Q; rfl; rfl; decide +kernel; rfl; rfl; exact ZmP) | refine walk1 ?_ | (refine jg ?_; (try intro F); (first | (refine Zac (fun w' _ => ZqR e heo (decide ((j : Int) = 0)) d.ns (y + (1 + e.years % 30)) (decide ((j : Int) < (EL.length : Int) - 1)) (by omega) (by omega) w') ?_) | (apply ZaA (t := 48); rfl; rfl; (intro A' c'; (focus repeat' constructor)); (intro w' _ hO; exact ZbG (hO.of (by repeat' constructor))); rfl; rfl; (simp only [maxLen]; omega); omega; intro A' c' hc1 hc2 hc3) | (refine bx ?_; intro bk) | (refine stA ?_)); first | refine ⟨_, EndsA, ZmQ, ?_⟩ | refine fin ?_) | (refine jn ?_; (try intro F); (first | (apply ZaA (t := 48); rfl; rfl; (intro A' c'; (focus repeat' constructor)); (intro w' _ hO; exact ZbG (hO.of (by repeat' constructor))); rfl; rfl; (simp only [maxLen]; omega); omega; intro A' c' hc1 hc2 hc3) | (refine bx ?_; intro bk) | (refine stA ?_) | (apply Zae; first | exact Zi3 | exact PuA)); first | refine ⟨_, EndsA, ZmQ, ?_⟩ | refine fin ?_) | (apply RD_W; rfl; intro bk))
   exact ⟨⟨j + 1, y + (1 + e.years % 30), A', c', m3 + 1, x3 ++ (ZkN e (decide ((j : Int) = 0)) d.ns (y + (1 + e.years % 30)) (decide ((j : Int) < (EL.length : Int) - 1))).enc⟩, OA, ⟨OA, by rw [hst], by rw [hst, List.length_append, <- hm3]; rfl, by rw [hst, List.flatMap_append, hx3]; simp⟩, SFA, STA⟩
  have hjl : j = EL.length := by simp only [decide_eq_false_iff_not, Int.ofNat_lt] at h; omega
  rw [<- hjl] at hstz
  generalize (ZaK d.ns EL j).1 = es at *
  subst hm3 hx3
  repeat (first | refine walk ?_ | (refine jn ?_; (try intro F); (first | (apply ZaA (t := 28); rfl; rfl; (intro A' c'; (focus repeat' constructor)); (intro w' _ hO; exact ZbG (hO.of (by repeat' constructor))); rfl; rfl; (simp only [maxLen]; omega); omega; intro A' c' hc1 hc2 hc3) | (refine bx ?_; intro bk) | (refine stA ?_) | (apply Zae; exact PuA)); refine fin ?_) | (apply RD_W; rfl; intro bk))
  subst hT
  exact ⟨⟨k + 1, A', c', m2 + 1, x2 ++ ZE.enc ⟨⟨sZ ++ dig k, es⟩, A3, c3⟩, ⟨⟨sZ ++ dig k, es⟩, A3, c3⟩ :: Zr⟩, OA, ⟨OA, by simp [hm], by simp [hx], by rw [hstz, <- hzz]; simp⟩, SFA, STA⟩
 have hkz : k = ZL.length := by simp only [decide_eq_false_iff_not, Int.ofNat_lt] at h; omega
 rw [hkz] at hzz
 repeat (first | refine Za0 ?_ | (refine jn ?_; (try intro F); (refine bx ?_; intro bk); refine fin ?_) | (apply RD_W; rfl; intro bk))
 exact ⟨rfl, A2, c2, m2, x2, Zr, ⟨hm, hx, hzz⟩, SFA, STA⟩
end Go.Proofs.YtdlmhmmhdbbliaaGreatDoor
namespace Go.Proofs.YtdlmhmmhdbbliaaGreatDoor
open Go Go.RowKit Go.Wk
attribute [local irreducible] W RL Does Zau Zaj retQ Calls Pu Stp RD Qy Ay Zak Zbx
theorem Zyg {Zs : List ZE} {zs : List ZaY} (h : Zs.map ZE.z = zs) {j : Nat} {z : ZaY} (hg : zs[j]? = some z) : ∃ q, Zs[j]? = some q /\ q.z = z := by
 subst h
 rw [List.getElem?_map] at hg
 cases hq : Zs[j]? with
 | none => rw [hq] at hg; cases hg
 | some q =>
  rw [hq] at hg
  exact ⟨q, rfl, Option.some.inj hg⟩
theorem ZpR {G : Prop} (h : G := by (apply ZaC; rfl; rfl; exact t0)) : G := h
theorem Zld {G : Prop} (h : G := by (first | (apply Zdd; rfl; rfl; (constructor <;> omega)) | (apply ZiV; rfl; rfl; exact ht1) | (apply ZeI; rfl; rfl; exact ht2) | (apply ZaF; rfl; rfl; omega; omega; (intro w' _ hO; exact ZoV (hO.of (A := rowZ Z1 z1 Zs1) (by repeat' constructor)) (by omega))) | (apply ZiW; rfl; (focus repeat' constructor); exact hz1) | (apply ZiZ (i := (⟨lo, ld, la⟩ : Zde)) (j := ⟨lo, ld, la⟩) (enc := Zde.enc); rfl; rfl; exact decide_eq_true rfl))) : G := h
theorem ZpF {G : Prop} (h : G := by first | (apply Qy_y; rfl; exact Zld) | exact QyA) : G := h
theorem ZpI {G : Prop} (h : G := by repeat (first | exact QF.nil | (apply QF.mk; rfl; rfl; decide +kernel; exact ZpF))) : G := h
set_option maxHeartbeats 8000000 in
theorem Zjh (As Az Al : Option Addr) (cs cz cl : Nat) (d : DD23) (zone t : Int) (w : World) (hL : LibW w) (hG : Glob w) (hF : FtG w) (hM : MeG w) (hS : RdLL w As cs Zed 1 d.sets) (hZ : RdLL w Az cz E23.enc 8 d.zones) (hD : RdSl w Al cl Zed 1 d.links) (hrs : ∀ l ∈ d.sets, ∀ x ∈ l, inR .u8 x) (hrz : ∀ l ∈ d.zones, ∀ x ∈ l, x.ok) (hrl : ∀ x ∈ d.links, inR .u8 x) (hzn : inR .u8 zone) :
  Does Tryz.prog 3 [d23V As Az Al cs cz cl d, .int .u8 zone, .int .i64 t] w (fun v O => v = .bool true /\ O = []) := by
 have hwk := fun w' (hw : Bel w.heap.size w w') => Zln w' (hL.up hw) (hG.up hw) (hF.up hw)
 have hmk := fun w' (hw : Bel w.heap.size w w') => (ZnC As Az Al cs cz cl d w' (hS.up hw) (hZ.up hw) (hD.up hw) hrs hrz hrl).monoO fun _ _ h => Zsh h
 have hac := ZjG d
 have hm := mn23 d
 have hsm := Zqt d
 have hzs := Zco d
 have h12 := Zyz d
 have hnz : 1 <= (Zbx d).zones.length := by
  rw [Zh4]
  exact (ZeL d.zones).1
 generalize Zbx d = s at *
 rw [ZjN] at hzn
 have hzl : s.zones.length <= 100 := hsm.nz
 obtain ⟨m, hm0⟩ : ∃ m : Nat, (m : Int) = zone % s.zones.length := ⟨(zone % s.zones.length).toNat, by
  have := Int.emod_nonneg zone (b := s.zones.length) (by omega)
  omega⟩
 have hmz : m < s.zones.length := by
  have := Int.emod_lt_of_pos zone (b := s.zones.length) (by omega)
  omega
 obtain ⟨z, hz⟩ : ∃ z, s.zones[m]? = some z := ⟨_, List.getElem?_eq_getElem hmz⟩
 obtain ⟨Y, hY⟩ := hzs z (List.mem_of_getElem? hz)
 obtain ⟨g1, g2, _, _⟩ := Zkm hY
 have hlen := hY.len
 have hne : z.eras ≠ [] := fun h => by rw [h] at hlen; simp at hlen
 have hlaw := fun {u} => ZxA hY (t := u)
 have hrt := Zu4 hY
 have hyr := fun R1 Z1 L1 H1 r1 z1 l1 h1 w' (hw : Bel w.heap.size w w') (hA : Zat w' R1 Z1 L1 H1 r1 z1 l1 h1 s) => Zkl R1 Z1 L1 H1 r1 z1 l1 h1 s m z w' (hsm.acc (hL.up hw) (hG.up hw) hA) hac hz hne (by omega)
 have hof := fun R1 Z1 L1 H1 r1 z1 l1 h1 w' (hw : Bel w.heap.size w w') (hA : Zat w' R1 Z1 L1 H1 r1 z1 l1 h1 s) => Zzo R1 Z1 L1 H1 r1 z1 l1 h1 s m z Y w' (hsm.acc (hL.up hw) (hG.up hw) hA) (hF.up hw) hac hz hY
 -- February 1 of the year behind
 obtain ⟨y, hy⟩ : ∃ y, Zb3 s z.eras = y := ⟨_, rfl⟩
 rw [hy] at g1 g2 hlaw hyr
 have hok : ZaH (y + 1) 2 1 = true := by
  have := ZfE (y + 1) 2 (by decide) (by decide)
  unfold ZaH inY
  simp
  omega
 have hdy := fun w' (hw : Bel w.heap.size w w') => ZcZ (y + 1) 2 1 w' (hG.up hw)
 rw [if_pos hok, if_pos hok] at hdy
 have hdb := ZeW hok
 have hj := Zmw (y + 1) 2 (by decide) (by decide)
 have hjh : jan1 (y + 1) <= 70000 := Int.le_trans (ZkF (show y + 1 <= 2151 by omega)) (by decide)
 obtain ⟨D, hD0⟩ : ∃ D, Zam (y + 1) 2 1 = D := ⟨_, rfl⟩
 rw [hD0] at hdy hdb hj
 obtain ⟨t1, ht1⟩ : ∃ t1, (if (36028797018963968 : Int) < t then 36028797018963968 else t) = t1 := ⟨_, rfl⟩
 obtain ⟨t2, ht2⟩ : ∃ t2, (if 86400 * D < t1 then t1 else 86400 * D) = t2 := ⟨_, rfl⟩
 have ht1b : t1 <= 36028797018963968 := by rw [<- ht1]; split <;> omega
 have ht2b : 86400 * D <= t2 /\ t2 <= 36028797018963968 := by rw [<- ht2]; split <;> omega
 have hj2 := ZeS (z := y + 1) (by omega)
 have htk : tOk t2 = true := ZhL.2 (by omega)
 have heq := hlaw (u := t2) (by omega) (by omega)
 obtain ⟨i0, hzd⟩ : ∃ i0 : Unit, Zkj s z.name = (((m : Nat) : Int), 0) := ⟨(), ZpX hac hz⟩
 have kat := fun R1 Z1 L1 H1 r1 z1 l1 h1 w' (hw : Bel w.heap.size w w') (hA : Zat w' R1 Z1 L1 H1 r1 z1 l1 h1 s) => mAt R1 Z1 L1 H1 r1 z1 l1 h1 s z.name t2 w' (hsm.acc (hL.up hw) (hG.up hw) hA) (hM.up hw) (by omega) hm htk hzd hz
 have hpx := fun w' (hw : Bel w.heap.size w w') => ZrW (ofF s z.eras) t2 hrt htk w' (hL.up hw) (hG.up hw)
 rw [heq] at hpx
 generalize ofF s z.eras = p at *
 generalize Zqx s.rules z.eras t2 = lc at *
 clear heq hrt hlaw
 obtain ⟨p1, p2, p3, p4, ⟨p5, p6, p7, p8, p9⟩, ⟨q1, q2, q3, q4, q5⟩⟩ := p
 obtain ⟨lo, ld, la⟩ := lc
 simp only [Za4.enc, Zde.enc] at hof hpx kat
 have t0 : decide ((s.zones.length : Int) = 0) = false := decide_eq_false (by omega)
 refine Zab Tryz.func3 rfl rfl rfl rfl ?_
 repeat (first | (apply RL_pu; rfl; exact ZpR) | (apply RD_Q; rfl; rfl; decide +kernel; rfl; rfl; exact QyFtFar0) | refine walk1 ?_ | (refine jg ?_; (try intro F); (first | (apply Zag (h := fun w' hw _ => hmk w' hw); rfl; rintro v O' ⟨R1, r1, Z1, z1, L1, l1, H1, h1, Zs1, S1, rfl, hZ1, rfl⟩) | (refine bx ?_; intro bk) | (refine stA ?_)); first | refine ⟨_, EndsA, QFFtFar0, ?_⟩ | refine fin ?_) | (refine jn ?_; (try intro F); (first | (refine bx ?_; intro bk) | (refine stA ?_) | (apply Zae; first | exact ZpR | exact PuA)); first | refine ⟨_, EndsA, QFFtFar0, ?_⟩ | refine fin ?_) | (apply RD_W; rfl; intro bk))
 rw [<- hm0]
 obtain ⟨q, hq, hqe⟩ := Zyg hZ1 hz
 subst hqe
 have hjl : m < Zs1.length := (List.getElem?_eq_some_iff.1 hq).1
 have hz1 : (Zs1.flatMap ZE.enc)[((m : Int)).toNat * 2]? = some (.string q.z.name) := ZaB ZE.len Zs1 m q 0 _ hq rfl
 clear hmk hac hzs hS hZ hD hY hne
 repeat (first | refine und ?_ | (apply RL_pu; rfl; exact Zld) | (apply RD_Q; rfl; rfl; decide +kernel; rfl; rfl; exact ZpF) | refine walk1 ?_ | (refine jg ?_; (try intro F); (first | (refine ZaV (fun w' hw hO => hyr R1 Z1 L1 H1 r1 z1 l1 h1 w' hw (ZrG hZ1 (hO.of (A := rowR R1 r1 _) (by repeat' constructor)) (hO.of (A := rowZ Z1 z1 _) (by repeat' constructor)) (hO.of (A := rowL L1 l1 _) (by repeat' constructor)) (hO.of (A := rowS H1 h1 _) (by repeat' constructor)) (hO.of (A := .fact S1 (Zja Zs1)) (by repeat' constructor)))) ?_) | (refine Zac hdy ?_) | (refine ZaV (fun w' hw hO => hof R1 Z1 L1 H1 r1 z1 l1 h1 w' hw (ZrG hZ1 (hO.of (A := rowR R1 r1 _) (by repeat' constructor)) (hO.of (A := rowZ Z1 z1 _) (by repeat' constructor)) (hO.of (A := rowL L1 l1 _) (by repeat' constructor)) (hO.of (A := rowS H1 h1 _) (by repeat' constructor)) (hO.of (A := .fact S1 (Zja Zs1)) (by repeat' constructor)))) ?_) | (refine ZaV (fun w' hw hO => kat R1 Z1 L1 H1 r1 z1 l1 h1 w' hw (ZrG hZ1 (hO.of (A := rowR R1 r1 _) (by repeat' constructor)) (hO.of (A := rowZ Z1 z1 _) (by repeat' constructor)) (hO.of (A := rowL L1 l1 _) (by repeat' constructor)) (hO.of (A := rowS H1 h1 _) (by repeat' constructor)) (hO.of (A := .fact S1 (Zja Zs1)) (by repeat' constructor)))) ?_) | (refine Zac hpx ?_) | (refine Zac hwk ?_) | (refine bx ?_; intro bk) | (refine stA ?_)); first | refine ⟨_, EndsA, ZpI, ?_⟩ | refine fin ?_) | (refine jn ?_; (try intro F); (first | (refine bx ?_; intro bk) | (refine stA ?_) | (apply Zae; first | exact Zld | exact PuA)); first | refine ⟨_, EndsA, ZpI, ?_⟩ | refine fin ?_) | (apply RD_W; rfl; intro bk))
 exact rtA
end Go.Proofs.YtdlmhmmhdbbliaaGreatDoor
namespace Go.Proofs.YtdlmhmmhdbbliaaGreatDoor
open Go Go.RowKit Go.Wk Go.ChangeShapes Go.WideShapes Go.ChangeAt
section
variable {H : Type} {enc : TypeId × Value -> H} {w : World} {sp : Nat -> Bool} {held : Bool}
theorem Zsf {n : Nat} {cs : List Value} {y : DataW H × List MemPlace} (h : DataW.trod enc Tryz.prog w 0 sp held n 5 cs = some y) : ∃ d : Int, cs = Zed d /\ inR .u8 d := by
 obtain ⟨x, e, _, b⟩ := DataW.trod_int Tryz.underlying5 h
 exact ⟨x, e, Zf0 b⟩
def ZmM {α : Type} (w : World) (en : α -> List Value) (sz : Nat) (ok : α -> Prop) (l : List α) (cs : List Value) : Prop := ∃ B cb, RdSl w B cb en sz l /\ cs = [.slice B l.length cb] /\ ∀ x ∈ l, ok x
theorem Zxp {n : Nat} {cs : List Value} {y : DataW H × List MemPlace} (h : DataW.trod enc Tryz.prog w 0 sp held n 61 cs = some y) : ∃ l, ZmM w Zed 1 (inR .u8) l cs := by
 obtain ⟨v, rfl⟩ : ∃ v, cs = [v] := by
  rcases Deep.open_slice Tryz.underlying61 h with ⟨h0, _⟩ | ⟨a, len, cap, m, n, D, Pl, hcs, _⟩
  ·exact ⟨_, h0⟩
  ·exact ⟨_, hcs⟩
 obtain ⟨B, l, cb, rfl, h1, h2⟩ := Zkt Tryz.underlying61 Zed (inR .u8) (sz := 1) (by kernel_rfl) (fun n cs y h => Zsf h) h
 exact ⟨l, B, cb, h1, rfl, h2⟩
theorem Zu8 {n : Nat} {cs : List Value} {y : DataW H × List MemPlace} (h : DataW.trod enc Tryz.prog w 0 sp held n 64 cs = some y) : ∃ l, ZmM w E23.enc 8 E23.ok l cs := by
 obtain ⟨v, rfl⟩ : ∃ v, cs = [v] := by
  rcases Deep.open_slice Tryz.underlying64 h with ⟨h0, _⟩ | ⟨a, len, cap, m, n, D, Pl, hcs, _⟩
  ·exact ⟨_, h0⟩
  ·exact ⟨_, hcs⟩
 obtain ⟨B, l, cb, rfl, h1, h2⟩ := Zkt Tryz.underlying64 E23.enc E23.ok (sz := 8) (by kernel_rfl) (fun n cs y h => Zyr h) h
 exact ⟨l, B, cb, h1, rfl, h2⟩
theorem ZrT {α : Type} {en : α -> List Value} {sz : Nat} {ok : α -> Prop} {A : Option Addr} {ls : List (List α)} {c : Nat} (s1 : ls.length <= c) (s2 : c <= maxLen) (s3 : ∀ k l, ls[k]? = some l -> A ≠ none /\ ∃ cs, ZmM w en sz ok l cs /\ Zal w ((adr A).add (k * 1)) cs) :
  RdLL w A c en sz ls /\ ∀ l ∈ ls, ∀ x ∈ l, ok x := by
 refine ⟨⟨s1, s2, fun k l hk => ?_⟩, fun l hl => ?_⟩
 ·obtain ⟨h4, cs', ⟨B, cb, h5, rfl, _⟩, h6⟩ := s3 k l hk
  exact ⟨h4, B, cb, h5, h6⟩
 ·obtain ⟨k, hk⟩ := List.getElem?_of_mem hl
  obtain ⟨_, _, ⟨_, _, _, _, h5⟩, _⟩ := s3 k l hk
  exact h5
set_option maxRecDepth 100000 in
theorem Zu2 {v : Value} {r : Reach} {b0 : Nat} {d : DataW H} {ps : List MemPlace} (hv : Value.okWide Tryz.prog w r b0 26 v) (h : DataW.Trod enc Tryz.prog w 0 sp held 26 v d ps) :
  ∃ As Az Al cs cz cl d, v = d23V As Az Al cs cz cl d /\ RdLL w As cs Zed 1 d.sets /\ RdLL w Az cz E23.enc 8 d.zones /\ RdSl w Al cl Zed 1 d.links /\ (∀ l ∈ d.sets, ∀ x ∈ l, inR .u8 x) /\ (∀ l ∈ d.zones, ∀ x ∈ l, x.ok) /\ (∀ x ∈ d.links, inR .u8 x) := by
 obtain ⟨vs, rfl, hsz⟩ := okWide_struct Tryz.underlying26 hv
 obtain ⟨fuel, h⟩ := h
 obtain ⟨hl, hf⟩ := Zpi Tryz.underlying26 h
 rw [show Tryz.prog.cellsOf 26 = 3 from by kernel_rfl] at hl
 obtain ⟨vs⟩ := vs
 simp only [Value.cells] at hl hf
 obtain ⟨a0, cs0, rfl, hl0⟩ := Zbs hl
 obtain ⟨a1, cs1, rfl, hl1⟩ := Zbs hl0
 obtain ⟨a2, cs2, rfl, hl2⟩ := Zbs hl1
 obtain rfl := List.eq_nil_of_length_eq_zero hl2
 obtain ⟨n0, y0, h0⟩ := hf 0 22 0 1 rfl (by kernel_rfl)
 obtain ⟨n1, y1, h1⟩ := hf 1 23 1 1 rfl (by kernel_rfl)
 obtain ⟨n2, y2, h2⟩ := hf 2 24 2 1 rfl (by kernel_rfl)
 obtain ⟨As, ls, cs, rfl, s1, s2, s3⟩ := Zku Tryz.underlying22 (fun (l : List Int) cs => ZmM w Zed 1 (inR .u8) l cs) (fun n cs y h => Zxp h) h0
 obtain ⟨Az, lz, cz, rfl, z1, z2, z3⟩ := Zku Tryz.underlying23 (fun (l : List E23) cs => ZmM w E23.enc 8 E23.ok l cs) (fun n cs y h => Zu8 h) h1
 obtain ⟨Al, ll, cl, rfl, l1, l2⟩ := Zkt Tryz.underlying24 Zed (inR .u8) (sz := 1) (by kernel_rfl) (fun n cs y h => Zsf h) h2
 rw [show Tryz.prog.cellsOf 61 = 1 from by kernel_rfl] at s3
 rw [show Tryz.prog.cellsOf 64 = 1 from by kernel_rfl] at z3
 obtain ⟨g1, g2⟩ := ZrT s1 s2 s3
 obtain ⟨g3, g4⟩ := ZrT z1 z2 z3
 exact ⟨As, Az, Al, cs, cz, cl, ⟨ls, lz, ll⟩, rfl, g1, g3, l1, g2, g4, l2⟩
set_option maxRecDepth 100000 in
theorem Zyx {v : Value} {r : Reach} {b0 : Nat} {d : DataW H} {ps : List MemPlace} (hv : Value.okWide Tryz.prog w r b0 5 v) (h : DataW.Trod enc Tryz.prog w 0 sp held 5 v d ps) : ∃ x : Int, v = .int .u8 x /\ inR .u8 x := by
 obtain ⟨n, rfl⟩ := okWide_int Tryz.underlying5 hv
 obtain ⟨fuel, h⟩ := h
 obtain ⟨x, e, b⟩ := Zsf h
 simp only [Value.cells, Zed, List.cons.injEq, and_true] at e
 exact ⟨x, e, b⟩
end
section
variable {H : Type} {enc : TypeId × Value -> H} {w : World} {sp : Nat -> Bool} {held : Bool}
set_option maxRecDepth 100000 in
theorem Zu1 {v : Value} {r : Reach} {b0 : Nat} {d : DataW H} {ps : List MemPlace} (hv : Value.okWide Tryz.prog w r b0 2 v) (_h : DataW.Trod enc Tryz.prog w 0 sp held 2 v d ps) : ∃ x : Int, v = .int .i64 x := okWide_int Tryz.underlying2 hv
set_option maxRecDepth 100000 in
theorem Zxk {v : Value} {r : Reach} {b0 : Nat} {d : DataW H} {ps : List MemPlace} (hv : Value.okWide Tryz.prog w r b0 5 v) (h : DataW.Trod enc Tryz.prog w 0 sp held 5 v d ps) : ∃ x : Int, v = .int .u8 x /\ inR .u8 x := Zyx hv h
end
end Go.Proofs.YtdlmhmmhdbbliaaGreatDoor
namespace Go.Wk
open Go Go.RowKit Go.ChangeShapes Go.WideShapes Go.ChangeAt
section
variable {H : Type} {enc : TypeId × Value -> H}
def ZvE : DataW Unit -> List Value
 | .agg l => l.map fun | .lit (.int k n) => .int k n | _ => undef
 | .lit (.int k n) => [.int k n]
 | _ => []
end
end Go.Wk
