/- Parts of the proof. -/
import Derived.Laws.OwnMore
import Derived.Test.YtpcpmndldgejiaaGreatDoorW10
import Derived.Test.YtpcpmndldgejiaaGreatDoorW22
import Derived.Test.YtpcpmndldgejiaaGreatDoorW27
import Derived.Test.YtpcpmndldgejiaaGreatDoorW18
set_option maxHeartbeats 4000000
set_option linter.unusedVariables false
set_option linter.unusedSimpArgs false
namespace Go.Wk
open Go Go.RowKit
section
variable {P : Program} {n : Nat} {wr : World} {fr : Fr} {O : List It} {ty : TypeId} {pos : String} {af : Array Edge} {dst : Option Tmp} {g : Option (Nat × Bool)} {Kp : Value -> List It -> Prop}
theorem ZnU {t e sz bytes : Nat} {l c : Operand} {kl kc : IntKind} {N : Nat} {z xs : List Value} [hE : ElemZ P t e sz bytes] [hZ : ZeroT P e z] (hl : ev fr l = some (.int kl N)) (hc : ev fr c = some (.int kc N)) (hn : N * sz <= 16777216) (hb : bytes * N <= 281474976710656) (h63 : N <= maxLen)
  (hx : (madeCells z.toArray (N * sz)).toList = xs) (kk : ∀ b, Kp (.slice (some ⟨b, 0, none⟩) N N) (.row (.slice (some ⟨b, 0, none⟩) N N) e sz N xs :: O)) : Stp P n wr fr O ⟨dst, .makeSlice t l c, ty, pos, af, g⟩ Kp :=
 Zb4 fun a w hs => by
  obtain ⟨i, zv, ht, hi, hz, hsz, hby, hzs, hpos⟩ := ElemZ.parts hE.h
  have h := hZ.h
  unfold ZfV at h
  rw [hi] at h
  simp only [hz, Option.some.injEq] at h
  have hzx : zv.cells = z.toArray := by rw [<- h]
  obtain ⟨w', hrun, r1, r2⟩ := run_makeSlice_full (P := P) w 0 t e i zv sz ht hi hz hsz kl kc N hn (by rw [hby]; exact hb) h63 (Nat.zero_le _)
  rw [hzx, hx] at r1
  refine ⟨_, w', _, ?_, ?_, ?_, kk w.heap.size⟩
  ·simp [execOp, hs.sim.ev hl, hs.sim.ev hc, hrun]
  ·exact hs.old.grown r2 (ZsY _ _ _ _ hrun) hs.old.size (fun k hk => by cases hk)
  ·refine hs.own.grow (O' := [.row (.slice (some ⟨w.heap.size, 0, none⟩) N N) e sz N xs]) ((Bel.refl _ _).grown r2 (ZsY _ _ _ _ hrun) (Nat.le_refl _) (fun k hk => by cases hk)) hs.old.size ⟨fun i hi => ?_, fun i hi b hb => ?_, List.pairwise_singleton _ _⟩
   ·rw [List.mem_singleton.1 hi]
    exact r1
   ·rw [List.mem_singleton.1 hi] at hb
    simp only [It.S, Value.ownBlock, Option.some.injEq] at hb
    subst hb
    exact ⟨Nat.le_refl _, (r1.lt w.heap.size rfl).2⟩
theorem Zl9 {t e sz bytes b s j : Nat} {x ix : Operand} {len cap : Nat} {kk : IntKind} {i : Int} [hE : ElemT P t e sz bytes] (hx : ev fr x = some (.slice (some ⟨b, s, none⟩) len cap)) (hi : ev fr ix = some (.int kk i))
  (h0 : 0 <= i) (h1 : i < len) (hj : s + i.toNat * sz = j) : Pu P n wr fr O (.indexAddr t x ix) ty (.pointer (some ⟨b, j, none⟩)) := by
 have := Pu_indexAddr (P := P) (n := n) (wr := wr) (O := O) (ty := ty) (t := t) (e := e) (sz := sz) (bytes := bytes) hx hi h0 h1 (by simp)
 have he : (adr (some ⟨b, s, none⟩)).add (i.toNat * sz) = ⟨b, j, none⟩ := by
  show (⟨b, s, none⟩ : Addr).add (i.toNat * sz) = _
  rw [Zca, hj]
 rwa [he] at this
end
theorem RdSl.pre {α : Type} {w : World} {A : Option Addr} {c sz : Nat} {enc : α -> List Value} {x y : List α} (h : RdSl w A c enc sz (x ++ y)) : RdSl w A c enc sz x :=
 ⟨by have := h.le; rw [List.length_append] at this; omega, h.cap, fun k v hv => h.rd k v (by
  have hk := (List.getElem?_eq_some_iff.1 hv).1
  rw [List.getElem?_append_left hk]; exact hv)⟩
end Go.Wk
namespace Go.Proofs.YtpcpmndldgejiaaGreatDoor
open Go Go.RowKit Go.Wk
def okR (r : Zaa) : Bool := decide (r.name.size <= 1000000000) && (decide (r.letter.size <= 1000000000) && (decide (-9223372036854775808 <= r.save) && decide (r.save <= 9223372036854775807)))
def okI (n : Int) : Bool := decide (-9223372036854775808 <= n) && decide (n <= 9223372036854775807)
def okE (e : DEra) : Bool := okI e.off && (okI e.save && (okI e.kind && (decide (e.format.size <= 1000000000) && decide (e.set.size <= 1000000000))))
def okZ (z : ZaY) : Bool := decide (z.name.size <= 1000000000) && (decide (z.eras.length <= 1000000) && z.eras.all okE)
def okL (l : Zbf) : Bool := decide (l.target.size <= 1000000000) && decide (l.name.size <= 1000000000)
def okD (s : Zai) : Bool := decide (s.rules.length <= 1000000) && (decide (s.zones.length <= 1000000) && (decide (s.links.length <= 1000000) && (decide (s.shifts.length <= 1000000) && (s.rules.all okR && (s.zones.all okZ && s.links.all okL)))))
theorem Zth {n : Int} (h : okI n = true) : I64 n := by
 unfold okI at h
 rw [Bool.and_eq_true, decide_eq_true_eq, decide_eq_true_eq] at h
 exact h
theorem Zti {s : Zai} (h : okD s = true) : Zia s /\ SavI s /\ ∀ z ∈ s.zones, ∀ e ∈ z.eras, Zsr e := by
 unfold okD at h
 simp only [Bool.and_eq_true, decide_eq_true_eq, List.all_eq_true] at h
 obtain ⟨h1, h2, h3, h4, h5, h6, h7⟩ := h
 have hr : ∀ r ∈ s.rules, _ := fun r hr => by
  have := h5 r hr
  unfold okR at this
  simp only [Bool.and_eq_true, decide_eq_true_eq] at this
  exact this
 have hz : ∀ z ∈ s.zones, z.name.size <= 1000000000 /\ z.eras.length <= 1000000 /\ ∀ e ∈ z.eras, okE e = true := fun z hz => by
  have := h6 z hz
  unfold okZ at this
  simp only [Bool.and_eq_true, decide_eq_true_eq, List.all_eq_true] at this
  exact this
 have he : ∀ e, okE e = true -> I64 e.off /\ I64 e.save /\ I64 e.kind /\ e.format.size <= 1000000000 /\ e.set.size <= 1000000000 := fun e he => by
  unfold okE at he
  simp only [Bool.and_eq_true, decide_eq_true_eq] at he
  exact ⟨Zth he.1, Zth he.2.1, Zth he.2.2.1, he.2.2.2⟩
 refine ⟨⟨h1, h2, h3, h4, fun r h => ⟨(hr r h).1, (hr r h).2.1⟩, fun z h => ⟨(hz z h).1, (hz z h).2.1, fun e h' => ⟨(he e ((hz z h).2.2 e h')).2.2.2.2, (he e ((hz z h).2.2 e h')).2.2.2.1⟩⟩, fun l h => ?_⟩, fun r h => ⟨(hr r h).2.2.1, (hr r h).2.2.2⟩, fun z h e h' => ?_⟩
 ·have := h7 l h
  unfold okL at this
  simp only [Bool.and_eq_true, decide_eq_true_eq] at this
  exact this
 ·have := he e ((hz z h).2.2 e h')
  exact ⟨this.1, this.2.1, this.2.2.1, this.2.2.2.1⟩
theorem ZAW {w w' : World} {Ar Az Al As : Option Addr} {cr cz cl cs : Nat} {a : Zai} (hL : LibW w) (hG : Glob w) (hw : Bel w.heap.size w w') (h : okD a = true) (hA : Zaj w' Ar Az Al As cr cz cl cs a) : ZcO w' Ar Az Al As cr cz cl cs a :=
 ⟨hL.up hw, hG.up hw, hA, (Zti h).1, (Zti h).2.1, (Zti h).2.2⟩
def exS (rs : List Zaa) (es : List DEra) (ls : List Zbf) (ss : List ByteArray) : Zai := ⟨rs, [⟨⟨#[90]⟩, es⟩], ls, ss⟩
theorem ZAQ {w : World} {Ar Ae Al As : Option Addr} {cr ce cl cs bz : Nat} {rs : List Zaa} {es : List DEra} {ls : List Zbf} {ss : List ByteArray} (hr : RdSl w Ar cr Zaa.enc 11 rs) (hz : (It.blk bz [.string ⟨#[90]⟩, .slice Ae es.length ce] 54).sat w) (he : RdSl w Ae ce DEra.enc 13 es)
  (hl : RdSl w Al cl Zbf.enc 2 ls) (hs : RdSl w As cs Zbh 1 ss) : Zaj w Ar (some ⟨bz, 0, none⟩) Al As cr 1 cl cs (exS rs es ls ss) :=
 ⟨hr, Nat.le_refl 1, by decide, Zlf (Zh7 (c := 1) (l := [(⟨⟨⟨#[90]⟩, es⟩, Ae, ce⟩ : ZE)]) ZE.len (Nat.le_refl 1) (by decide) hz) (fun q hq => by rw [List.mem_singleton.1 hq]; exact he), hl, hs⟩
attribute [local irreducible] W RL Does Zay Zam retQ Calls Pu Stp RD Qy Ay Zan Zce ZlL ZaT ZbN Zby Za3 dig Zhm
structure Pl (α : Type) where
 l : List α
 B : Option Addr
 c : Nat
structure RdLF {α : Type} (w : World) (A : Option Addr) (enc : α -> List Value) (sz : Nat) (pl : List (Pl α)) : Prop where
 rd : ∀ k p, pl[k]? = some p -> A ≠ none /\ RdSl w p.B p.c enc sz p.l /\ Zao w ((adr A).add (k * 1)) [.slice p.B p.l.length p.c]
theorem RdLF.up {α : Type} {w w' : World} {A : Option Addr} {enc : α -> List Value} {sz : Nat} {pl : List (Pl α)} (h : RdLF w A enc sz pl) (hb : Bel w.heap.size w w') : RdLF w' A enc sz pl :=
 ⟨fun k p hk => ⟨(h.rd k p hk).1, (h.rd k p hk).2.1.up hb, (h.rd k p hk).2.2.up hb (Nat.le_refl _)⟩⟩
theorem RdLL.places {α : Type} {w : World} {A : Option Addr} {c : Nat} {enc : α -> List Value} {sz : Nat} {ll : List (List α)} (h : RdLL w A c enc sz ll) : ∃ pl : List (Pl α), pl.map Pl.l = ll /\ RdLF w A enc sz pl /\ ∀ p ∈ pl, p.l.length <= p.c /\ p.c <= maxLen := by
 have key : ∀ i : Fin ll.length, ∃ p : Pl α, p.l = ll[i] /\ A ≠ none /\ RdSl w p.B p.c enc sz p.l /\ Zao w ((adr A).add (i.val * 1)) [.slice p.B p.l.length p.c] := fun i => by
  obtain ⟨h1, B, cb, h2, h3⟩ := h.rd i.val ll[i] (List.getElem?_eq_getElem i.isLt)
  exact ⟨⟨ll[i], B, cb⟩, rfl, h1, h2, h3⟩
 obtain ⟨f, hf⟩ := Classical.axiomOfChoice key
 have hget : ∀ k p, (List.ofFn f)[k]? = some p -> ∃ hk : k < ll.length, p = f ⟨k, hk⟩ := fun k p hp => by
  have hk := (List.getElem?_eq_some_iff.1 hp).1
  rw [List.length_ofFn] at hk
  rw [List.getElem?_ofFn, dif_pos hk] at hp
  exact ⟨hk, (Option.some.inj hp).symm⟩
 refine ⟨List.ofFn f, ?_, ⟨fun k p hp => ?_⟩, fun p hp => ?_⟩
 ·apply List.ext_getElem
  ·simp
  ·intro k h1 h2
   simp [(hf ⟨k, h2⟩).1]
 ·obtain ⟨hk, rfl⟩ := hget k p hp
  exact (hf ⟨k, hk⟩).2
 ·obtain ⟨k, hk⟩ := List.getElem?_of_mem hp
  obtain ⟨hk1, rfl⟩ := hget k p hk
  exact ⟨(hf ⟨k, hk1⟩).2.2.1.le, (hf ⟨k, hk1⟩).2.2.1.cap⟩
structure R3 where
 k : Nat
 A : Option Addr
 c : Nat
 m : Nat
 xs : List Value
structure Z3 where
 k : Nat
 A : Option Addr
 c : Nat
 m : Nat
 xs : List Value
 Zr : List ZE
structure E3 where
 k : Nat
 y : Int
 A : Option Addr
 c : Nat
 m : Nat
 xs : List Value
theorem Zbn {G G' : Prop} (k : G') (h : Hold G' -> G := by intro k9; (first | refine walk ?_ | (refine jn ?_; (try intro F); (first | (refine stA ?_) | (apply Zae; exact PuA)); refine fin ?_)); exact k9.out) : G := h ⟨k⟩
theorem Zoh {G : Prop} (h : G := by (first | (apply Pu_indexAddr; rfl; rfl; omega; omega; exact hAn) | exact PuI)) : G := h
theorem Zds {G : Prop} (h : G := by (apply Zgm; rfl; rfl; (rw [Zii _ (by omega) (by omega)]; decide))) : G := h
theorem Zg0 {G : Prop} (h : G := by first | (apply Qy_y; rfl; exact Zds) | exact QyA) : G := h
theorem Zd9 {G : Prop} (h : G := by repeat (first | exact QF.nil | (apply QF.mk; rfl; rfl; decide +kernel; exact Zg0))) : G := h
theorem Zg3 {G : Prop} (h : G := by (first | (apply Zfc; rfl; rfl) | (apply Pu_sliceH; rfl; rfl; (split <;> omega); (split <;> omega)))) : G := h
theorem Zog {G : Prop} (h : G := by (first | exact PuI | (apply Zgm; rfl; rfl; (rw [Zii _ (by omega) (by omega)]; decide)))) : G := h
theorem Zof {G : Prop} (h : G := by (first | (apply Zav; rfl; rfl; omega; omega; (intro w' hb hO; exact ((hX w' hb (hO.of (A := X) (by repeat' constructor))).rd k _ hpk).1)) | (apply ZdI (v := .slice B l.length cb); rfl; (intro w' hb hO; exact ((hX w' hb (hO.of (A := X) (by repeat' constructor))).rd k _ hpk).2.2 0 _ rfl)) | (apply Zgm; rfl; rfl; (rw [Zii _ (by omega) (by omega)]; decide)) | (apply Zfc; rfl; rfl) | (apply Pu_sliceH; rfl; rfl; (split <;> omega); (split <;> omega)))) : G := h
theorem ZjS {G : Prop} (h : G := by (first | (apply Zav; rfl; rfl; omega; omega; (intro w' hb hO; exact ((hX2 w' hb (hO.of (A := X) (by repeat' constructor)) (hO.of (A := X2) (by repeat' constructor))).rd j e hge).1)) | (apply Zfz (cs := e.enc); rfl; rfl; (intro w' hb hO; exact ((hX2 w' hb (hO.of (A := X) (by repeat' constructor)) (hO.of (A := X2) (by repeat' constructor))).rd j e hge).2)))) : G := h
theorem ZnY {G : Prop} (h : G := by first | (apply Qy_y; rfl; exact ZjS) | exact QyA) : G := h
theorem ZnZ {G : Prop} (h : G := by repeat (first | exact QF.nil | (apply QF.mk; rfl; rfl; decide +kernel; exact ZnY))) : G := h
set_option maxHeartbeats 8000000 in
theorem Zf6 (As Az Al : Option Addr) (cs cz cl : Nat) (d : DD23) (w : World) (hS : RdLL w As cs ZcH 1 d.sets) (hZ : RdLL w Az cz E23.enc 8 d.zones) (hL : RdSl w Al cl ZcH 1 d.links) (hrs : ∀ l ∈ d.sets, ∀ x ∈ l, inR .u8 x) (hrz : ∀ l ∈ d.zones, ∀ x ∈ l, x.ok) (hrl : ∀ x ∈ d.links, inR .u8 x) :
  Does Tryz.prog 13 [d23V As Az Al cs cz cl d] w (ZpT (Zap d)) := by
 have hs1 := hS.le
 have hs2 := hS.cap
 have hz1 := hZ.le
 have hz2 := hZ.cap
 have hl1 := hL.le
 have hl2 := hL.cap
 simp only [maxLen] at hs2 hz2 hl2
 have hns : 1 <= d.ns /\ d.ns <= 3 := by unfold DD23.ns; omega
 refine Zab Tryz.func13 rfl rfl rfl rfl ?_
 repeat (first | ((apply RL_pu; rfl; first | (apply Zfc; rfl; rfl) | (apply Zu1; rfl; rfl))) | refine Zll ?_ | (refine jn ?_; (try intro F); (first | (refine bx ?_; intro bk) | (refine stA ?_) | (apply Zae; exact PuA)); refine fin ?_) | (apply RD_W; rfl; intro bk))
 rename_i b1 b2
 generalize bk = b3
 rw [show (if (1 : Int) < (if (3 : Int) < d.sets.length then (3 : Int) else d.sets.length) then (if (3 : Int) < d.sets.length then (3 : Int) else d.sets.length) else 1) = (d.ns : Int) from by unfold DD23.ns; split <;> split <;> omega]
 refine ZfG 118 11 (ZfG 54 2 (ZfG 56 2 (ZfG 9 1 ?_)))
 refine Zb0 (fun fr' O' => ∃ A1 c1, Sub [(1, .pointer (some ⟨b1, 0, none⟩)), (2, .pointer (some ⟨b2, 0, none⟩)), (3, .pointer (some ⟨b3, 0, none⟩)), (4, .int .i64 d.ns)] fr' /\ SubO [.blk b3 [.slice A1 (Za3 d.sets d.ns).length c1, .slice none 0 0, .slice none 0 0, .slice none 0 0] 34, rowR A1 c1 (Za3 d.sets d.ns), rowZ none 0 [], rowL none 0 [], rowS none 0 [], .blk b1 [.slice As d.sets.length cs, .slice Az d.zones.length cz, .slice Al d.links.length cl] 26, .blk b2 [.slice none 0 0, .slice none 0 0, .slice none 0 0, .slice none 0 0] 34] O') ?_ ?_
 ·apply W_block
  refine Zaq [(23, .int .i64 d.ns), (1, .pointer (some ⟨b1, 0, none⟩)), (2, .pointer (some ⟨b2, 0, none⟩)), (3, .pointer (some ⟨b3, 0, none⟩)), (4, .int .i64 d.ns)] [rowZ none 0 [], rowL none 0 [], rowS none 0 [], .blk b1 [.slice As d.sets.length cs, .slice Az d.zones.length cz, .slice Al d.links.length cl] 26, .blk b2 [.slice none 0 0, .slice none 0 0, .slice none 0 0, .slice none 0 0] 34] (fun g : R3 => [(24, .int .i64 g.k)]) (fun g => [.blk b3 [.slice g.A g.m g.c, .slice none 0 0, .slice none 0 0, .slice none 0 0] 34, .row (.slice g.A g.m g.c) 118 11 g.m g.xs]) (fun g => g.k <= d.ns /\ g.m = (Za3 d.sets g.k).length /\ g.xs = (Za3 d.sets g.k).flatMap Zaa.enc) (fun g => d.ns - g.k) ⟨0, none, 0, 0, []⟩ SFA SOA ⟨Nat.zero_le _, by simp [Za3], by simp [Za3]⟩ ?_
  rintro ⟨k, A0, c0, m0, x0⟩ ⟨hk, hm0, hx0⟩
  dsimp only at hk hm0 hx0 ⊢
  have hlen := Zc9 d.sets k
  repeat (first | refine Zbn ?_ | (refine jn ?_; (try intro F); (refine bx ?_; intro bk); refine fin ?_) | (apply RD_W; rfl; intro bk))
  refine Zah rfl (fun h => ?_) (fun h => ?_)
  ·have hk2 : k < d.ns := by simpa using h
   have hlen2 := ZkA (d.sets.getD k []) (sR ++ dig k)
   repeat (first | refine Zbn ?_ | (refine jn ?_; (try intro F); (refine bx ?_; intro bk); refine fin ?_) | (apply RD_W; rfl; intro bk))
   refine Zb0 (fun fr' O' => ∃ B cb, RdSl w B cb ZcH 1 (d.sets.getD k []) /\ (∀ x ∈ d.sets.getD k [], inR .u8 x) /\ Sub [(6, .slice B (d.sets.getD k []).length cb), (5, .int .i64 k), (24, .int .i64 k), (23, .int .i64 d.ns), (1, .pointer (some ⟨b1, 0, none⟩)), (2, .pointer (some ⟨b2, 0, none⟩)), (3, .pointer (some ⟨b3, 0, none⟩)), (4, .int .i64 d.ns)] fr' /\ SubO [.blk b3 [.slice A0 m0 c0, .slice none 0 0, .slice none 0 0, .slice none 0 0] 34, .row (.slice A0 m0 c0) 118 11 m0 x0, rowZ none 0 [], rowL none 0 [], rowS none 0 [], .blk b1 [.slice As d.sets.length cs, .slice Az d.zones.length cz, .slice Al d.links.length cl] 26, .blk b2 [.slice none 0 0, .slice none 0 0, .slice none 0 0, .slice none 0 0] 34] O') ?_ ?_
   ·refine Zah rfl (fun h2 => ?_) (fun h2 => ?_)
    ·have hks : k < d.sets.length := by simpa using h2
     obtain ⟨hAn, B, cb, hB, hca⟩ := hS.rd k _ (List.getElem?_eq_getElem hks)
     have hrl2 := hrs _ (List.getElem_mem hks)
     have e : d.sets.getD k [] = d.sets[k] := by rw [List.getD_eq_getElem?_getD, List.getElem?_eq_getElem hks]; rfl
     rw [e]
     generalize d.sets[k] = l at *
     repeat (first | (apply RL_pu; rfl; exact Zoh) | (apply RD_Q; rfl; rfl; decide +kernel; rfl; rfl; exact QyMade230) | refine walk1 ?_ | (refine jn ?_; (try intro F); (first | (refine bx ?_; intro bk) | (refine stA ?_) | (apply Zae; first | exact Zoh | exact PuA)); first | refine ⟨_, EndsA, QFMade230, ?_⟩ | refine fin ?_) | (apply RD_W; rfl; intro bk))
     exact ⟨rfl, B, cb, hB, hrl2, SFA, SOA⟩
    ·have hks : ¬ k < d.sets.length := by simpa using h2
     have e : d.sets.getD k [] = [] := by rw [List.getD_eq_getElem?_getD, List.getElem?_eq_none (by omega)]; rfl
     rw [e]
     repeat (first | refine Zbn ?_ | (refine jn ?_; (try intro F); (refine bx ?_; intro bk); refine fin ?_) | (apply RD_W; rfl; intro bk))
     exact ⟨rfl, none, 0, ZyT _ _ _, fun x hx => by simp at hx, SFA, SOA⟩
   rintro fr' O' ⟨B, cb, hB, hrl2, hf, hO⟩
   apply thenQ_n
   refine Zch hf hO ?_
   clear hf hO fr' O'
   have hstep : Za3 d.sets (k + 1) = Za3 d.sets k ++ Zce (d.sets.getD k []) (sR ++ dig k) := by rw [Za3]
   generalize d.sets.getD k [] = l at *
   repeat (first | (apply RL_pu; rfl; exact Zds) | (apply RD_Q; rfl; rfl; decide +kernel; rfl; rfl; exact Zg0) | refine walk1 ?_ | (refine jg ?_; (try intro F); (first | (refine Zac (fun w' _ => Zdk k (by omega) (by omega) w') ?_) | (apply Zag (h := fun w' hw _ => ZoO B cb l (sR ++ dig k) w' (hB.up hw) hrl2); rfl; rintro v O' ⟨A1, c1, rfl, rfl⟩) | (apply Zau (t := 29); rfl; rfl; (intro A' c'; (focus repeat' constructor)); (intro w' _ hO; exact Zxa (hO.of (A := .row (.slice A1 _ c1) _ _ _ _) (by repeat' constructor))); exact Zbr Zaa.len _; exact Zfs oneR _; (simp only [maxLen]; omega); omega; intro A' c' hc1 hc2 hc3) | (refine bx ?_; intro bk) | (refine stA ?_)); first | refine ⟨_, EndsA, Zd9, ?_⟩ | refine fin ?_) | (refine jn ?_; (try intro F); (first | (apply Zau (t := 29); rfl; rfl; (intro A' c'; (focus repeat' constructor)); (intro w' _ hO; exact Zxa (hO.of (A := .row (.slice A1 _ c1) _ _ _ _) (by repeat' constructor))); exact Zbr Zaa.len _; exact Zfs oneR _; (simp only [maxLen]; omega); omega; intro A' c' hc1 hc2 hc3) | (refine bx ?_; intro bk) | (refine stA ?_) | (apply Zae; first | exact Zds | exact PuA)); first | refine ⟨_, EndsA, Zd9, ?_⟩ | refine fin ?_) | (apply RD_W; rfl; intro bk))
   exact ⟨⟨k + 1, A', c', m0 + (Zce l (sR ++ dig k)).length, x0 ++ (Zce l (sR ++ dig k)).flatMap Zaa.enc⟩, OA, ⟨OA, by rw [hstep, List.length_append, hm0], by rw [hstep, List.flatMap_append, hx0]⟩, SFA, SOA⟩
  have hk2 : k = d.ns := by simp only [decide_eq_false_iff_not, Int.ofNat_lt] at h; omega
  subst hm0 hx0
  rw [hk2]
  repeat (first | refine Zbn ?_ | (refine jn ?_; (try intro F); (refine bx ?_; intro bk); refine fin ?_) | (apply RD_W; rfl; intro bk))
  exact ⟨rfl, A0, c0, SFA, SOA⟩
 rintro fr' O' ⟨A1, c1, hf, hO⟩
 apply thenQ_n
 refine Zch hf hO ?_
 clear hf hO fr' O'
 have hRR := Zc9 d.sets d.ns
 unfold Zap
 generalize Za3 d.sets d.ns = RR at *
 repeat (first | (apply RL_pu; rfl; exact Zg3) | (apply RD_Q; rfl; rfl; decide +kernel; rfl; rfl; exact QyMade232) | refine walk1 ?_ | (refine jn ?_; (try intro F); (first | (refine bx ?_; intro bk) | (refine stA ?_) | (apply Zae; first | exact Zg3 | exact PuA)); first | refine ⟨_, EndsA, QFMade232, ?_⟩ | refine fin ?_) | (apply RD_W; rfl; intro bk))
 rw [show (if (3 : Int) < d.zones.length then (3 : Int) else d.zones.length).toNat = (d.zones.take 3).length from by rw [List.length_take]; split <;> omega]
 refine Zb0 (fun fr' O' => ∃ (X : It) (A : Option Addr) (c : Nat) (pl : List (Pl E23)), pl.map Pl.l = zl23 d.zones /\ (∀ p ∈ pl, p.l.length <= p.c /\ p.c <= maxLen) /\ (∀ w', Bel w.heap.size w w' -> X.sat w' -> RdLF w' A E23.enc 8 pl) /\ Sub [(7, .slice A (zl23 d.zones).length c), (1, .pointer (some ⟨b1, 0, none⟩)), (2, .pointer (some ⟨b2, 0, none⟩)), (3, .pointer (some ⟨b3, 0, none⟩)), (4, .int .i64 d.ns)] fr' /\ SubO (X :: .blk b3 [.slice A1 RR.length c1, .slice none 0 0, .slice none 0 0, .slice none 0 0] 34 :: rowZ none 0 [] :: rowR A1 c1 RR :: rowL none 0 [] :: rowS none 0 [] :: .blk b1 [.slice As d.sets.length cs, .slice Az d.zones.length cz, .slice Al d.links.length cl] 26 :: .blk b2 [.slice none 0 0, .slice none 0 0, .slice none 0 0, .slice none 0 0] 34 :: []) O') ?_ ?_
 ·refine Zah rfl (fun h => ?_) (fun h => ?_)
  ·have h0 : d.zones.length = 0 := by
    have := of_decide_eq_true h
    rw [List.length_take] at this
    omega
   rw [show zl23 d.zones = [[]] from if_pos h0]
   repeat (first | refine Zbn ?_ | (refine jn ?_; (try intro F); (refine bx ?_; intro bk); refine fin ?_) | (apply RD_W; rfl; intro bk))
   exact ⟨rfl, .blk bk [.slice none 0 0] _, some ⟨bk, 0, none⟩, 1, [⟨[], none, 0⟩], rfl, fun p hp => by rw [List.mem_singleton.1 hp]; exact ⟨Nat.le_refl 0, Nat.zero_le _⟩, fun w' _ hX => ⟨fun k p hk => by
    cases k with
    | zero =>
     simp only [List.getElem?_cons_zero, Option.some.injEq] at hk
     subst hk
     exact ⟨by simp, ZyT _ _ _, fun j v hj => by rw [Zbe, Nat.zero_mul, Nat.zero_add]; exact (Za4 hX _ v hj).2⟩
    | succ k => simp at hk⟩, SFA, SOA⟩
  ·have h0 : d.zones.length ≠ 0 := by
    have := of_decide_eq_false h
    rw [List.length_take] at this
    omega
   rw [show zl23 d.zones = d.zones.take 3 from if_neg h0]
   obtain ⟨pl, p1, p2, p3⟩ := (hZ.take 3).places
   refine ZdG [] _ (fun _ => True) (.refl _) (fun _ _ => trivial) ?_
   repeat (first | refine Zbn ?_ | (refine jn ?_; (try intro F); (refine bx ?_; intro bk); refine fin ?_) | (apply RD_W; rfl; intro bk))
   exact ⟨rfl, .fact (foot []) (fun _ => True), Az, cz, pl, p1, p3, fun w' hb _ => p2.up hb, SFA, SOA⟩
 rintro fr' O' ⟨X, Az', cz', pl, hpl, hpb, hX, hf, hO⟩
 apply thenQ_n
 refine Zch hf hO ?_
 clear hf hO fr' O'
 obtain ⟨zb1, zb2⟩ := ZbK d.zones
 have hzok : ∀ l ∈ zl23 d.zones, ∀ x ∈ l, x.ok := by
  intro l hl x hx
  unfold zl23 at hl
  split at hl
  ·rw [List.mem_singleton.1 hl] at hx; simp at hx
  ·exact hrz l (List.mem_of_mem_take hl) x hx
 generalize hZL : zl23 d.zones = ZL at *
 repeat (first | refine Zll ?_ | (refine jn ?_; (try intro F); (first | (refine bx ?_; intro bk) | (refine stA ?_) | (apply Zae; exact PuA)); refine fin ?_) | (apply RD_W; rfl; intro bk))
 refine Zb0 (fun fr' O' => ∃ (A : Option Addr) (cc m : Nat) (xs : List Value) (Zr : List ZE), (m = Zr.length /\ xs = Zr.reverse.flatMap ZE.enc /\ Zr.reverse.map ZE.z = ZbN d.ns ZL ZL.length) /\ Sub [(7, .slice Az' ZL.length cz'), (1, .pointer (some ⟨b1, 0, none⟩)), (2, .pointer (some ⟨b2, 0, none⟩)), (3, .pointer (some ⟨b3, 0, none⟩)), (4, .int .i64 d.ns)] fr' /\ SubO (.blk b3 [.slice A1 RR.length c1, .slice A m cc, .slice none 0 0, .slice none 0 0] 34 :: .row (.slice A m cc) 54 2 m xs :: X :: rowR A1 c1 RR :: rowL none 0 [] :: rowS none 0 [] :: .blk b1 [.slice As d.sets.length cs, .slice Az d.zones.length cz, .slice Al d.links.length cl] 26 :: .blk b2 [.slice none 0 0, .slice none 0 0, .slice none 0 0, .slice none 0 0] 34 :: Zr.map ZbD) O') ?_ ?_
 rotate_left
 ·rintro fr' O' ⟨A2, c2, m2, x2, Zr, ⟨hm, hx, hzz⟩, hf, hO⟩
  replace hO := SubO.permT (l := [_, _, _, _, _, _, _, _]) hO ((List.reverse_perm Zr).symm.map ZbD)
  apply thenQ_n
  refine Zch hf hO ?_
  clear hf hO fr' O'
  rw [<- List.length_reverse] at hm
  generalize Zr.reverse = Zs at *
  have hzl := Zc3 d.ns ZL ZL.length
  generalize ZbN d.ns ZL ZL.length = ZS at *
  have hZl : Zs.length = ZL.length := by rw [<- hzl, <- hzz, List.length_map]
  subst hm hx
  repeat (first | (apply RL_pu; rfl; exact Zg3) | (apply RD_Q; rfl; rfl; decide +kernel; rfl; rfl; exact QyMade232) | refine walk1 ?_ | (refine jn ?_; (try intro F); (first | (refine bx ?_; intro bk) | (refine stA ?_) | (apply Zae; first | exact Zg3 | exact PuA)); first | refine ⟨_, EndsA, QFMade232, ?_⟩ | refine fin ?_) | (apply RD_W; rfl; intro bk))
  rw [show (if (4 : Int) < d.links.length then (4 : Int) else d.links.length).toNat = (d.links.take 4).length from by rw [List.length_take]; split <;> omega]
  have hL4 := hL.take 4
  have hr4 : ∀ x ∈ d.links.take 4, inR .u8 x := fun x hx => hrl x (List.mem_of_mem_take hx)
  have hl4 : (d.links.take 4).length <= 4 := by rw [List.length_take]; omega
  generalize d.links.take 4 = LL at *
  refine Zaq [(7, .slice Az' ZL.length cz'), (123, .slice Al LL.length cl), (124, .int .i64 LL.length), (1, .pointer (some ⟨b1, 0, none⟩)), (2, .pointer (some ⟨b2, 0, none⟩)), (3, .pointer (some ⟨b3, 0, none⟩)), (4, .int .i64 d.ns)] (.row (.slice A2 Zs.length c2) 54 2 Zs.length (Zs.flatMap ZE.enc) :: X :: rowR A1 c1 RR :: rowS none 0 [] :: .blk b1 [.slice As d.sets.length cs, .slice Az d.zones.length cz, .slice Al d.links.length cl] 26 :: .blk b2 [.slice none 0 0, .slice none 0 0, .slice none 0 0, .slice none 0 0] 34 :: Zs.map ZbD) (fun g : R3 => [(125, .int .i64 g.k)]) (fun g => [.blk b3 [.slice A1 RR.length c1, .slice A2 Zs.length c2, .slice g.A g.m g.c, .slice none 0 0] 34, .row (.slice g.A g.m g.c) 56 2 g.m g.xs]) (fun g => g.k <= LL.length /\ g.m = (Zby ZL.length LL g.k).length /\ g.xs = (Zby ZL.length LL g.k).flatMap Zbf.enc) (fun g => LL.length - g.k) ⟨0, none, 0, 0, []⟩ SFA STA ⟨Nat.zero_le _, by simp [Zby], by simp [Zby]⟩ ?_
  rintro ⟨k, A3, c3, m3, x3⟩ ⟨hk, hm3, hx3⟩
  dsimp only at hk hm3 hx3 ⊢
  have hll := Zct ZL.length LL k
  rw [hll] at hm3
  repeat (first | refine Zbn ?_ | (refine jn ?_; (try intro F); (refine bx ?_; intro bk); refine fin ?_) | (apply RD_W; rfl; intro bk))
  refine Zah rfl (fun h => ?_) (fun h => ?_)
  ·have hk2 : k < LL.length := by simpa using h
   obtain ⟨hna, hca⟩ := hL4.rd _ _ (List.getElem?_eq_getElem hk2)
   have hv := hr4 _ (List.getElem_mem hk2)
   have hstp : Zby ZL.length LL (k + 1) = Zby ZL.length LL k ++ [ZhP ZL.length LL[k] k] := by
    rw [Zby, List.getD_eq_getElem?_getD, List.getElem?_eq_getElem hk2]
    rfl
   rw [ZkF] at hv
   generalize LL[k] = v at *
   have g1 := Int.emod_nonneg v (b := (ZL.length : Int)) (by omega)
   have g2 := Int.emod_lt_of_pos v (b := (ZL.length : Int)) (by omega)
   have g3 := Int.emod_nonneg v (b := (ZL.length : Int) + k) (by omega)
   have g4 := Int.emod_lt_of_pos v (b := (ZL.length : Int) + k) (by omega)
   repeat (first | (apply RL_pu; rfl; exact Zog) | (apply RD_Q; rfl; rfl; decide +kernel; rfl; rfl; exact QyMade233) | refine walk1 ?_ | (refine jg ?_; (try intro F); (first | (refine Zac (fun w' _ => Zdk (v % (ZL.length : Int)) (by omega) (by omega) w') ?_) | (refine bx ?_; intro bk) | (refine stA ?_)); first | refine ⟨_, EndsA, QFMade233, ?_⟩ | refine fin ?_) | (refine jn ?_; (try intro F); (first | (refine bx ?_; intro bk) | (refine stA ?_) | (apply Zae; first | exact Zog | exact PuA)); first | refine ⟨_, EndsA, QFMade233, ?_⟩ | refine fin ?_) | (apply RD_W; rfl; intro bk))
   refine Zah rfl (fun h2 => ?_) (fun h2 => ?_)
   ·have h2' := of_decide_eq_true h2
    have e : ZhP ZL.length v k = ⟨sL ++ dig (v % ((ZL.length : Int) + k) - ZL.length), sL ++ dig k⟩ := by rw [ZhP, if_pos h2']
    rw [e] at hstp
    repeat (first | (apply RL_pu; rfl; exact Zds) | (apply RD_Q; rfl; rfl; decide +kernel; rfl; rfl; exact Zg0) | refine walk1 ?_ | (refine jg ?_; (try intro F); (first | (refine Zac (fun w' _ => Zdk (v % ((ZL.length : Int) + k) - ZL.length) (by omega) (by omega) w') ?_) | (refine Zac (fun w' _ => Zdk k (by omega) (by omega) w') ?_) | (apply Zau (t := 31); rfl; rfl; (intro A' c'; (focus repeat' constructor)); (intro w' _ hO; exact Za4 (hO.of (by repeat' constructor))); rfl; rfl; (simp only [maxLen]; omega); omega; intro A' c' hc1 hc2 hc3) | (refine bx ?_; intro bk) | (refine stA ?_)); first | refine ⟨_, EndsA, Zd9, ?_⟩ | refine fin ?_) | (refine jn ?_; (try intro F); (first | (apply Zau (t := 31); rfl; rfl; (intro A' c'; (focus repeat' constructor)); (intro w' _ hO; exact Za4 (hO.of (by repeat' constructor))); rfl; rfl; (simp only [maxLen]; omega); omega; intro A' c' hc1 hc2 hc3) | (refine bx ?_; intro bk) | (refine stA ?_) | (apply Zae; first | exact Zds | exact PuA)); first | refine ⟨_, EndsA, Zd9, ?_⟩ | refine fin ?_) | (apply RD_W; rfl; intro bk))
    exact ⟨⟨k + 1, A', c', m3 + 1, x3 ++ (⟨sL ++ dig (v % ((ZL.length : Int) + k) - ZL.length), sL ++ dig k⟩ : Zbf).enc⟩, OA, ⟨OA, by rw [hstp, List.length_append, hll, hm3]; rfl, by rw [hstp, List.flatMap_append, hx3]; rfl⟩, SFA, STA⟩
   have h2' := of_decide_eq_false h2
   have e : ZhP ZL.length v k = ⟨sZ ++ dig (v % (ZL.length : Int)), sL ++ dig k⟩ := by rw [ZhP, if_neg h2']
   rw [e] at hstp
   repeat (first | (apply RL_pu; rfl; exact Zds) | (apply RD_Q; rfl; rfl; decide +kernel; rfl; rfl; exact Zg0) | refine walk1 ?_ | (refine jg ?_; (try intro F); (first | (refine Zac (fun w' _ => Zdk k (by omega) (by omega) w') ?_) | (apply Zau (t := 31); rfl; rfl; (intro A' c'; (focus repeat' constructor)); (intro w' _ hO; exact Za4 (hO.of (by repeat' constructor))); rfl; rfl; (simp only [maxLen]; omega); omega; intro A' c' hc1 hc2 hc3) | (refine bx ?_; intro bk) | (refine stA ?_)); first | refine ⟨_, EndsA, Zd9, ?_⟩ | refine fin ?_) | (refine jn ?_; (try intro F); (first | (apply Zau (t := 31); rfl; rfl; (intro A' c'; (focus repeat' constructor)); (intro w' _ hO; exact Za4 (hO.of (by repeat' constructor))); rfl; rfl; (simp only [maxLen]; omega); omega; intro A' c' hc1 hc2 hc3) | (refine bx ?_; intro bk) | (refine stA ?_) | (apply Zae; first | exact Zds | exact PuA)); first | refine ⟨_, EndsA, Zd9, ?_⟩ | refine fin ?_) | (apply RD_W; rfl; intro bk))
   exact ⟨⟨k + 1, A', c', m3 + 1, x3 ++ (⟨sZ ++ dig (v % (ZL.length : Int)), sL ++ dig k⟩ : Zbf).enc⟩, OA, ⟨OA, by rw [hstp, List.length_append, hll, hm3]; rfl, by rw [hstp, List.flatMap_append, hx3]; rfl⟩, SFA, STA⟩
  have hkl : k = LL.length := by simp only [decide_eq_false_iff_not, Int.ofNat_lt] at h; omega
  rw [<- hkl]
  rw [<- hll] at hm3
  generalize Zby ZL.length LL k = ls at *
  subst hm3 hx3
  repeat (first | refine Zbn ?_ | (refine jn ?_; (try intro F); (refine bx ?_; intro bk); refine fin ?_) | (apply RD_W; rfl; intro bk))
  exact ret_1 (.agg #[.slice A1 RR.length c1, .slice A2 Zs.length c2, .slice A3 ls.length c3, .slice none 0 0]) (rowR A1 c1 RR :: rowZ A2 c2 Zs :: rowL A3 c3 ls :: rowS none 0 [] :: Zs.map ZbD) (.cellB rfl (by repeat' constructor) rfl rfl) STA ⟨A1, c1, A2, c2, A3, c3, none, 0, Zs, by simp [srcV, <- hzz], hzz, rfl⟩
 apply W_block
 refine Zxp (fun g : Z3 => [(60, .int .i64 g.k), (58, .slice Az' ZL.length cz'), (59, .int .i64 ZL.length), (7, .slice Az' ZL.length cz'), (1, .pointer (some ⟨b1, 0, none⟩)), (2, .pointer (some ⟨b2, 0, none⟩)), (3, .pointer (some ⟨b3, 0, none⟩)), (4, .int .i64 d.ns)]) (fun g => .blk b3 [.slice A1 RR.length c1, .slice g.A g.m g.c, .slice none 0 0, .slice none 0 0] 34 :: .row (.slice g.A g.m g.c) 54 2 g.m g.xs :: X :: rowR A1 c1 RR :: rowL none 0 [] :: rowS none 0 [] :: .blk b1 [.slice As d.sets.length cs, .slice Az d.zones.length cz, .slice Al d.links.length cl] 26 :: .blk b2 [.slice none 0 0, .slice none 0 0, .slice none 0 0, .slice none 0 0] 34 :: g.Zr.map ZbD)
  (fun g => g.k <= ZL.length /\ g.m = g.Zr.length /\ g.xs = g.Zr.reverse.flatMap ZE.enc /\ g.Zr.reverse.map ZE.z = ZbN d.ns ZL g.k) (fun g => ZL.length - g.k) ⟨0, none, 0, 0, [], []⟩ SFA SOA ⟨Nat.zero_le _, rfl, rfl, by simp [ZbN]⟩ ?_
 rintro ⟨k, A2, c2, m2, x2, Zr⟩ ⟨hk, hm, hx, hzz⟩
 dsimp only at hk hm hx hzz ⊢
 have hzl := Zc3 d.ns ZL k
 have hZl : Zr.length = k := by rw [<- hzl, <- hzz, List.length_map, List.length_reverse]
 repeat (first | refine Zbn ?_ | (refine jn ?_; (try intro F); (refine bx ?_; intro bk); refine fin ?_) | (apply RD_W; rfl; intro bk))
 refine Zah rfl (fun h => ?_) (fun h => ?_)
 ·have hk2 : k < ZL.length := by simpa using h
  have hkp : k < pl.length := by rw [<- hpl, List.length_map] at hk2; exact hk2
  have hpk : pl[k]? = some pl[k] := List.getElem?_eq_getElem hkp
  have hpm : pl[k] ∈ pl := List.getElem_mem hkp
  obtain ⟨pb1, pb2⟩ := hpb _ hpm
  have hlm : pl[k].l ∈ ZL := by rw [<- hpl]; exact List.mem_map.2 ⟨_, hpm, rfl⟩
  have hok := hzok _ hlm
  have hstz : ZbN d.ns ZL (k + 1) = ZbN d.ns ZL k ++ [ZpV d.ns k pl[k].l] := by
   rw [ZbN, List.getD_eq_getElem?_getD, <- hpl, List.getElem?_map, hpk]
   rfl
  generalize pl[k] = p at *
  obtain ⟨l, B, cb⟩ := p
  dsimp only at *
  simp only [maxLen] at pb2
  generalize hT : Zr.map ZbD = T
  repeat (first | (apply RL_pu; rfl; exact Zof) | (apply RD_Q; rfl; rfl; decide +kernel; rfl; rfl; exact QyMade234) | refine walk1 ?_ | (refine jg ?_; (try intro F); (first | (refine Zac (fun w' _ => Zdk k (by omega) (by omega) w') ?_) | (refine bx ?_; intro bk) | (refine stA ?_)); first | refine ⟨_, EndsA, QFMade234, ?_⟩ | refine fin ?_) | (refine jn ?_; (try intro F); (first | (refine bx ?_; intro bk) | (refine stA ?_) | (apply Zae; first | exact Zof | exact PuA)); first | refine ⟨_, EndsA, QFMade234, ?_⟩ | refine fin ?_) | (apply RD_W; rfl; intro bk))
  rw [show (if (4 : Int) < l.length then (4 : Int) else l.length).toNat = (l.take 4).length from by rw [List.length_take]; split <;> omega]
  generalize bk = b10
  refine Zb0 (fun fr' O' => ∃ (X2 : It) (B2 : Option Addr) (c4 : Nat), (el23 l).length <= c4 /\ (∀ w', Bel w.heap.size w w' -> X.sat w' -> X2.sat w' -> RdSl w' B2 c4 E23.enc 8 (el23 l)) /\ Sub [(9, .slice B2 (el23 l).length c4), (8, .int .i64 k), (10, .pointer (some ⟨b10, 0, none⟩)), (60, .int .i64 k), (58, .slice Az' ZL.length cz'), (59, .int .i64 ZL.length), (7, .slice Az' ZL.length cz'), (1, .pointer (some ⟨b1, 0, none⟩)), (2, .pointer (some ⟨b2, 0, none⟩)), (3, .pointer (some ⟨b3, 0, none⟩)), (4, .int .i64 d.ns)] fr' /\ SubO (.blk b10 [.string (sZ ++ dig k), .slice none 0 0] 54 :: X2 :: .blk b3 [.slice A1 RR.length c1, .slice A2 m2 c2, .slice none 0 0, .slice none 0 0] 34 :: .row (.slice A2 m2 c2) 54 2 m2 x2 :: X :: rowR A1 c1 RR :: rowL none 0 [] :: rowS none 0 [] :: .blk b1 [.slice As d.sets.length cs, .slice Az d.zones.length cz, .slice Al d.links.length cl] 26 :: .blk b2 [.slice none 0 0, .slice none 0 0, .slice none 0 0, .slice none 0 0] 34 :: T) O') ?_ ?_
  ·refine Zah rfl (fun h2 => ?_) (fun h2 => ?_)
   ·have h0 : l.length = 0 := by
     have := of_decide_eq_true h2
     rw [List.length_take] at this
     omega
    rw [show el23 l = [e23Z] from if_pos h0]
    repeat (first | refine Zbn ?_ | (refine jn ?_; (try intro F); (refine bx ?_; intro bk); refine fin ?_) | (apply RD_W; rfl; intro bk))
    exact ⟨rfl, .blk bk e23Z.enc _, some ⟨bk, 0, none⟩, 1, Nat.le_refl 1, fun w' _ _ hX2 => Zh7 (c := 1) (l := [e23Z]) E23.len (Nat.le_refl 1) (by decide) hX2, SFA, STA⟩
   ·have h0 : l.length ≠ 0 := by
     have := of_decide_eq_false h2
     rw [List.length_take] at this
     omega
    rw [show el23 l = l.take 4 from if_neg h0]
    refine ZdG [] _ (fun _ => True) (.refl _) (fun _ _ => trivial) ?_
    repeat (first | refine Zbn ?_ | (refine jn ?_; (try intro F); (refine bx ?_; intro bk); refine fin ?_) | (apply RD_W; rfl; intro bk))
    exact ⟨rfl, .fact (foot []) (fun _ => True), B, cb, by rw [List.length_take]; omega, fun w' hb hx1 _ => ((hX w' hb hx1).rd k _ hpk).2.1.take 4, SFA, STA⟩
  rintro fr' O' ⟨X2, B2, c4, hc4, hX2, hf, hO⟩
  apply thenQ_n
  refine Zch hf hO ?_
  clear hf hO fr' O'
  obtain ⟨eb1, eb2⟩ := ZqF l
  have heok : ∀ e ∈ el23 l, e.ok := by
   intro e he
   unfold el23 at he
   split at he
   ·rw [List.mem_singleton.1 he]; refine ⟨?_, ?_, ?_, ?_, ?_, ?_, ?_, ?_⟩ <;> first | exact ZkF.2 ⟨by decide, by decide⟩ | exact Zxh.2 ⟨by decide, by decide⟩
   ·exact hok e (List.mem_of_mem_take he)
  rw [ZpV] at hstz
  generalize el23 l = EL at *
  repeat (first | refine Zbn ?_ | (refine jn ?_; (try intro F); (refine bx ?_; intro bk); refine fin ?_) | (apply RD_W; rfl; intro bk))
  refine ZfG 74 13 ?_
  refine Zaq [(9, .slice B2 EL.length c4), (8, .int .i64 k), (10, .pointer (some ⟨b10, 0, none⟩)), (60, .int .i64 k), (79, .slice B2 EL.length c4), (80, .int .i64 EL.length), (58, .slice Az' ZL.length cz'), (59, .int .i64 ZL.length), (7, .slice Az' ZL.length cz'), (1, .pointer (some ⟨b1, 0, none⟩)), (2, .pointer (some ⟨b2, 0, none⟩)), (3, .pointer (some ⟨b3, 0, none⟩)), (4, .int .i64 d.ns)] (X2 :: .blk b3 [.slice A1 RR.length c1, .slice A2 m2 c2, .slice none 0 0, .slice none 0 0] 34 :: .row (.slice A2 m2 c2) 54 2 m2 x2 :: X :: rowR A1 c1 RR :: rowL none 0 [] :: rowS none 0 [] :: .blk b1 [.slice As d.sets.length cs, .slice Az d.zones.length cz, .slice Al d.links.length cl] 26 :: .blk b2 [.slice none 0 0, .slice none 0 0, .slice none 0 0, .slice none 0 0] 34 :: T) (fun g : E3 => [(81, .int .i64 g.k), (11, .int .i64 g.y)]) (fun g => [.blk b10 [.string (sZ ++ dig k), .slice g.A g.m g.c] 54, .row (.slice g.A g.m g.c) 74 13 g.m g.xs])
   (fun g => g.k <= EL.length /\ g.y = (ZaT d.ns EL g.k).2 /\ g.m = (ZaT d.ns EL g.k).1.length /\ g.xs = (ZaT d.ns EL g.k).1.flatMap DEra.enc) (fun g => EL.length - g.k) ⟨0, 1904, none, 0, 0, []⟩ SFA STA ⟨Nat.zero_le _, by simp [ZaT], by simp [ZaT], by simp [ZaT]⟩ ?_
  rintro ⟨j, y, A3, c3, m3, x3⟩ ⟨hj, hy, hm3, hx3⟩
  dsimp only at hj hy hm3 hx3 ⊢
  have hel := Zfm d.ns EL j
  obtain ⟨y1, y2⟩ := Zjp d.ns EL heok j
  rw [<- hy] at y1 y2
  have hm4 : m3 = j := by rw [hm3, hel]
  repeat (first | refine Zbn ?_ | (refine jn ?_; (try intro F); (refine bx ?_; intro bk); refine fin ?_) | (apply RD_W; rfl; intro bk))
  refine Zah rfl (fun h => ?_) (fun h => ?_)
  ·have hj2 : j < EL.length := by simpa using h
   have hge : EL[j]? = some EL[j] := List.getElem?_eq_getElem hj2
   have heo := heok _ (List.getElem_mem hj2)
   have hst : ZaT d.ns EL (j + 1) = ((ZaT d.ns EL j).1 ++ [ZlL EL[j] (decide ((j : Int) = 0)) d.ns (y + (1 + EL[j].years % 30)) (decide ((j : Int) < (EL.length : Int) - 1))], y + (1 + EL[j].years % 30)) := by
    rw [ZaT, List.getD_eq_getElem?_getD, hge, <- hy]
    rfl
   generalize EL[j] = e at *
   obtain ⟨k1, k2, k3, k4, k5, k6, k7, k8⟩ := id heo
   rw [ZkF] at k4
   repeat (first | (apply RL_pu; rfl; exact ZjS) | (apply RD_Q; rfl; rfl; decide +kernel; rfl; rfl; exact ZnY) | refine walk1 ?_ | (refine jg ?_; (try intro F); (first | (refine Zac (fun w' _ => Zr1 e heo (decide ((j : Int) = 0)) d.ns (y + (1 + e.years % 30)) (decide ((j : Int) < (EL.length : Int) - 1)) (by omega) (by omega) w') ?_) | (apply Zau (t := 52); rfl; rfl; (intro A' c'; (focus repeat' constructor)); (intro w' _ hO; exact Za4 (hO.of (by repeat' constructor))); rfl; rfl; (simp only [maxLen]; omega); omega; intro A' c' hc1 hc2 hc3) | (refine bx ?_; intro bk) | (refine stA ?_)); first | refine ⟨_, EndsA, ZnZ, ?_⟩ | refine fin ?_) | (refine jn ?_; (try intro F); (first | (apply Zau (t := 52); rfl; rfl; (intro A' c'; (focus repeat' constructor)); (intro w' _ hO; exact Za4 (hO.of (by repeat' constructor))); rfl; rfl; (simp only [maxLen]; omega); omega; intro A' c' hc1 hc2 hc3) | (refine bx ?_; intro bk) | (refine stA ?_) | (apply Zae; first | exact ZjS | exact PuA)); first | refine ⟨_, EndsA, ZnZ, ?_⟩ | refine fin ?_) | (apply RD_W; rfl; intro bk))
   exact ⟨⟨j + 1, y + (1 + e.years % 30), A', c', m3 + 1, x3 ++ (ZlL e (decide ((j : Int) = 0)) d.ns (y + (1 + e.years % 30)) (decide ((j : Int) < (EL.length : Int) - 1))).enc⟩, OA, ⟨OA, by rw [hst], by rw [hst, List.length_append, <- hm3]; rfl, by rw [hst, List.flatMap_append, hx3]; simp⟩, SFA, STA⟩
  have hjl : j = EL.length := by simp only [decide_eq_false_iff_not, Int.ofNat_lt] at h; omega
  rw [<- hjl] at hstz
  generalize (ZaT d.ns EL j).1 = es at *
  subst hm3 hx3
  repeat (first | refine walk ?_ | (refine jn ?_; (try intro F); (first | (apply Zau (t := 30); rfl; rfl; (intro A' c'; (focus repeat' constructor)); (intro w' _ hO; exact Za4 (hO.of (by repeat' constructor))); rfl; rfl; (simp only [maxLen]; omega); omega; intro A' c' hc1 hc2 hc3) | (refine bx ?_; intro bk) | (refine stA ?_) | (apply Zae; exact PuA)); refine fin ?_) | (apply RD_W; rfl; intro bk))
  subst hT
  exact ⟨⟨k + 1, A', c', m2 + 1, x2 ++ ZE.enc ⟨⟨sZ ++ dig k, es⟩, A3, c3⟩, ⟨⟨sZ ++ dig k, es⟩, A3, c3⟩ :: Zr⟩, OA, ⟨OA, by simp [hm], by simp [hx], by rw [hstz, <- hzz]; simp⟩, SFA, STA⟩
 have hkz : k = ZL.length := by simp only [decide_eq_false_iff_not, Int.ofNat_lt] at h; omega
 rw [hkz] at hzz
 repeat (first | refine Zbn ?_ | (refine jn ?_; (try intro F); (refine bx ?_; intro bk); refine fin ?_) | (apply RD_W; rfl; intro bk))
 exact ⟨rfl, A2, c2, m2, x2, Zr, ⟨hm, hx, hzz⟩, SFA, STA⟩
end Go.Proofs.YtpcpmndldgejiaaGreatDoor
namespace Go.Proofs.YtpcpmndldgejiaaGreatDoor
open Go Go.RowKit Go.Wk
attribute [local irreducible] W RL Does Zay Zam retQ Calls Pu Stp RD Qy Ay Zan Zap
theorem ZxV {G : Prop} (h : G := by (apply ZeC; rfl; rfl; (constructor <;> omega))) : G := h
theorem Zc2 (y m d n N : Int) (w : World) (hG : Glob w) (hk : ZbL y m d = true) (hn : Zbd y m d = n) (hN : 86400 * n = N) (hb : -1000000000 <= n /\ n <= 1000000000) : Does Tryz.prog 24 [.int .i64 y, .int .i64 m, .int .i64 d] w (fun v O => v = .int .i64 N /\ O = []) := by
 subst hN
 have hd := fun w' (hw : Bel w.heap.size w w') => ZgM y m d w' (hG.up hw)
 rw [hk, hn] at hd
 change ∀ w', Bel w.heap.size w w' -> Does _ _ _ w' (fun v O => v = .tuple #[.int .i64 n, .int .i64 0] /\ O = []) at hd
 refine Zab Tryz.func24 rfl rfl rfl rfl ?_
 repeat (first | (apply RL_pu; rfl; exact ZxV) | (refine js ?_; (refine Zac hd ?_)) | refine walk1 ?_)
 exact rtA
def atT (n : Int) : Int := -2366755200 + n % 6469175160
theorem Zuq {n : Int} (h : 0 <= n) : -2366755200 <= atT n /\ atT n <= 4102419960 := by unfold atT; omega
theorem ZjG (n : Int) (w : World) (hG : Glob w) (hn : 0 <= n /\ n <= 18446744073709551615) : Does Tryz.prog 9 [.int .u64 n] w (fun v O => v = .int .i64 (atT n) /\ O = []) := by
 have hd := fun w' (hw : Bel w.heap.size w w') => Zc2 1895 1 1 (-27393) (-2366755200) w' (hG.up hw) (by decide +kernel) (by decide +kernel) rfl (by decide)
 have h1 := Int.emod_nonneg n (b := 6469175160) (by omega)
 have h2 := Int.emod_lt_of_pos n (b := 6469175160) (by omega)
 unfold atT
 refine Zab Tryz.func9 rfl rfl rfl rfl ?_
 repeat (first | (refine js ?_; (refine Zac hd ?_)) | refine walk ?_)
 exact rtA
def PkR (s : Zai) (v : Value) (O : List It) : Prop := ∃ (R Z L H : Option Addr) (r z l h : Nat) (S : Nat -> Prop) (name : ByteArray), v = .tuple #[srcV R Z L H r z l h s, .string name] /\ (name ∈ s.zones.map ZaY.name \/ name ∈ s.links.map Zbf.name) /\ O = [.fact S (fun w => Zaj w R Z L H r z l h s)]
def PkN (s : Zai) (v : Value) (O : List It) : Prop := ∃ (R Z L H : Option Addr) (r z l h : Nat) (Zs : List ZE) (S : Nat -> Prop) (name : ByteArray), v = .tuple #[srcV R Z L H r z l h s, .string name] /\ (name ∈ s.zones.map ZaY.name \/ name ∈ s.links.map Zbf.name) /\ Zs.map ZE.z = s.zones /\ O = [rowR R r s.rules, rowZ Z z Zs, rowL L l s.links, rowS H h s.shifts, .fact S (ZaQ Zs)]
theorem ZAN {s : Zai} {v : Value} {O : List It} (h : PkN s v O) : ∃ O', PkR s v O' /\ ∀ base w', Zax base O w' -> Zax base O' w' := by
 obtain ⟨R, Z, L, H, r, z, l, hh, Zs, S, name, rfl, h1, h2, rfl⟩ := h
 refine ⟨_, ⟨R, Z, L, H, r, z, l, hh, foot [rowR R r s.rules, rowZ Z z Zs, rowL L l s.links, rowS H hh s.shifts, .fact S (ZaQ Zs)], name, rfl, h1, rfl⟩, fun base w' hH => ?_⟩
 have h3 : Zax base ([rowR R r s.rules, rowZ Z z Zs, rowL L l s.links, rowS H hh s.shifts, .fact S (ZaQ Zs)] ++ []) w' := by rw [List.append_nil]; exact hH
 have h4 := h3.fact (p := fun w => Zaj w R Z L H r z l hh s) fun w2 hi => ZcD (S := S) h2 (hi (rowR R r s.rules) (by simp)) (hi (rowZ Z z Zs) (by simp)) (hi (rowL L l s.links) (by simp)) (hi (rowS H hh s.shifts) (by simp)) (hi (.fact S (ZaQ Zs)) (by simp))
 exact h4
theorem Zu6 {G : Prop} (h : G := by (first | (apply Zav; rfl; rfl; omega; omega; (intro w' _ hO; exact Zbp (hO.of (A := rowZ Z1 z1 Zs1) (by repeat' constructor)) (by omega))) | (apply Zcj; rfl; (focus repeat' constructor); exact hzN))) : G := h
theorem Zxs {G : Prop} (h : G := by first | (apply Qy_y; rfl; exact Zu6) | exact QyA) : G := h
theorem ZAr {G : Prop} (h : G := by repeat (first | exact QF.nil | (apply QF.mk; rfl; rfl; decide +kernel; exact Zxs))) : G := h
theorem Zu5 {G : Prop} (h : G := by (first | (apply Zav; rfl; rfl; omega; omega; (intro w' _ hO; exact Zbp (hO.of (A := rowL L1 l1 s.links) (by repeat' constructor)) (by omega))) | (apply Zcj; rfl; (focus repeat' constructor); exact hlN))) : G := h
theorem Zxr {G : Prop} (h : G := by first | (apply Qy_y; rfl; exact Zu5) | exact QyA) : G := h
theorem ZAq {G : Prop} (h : G := by repeat (first | exact QF.nil | (apply QF.mk; rfl; rfl; decide +kernel; exact Zxr))) : G := h
theorem ZiJ (As Az Al : Option Addr) (cs cz cl : Nat) (d : DD23) (which : Int) (w : World) (hS : RdLL w As cs ZcH 1 d.sets) (hZ : RdLL w Az cz E23.enc 8 d.zones) (hD : RdSl w Al cl ZcH 1 d.links) (hrs : ∀ l ∈ d.sets, ∀ x ∈ l, inR .u8 x) (hrz : ∀ l ∈ d.zones, ∀ x ∈ l, x.ok) (hrl : ∀ x ∈ d.links, inR .u8 x) (hwh : inR .u8 which) :
  Does Tryz.prog 8 [d23V As Az Al cs cz cl d, .int .u8 which] w (PkR (Zap d)) := by
 refine Does.monoO (R := PkN (Zap d)) ?_ fun _ _ h => ZAN h
 have hmk := fun w' (hw : Bel w.heap.size w w') => (Zf6 As Az Al cs cz cl d w' (hS.up hw) (hZ.up hw) (hD.up hw) hrs hrz hrl).monoO fun _ _ h => ZmR h
 have hsm := ZbU d
 have hnz : 1 <= (Zap d).zones.length := by
  rw [Zdf]
  exact (ZbK d.zones).1
 generalize Zap d = s at *
 have hzl : s.zones.length <= 100 := hsm.nz
 have hll : s.links.length <= 100 := hsm.nl
 rw [ZkF] at hwh
 obtain ⟨k, hk⟩ : ∃ k : Nat, (k : Int) = which % ((s.zones.length : Int) + s.links.length) := ⟨(which % ((s.zones.length : Int) + s.links.length)).toNat, Int.toNat_of_nonneg (Int.emod_nonneg _ (by omega))⟩
 have hkl := Int.emod_lt_of_pos which (b := (s.zones.length : Int) + s.links.length) (by omega)
 rw [<- hk] at hkl
 have hmod : ∀ n : Int, n = (s.zones.length : Int) + s.links.length -> which % n = k := fun n hn => by rw [hn, hk]
 refine Zab Tryz.func8 rfl rfl rfl rfl ?_
 repeat (first | refine walk ?_ | (refine jg ?_; (try intro F); (first | (apply Zag (h := fun w' hw _ => hmk w' hw); rfl; rintro v O' ⟨R1, r1, Z1, z1, L1, l1, H1, h1, Zs1, S1, rfl, hZ1, rfl⟩) | (refine bx ?_; intro bk) | (refine stA ?_)); refine fin ?_) | (refine jn ?_; (try intro F); (first | (refine bx ?_; intro bk) | (refine stA ?_) | (apply Zae; exact PuA)); refine fin ?_) | (apply RD_W; rfl; intro bk))
 have hzlen : Zs1.length = s.zones.length := by rw [<- hZ1, List.length_map]
 rw [<- hk]
 refine Zah rfl (fun hc => ?_) (fun hc => ?_)
 ·have hkz : k < s.zones.length := by simpa using hc
  obtain ⟨q, hq⟩ : ∃ q, Zs1[k]? = some q := ⟨_, List.getElem?_eq_getElem (by omega)⟩
  have hqz : s.zones[k]? = some q.z := by rw [<- hZ1, List.getElem?_map, hq]; rfl
  have hmem : q.z.name ∈ s.zones.map ZaY.name := List.mem_map.2 ⟨_, List.mem_of_getElem? hqz, rfl⟩
  have hzN : (Zs1.flatMap ZE.enc)[((k : Int)).toNat * 2 + 0]? = some (.string q.z.name) := ZaC ZE.len Zs1 k q 0 _ hq rfl
  repeat (first | (apply RL_pu; rfl; exact Zu6) | (apply RD_Q; rfl; rfl; decide +kernel; rfl; rfl; exact Zxs) | refine walk1 ?_ | (refine jn ?_; (try intro F); (first | (refine bx ?_; intro bk) | (refine stA ?_) | (apply Zae; first | exact Zu6 | exact PuA)); first | refine ⟨_, EndsA, ZAr, ?_⟩ | refine fin ?_) | (apply RD_W; rfl; intro bk))
  exact ret_2 _ _ [rowR R1 r1 s.rules, rowZ Z1 z1 Zs1, rowL L1 l1 s.links, rowS H1 h1 s.shifts, .fact S1 (ZaQ Zs1)] (.cellB rfl (by repeat' constructor) rfl rfl) (.tmp rfl) SOA ⟨R1, Z1, L1, H1, r1, z1, l1, h1, Zs1, S1, _, rfl, .inl hmem, hZ1, rfl⟩
 ·have hkz : ¬ k < s.zones.length := by simpa using hc
  obtain ⟨q, hq⟩ : ∃ q, s.links[k - s.zones.length]? = some q := ⟨_, List.getElem?_eq_getElem (by omega)⟩
  have hmem : q.name ∈ s.links.map Zbf.name := List.mem_map.2 ⟨_, List.mem_of_getElem? hq, rfl⟩
  have hlN : (s.links.flatMap Zbf.enc)[((k : Int) - (s.zones.length : Int)).toNat * 2 + 1]? = some (.string q.name) := by
   rw [show ((k : Int) - (s.zones.length : Int)).toNat = k - s.zones.length by omega]
   exact ZaC Zbf.len s.links _ q 1 _ hq rfl
  repeat (first | (apply RL_pu; rfl; exact Zu5) | (apply RD_Q; rfl; rfl; decide +kernel; rfl; rfl; exact Zxr) | refine walk1 ?_ | (refine jn ?_; (try intro F); (first | (refine bx ?_; intro bk) | (refine stA ?_) | (apply Zae; first | exact Zu5 | exact PuA)); first | refine ⟨_, EndsA, ZAq, ?_⟩ | refine fin ?_) | (apply RD_W; rfl; intro bk))
  exact ret_2 _ _ [rowR R1 r1 s.rules, rowZ Z1 z1 Zs1, rowL L1 l1 s.links, rowS H1 h1 s.shifts, .fact S1 (ZaQ Zs1)] (.cellB rfl (by repeat' constructor) rfl rfl) (.tmp rfl) SOA ⟨R1, Z1, L1, H1, r1, z1, l1, h1, Zs1, S1, _, rfl, .inr hmem, hZ1, rfl⟩
def x27G : ByteArray := ⟨#[71, 77, 84]⟩
def x27I : ByteArray := ⟨#[73, 83, 84]⟩
def x27N : ByteArray := ⟨#[69, 105, 114, 101]⟩
def x27a : Zaa := ⟨x27N, 1972, 1048576, 3, ⟨3, 0, 15⟩, ⟨7200, 2⟩, 0, ByteArray.empty⟩
def x27b : Zaa := ⟨x27N, 1972, 1048576, 10, ⟨2, 0, 0⟩, ⟨3600, 2⟩, -3600, ⟨#[83]⟩⟩
def x27c : Zaa := ⟨x27N, 1971, 1971, 10, ⟨1, 0, 31⟩, ⟨7200, 2⟩, -3600, ⟨#[83]⟩⟩
def x27e : DEra := ⟨0, 0, 0, ByteArray.empty, x27G, ⟨true, 1968, 10, ⟨1, 0, 27⟩, ⟨0, 0⟩⟩⟩
def x27f : DEra := ⟨3600, 2, 0, x27N, ⟨#[73, 83, 84, 47, 71, 77, 84]⟩, ⟨false, 0, 0, ⟨0, 0, 0⟩, ⟨0, 0⟩⟩⟩
def ex27 : Zai := exS [x27a, x27b, x27c] [x27e, x27f] [⟨⟨#[90]⟩, ⟨#[76]⟩⟩] []
def ZAH (v : Value) (O : List It) : Prop := ∃ (br bz bl : Nat) (S : Nat -> Prop), v = srcV (some ⟨br, 0, none⟩) (some ⟨bz, 0, none⟩) (some ⟨bl, 0, none⟩) none 3 1 1 0 ex27 /\ O = [.fact S (fun w => Zaj w (some ⟨br, 0, none⟩) (some ⟨bz, 0, none⟩) (some ⟨bl, 0, none⟩) none 3 1 1 0 ex27)]
def ZAI (v : Value) (O : List It) : Prop := ∃ (br be bz bl : Nat), v = srcV (some ⟨br, 0, none⟩) (some ⟨bz, 0, none⟩) (some ⟨bl, 0, none⟩) none 3 1 1 0 ex27 /\
 O = [.blk bz [.string ⟨#[90]⟩, .slice (some ⟨be, 0, none⟩) 2 2] 54, .blk be (x27e.enc ++ x27f.enc) 74, .blk br (x27a.enc ++ (x27b.enc ++ x27c.enc)) 118, .blk bl [.string ⟨#[90]⟩, .string ⟨#[76]⟩] 56]
theorem Zy3 {v : Value} {O : List It} (h : ZAI v O) : ∃ O', ZAH v O' /\ ∀ base w', Zax base O w' -> Zax base O' w' := by
 obtain ⟨br, be, bz, bl, rfl, rfl⟩ := h
 refine ⟨_, ⟨br, bz, bl, foot [.blk bz [.string ⟨#[90]⟩, .slice (some ⟨be, 0, none⟩) 2 2] 54, .blk be (x27e.enc ++ x27f.enc) 74, .blk br (x27a.enc ++ (x27b.enc ++ x27c.enc)) 118, .blk bl [.string ⟨#[90]⟩, .string ⟨#[76]⟩] 56], rfl, rfl⟩, fun base w' hH => ?_⟩
 have h3 : Zax base ([.blk bz [.string ⟨#[90]⟩, .slice (some ⟨be, 0, none⟩) 2 2] 54, .blk be (x27e.enc ++ x27f.enc) 74, .blk br (x27a.enc ++ (x27b.enc ++ x27c.enc)) 118, .blk bl [.string ⟨#[90]⟩, .string ⟨#[76]⟩] 56] ++ []) w' := by rw [List.append_nil]; exact hH
 have h4 := h3.fact (p := fun w => Zaj w (some ⟨br, 0, none⟩) (some ⟨bz, 0, none⟩) (some ⟨bl, 0, none⟩) none 3 1 1 0 ex27) fun w2 hi =>
  ZAQ (Zh7 (l := [x27a, x27b, x27c]) Zaa.len (Nat.le_refl 3) (by decide) (hi (.blk br (x27a.enc ++ (x27b.enc ++ x27c.enc)) 118) (by simp))) (hi (.blk bz [.string ⟨#[90]⟩, .slice (some ⟨be, 0, none⟩) 2 2] 54) (by simp)) (Zh7 (l := [x27e, x27f]) DEra.len (Nat.le_refl 2) (by decide) (hi (.blk be (x27e.enc ++ x27f.enc) 74) (by simp)))
   (Zh7 (l := [(⟨⟨#[90]⟩, ⟨#[76]⟩⟩ : Zbf)]) Zbf.len (Nat.le_refl 1) (by decide) (hi (.blk bl [.string ⟨#[90]⟩, .string ⟨#[76]⟩] 56) (by simp))) ⟨Nat.le_refl _, Nat.zero_le _, fun k x hx => by simp at hx⟩
 exact h4
theorem Za5 (h n : Int) (w : World) (hn : 3600 * h = n) (hb : -1000000 <= n /\ n <= 1000000) : Does Tryz.prog 65 [.int .i64 h] w (fun v O => v = .agg #[.int .i64 n, .int .i64 2] /\ O = []) := by
 subst hn
 refine Zab Tryz.func65 rfl rfl rfl rfl ?_
 repeat (first | (apply RL_pu; rfl; exact ZxV) | (refine js ?_; (refine bx ?_; intro bk)) | refine walk1 ?_)
 exact ret_1 _ [] (.cellB rfl (by repeat' constructor) rfl rfl) .nil ⟨rfl, rfl⟩
theorem Zj7 (w : World) : Does Tryz.prog 29 [] w ZAH := by
 refine Does.monoO (R := ZAI) ?_ fun _ _ h => Zy3 h
 refine Zab Tryz.func29 rfl rfl rfl rfl ?_
 repeat' (first | (refine js ?_; (first | (apply Zar (f := 65) (us := []) (cs := []) (vs := [.int .i64 2]) (h := fun w' _ _ => Za5 2 7200 w' rfl (by decide)); rfl; rfl; rintro v O' ⟨rfl, rfl⟩) | (apply Zar (f := 65) (us := []) (cs := []) (vs := [.int .i64 1]) (h := fun w' _ _ => Za5 1 3600 w' rfl (by decide)); rfl; rfl; rintro v O' ⟨rfl, rfl⟩) | (refine bx ?_; intro bk))) | refine walk ?_ | (refine ZeB ?_; intro F; (first | (apply Zar (f := 65) (us := []) (cs := []) (vs := [.int .i64 2]) (h := fun w' _ _ => Za5 2 7200 w' rfl (by decide)); rfl; rfl; rintro v O' ⟨rfl, rfl⟩) | (apply Zar (f := 65) (us := []) (cs := []) (vs := [.int .i64 1]) (h := fun w' _ _ => Za5 1 3600 w' rfl (by decide)); rfl; rfl; rintro v O' ⟨rfl, rfl⟩)); refine ⟨_, EndsA, SubO.right _ _, ?_⟩) | (refine ZAk (fun bk => ?_) ?_; rotate_left; intro F; (first | (apply Zar (f := 65) (us := []) (cs := []) (vs := [.int .i64 2]) (h := fun w' _ _ => Za5 2 7200 w' rfl (by decide)); rfl; rfl; rintro v O' ⟨rfl, rfl⟩) | (apply Zar (f := 65) (us := []) (cs := []) (vs := [.int .i64 1]) (h := fun w' _ _ => Za5 1 3600 w' rfl (by decide)); rfl; rfl; rintro v O' ⟨rfl, rfl⟩)); refine ⟨_, EndsA, SubO.right _ _, ?_⟩) | (refine ZAj (fun bk => ?_) (fun bk => ?_) ?_; rotate_left 2; intro F; (first | (apply Zar (f := 65) (us := []) (cs := []) (vs := [.int .i64 2]) (h := fun w' _ _ => Za5 2 7200 w' rfl (by decide)); rfl; rfl; rintro v O' ⟨rfl, rfl⟩) | (apply Zar (f := 65) (us := []) (cs := []) (vs := [.int .i64 1]) (h := fun w' _ _ => Za5 1 3600 w' rfl (by decide)); rfl; rfl; rintro v O' ⟨rfl, rfl⟩)); refine ⟨_, EndsA, SubO.right _ _, ?_⟩) | (refine RD_Lw ?_; intro F; (first | (apply Zar (f := 65) (us := []) (cs := []) (vs := [.int .i64 2]) (h := fun w' _ _ => Za5 2 7200 w' rfl (by decide)); rfl; rfl; rintro v O' ⟨rfl, rfl⟩) | (apply Zar (f := 65) (us := []) (cs := []) (vs := [.int .i64 1]) (h := fun w' _ _ => Za5 1 3600 w' rfl (by decide)); rfl; rfl; rintro v O' ⟨rfl, rfl⟩) | (refine bx ?_; intro bk) | (refine stA ?_) | (apply Zae; exact PuA)); refine ⟨_, EndsA, QFA, ?_⟩) | (refine ZqZ (fun bk => ?_) ?_; rotate_left; intro F; (first | (apply Zar (f := 65) (us := []) (cs := []) (vs := [.int .i64 2]) (h := fun w' _ _ => Za5 2 7200 w' rfl (by decide)); rfl; rfl; rintro v O' ⟨rfl, rfl⟩) | (apply Zar (f := 65) (us := []) (cs := []) (vs := [.int .i64 1]) (h := fun w' _ _ => Za5 1 3600 w' rfl (by decide)); rfl; rfl; rintro v O' ⟨rfl, rfl⟩) | (refine bx ?_; intro bk) | (refine stA ?_) | (apply Zae; exact PuA)); refine ⟨_, EndsA, QFA, ?_⟩) | (refine ZqY (fun bk => ?_) (fun bk => ?_) ?_; rotate_left 2; intro F; (first | (apply Zar (f := 65) (us := []) (cs := []) (vs := [.int .i64 2]) (h := fun w' _ _ => Za5 2 7200 w' rfl (by decide)); rfl; rfl; rintro v O' ⟨rfl, rfl⟩) | (apply Zar (f := 65) (us := []) (cs := []) (vs := [.int .i64 1]) (h := fun w' _ _ => Za5 1 3600 w' rfl (by decide)); rfl; rfl; rintro v O' ⟨rfl, rfl⟩) | (refine bx ?_; intro bk) | (refine stA ?_) | (apply Zae; exact PuA)); refine ⟨_, EndsA, QFA, ?_⟩) | (apply RD_W; rfl; intro bk) | (refine ZwT rfl rfl rfl (fun bk => ?_) (fun bk => ?_)) | (refine Zah rfl (fun hc => ?_) (fun hc => ?_)))
 all_goals exact ret_1 _ [.blk _ [.string ⟨#[90]⟩, .slice (some ⟨_, 0, none⟩) 2 2] 54, .blk _ (x27e.enc ++ x27f.enc) 74, .blk _ (x27a.enc ++ (x27b.enc ++ x27c.enc)) 118, .blk _ [.string ⟨#[90]⟩, .string ⟨#[76]⟩] 56] (.cellB rfl (by repeat' constructor) rfl rfl) SOA ⟨_, _, _, _, rfl, rfl⟩
end Go.Proofs.YtpcpmndldgejiaaGreatDoor
