/- Parts of the proof. -/
import Derived.Test.YtpcpmndldgejiaaGreatDoorV14
import Derived.Test.YtpcpmndldgejiaaGreatDoorV12
set_option maxHeartbeats 4000000
set_option linter.unusedVariables false
set_option linter.unusedSimpArgs false
namespace Go.Wk
open Go Go.RowKit
section
variable {P : Program} {n : Nat} {wr : World} {fr : Fr} {O : List It} {ty : TypeId}
theorem ZeK {x y : Operand} {ts : Array TypeId} {k : IntKind} {i j q : Int} (hx : ev fr x = some (.int k i)) (hy : ev fr y = some (.int k j)) (hq : (if i < j then j else i) = q) : Pu P n wr fr O (.call ⟨.builtin .max, #[x, y], ts⟩) ty (.int k q) := by
 rw [← hq]
 exact Pu_maxJ hx hy
theorem Pu_minK {x y : Operand} {ts : Array TypeId} {k : IntKind} {i j q : Int} (hx : ev fr x = some (.int k i)) (hy : ev fr y = some (.int k j)) (hq : (if j < i then j else i) = q) : Pu P n wr fr O (.call ⟨.builtin .min, #[x, y], ts⟩) ty (.int k q) := by
 rw [← hq]
 exact ZeJ hx hy
end
end Go.Wk
namespace Go.Proofs.YtpcpmndldgejiaaGreatDoor
open Go Go.RowKit Go.Wk
attribute [local irreducible] W RL Does Zat Zak retQ Calls Pu Stp RD Qy Ay Zam
theorem lastY_spec (r : Zaa) (w : World) : Does Tryz.prog 190 [.agg (Zaa.enc r).toArray] w (fun v O => v = .int .i64 (lastY r) ∧ O = []) := by
 unfold lastY
 obtain ⟨nm, fr, to, mo, ⟨dk, dw, dd⟩, ⟨cs, cb⟩, sv, le⟩ := r
 simp only at *
 show Does _ _ [.agg #[.string nm, .int .i64 fr, .int .i64 to, .int .i64 mo, .int .i64 dk, .int .i64 dw, .int .i64 dd, .int .i64 cs, .int .i64 cb, .int .i64 sv, .string le]] w _
 refine Zab Tryz.func190 rfl rfl rfl rfl ?_
 rw [show min to 2000000000 = if 2000000000 < to then 2000000000 else to by split <;> omega]
 repeat' (first | (apply RL_pu; rfl; (apply ZeJ; rfl; rfl)) | (refine js ?_; (refine bx ?_; intro bk)) | refine walk1 ?_ | (refine Zag rfl (fun hc => ?_) (fun hc => ?_)))
 all_goals exact clo1
def evV : Option Zac → Value
 | some e => .agg (Zac.enc e).toArray
 | none => .agg (Zac.enc dEv0).toArray
theorem Zex (l : List Zaa) (h : ∀ r ∈ l, -4611686018427387904 ≤ r.save ∧ r.save ≤ 4611686018427387904) : -4611686018427387904 ≤ Zaj l ∧ Zaj l ≤ 0 := by
 have h1 := leastD_go l 0 (by omega) (by omega) h
 refine ⟨h1.1, ?_⟩
 have : ∀ (l : List Zaa) (m : Int), l.foldl (fun m r => min m r.save) m ≤ m := fun l => by
  induction l with
  | nil => intro m; exact Int.le_refl _
  | cons r l ih => intro m; have := ih (min m r.save); simp only [List.foldl_cons]; omega
 exact this l 0
theorem PuEv1 {G : Prop} (h : G := by (first | exact PuI | (apply Pu_add; rfl; rfl; (constructor <;> omega)) | (apply ZeI; rfl; rfl; (constructor <;> omega)) | (apply Pu_add; rfl; rfl; (constructor <;> (simp only [decide_eq_false_iff_not, decide_eq_true_eq] at *; omega))) | (apply ZeK; rfl; rfl; exact hmx) | (apply Pu_maxJ; rfl; rfl))) : G := h
theorem evOn_spec (A : Option Addr) (c : Nat) (l : List Zaa) (i : Nat) (y : Int) (r : Zaa) (w : World) (hG : Glob w) (hA : RdSl w A c Zaa.enc 11 l) (hi : l[i]? = some r) (hn : l.length ≤ 1000000) (hR : ∀ r ∈ l, -4611686018427387904 ≤ r.save ∧ r.save ≤ 4611686018427387904) :
  Does Tryz.prog 158 [.slice A l.length c, .int .i64 i, .int .i64 y] w (fun v O => v = .tuple #[evV (onR (Zaj l) r i y), .bool (onR (Zaj l) r i y).isSome] ∧ O = []) := by
 have hlt : i < l.length := (List.getElem?_eq_some_iff.1 hi).1
 have hls := Zex l hR
 have hlst := fun w' (hw : Bel w.heap.size w w') => ZcR A c l w' (hA.up hw)
 have hlast := lastY_spec r
 have hcc := Zd2 r.at_
 have hcb : Za7 r.at_ = true → -604799 ≤ r.at_.sec ∧ r.at_.sec ≤ 604799 := fun hc => by
  simp only [Za7, Bool.and_eq_true, decide_eq_true_eq] at hc
  omega
 have ho := fun w' (hw : Bel w.heap.size w w') => on_spec y r.month r.day w' (hG.up hw)
 have hob := onD_bd y r.month r.day
 obtain ⟨hna, hca⟩ := hA.rd i _ hi
 obtain ⟨res, hres⟩ : ∃ res, onR (Zaj l) r i y = res := ⟨_, rfl⟩
 rw [hres]
 unfold onR at hres
 clear hi hR
 generalize Zaj l = least at *
 generalize lastY r = ly at *
 generalize onD y r.month r.day = x at *
 generalize Za7 r.at_ = z at *
 obtain ⟨x1, x2⟩ := x
 obtain ⟨nm, fr, to, mo, ⟨dk, dw, dd⟩, ⟨cs, cb⟩, sv, le⟩ := r
 simp only [Zaa.enc] at *
 rw [show max fr (-2000000000) = if fr < -2000000000 then -2000000000 else fr by split <;> omega] at hres
 rw [show max least (-10800) = if least < -10800 then -10800 else least by split <;> omega] at hres
 have hmb : -10800 ≤ (if least < -10800 then (-10800 : Int) else least) ∧ (if least < -10800 then (-10800 : Int) else least) ≤ 0 := by split <;> omega
 obtain ⟨mx, hmx⟩ : ∃ mx, (if least < -10800 then (-10800 : Int) else least) = mx := ⟨_, rfl⟩
 rw [hmx] at hres hmb
 cases z
 ·clear hcb ho hob
  obtain rfl : none = res := by rw [← hres, if_pos (by simp)]
  clear hres
  refine Zab Tryz.func158 rfl rfl rfl rfl ?_
  repeat' (first | (apply RL_pu; rfl; exact PuEv1) | (refine js ?_; (first | (refine Zad hlst ?_) | (refine Zad (fun w' hw => hlast w') ?_) | (refine Zad (fun w' hw => hcc w') ?_) | (refine Zad ho ?_) | (refine bx ?_; intro bk))) | refine walk1 ?_ | refine und ?_ | (refine Zav rfl rfl rfl (fun hc => ?_) (fun hc => ?_)) | (refine Zay rfl rfl rfl (fun hc => ?_) (fun hc => ?_)) | (refine Zag rfl (fun hc => ?_) (fun hc => ?_)))
  ·exact absurd (of_decide_eq_true hc) (by omega)
  all_goals first | exact rtC | (exfalso; simp_all; done)
 ·have hb := hcb rfl
  clear hcb
  refine Zab Tryz.func158 rfl rfl rfl rfl ?_
  repeat' (first | (apply RL_pu; rfl; exact PuEv1) | (refine js ?_; (first | (refine Zad hlst ?_) | (refine Zad (fun w' hw => hlast w') ?_) | (refine Zad (fun w' hw => hcc w') ?_) | (refine Zad ho ?_) | (refine bx ?_; intro bk))) | refine walk1 ?_ | refine und ?_ | (refine Zav rfl rfl rfl (fun hc => ?_) (fun hc => ?_)) | (refine Zay rfl rfl rfl (fun hc => ?_) (fun hc => ?_)) | (refine Zag rfl (fun hc => ?_) (fun hc => ?_)))
  ·exact absurd (of_decide_eq_true hc) (by omega)
  ·have h := of_decide_eq_true hc
   obtain rfl : none = res := by rw [← hres, if_pos (.inl h)]
   exact rtC
  ·have h := of_decide_eq_true hc
   obtain rfl : none = res := by rw [← hres, if_pos (.inr (.inl h))]
   exact rtC
  ·have hx : ¬ x2 = 0 := by simpa using hc
   obtain rfl : none = res := by rw [← hres, if_neg (fun h => h.elim (fun h => absurd h (of_decide_eq_false (by assumption))) (fun h => h.elim (fun h => absurd h (of_decide_eq_false (by assumption))) (fun h => by cases h))), if_pos hx]
   exact rtC
  ·rename_i hx2
   have hx : ¬ ¬ x2 = 0 := by simpa using hx2
   obtain rfl : some ⟨y, (i : Int), 86400 * x1 + cs + mx⟩ = res := by rw [← hres, if_neg (fun h => h.elim (fun h => absurd h (of_decide_eq_false (by assumption))) (fun h => h.elim (fun h => absurd h (of_decide_eq_false (by assumption))) (fun h => by cases h))), if_neg hx, if_pos (of_decide_eq_true hc)]
   exact rtC
  ·rename_i hx2
   have hx : ¬ ¬ x2 = 0 := by simpa using hx2
   obtain rfl : some ⟨y, (i : Int), 86400 * x1 + cs⟩ = res := by rw [← hres, if_neg (fun h => h.elim (fun h => absurd h (of_decide_eq_false (by assumption))) (fun h => h.elim (fun h => absurd h (of_decide_eq_false (by assumption))) (fun h => by cases h))), if_neg hx, if_neg (of_decide_eq_false hc), Int.add_zero]
   exact rtC
end Go.Proofs.YtpcpmndldgejiaaGreatDoor
namespace Go.Wk
open Go Go.RowKit
def cmpI (a b : Int) : Int := if a < b then -1 else if b < a then 1 else 0
def iEnc (i : Int) : List Value := [.int .i64 i]
def ZbT : List Int → Int
 | [] => 0
 | x :: l => if x = 0 then ZbT l else x
theorem ordE_eq (a b : Zac) : ordE a b = ZbT [cmpI a.nominal b.nominal, cmpI a.rule b.rule, cmpI a.year b.year] := by
 unfold ordE cmpI ZbT ZbT ZbT ZbT
 repeat' split
 all_goals omega
end Go.Wk
namespace Go.Proofs.YtpcpmndldgejiaaGreatDoor
open Go Go.RowKit Go.Wk
attribute [local irreducible] W RL Does Zat Zak retQ Calls Pu Stp RD Qy Ay Zam
theorem nan64_spec (a : Int) (w : World) : Does Tryz.prog 217 [.int .i64 a] w (fun v O => v = .bool false ∧ O = []) := by
 refine Zab Tryz.func217 rfl rfl rfl rfl ?_
 repeat (first | refine walk ?_)
 exact ret_1 _ [] (.tmp rfl) .nil ⟨by simp, rfl⟩
theorem nanI_spec (a : Int) (w : World) : Does Tryz.prog 218 [.int .i64 a] w (fun v O => v = .bool false ∧ O = []) := by
 refine Zab Tryz.func218 rfl rfl rfl rfl ?_
 repeat (first | refine walk ?_)
 exact ret_1 _ [] (.tmp rfl) .nil ⟨by simp, rfl⟩
theorem cmp64_spec (a b : Int) (w : World) : Does Tryz.prog 199 [.int .i64 a, .int .i64 b] w (fun v O => v = .int .i64 (cmpI a b) ∧ O = []) := by
 refine Zab Tryz.func199 rfl rfl rfl rfl ?_
 repeat' (first | (refine js ?_; (first | (refine Zad (fun w' _ => nan64_spec a w') ?_) | (refine Zad (fun w' _ => nan64_spec b w') ?_))) | refine walk ?_ | (refine Zag rfl (fun hc => ?_) (fun hc => ?_)))
 all_goals first | (refine ret_1 _ [] (.tmp rfl) .nil ⟨?_, rfl⟩; first | rfl | (simp only [*, Bool.true_and, Bool.false_and, Bool.true_or, Bool.false_or, Bool.not_true, Bool.not_false]; done) | (simp_all [cmpI]; done) | (simp_all [cmpI]; omega) | (simp_all [cmpI]; rw [Bool.eq_iff_iff]; simp; omega)) | (exfalso; simp_all [cmpI]; done) | (exfalso; simp_all [cmpI]; omega) | (exfalso; omega)
theorem cmpN_spec (a b : Int) (w : World) : Does Tryz.prog 200 [.int .i64 a, .int .i64 b] w (fun v O => v = .int .i64 (cmpI a b) ∧ O = []) := by
 refine Zab Tryz.func200 rfl rfl rfl rfl ?_
 repeat' (first | (refine js ?_; (first | (refine Zad (fun w' _ => nanI_spec a w') ?_) | (refine Zad (fun w' _ => nanI_spec b w') ?_))) | refine walk ?_ | (refine Zag rfl (fun hc => ?_) (fun hc => ?_)))
 all_goals first | (refine ret_1 _ [] (.tmp rfl) .nil ⟨?_, rfl⟩; first | rfl | (simp only [*, Bool.true_and, Bool.false_and, Bool.true_or, Bool.false_or, Bool.not_true, Bool.not_false]; done) | (simp_all [cmpI]; done) | (simp_all [cmpI]; omega) | (simp_all [cmpI]; rw [Bool.eq_iff_iff]; simp; omega)) | (exfalso; simp_all [cmpI]; done) | (exfalso; simp_all [cmpI]; omega) | (exfalso; omega)
theorem or_spec (A : Option Addr) (c : Nat) (l : List Int) (w : World) (hA : RdSl w A c iEnc 1 l) : Does Tryz.prog 198 [.slice A l.length c] w (fun v O => v = .int .i64 (ZbT l) ∧ O = []) := by
 have hle := hA.le
 have hcp := hA.cap
 unfold maxLen at hcp
 obtain ⟨res, hres⟩ : ∃ res, ZbT l = res := ⟨_, rfl⟩
 rw [hres]
 refine Zab Tryz.func198 rfl rfl rfl rfl ?_
 repeat (first | refine walk ?_)
 refine Zal [(6, _), (7, _), (3, _)] [] (fun k : Nat => [(8, .int .i64 k)]) (fun _ => []) (fun k => k ≤ l.length ∧ ZbT (l.drop k) = res) (fun k => l.length - k) 0 SFA SOA ⟨Nat.zero_le _, hres⟩ ?_
 rintro k ⟨hk, hi⟩
 repeat (first | refine walk ?_)
 refine Zag rfl (fun h => ?_) (fun h => ?_)
 ·have hlt : k < l.length := by simpa using h
  obtain ⟨hna, hca⟩ := hA.rd k _ (List.getElem?_eq_getElem hlt)
  rw [Zai hlt, ZbT] at hi
  generalize l[k] = r at *
  repeat (first | (apply RL_pu; rfl; exact PuI) | refine walk1 ?_)
  refine Zag rfl (fun h2 => ?_) (fun h2 => ?_)
  ·rw [if_neg (by simpa using h2)] at hi
   repeat (first | refine walk ?_)
   exact ret_1 _ [] (.tmp rfl) .nil ⟨by rw [← hi], rfl⟩
  ·rw [if_pos (by simpa using h2)] at hi
   repeat (first | refine walk ?_)
   exact ⟨k + 1, OA, ⟨OA, hi⟩, SFA, .nil⟩
 ·have hkl : k = l.length := by
   have := of_decide_eq_false h
   omega
  subst hkl
  rw [List.drop_length] at hi
  repeat (first | refine walk ?_)
  exact ret_1 _ [] (.tmp rfl) .nil ⟨by rw [← hi]; rfl, rfl⟩
theorem cellsRd {α : Type} {enc : α → List Value} {sz c : Nat} {ad : Addr} {l : List α} {w : World} (hsz : ∀ x, (enc x).length = sz) (h1 : l.length ≤ c) (h2 : c ≤ maxLen) (h : Zap w ad (l.flatMap enc)) : RdSl w (some ad) c enc sz l :=
 ⟨h1, h2, fun k x hk => ⟨by simp, fun j v hj => by
  rw [Zba]
  exact h _ v (ZaG hsz l k x j v hk hj)⟩⟩
theorem order_spec (a b : Zac) (w : World) : Does Tryz.prog 159 [.agg (Zac.enc a).toArray, .agg (Zac.enc b).toArray] w (fun v O => v = .int .i64 (ordE a b) ∧ O = []) := by
 rw [ordE_eq]
 obtain ⟨y, r, n⟩ := a
 obtain ⟨y2, r2, n2⟩ := b
 dsimp only
 have h1 := cmp64_spec n n2
 have h2 := cmpN_spec r r2
 have h3 := cmp64_spec y y2
 generalize cmpI n n2 = x1 at *
 generalize cmpI r r2 = x2 at *
 generalize cmpI y y2 = x3 at *
 have h4 := fun (bk : Nat) w' (hc : Zap w' ⟨bk, 0, none⟩ [.int .i64 x1, .int .i64 x2, .int .i64 x3]) => or_spec (some ⟨bk, 0, none⟩) 3 [x1, x2, x3] w' (cellsRd (fun _ => rfl) (Nat.le_refl 3) (by decide) hc)
 show Does _ _ [.agg #[.int .i64 y, .int .i64 r, .int .i64 n], .agg #[.int .i64 y2, .int .i64 r2, .int .i64 n2]] w _
 refine Zab Tryz.func159 rfl rfl rfl rfl ?_
 repeat (first | refine walk ?_ | (refine jg ?_; (try intro F); (first | (refine Zad (fun w' _ => h1 w') ?_) | (refine Zad (fun w' _ => h2 w') ?_) | (refine Zad (fun w' _ => h3 w') ?_) | (apply Zah (h := fun w' _ hH => h4 _ w' (hH.cells (by repeat' constructor))); rfl; rintro v O' ⟨rfl, rfl⟩) | (refine bx ?_; intro bk)); refine fin ?_) | (refine jn ?_; (try intro F); (first | (refine bx ?_; intro bk) | (apply Zae; exact PuA)); refine fin ?_) | (apply RD_W; rfl; intro bk))
 exact rtA
end Go.Proofs.YtpcpmndldgejiaaGreatDoor
namespace Go.Wk
open Go Go.RowKit
section
variable {P : Program} {n : Nat} {wr : World} {fr : Fr} {O : List It} {ty : TypeId}
theorem Pu_max3 {x y z : Operand} {ts : Array TypeId} {k : IntKind} {i j l q : Int} (hx : ev fr x = some (.int k i)) (hy : ev fr y = some (.int k j)) (hz : ev fr z = some (.int k l)) (hq : max (max i j) l = q) : Pu P n wr fr O (.call ⟨.builtin .max, #[x, y, z], ts⟩) ty (.int k q) := by
 have h1 : (if i < j then j else i) = max i j := by split <;> omega
 have h2 : (if max i j < l then l else max i j) = q := by rw [← hq]; split <;> omega
 exact fun a w hs _ _ _ _ => by
  simp only [execOp, resolve, invoke, builtin, Builtin.max_, Builtin.max2, hs.sim.ev hx, hs.sim.ev hy, hs.sim.ev hz]
  simp [execOp, resolve, invoke, builtin, Builtin.max_, Builtin.max2, hs.sim.ev hx, hs.sim.ev hy, hs.sim.ev hz, h1, h2]
end
end Go.Wk
namespace Go.Proofs.YtpcpmndldgejiaaGreatDoor
open Go Go.RowKit Go.Wk
attribute [local irreducible] W RL Does Zat Zak retQ Calls Pu Stp RD Qy Ay Zam
theorem PuEvA0 {G : Prop} (h : G := by (first | exact PuI | (apply Pu_loadO1; rfl; first | exact c1 0 _ rfl | exact c2 0 _ rfl | exact c3 0 _ rfl | exact hcell) | (apply Pu_max3; rfl; rfl; rfl; exact hy0))) : G := h
theorem QyEvA0 {G : Prop} (h : G := by first | (apply Qy_y; rfl; exact PuEvA0) | exact QyA) : G := h
theorem QFEvA0 {G : Prop} (h : G := by repeat (first | exact QF.nil | (apply QF.mk; rfl; rfl; decide +kernel; exact QyEvA0))) : G := h
theorem PuEvA1 {G : Prop} (h : G := by (apply Pu_loadO1; rfl; first | exact c1 0 _ rfl | exact c2 0 _ rfl | exact c3 0 _ rfl)) : G := h
theorem after1_spec (A : Option Addr) (c : Nat) (l : List Zaa) (i : Nat) (r : Zaa) (yr nominal : Int) (b1 b2 b3 : Nat) (w : World) (hG : Glob w) (hA : RdSl w A c Zaa.enc 11 l) (hi : l[i]? = some r) (hn : l.length ≤ 1000000) (hR : ∀ r ∈ l, -4611686018427387904 ≤ r.save ∧ r.save ≤ 4611686018427387904)
  (hy : -2000000000 ≤ yr ∧ yr ≤ 2000000000) (hf : r.from_ ≤ 4611686018427387904) (c1 : Zap w ⟨b1, 0, none⟩ [.slice A l.length c]) (c2 : Zap w ⟨b2, 0, none⟩ [.int .i64 yr]) (c3 : Zap w ⟨b3, 0, none⟩ [.int .i64 nominal]) :
  Does Tryz.prog 157 [.int .i64 i, .pointer (some ⟨b1, 0, none⟩), .pointer (some ⟨b2, 0, none⟩), .pointer (some ⟨b3, 0, none⟩)] w (fun v O => v = .tuple #[evV (evIn (Zaj l) nominal r i (max (max r.from_ (-2000000000)) (yr - 2)) 20), .bool (evIn (Zaj l) nominal r i (max (max r.from_ (-2000000000)) (yr - 2)) 20).isSome] ∧ O = []) := by
 have hlt : i < l.length := (List.getElem?_eq_some_iff.1 hi).1
 obtain ⟨y0, hy0⟩ : ∃ y0, max (max r.from_ (-2000000000)) (yr - 2) = y0 := ⟨_, rfl⟩
 have hyb : -3000000000 ≤ y0 ∧ y0 ≤ 4611686018427387904 := by omega
 rw [hy0]
 obtain ⟨res, hres⟩ : ∃ res, evIn (Zaj l) nominal r i y0 20 = res := ⟨_, rfl⟩
 rw [hres]
 have hon := fun y w' (hw : Bel w.heap.size w w') => evOn_spec A c l i y r w' (hG.up hw) (hA.up hw) hi hn hR
 obtain ⟨hna, hca⟩ := hA.rd i _ hi
 generalize Zaj l = least at *
 have hfr : ((Zaa.enc r)[1]?) = some (.int .i64 r.from_) := rfl
 have hcell : w.cell? (((adr A).add (i * 11)).add 1) = some (.int .i64 r.from_) := hca 1 _ hfr
 refine Zab Tryz.func157 rfl rfl rfl rfl ?_
 repeat (first | (apply RL_pu; rfl; exact PuEvA0) | (apply RD_Q; rfl; rfl; decide +kernel; rfl; rfl; exact QyEvA0) | refine walk1 ?_ | (refine jn ?_; (try intro F); (first | (refine bx ?_; intro bk) | (refine stA ?_) | (apply Zae; first | exact PuEvA0 | exact PuA)); first | refine ⟨_, EndsA, QFEvA0, ?_⟩ | refine fin ?_) | (apply RD_W; rfl; intro bk))
 refine Zal [(0, .int .i64 i), (1, .pointer (some ⟨b1, 0, none⟩)), (2, .pointer (some ⟨b2, 0, none⟩)), (3, .pointer (some ⟨b3, 0, none⟩)), (7, .int .i64 y0), (5, .pointer (some ⟨bk, 0, none⟩))] [.blk bk [.int .i64 0, .int .i64 0, .int .i64 0] 182] (fun j : Nat => [(19, .int .i64 j)]) (fun _ => []) (fun j => j ≤ 20 ∧ evIn least nominal r i (y0 + j) (20 - j) = res) (fun j => 20 - j) 0 SFA SOA ⟨Nat.zero_le _, by simpa using hres⟩ ?_
 rintro j ⟨hj, hi2⟩
 repeat (first | refine walk ?_ | (refine jn ?_; (try intro F); (first | (refine bx ?_; intro bk) | (refine stA ?_) | (apply Zae; exact PuA)); refine fin ?_) | (apply RD_W; rfl; intro bk))
 refine Zag rfl (fun h => ?_) (fun h => ?_)
 ·have hj20 : j < 20 := by have := of_decide_eq_true h; omega
  rw [show 20 - j = (19 - j) + 1 by omega, evIn] at hi2
  have ho := hon (y0 + j)
  generalize onR least r i (y0 + j) = o at *
  cases o with
  | none =>
   simp only [evV, Zac.enc, dEv0, Option.isSome] at ho
   repeat (first | (apply RL_pu; rfl; exact PuEvA1) | (apply RD_Q; rfl; rfl; decide +kernel; rfl; rfl; exact QyEvA1) | refine walk1 ?_ | (refine jg ?_; (try intro F); (first | (refine Zad ho ?_) | (refine bx ?_; intro bk) | (refine stA ?_)); first | refine ⟨_, EndsA, QFEvA1, ?_⟩ | refine fin ?_) | (refine jn ?_; (try intro F); (first | (refine bx ?_; intro bk) | (refine stA ?_) | (apply Zae; first | exact PuEvA1 | exact PuA)); first | refine ⟨_, EndsA, QFEvA1, ?_⟩ | refine fin ?_) | (apply RD_W; rfl; intro bk))
   exact ⟨j + 1, OA, ⟨OA, by rw [show 20 - (j + 1) = 19 - j by omega, show y0 + ((j + 1 : Nat) : Int) = y0 + j + 1 by omega]; exact hi2⟩, SFA, SOA⟩
  | some e =>
   obtain ⟨ey, er, en⟩ := e
   simp only [evV, Zac.enc, Option.isSome] at ho hi2
   repeat (first | (apply RL_pu; rfl; exact PuEvA1) | (apply RD_Q; rfl; rfl; decide +kernel; rfl; rfl; exact QyEvA1) | refine walk1 ?_ | (refine jg ?_; (try intro F); (first | (refine Zad ho ?_) | (refine bx ?_; intro bk) | (refine stA ?_)); first | refine ⟨_, EndsA, QFEvA1, ?_⟩ | refine fin ?_) | (refine jn ?_; (try intro F); (first | (refine bx ?_; intro bk) | (refine stA ?_) | (apply Zae; first | exact PuEvA1 | exact PuA)); first | refine ⟨_, EndsA, QFEvA1, ?_⟩ | refine fin ?_) | (apply RD_W; rfl; intro bk))
   refine Zag rfl (fun h2 => ?_) (fun h2 => ?_)
   ·rw [if_pos (of_decide_eq_true h2)] at hi2
    subst hi2
    repeat (first | refine walk ?_ | (refine jn ?_; (try intro F); (first | (refine bx ?_; intro bk) | (refine stA ?_) | (apply Zae; exact PuA)); refine fin ?_) | (apply RD_W; rfl; intro bk))
    exact rtC
   ·rw [if_neg (of_decide_eq_false h2)] at hi2
    repeat (first | refine walk ?_ | (refine jn ?_; (try intro F); (first | (refine bx ?_; intro bk) | (refine stA ?_) | (apply Zae; exact PuA)); refine fin ?_) | (apply RD_W; rfl; intro bk))
    exact ⟨j + 1, OA, ⟨OA, by rw [show 20 - (j + 1) = 19 - j by omega, show y0 + ((j + 1 : Nat) : Int) = y0 + j + 1 by omega]; exact hi2⟩, SFA, SOA⟩
 ·obtain rfl : j = 20 := by have := of_decide_eq_false h; omega
  obtain rfl : none = res := by rw [← hi2]; rfl
  repeat (first | refine walk ?_ | (refine jn ?_; (try intro F); (first | (refine bx ?_; intro bk) | (refine stA ?_) | (apply Zae; exact PuA)); refine fin ?_) | (apply RD_W; rfl; intro bk))
  exact rtC
def evC : Option Zac → List Value
 | some e => Zac.enc e
 | none => Zac.enc dEv0
structure BG where
 k : Nat
 b : Option Zac
theorem best_spec (A : Option Addr) (c : Nat) (l : List Zaa) (yr nominal : Int) (b1 b2 b3 : Nat) (w : World) (hG : Glob w) (hA : RdSl w A c Zaa.enc 11 l) (hn : l.length ≤ 1000000) (hR : ∀ r ∈ l, (-4611686018427387904 ≤ r.save ∧ r.save ≤ 4611686018427387904) ∧ r.from_ ≤ 4611686018427387904)
  (hy : -2000000000 ≤ yr ∧ yr ≤ 2000000000) (c1 : Zap w ⟨b1, 0, none⟩ [.slice A l.length c]) (c2 : Zap w ⟨b2, 0, none⟩ [.int .i64 yr]) (c3 : Zap w ⟨b3, 0, none⟩ [.int .i64 nominal]) :
  Does Tryz.prog 156 [.slice A l.length c, .func (.func 157) #[] #[.pointer (some ⟨b1, 0, none⟩), .pointer (some ⟨b2, 0, none⟩), .pointer (some ⟨b3, 0, none⟩)], .func (.func 159) #[] #[]] w
   (fun v O => v = .tuple #[evV (ZcF (Zaj l) nominal yr l 0 none), .bool (ZcF (Zaj l) nominal yr l 0 none).isSome] ∧ O = []) := by
 have haf := fun (i : Nat) r (hi : l[i]? = some r) w' (hw : Bel w.heap.size w w') => after1_spec A c l i r yr nominal b1 b2 b3 w' (hG.up hw) (hA.up hw) hi hn (fun r hr => (hR r hr).1) hy (hR r (List.mem_of_getElem? hi)).2 (c1.up hw (Nat.le_refl _)) (c2.up hw (Nat.le_refl _)) (c3.up hw (Nat.le_refl _))
 obtain ⟨res, hres⟩ : ∃ res, ZcF (Zaj l) nominal yr l 0 none = res := ⟨_, rfl⟩
 rw [hres]
 generalize Zaj l = least at *
 clear hA hR c1 c2 c3
 refine Zab Tryz.func156 rfl rfl rfl rfl ?_
 repeat (first | (refine js ?_; (refine bx ?_; intro bk)) | refine walk ?_)
 rename_i b6
 refine Zal [(13, .slice A l.length c), (1, .func (.func 157) #[] #[.pointer (some ⟨b1, 0, none⟩), .pointer (some ⟨b2, 0, none⟩), .pointer (some ⟨b3, 0, none⟩)]), (2, .func (.func 159) #[] #[]), (8, .pointer (some ⟨bk, 0, none⟩)), (6, .pointer (some ⟨b6, 0, none⟩)), (14, .int .i64 l.length)] [.blk b6 [.int .i64 0, .int .i64 0, .int .i64 0] 182]
  (fun g : BG => [(15, .int .i64 g.k), (9, .bool g.b.isSome)]) (fun g => [.blk bk (evC g.b) 182]) (fun g => g.k ≤ l.length ∧ ZcF least nominal yr (l.drop g.k) g.k g.b = res) (fun g => l.length - g.k) ⟨0, none⟩ SFA SOA ⟨Nat.zero_le _, hres⟩ ?_
 rintro ⟨k, b⟩ ⟨hk, hi⟩
 dsimp only at hk hi ⊢
 repeat (first | (refine js ?_; (refine bx ?_; intro bk)) | refine walk ?_)
 refine Zag rfl (fun h => ?_) (fun h => ?_)
 ·have hlt : k < l.length := by simpa using h
  have ho := haf k _ (List.getElem?_eq_getElem hlt)
  rw [Zai hlt, ZcF] at hi
  generalize evIn least nominal l[k] k (max (max l[k].from_ (-2000000000)) (yr - 2)) 20 = o at *
  have hord := fun e e2 w' => order_spec e e2 w'
  rcases o with _ | ⟨ey, er, en⟩ <;> rcases b with _ | ⟨by_, br, bn⟩ <;> simp only [evV, evC, Zac.enc, dEv0, Option.isSome] at ho hi ⊢
  ·repeat (first | refine und ?_ | (refine js ?_; (first | (apply ZaA (f := 157) (us := []) (vs := [.int .i64 k]) (cs := [.pointer (some ⟨b1, 0, none⟩), .pointer (some ⟨b2, 0, none⟩), .pointer (some ⟨b3, 0, none⟩)]) (h := fun w' hw _ => ho w' hw); rfl; rfl; rintro v O' ⟨rfl, rfl⟩) | (refine bx ?_; intro bk))) | refine walk ?_)
   exact ⟨⟨k + 1, none⟩, OA, ⟨OA, hi⟩, SFA, SOA⟩
  ·repeat (first | refine und ?_ | (refine js ?_; (first | (apply ZaA (f := 157) (us := []) (vs := [.int .i64 k]) (cs := [.pointer (some ⟨b1, 0, none⟩), .pointer (some ⟨b2, 0, none⟩), .pointer (some ⟨b3, 0, none⟩)]) (h := fun w' hw _ => ho w' hw); rfl; rfl; rintro v O' ⟨rfl, rfl⟩) | (refine bx ?_; intro bk))) | refine walk ?_)
   exact ⟨⟨k + 1, some ⟨by_, br, bn⟩⟩, OA, ⟨OA, hi⟩, SFA, SOA⟩
  ·repeat (first | refine und ?_ | (refine js ?_; (first | (apply ZaA (f := 157) (us := []) (vs := [.int .i64 k]) (cs := [.pointer (some ⟨b1, 0, none⟩), .pointer (some ⟨b2, 0, none⟩), .pointer (some ⟨b3, 0, none⟩)]) (h := fun w' hw _ => ho w' hw); rfl; rfl; rintro v O' ⟨rfl, rfl⟩) | (refine bx ?_; intro bk))) | refine walk ?_)
   exact ⟨⟨k + 1, some ⟨ey, er, en⟩⟩, OA, ⟨OA, hi⟩, SFA, SOA⟩
  ·repeat (first | refine und ?_ | (refine js ?_; (first | (apply ZaA (f := 157) (us := []) (vs := [.int .i64 k]) (cs := [.pointer (some ⟨b1, 0, none⟩), .pointer (some ⟨b2, 0, none⟩), .pointer (some ⟨b3, 0, none⟩)]) (h := fun w' hw _ => ho w' hw); rfl; rfl; rintro v O' ⟨rfl, rfl⟩) | (apply ZaA (f := 159) (us := []) (cs := []) (vs := [.agg #[.int .i64 ey, .int .i64 er, .int .i64 en], .agg #[.int .i64 by_, .int .i64 br, .int .i64 bn]]) (h := fun w' hw _ => hord ⟨ey, er, en⟩ ⟨by_, br, bn⟩ w'); rfl; rfl; rintro v O' ⟨rfl, rfl⟩) | (refine bx ?_; intro bk))) | refine walk ?_)
   refine Zag rfl (fun h2 => ?_) (fun h2 => ?_)
   ·rw [if_pos (of_decide_eq_true h2)] at hi
    repeat (first | (refine js ?_; (refine bx ?_; intro bk)) | refine walk ?_)
    exact ⟨⟨k + 1, some ⟨ey, er, en⟩⟩, OA, ⟨OA, hi⟩, SFA, SOA⟩
   ·rw [if_neg (of_decide_eq_false h2)] at hi
    repeat (first | (refine js ?_; (refine bx ?_; intro bk)) | refine walk ?_)
    exact ⟨⟨k + 1, some ⟨by_, br, bn⟩⟩, OA, ⟨OA, hi⟩, SFA, SOA⟩
 ·obtain rfl : k = l.length := by have := of_decide_eq_false h; omega
  rw [List.drop_length, ZcF] at hi
  subst hi
  rcases b with _ | ⟨by_, br, bn⟩ <;> simp only [evC, Zac.enc, dEv0]
  ·repeat (first | (refine js ?_; (refine bx ?_; intro bk)) | refine walk ?_)
   exact rtC
  ·repeat (first | (refine js ?_; (refine bx ?_; intro bk)) | refine walk ?_)
   exact rtC
theorem yearOf_bd (t : Int) : -2000000000 ≤ Zej t ∧ Zej t ≤ 2000000000 := by unfold Zej; omega
def RsOk (l : List Zaa) : Prop := ∀ r ∈ l, (-4611686018427387904 ≤ r.save ∧ r.save ≤ 4611686018427387904) ∧ r.from_ ≤ 4611686018427387904
theorem after_spec (A : Option Addr) (c : Nat) (l : List Zaa) (nominal : Int) (w : World) (hG : Glob w) (hA : RdSl w A c Zaa.enc 11 l) (hn : l.length ≤ 1000000) (hR : RsOk l) (ht : -4611686018427387904 ≤ nominal ∧ nominal ≤ 4611686018427387904) :
  Does Tryz.prog 111 [.slice A l.length c, .int .i64 nominal] w (fun v O => v = .tuple #[evV (afterD l nominal), .bool (afterD l nominal).isSome] ∧ O = []) := by
 have hb := fun (b1 b2 b3 : Nat) w' (hw : Bel w.heap.size w w') c1 c2 c3 => best_spec A c l (Zej nominal) nominal b1 b2 b3 w' (hG.up hw) (hA.up hw) hn hR (yearOf_bd nominal) c1 c2 c3
 change ∀ (b1 b2 b3 : Nat) w' (hw : Bel w.heap.size w w') c1 c2 c3, Does _ _ _ w' (fun v O => v = .tuple #[evV (afterD l nominal), .bool (afterD l nominal).isSome] ∧ O = []) at hb
 have hyr := fun w' (hw : Bel w.heap.size w w') => year_spec nominal ht w' (hG.up hw)
 generalize afterD l nominal = res at *
 generalize Zej nominal = yr at *
 refine Zab Tryz.func111 rfl rfl rfl rfl ?_
 rcases res with _ | ⟨ey, er, en⟩ <;> simp only [evV, Zac.enc, dEv0, Option.isSome] at hb ⊢
 ·repeat (first | (refine js ?_; (first | (refine Zad hyr ?_) | (apply Zah (h := fun w' hw hH => hb _ _ _ w' hw (hH.cells (by repeat' constructor)) (hH.cells (by repeat' constructor)) (hH.cells (by repeat' constructor))); rfl; rintro v O' ⟨rfl, rfl⟩) | (refine bx ?_; intro bk))) | refine walk ?_)
  exact rtC
 ·repeat (first | (refine js ?_; (first | (refine Zad hyr ?_) | (apply Zah (h := fun w' hw hH => hb _ _ _ w' hw (hH.cells (by repeat' constructor)) (hH.cells (by repeat' constructor)) (hH.cells (by repeat' constructor))); rfl; rintro v O' ⟨rfl, rfl⟩) | (refine bx ?_; intro bk))) | refine walk ?_)
  exact rtC
def EvOk (o : Option Zac) : Prop := ∀ e, o = some e → -200000000000000000 ≤ e.nominal ∧ e.nominal ≤ 200000000000000000
theorem onR_bd (least : Int) (hl : least ≤ 0) (r : Zaa) (i y : Int) : EvOk (onR least r i y) := by
 intro e he
 unfold onR at he
 split at he
 ·cases he
 ·rename_i h1
  split at he
  ·cases he
  ·have hb := onD_bd y r.month r.day
   have hc : Za7 r.at_ = true := by
    cases hc : Za7 r.at_
    ·exact absurd (.inr (.inr hc)) h1
    ·rfl
   simp only [Za7, Bool.and_eq_true, decide_eq_true_eq] at hc
   simp only [Option.some.injEq] at he
   subst he
   dsimp only
   split <;> omega
theorem evIn_bd (least nominal : Int) (hl : least ≤ 0) (r : Zaa) (i : Int) : ∀ (k : Nat) (y : Int), EvOk (evIn least nominal r i y k)
 | 0, _ => fun e he => by cases he
 | k + 1, y => by
  rw [evIn]
  have h := onR_bd least hl r i y
  split
  ·rename_i e he
   split
   ·intro e2 h2; cases h2; exact h e he
   ·exact evIn_bd least nominal hl r i k (y + 1)
  ·exact evIn_bd least nominal hl r i k (y + 1)
theorem afterGo_bd (least nominal yr : Int) (hl : least ≤ 0) : ∀ (l : List Zaa) (i : Nat) (b : Option Zac), EvOk b → EvOk (ZcF least nominal yr l i b)
 | [], _, _, h => h
 | r :: l, i, b, h => by
  rw [ZcF]
  refine afterGo_bd least nominal yr hl l (i + 1) _ ?_
  have he := evIn_bd least nominal hl r i 20 (max (max r.from_ (-2000000000)) (yr - 2))
  generalize evIn least nominal r i (max (max r.from_ (-2000000000)) (yr - 2)) 20 = o at *
  cases o with
  | none => exact h
  | some e =>
   cases b with
   | none => exact he
   | some x =>
    dsimp only
    split
    ·exact he
    ·exact h
theorem PuEvF0 {G : Prop} (h : G := by (first | (apply Pu_minK; rfl; rfl; exact h1) | (apply ZeK; rfl; rfl; exact h2))) : G := h
theorem far_spec (A : Option Addr) (c : Nat) (l : List Zaa) (nominal : Int) (w : World) (hG : Glob w) (hA : RdSl w A c Zaa.enc 11 l) (hn : l.length ≤ 1000000) (hR : RsOk l) (ht : -1000000000000000000 ≤ nominal ∧ nominal ≤ 1000000000000000000) :
  Does Tryz.prog 137 [.slice A l.length c, .int .i64 nominal] w (fun v O => v = .bool (farD l nominal) ∧ O = []) := by
 have haf := fun w' (hw : Bel w.heap.size w w') => after_spec A c l (nominal - 259200) w' (hG.up hw) (hA.up hw) hn hR (by omega)
 have hbd : EvOk (afterD l (nominal - 259200)) := afterGo_bd _ _ _ (Zex l fun r hr => (hR r hr).1).2 l 0 none (fun e he => by cases he)
 unfold farD
 generalize afterD l (nominal - 259200) = res at *
 have h1 : (if 1152921504606846976 < nominal then (1152921504606846976 : Int) else nominal) = nominal := if_neg (by omega)
 have h2 : (if (-1152921504606846976 : Int) < nominal then nominal else -1152921504606846976) = nominal := if_pos (by omega)
 refine Zab Tryz.func137 rfl rfl rfl rfl ?_
 rcases res with _ | ⟨ey, er, en⟩ <;> simp only [evV, Zac.enc, dEv0, Option.isSome] at haf ⊢
 ·repeat' (first | (apply RL_pu; rfl; exact PuEvF0) | (refine js ?_; (first | (refine Zad haf ?_) | (refine bx ?_; intro bk))) | refine walk1 ?_ | refine und ?_ | (refine Zav rfl rfl rfl (fun hc => ?_) (fun hc => ?_)) | (refine Zay rfl rfl rfl (fun hc => ?_) (fun hc => ?_)) | (refine Zag rfl (fun hc => ?_) (fun hc => ?_)))
  exact rtA
 ·have hb := hbd _ rfl
  dsimp only at hb
  repeat' (first | (apply RL_pu; rfl; exact PuEvF0) | (refine js ?_; (first | (refine Zad haf ?_) | (refine bx ?_; intro bk))) | refine walk1 ?_ | refine und ?_ | (refine Zav rfl rfl rfl (fun hc => ?_) (fun hc => ?_)) | (refine Zay rfl rfl rfl (fun hc => ?_) (fun hc => ?_)) | (refine Zag rfl (fun hc => ?_) (fun hc => ?_)))
  exact rtA
theorem PuBfA0 {G : Prop} (h : G := by (first | exact PuI | (apply Pu_loadO1; rfl; first | exact c1 0 _ rfl | exact c2 0 _ rfl | exact c3 0 _ rfl) | (apply Pu_minK; rfl; rfl; exact hmn))) : G := h
theorem QyBfA0 {G : Prop} (h : G := by first | (apply Qy_y; rfl; exact PuBfA0) | exact QyA) : G := h
theorem QFBfA0 {G : Prop} (h : G := by repeat (first | exact QF.nil | (apply QF.mk; rfl; rfl; decide +kernel; exact QyBfA0))) : G := h
theorem PuBfA1 {G : Prop} (h : G := by (apply Pu_loadO1; rfl; first | exact c1 0 _ rfl | exact c2 0 _ rfl | exact c3 0 _ rfl)) : G := h
theorem before1_spec (A : Option Addr) (c : Nat) (l : List Zaa) (i : Nat) (r : Zaa) (yr nominal : Int) (b1 b2 b3 : Nat) (w : World) (hG : Glob w) (hA : RdSl w A c Zaa.enc 11 l) (hi : l[i]? = some r) (hn : l.length ≤ 1000000) (hR : ∀ r ∈ l, -4611686018427387904 ≤ r.save ∧ r.save ≤ 4611686018427387904)
  (hy : -2000000000 ≤ yr ∧ yr ≤ 2000000000) (hf : -4611686018427387904 ≤ r.to) (c1 : Zap w ⟨b1, 0, none⟩ [.slice A l.length c]) (c2 : Zap w ⟨b2, 0, none⟩ [.int .i64 yr]) (c3 : Zap w ⟨b3, 0, none⟩ [.int .i64 nominal]) :
  Does Tryz.prog 189 [.int .i64 i, .pointer (some ⟨b1, 0, none⟩), .pointer (some ⟨b2, 0, none⟩), .pointer (some ⟨b3, 0, none⟩)] w (fun v O => v = .tuple #[evV (beIn (Zaj l) nominal r i (min (lastY r) (yr + 2)) 20), .bool (beIn (Zaj l) nominal r i (min (lastY r) (yr + 2)) 20).isSome] ∧ O = []) := by
 have hlt : i < l.length := (List.getElem?_eq_some_iff.1 hi).1
 obtain ⟨y0, hy0⟩ : ∃ y0, min (lastY r) (yr + 2) = y0 := ⟨_, rfl⟩
 have hlb : -4611686018427387904 ≤ lastY r ∧ lastY r ≤ 2000000000 := by
  unfold lastY
  split <;> omega
 have hyb : -4611686018427387904 ≤ y0 ∧ y0 ≤ 2000000002 := by omega
 have hmn : (if yr + 2 < lastY r then yr + 2 else lastY r) = y0 := by rw [← hy0]; split <;> omega
 have hla := fun w' => lastY_spec r w'
 rw [hy0]
 obtain ⟨res, hres⟩ : ∃ res, beIn (Zaj l) nominal r i y0 20 = res := ⟨_, rfl⟩
 rw [hres]
 have hon := fun y w' (hw : Bel w.heap.size w w') => evOn_spec A c l i y r w' (hG.up hw) (hA.up hw) hi hn hR
 obtain ⟨hna, hca⟩ := hA.rd i _ hi
 generalize Zaj l = least at *
 generalize lastY r = ly at *
 clear hy0
 obtain ⟨nm, fr, to, mo, ⟨dk, dw, dd⟩, ⟨cs, cb⟩, sv, le⟩ := r
 change Zap w _ [.string nm, .int .i64 fr, .int .i64 to, .int .i64 mo, .int .i64 dk, .int .i64 dw, .int .i64 dd, .int .i64 cs, .int .i64 cb, .int .i64 sv, .string le] at hca
 refine Zab Tryz.func189 rfl rfl rfl rfl ?_
 repeat (first | (apply RL_pu; rfl; exact PuBfA0) | (apply RD_Q; rfl; rfl; decide +kernel; rfl; rfl; exact QyBfA0) | refine walk1 ?_ | (refine jg ?_; (try intro F); (first | (refine Zad (fun w' _ => hla w') ?_) | (refine bx ?_; intro bk) | (refine stA ?_)); first | refine ⟨_, EndsA, QFBfA0, ?_⟩ | refine fin ?_) | (refine jn ?_; (try intro F); (first | (refine bx ?_; intro bk) | (refine stA ?_) | (apply Zae; first | exact PuBfA0 | exact PuA)); first | refine ⟨_, EndsA, QFBfA0, ?_⟩ | refine fin ?_) | (apply RD_W; rfl; intro bk))
 refine Zal [(0, .int .i64 i), (1, .pointer (some ⟨b1, 0, none⟩)), (2, .pointer (some ⟨b2, 0, none⟩)), (3, .pointer (some ⟨b3, 0, none⟩)), (7, .int .i64 y0), (5, .pointer (some ⟨bk, 0, none⟩))] [.blk bk [.int .i64 0, .int .i64 0, .int .i64 0] 182] (fun j : Nat => [(19, .int .i64 j)]) (fun _ => []) (fun j => j ≤ 20 ∧ beIn least nominal ⟨nm, fr, to, mo, ⟨dk, dw, dd⟩, ⟨cs, cb⟩, sv, le⟩ i (y0 - j) (20 - j) = res) (fun j => 20 - j) 0 SFA SOA ⟨Nat.zero_le _, by simpa using hres⟩ ?_
 rintro j ⟨hj, hi2⟩
 repeat (first | refine walk ?_ | (refine jn ?_; (try intro F); (first | (refine bx ?_; intro bk) | (refine stA ?_) | (apply Zae; exact PuA)); refine fin ?_) | (apply RD_W; rfl; intro bk))
 refine Zag rfl (fun h => ?_) (fun h => ?_)
 ·have hj20 : j < 20 := by have := of_decide_eq_true h; omega
  rw [show 20 - j = (19 - j) + 1 by omega, beIn] at hi2
  have ho := hon (y0 - j)
  generalize onR least _ i (y0 - j) = o at *
  cases o with
  | none =>
   simp only [evV, Zac.enc, dEv0, Option.isSome] at ho
   repeat (first | (apply RL_pu; rfl; exact PuBfA1) | (apply RD_Q; rfl; rfl; decide +kernel; rfl; rfl; exact QyBfA1) | refine walk1 ?_ | (refine jg ?_; (try intro F); (first | (refine Zad ho ?_) | (refine bx ?_; intro bk) | (refine stA ?_)); first | refine ⟨_, EndsA, QFBfA1, ?_⟩ | refine fin ?_) | (refine jn ?_; (try intro F); (first | (refine bx ?_; intro bk) | (refine stA ?_) | (apply Zae; first | exact PuBfA1 | exact PuA)); first | refine ⟨_, EndsA, QFBfA1, ?_⟩ | refine fin ?_) | (apply RD_W; rfl; intro bk))
   exact ⟨j + 1, OA, ⟨OA, by rw [show 20 - (j + 1) = 19 - j by omega, show y0 - ((j + 1 : Nat) : Int) = y0 - j - 1 by omega]; exact hi2⟩, SFA, SOA⟩
  | some e =>
   obtain ⟨ey, er, en⟩ := e
   simp only [evV, Zac.enc, Option.isSome] at ho hi2
   repeat (first | (apply RL_pu; rfl; exact PuBfA1) | (apply RD_Q; rfl; rfl; decide +kernel; rfl; rfl; exact QyBfA1) | refine walk1 ?_ | (refine jg ?_; (try intro F); (first | (refine Zad ho ?_) | (refine bx ?_; intro bk) | (refine stA ?_)); first | refine ⟨_, EndsA, QFBfA1, ?_⟩ | refine fin ?_) | (refine jn ?_; (try intro F); (first | (refine bx ?_; intro bk) | (refine stA ?_) | (apply Zae; first | exact PuBfA1 | exact PuA)); first | refine ⟨_, EndsA, QFBfA1, ?_⟩ | refine fin ?_) | (apply RD_W; rfl; intro bk))
   refine Zag rfl (fun h2 => ?_) (fun h2 => ?_)
   ·rw [if_pos (of_decide_eq_true h2)] at hi2
    subst hi2
    repeat (first | refine walk ?_ | (refine jn ?_; (try intro F); (first | (refine bx ?_; intro bk) | (refine stA ?_) | (apply Zae; exact PuA)); refine fin ?_) | (apply RD_W; rfl; intro bk))
    exact rtC
   ·rw [if_neg (of_decide_eq_false h2)] at hi2
    repeat (first | refine walk ?_ | (refine jn ?_; (try intro F); (first | (refine bx ?_; intro bk) | (refine stA ?_) | (apply Zae; exact PuA)); refine fin ?_) | (apply RD_W; rfl; intro bk))
    exact ⟨j + 1, OA, ⟨OA, by rw [show 20 - (j + 1) = 19 - j by omega, show y0 - ((j + 1 : Nat) : Int) = y0 - j - 1 by omega]; exact hi2⟩, SFA, SOA⟩
 ·obtain rfl : j = 20 := by have := of_decide_eq_false h; omega
  obtain rfl : none = res := by rw [← hi2]; rfl
  repeat (first | refine walk ?_ | (refine jn ?_; (try intro F); (first | (refine bx ?_; intro bk) | (refine stA ?_) | (apply Zae; exact PuA)); refine fin ?_) | (apply RD_W; rfl; intro bk))
  exact rtC
theorem before2_spec (a b : Zac) (w : World) : Does Tryz.prog 191 [.agg (Zac.enc a).toArray, .agg (Zac.enc b).toArray] w (fun v O => v = .int .i64 (ordE b a) ∧ O = []) := by
 have h := fun w' => order_spec b a w'
 obtain ⟨y, r, n⟩ := a
 obtain ⟨y2, r2, n2⟩ := b
 show Does _ _ [.agg #[.int .i64 y, .int .i64 r, .int .i64 n], .agg #[.int .i64 y2, .int .i64 r2, .int .i64 n2]] w _
 refine Zab Tryz.func191 rfl rfl rfl rfl ?_
 repeat (first | (refine js ?_; (first | (refine Zad (fun w' _ => h w') ?_) | (refine bx ?_; intro bk))) | refine walk ?_)
 exact rtA
theorem bestB_spec (A : Option Addr) (c : Nat) (l : List Zaa) (yr nominal : Int) (b1 b2 b3 : Nat) (w : World) (hG : Glob w) (hA : RdSl w A c Zaa.enc 11 l) (hn : l.length ≤ 1000000) (hR : ∀ r ∈ l, (-4611686018427387904 ≤ r.save ∧ r.save ≤ 4611686018427387904) ∧ (r.from_ ≤ 4611686018427387904 ∧ -4611686018427387904 ≤ r.to))
  (hy : -2000000000 ≤ yr ∧ yr ≤ 2000000000) (c1 : Zap w ⟨b1, 0, none⟩ [.slice A l.length c]) (c2 : Zap w ⟨b2, 0, none⟩ [.int .i64 yr]) (c3 : Zap w ⟨b3, 0, none⟩ [.int .i64 nominal]) :
  Does Tryz.prog 156 [.slice A l.length c, .func (.func 189) #[] #[.pointer (some ⟨b1, 0, none⟩), .pointer (some ⟨b2, 0, none⟩), .pointer (some ⟨b3, 0, none⟩)], .func (.func 191) #[] #[]] w
   (fun v O => v = .tuple #[evV (befGo (Zaj l) nominal yr l 0 none), .bool (befGo (Zaj l) nominal yr l 0 none).isSome] ∧ O = []) := by
 have haf := fun (i : Nat) r (hi : l[i]? = some r) w' (hw : Bel w.heap.size w w') => before1_spec A c l i r yr nominal b1 b2 b3 w' (hG.up hw) (hA.up hw) hi hn (fun r hr => (hR r hr).1) hy (hR r (List.mem_of_getElem? hi)).2.2 (c1.up hw (Nat.le_refl _)) (c2.up hw (Nat.le_refl _)) (c3.up hw (Nat.le_refl _))
 obtain ⟨res, hres⟩ : ∃ res, befGo (Zaj l) nominal yr l 0 none = res := ⟨_, rfl⟩
 rw [hres]
 generalize Zaj l = least at *
 clear hA hR c1 c2 c3
 refine Zab Tryz.func156 rfl rfl rfl rfl ?_
 repeat (first | (refine js ?_; (refine bx ?_; intro bk)) | refine walk ?_)
 rename_i b6
 refine Zal [(13, .slice A l.length c), (1, .func (.func 189) #[] #[.pointer (some ⟨b1, 0, none⟩), .pointer (some ⟨b2, 0, none⟩), .pointer (some ⟨b3, 0, none⟩)]), (2, .func (.func 191) #[] #[]), (8, .pointer (some ⟨bk, 0, none⟩)), (6, .pointer (some ⟨b6, 0, none⟩)), (14, .int .i64 l.length)] [.blk b6 [.int .i64 0, .int .i64 0, .int .i64 0] 182]
  (fun g : BG => [(15, .int .i64 g.k), (9, .bool g.b.isSome)]) (fun g => [.blk bk (evC g.b) 182]) (fun g => g.k ≤ l.length ∧ befGo least nominal yr (l.drop g.k) g.k g.b = res) (fun g => l.length - g.k) ⟨0, none⟩ SFA SOA ⟨Nat.zero_le _, hres⟩ ?_
 rintro ⟨k, b⟩ ⟨hk, hi⟩
 dsimp only at hk hi ⊢
 repeat (first | (refine js ?_; (refine bx ?_; intro bk)) | refine walk ?_)
 refine Zag rfl (fun h => ?_) (fun h => ?_)
 ·have hlt : k < l.length := by simpa using h
  have ho := haf k _ (List.getElem?_eq_getElem hlt)
  rw [Zai hlt, befGo] at hi
  generalize beIn least nominal l[k] k (min (lastY l[k]) (yr + 2)) 20 = o at *
  have hord := fun e e2 w' => before2_spec e e2 w'
  rcases o with _ | ⟨ey, er, en⟩ <;> rcases b with _ | ⟨by_, br, bn⟩ <;> simp only [evV, evC, Zac.enc, dEv0, Option.isSome] at ho hi ⊢
  ·repeat (first | refine und ?_ | (refine js ?_; (first | (apply ZaA (f := 189) (us := []) (vs := [.int .i64 k]) (cs := [.pointer (some ⟨b1, 0, none⟩), .pointer (some ⟨b2, 0, none⟩), .pointer (some ⟨b3, 0, none⟩)]) (h := fun w' hw _ => ho w' hw); rfl; rfl; rintro v O' ⟨rfl, rfl⟩) | (refine bx ?_; intro bk))) | refine walk ?_)
   exact ⟨⟨k + 1, none⟩, OA, ⟨OA, hi⟩, SFA, SOA⟩
  ·repeat (first | refine und ?_ | (refine js ?_; (first | (apply ZaA (f := 189) (us := []) (vs := [.int .i64 k]) (cs := [.pointer (some ⟨b1, 0, none⟩), .pointer (some ⟨b2, 0, none⟩), .pointer (some ⟨b3, 0, none⟩)]) (h := fun w' hw _ => ho w' hw); rfl; rfl; rintro v O' ⟨rfl, rfl⟩) | (refine bx ?_; intro bk))) | refine walk ?_)
   exact ⟨⟨k + 1, some ⟨by_, br, bn⟩⟩, OA, ⟨OA, hi⟩, SFA, SOA⟩
  ·repeat (first | refine und ?_ | (refine js ?_; (first | (apply ZaA (f := 189) (us := []) (vs := [.int .i64 k]) (cs := [.pointer (some ⟨b1, 0, none⟩), .pointer (some ⟨b2, 0, none⟩), .pointer (some ⟨b3, 0, none⟩)]) (h := fun w' hw _ => ho w' hw); rfl; rfl; rintro v O' ⟨rfl, rfl⟩) | (refine bx ?_; intro bk))) | refine walk ?_)
   exact ⟨⟨k + 1, some ⟨ey, er, en⟩⟩, OA, ⟨OA, hi⟩, SFA, SOA⟩
  ·repeat (first | refine und ?_ | (refine js ?_; (first | (apply ZaA (f := 189) (us := []) (vs := [.int .i64 k]) (cs := [.pointer (some ⟨b1, 0, none⟩), .pointer (some ⟨b2, 0, none⟩), .pointer (some ⟨b3, 0, none⟩)]) (h := fun w' hw _ => ho w' hw); rfl; rfl; rintro v O' ⟨rfl, rfl⟩) | (apply ZaA (f := 191) (us := []) (cs := []) (vs := [.agg #[.int .i64 ey, .int .i64 er, .int .i64 en], .agg #[.int .i64 by_, .int .i64 br, .int .i64 bn]]) (h := fun w' hw _ => hord ⟨ey, er, en⟩ ⟨by_, br, bn⟩ w'); rfl; rfl; rintro v O' ⟨rfl, rfl⟩) | (refine bx ?_; intro bk))) | refine walk ?_)
   refine Zag rfl (fun h2 => ?_) (fun h2 => ?_)
   ·rw [if_pos (of_decide_eq_true h2)] at hi
    repeat (first | (refine js ?_; (refine bx ?_; intro bk)) | refine walk ?_)
    exact ⟨⟨k + 1, some ⟨ey, er, en⟩⟩, OA, ⟨OA, hi⟩, SFA, SOA⟩
   ·rw [if_neg (of_decide_eq_false h2)] at hi
    repeat (first | (refine js ?_; (refine bx ?_; intro bk)) | refine walk ?_)
    exact ⟨⟨k + 1, some ⟨by_, br, bn⟩⟩, OA, ⟨OA, hi⟩, SFA, SOA⟩
 ·obtain rfl : k = l.length := by have := of_decide_eq_false h; omega
  rw [List.drop_length, befGo] at hi
  subst hi
  rcases b with _ | ⟨by_, br, bn⟩ <;> simp only [evC, Zac.enc, dEv0]
  ·repeat (first | (refine js ?_; (refine bx ?_; intro bk)) | refine walk ?_)
   exact rtC
  ·repeat (first | (refine js ?_; (refine bx ?_; intro bk)) | refine walk ?_)
   exact rtC
def RsOkB (l : List Zaa) : Prop := ∀ r ∈ l, (-4611686018427387904 ≤ r.save ∧ r.save ≤ 4611686018427387904) ∧ (r.from_ ≤ 4611686018427387904 ∧ -4611686018427387904 ≤ r.to)
theorem evBefore_spec (A : Option Addr) (c : Nat) (l : List Zaa) (nominal : Int) (w : World) (hG : Glob w) (hA : RdSl w A c Zaa.enc 11 l) (hn : l.length ≤ 1000000) (hR : RsOkB l) (ht : -4611686018427387904 ≤ nominal ∧ nominal ≤ 4611686018427387904) :
  Does Tryz.prog 147 [.slice A l.length c, .int .i64 nominal] w (fun v O => v = .tuple #[evV (befD l nominal), .bool (befD l nominal).isSome] ∧ O = []) := by
 have hb := fun (b1 b2 b3 : Nat) w' (hw : Bel w.heap.size w w') c1 c2 c3 => bestB_spec A c l (Zej nominal) nominal b1 b2 b3 w' (hG.up hw) (hA.up hw) hn hR (yearOf_bd nominal) c1 c2 c3
 change ∀ (b1 b2 b3 : Nat) w' (hw : Bel w.heap.size w w') c1 c2 c3, Does _ _ _ w' (fun v O => v = .tuple #[evV (befD l nominal), .bool (befD l nominal).isSome] ∧ O = []) at hb
 have hyr := fun w' (hw : Bel w.heap.size w w') => year_spec nominal ht w' (hG.up hw)
 generalize befD l nominal = res at *
 generalize Zej nominal = yr at *
 refine Zab Tryz.func147 rfl rfl rfl rfl ?_
 rcases res with _ | ⟨ey, er, en⟩ <;> simp only [evV, Zac.enc, dEv0, Option.isSome] at hb ⊢
 ·repeat (first | (refine js ?_; (first | (refine Zad hyr ?_) | (apply Zah (h := fun w' hw hH => hb _ _ _ w' hw (hH.cells (by repeat' constructor)) (hH.cells (by repeat' constructor)) (hH.cells (by repeat' constructor))); rfl; rintro v O' ⟨rfl, rfl⟩) | (refine bx ?_; intro bk))) | refine walk ?_)
  exact rtC
 ·repeat (first | (refine js ?_; (first | (refine Zad hyr ?_) | (apply Zah (h := fun w' hw hH => hb _ _ _ w' hw (hH.cells (by repeat' constructor)) (hH.cells (by repeat' constructor)) (hH.cells (by repeat' constructor))); rfl; rintro v O' ⟨rfl, rfl⟩) | (refine bx ?_; intro bk))) | refine walk ?_)
  exact rtC
end Go.Proofs.YtpcpmndldgejiaaGreatDoor
