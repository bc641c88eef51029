/- Contracts: events.best, After. Contracts: events.After, apart.Far. Contract: events.Before$1. Contracts: events.Before. Engine: maps made with a size, delete, a copy of a map, maps that were there before the call. -/
import Derived.Test.YtonjepladadmhaaGreatDoorS13
import Derived.Test.YtonjepladadmhaaGreatDoorS08
import Derived.Laws.Externs
import Derived.Test.YtonjepladadmhaaGreatDoorS09
set_option maxHeartbeats 4000000
set_option linter.unusedVariables false
set_option linter.unusedSimpArgs false
namespace Go.Proofs.YtonjepladadmhaaGreatDoor
open Go Go.RowKit Go.Wk
attribute [local irreducible] W RL Does thenQ blockQ retQ Calls Pu Stp RD Qy Ay DoesIn
def evC : Option DEvent → List Value
 | some e => DEvent.enc e
 | none => DEvent.enc dEv0
structure BG where
 k : Nat
 b : Option DEvent
theorem best_spec (A : Option Addr) (c : Nat) (l : List DRule) (yr nominal : Int) (b1 b2 b3 : Nat) (w : World) (hG : Glob w) (hA : RdSl w A c DRule.enc 11 l) (hn : l.length ≤ 1000000) (hR : ∀ r ∈ l, (-4611686018427387904 ≤ r.save ∧ r.save ≤ 4611686018427387904) ∧ r.from_ ≤ 4611686018427387904)
  (hy : -2000000000 ≤ yr ∧ yr ≤ 2000000000) (c1 : CellsAt w ⟨b1, 0, none⟩ [.slice A l.length c]) (c2 : CellsAt w ⟨b2, 0, none⟩ [.int .i64 yr]) (c3 : CellsAt w ⟨b3, 0, none⟩ [.int .i64 nominal]) :
  Does Tryz.prog 83 [.slice A l.length c, .func (.func 84) #[] #[.pointer (some ⟨b1, 0, none⟩), .pointer (some ⟨b2, 0, none⟩), .pointer (some ⟨b3, 0, none⟩)], .func (.func 53) #[] #[]] w
   (fun v O => v = .tuple #[evV (afterGo (leastD l) nominal yr l 0 none), .bool (afterGo (leastD l) nominal yr l 0 none).isSome] ∧ O = []) := by
 have haf := fun (i : Nat) r (hi : l[i]? = some r) w' (hw : Bel w.heap.size w w') => after1_spec A c l i r yr nominal b1 b2 b3 w' (hG.up hw) (hA.up hw) hi hn (fun r hr => (hR r hr).1) hy (hR r (List.mem_of_getElem? hi)).2 (c1.up hw (Nat.le_refl _)) (c2.up hw (Nat.le_refl _)) (c3.up hw (Nat.le_refl _))
 obtain ⟨res, hres⟩ : ∃ res, afterGo (leastD l) nominal yr l 0 none = res := ⟨_, rfl⟩
 rw [hres]
 generalize leastD l = least at *
 clear hA hR c1 c2 c3
 refine Does_of_W Tryz.func83 rfl rfl rfl rfl ?_
 repeat (first | (refine js ?_; (refine bx ?_; intro bk)) | refine walk ?_)
 rename_i b6
 refine W_loopF [(13, .slice A l.length c), (1, .func (.func 84) #[] #[.pointer (some ⟨b1, 0, none⟩), .pointer (some ⟨b2, 0, none⟩), .pointer (some ⟨b3, 0, none⟩)]), (2, .func (.func 53) #[] #[]), (8, .pointer (some ⟨bk, 0, none⟩)), (6, .pointer (some ⟨b6, 0, none⟩)), (14, .int .i64 l.length)] [.blk b6 [.int .i64 0, .int .i64 0, .int .i64 0] 84]
  (fun g : BG => [(15, .int .i64 g.k), (9, .bool g.b.isSome)]) (fun g => [.blk bk (evC g.b) 84]) (fun g => g.k ≤ l.length ∧ afterGo least nominal yr (l.drop g.k) g.k g.b = res) (fun g => l.length - g.k) ⟨0, none⟩ SFA SOA ⟨Nat.zero_le _, hres⟩ ?_
 rintro ⟨k, b⟩ ⟨hk, hi⟩
 dsimp only at hk hi ⊢
 repeat (first | (refine js ?_; (refine bx ?_; intro bk)) | refine walk ?_)
 refine W_cond rfl (fun h => ?_) (fun h => ?_)
 ·have hlt : k < l.length := by simpa using h
  have ho := haf k _ (List.getElem?_eq_getElem hlt)
  rw [drop_cons hlt, afterGo] at hi
  generalize evIn least nominal l[k] k (max (max l[k].from_ (-2000000000)) (yr - 2)) 20 = o at *
  have hord := fun e e2 w' => order_spec e e2 w'
  rcases o with _ | ⟨ey, er, en⟩ <;> rcases b with _ | ⟨by_, br, bn⟩ <;> simp only [evV, evC, DEvent.enc, dEv0, Option.isSome] at ho hi ⊢
  ·repeat (first | refine und ?_ | (refine js ?_; (first | (apply Stp_callV (f := 84) (us := []) (vs := [.int .i64 k]) (cs := [.pointer (some ⟨b1, 0, none⟩), .pointer (some ⟨b2, 0, none⟩), .pointer (some ⟨b3, 0, none⟩)]) (h := fun w' hw _ => ho w' hw); rfl; rfl; rintro v O' ⟨rfl, rfl⟩) | (refine bx ?_; intro bk))) | refine walk ?_)
   exact ⟨⟨k + 1, none⟩, OA, ⟨OA, hi⟩, SFA, SOA⟩
  ·repeat (first | refine und ?_ | (refine js ?_; (first | (apply Stp_callV (f := 84) (us := []) (vs := [.int .i64 k]) (cs := [.pointer (some ⟨b1, 0, none⟩), .pointer (some ⟨b2, 0, none⟩), .pointer (some ⟨b3, 0, none⟩)]) (h := fun w' hw _ => ho w' hw); rfl; rfl; rintro v O' ⟨rfl, rfl⟩) | (refine bx ?_; intro bk))) | refine walk ?_)
   exact ⟨⟨k + 1, some ⟨by_, br, bn⟩⟩, OA, ⟨OA, hi⟩, SFA, SOA⟩
  ·repeat (first | refine und ?_ | (refine js ?_; (first | (apply Stp_callV (f := 84) (us := []) (vs := [.int .i64 k]) (cs := [.pointer (some ⟨b1, 0, none⟩), .pointer (some ⟨b2, 0, none⟩), .pointer (some ⟨b3, 0, none⟩)]) (h := fun w' hw _ => ho w' hw); rfl; rfl; rintro v O' ⟨rfl, rfl⟩) | (refine bx ?_; intro bk))) | refine walk ?_)
   exact ⟨⟨k + 1, some ⟨ey, er, en⟩⟩, OA, ⟨OA, hi⟩, SFA, SOA⟩
  ·repeat (first | refine und ?_ | (refine js ?_; (first | (apply Stp_callV (f := 84) (us := []) (vs := [.int .i64 k]) (cs := [.pointer (some ⟨b1, 0, none⟩), .pointer (some ⟨b2, 0, none⟩), .pointer (some ⟨b3, 0, none⟩)]) (h := fun w' hw _ => ho w' hw); rfl; rfl; rintro v O' ⟨rfl, rfl⟩) | (apply Stp_callV (f := 53) (us := []) (cs := []) (vs := [.agg #[.int .i64 ey, .int .i64 er, .int .i64 en], .agg #[.int .i64 by_, .int .i64 br, .int .i64 bn]]) (h := fun w' hw _ => hord ⟨ey, er, en⟩ ⟨by_, br, bn⟩ w'); rfl; rfl; rintro v O' ⟨rfl, rfl⟩) | (refine bx ?_; intro bk))) | refine walk ?_)
   refine W_cond rfl (fun h2 => ?_) (fun h2 => ?_)
   ·rw [if_pos (of_decide_eq_true h2)] at hi
    repeat (first | (refine js ?_; (refine bx ?_; intro bk)) | refine walk ?_)
    exact ⟨⟨k + 1, some ⟨ey, er, en⟩⟩, OA, ⟨OA, hi⟩, SFA, SOA⟩
   ·rw [if_neg (of_decide_eq_false h2)] at hi
    repeat (first | (refine js ?_; (refine bx ?_; intro bk)) | refine walk ?_)
    exact ⟨⟨k + 1, some ⟨by_, br, bn⟩⟩, OA, ⟨OA, hi⟩, SFA, SOA⟩
 ·obtain rfl : k = l.length := by have := of_decide_eq_false h; omega
  rw [List.drop_length, afterGo] at hi
  subst hi
  rcases b with _ | ⟨by_, br, bn⟩ <;> simp only [evC, DEvent.enc, dEv0]
  ·repeat (first | (refine js ?_; (refine bx ?_; intro bk)) | refine walk ?_)
   exact rtC
  ·repeat (first | (refine js ?_; (refine bx ?_; intro bk)) | refine walk ?_)
   exact rtC
theorem yearOf_bd (t : Int) : -2000000000 ≤ yearOf t ∧ yearOf t ≤ 2000000000 := by unfold yearOf; omega
def RsOk (l : List DRule) : Prop := ∀ r ∈ l, (-4611686018427387904 ≤ r.save ∧ r.save ≤ 4611686018427387904) ∧ r.from_ ≤ 4611686018427387904
theorem after_spec (A : Option Addr) (c : Nat) (l : List DRule) (nominal : Int) (w : World) (hG : Glob w) (hA : RdSl w A c DRule.enc 11 l) (hn : l.length ≤ 1000000) (hR : RsOk l) (ht : -4611686018427387904 ≤ nominal ∧ nominal ≤ 4611686018427387904) :
  Does Tryz.prog 36 [.slice A l.length c, .int .i64 nominal] w (fun v O => v = .tuple #[evV (afterD l nominal), .bool (afterD l nominal).isSome] ∧ O = []) := by
 have hb := fun (b1 b2 b3 : Nat) w' (hw : Bel w.heap.size w w') c1 c2 c3 => best_spec A c l (yearOf nominal) nominal b1 b2 b3 w' (hG.up hw) (hA.up hw) hn hR (yearOf_bd nominal) c1 c2 c3
 change ∀ (b1 b2 b3 : Nat) w' (hw : Bel w.heap.size w w') c1 c2 c3, Does _ _ _ w' (fun v O => v = .tuple #[evV (afterD l nominal), .bool (afterD l nominal).isSome] ∧ O = []) at hb
 have hyr := fun w' (hw : Bel w.heap.size w w') => year_spec nominal ht w' (hG.up hw)
 generalize afterD l nominal = res at *
 generalize yearOf nominal = yr at *
 refine Does_of_W Tryz.func36 rfl rfl rfl rfl ?_
 rcases res with _ | ⟨ey, er, en⟩ <;> simp only [evV, DEvent.enc, dEv0, Option.isSome] at hb ⊢
 ·repeat (first | (refine js ?_; (first | (refine callE hyr ?_) | (apply Stp_call (h := fun w' hw hH => hb _ _ _ w' hw (hH.cells (by repeat' constructor)) (hH.cells (by repeat' constructor)) (hH.cells (by repeat' constructor))); rfl; rintro v O' ⟨rfl, rfl⟩) | (refine bx ?_; intro bk))) | refine walk ?_)
  exact rtC
 ·repeat (first | (refine js ?_; (first | (refine callE hyr ?_) | (apply Stp_call (h := fun w' hw hH => hb _ _ _ w' hw (hH.cells (by repeat' constructor)) (hH.cells (by repeat' constructor)) (hH.cells (by repeat' constructor))); rfl; rintro v O' ⟨rfl, rfl⟩) | (refine bx ?_; intro bk))) | refine walk ?_)
  exact rtC
def EvOk (o : Option DEvent) : Prop := ∀ e, o = some e → -200000000000000000 ≤ e.nominal ∧ e.nominal ≤ 200000000000000000
theorem onR_bd (least : Int) (hl : least ≤ 0) (r : DRule) (i y : Int) : EvOk (onR least r i y) := by
 intro e he
 unfold onR at he
 split at he
 ·cases he
 ·rename_i h1
  split at he
  ·cases he
  ·have hb := onD_bd y r.month r.day
   have hc : clkChk r.at_ = true := by
    cases hc : clkChk r.at_
    ·exact absurd (.inr (.inr hc)) h1
    ·rfl
   simp only [clkChk, Bool.and_eq_true, decide_eq_true_eq] at hc
   simp only [Option.some.injEq] at he
   subst he
   dsimp only
   split <;> omega
theorem evIn_bd (least nominal : Int) (hl : least ≤ 0) (r : DRule) (i : Int) : ∀ (k : Nat) (y : Int), EvOk (evIn least nominal r i y k)
 | 0, _ => fun e he => by cases he
 | k + 1, y => by
  rw [evIn]
  have h := onR_bd least hl r i y
  split
  ·rename_i e he
   split
   ·intro e2 h2; cases h2; exact h e he
   ·exact evIn_bd least nominal hl r i k (y + 1)
  ·exact evIn_bd least nominal hl r i k (y + 1)
theorem afterGo_bd (least nominal yr : Int) (hl : least ≤ 0) : ∀ (l : List DRule) (i : Nat) (b : Option DEvent), EvOk b → EvOk (afterGo least nominal yr l i b)
 | [], _, _, h => h
 | r :: l, i, b, h => by
  rw [afterGo]
  refine afterGo_bd least nominal yr hl l (i + 1) _ ?_
  have he := evIn_bd least nominal hl r i 20 (max (max r.from_ (-2000000000)) (yr - 2))
  generalize evIn least nominal r i (max (max r.from_ (-2000000000)) (yr - 2)) 20 = o at *
  cases o with
  | none => exact h
  | some e =>
   cases b with
   | none => exact he
   | some x =>
    dsimp only
    split
    ·exact he
    ·exact h
theorem PuEvF0 {G : Prop} (h : G := by (first | (apply Pu_minK; rfl; rfl; exact h1) | (apply Pu_maxK; rfl; rfl; exact h2))) : G := h
theorem far_spec (A : Option Addr) (c : Nat) (l : List DRule) (nominal : Int) (w : World) (hG : Glob w) (hA : RdSl w A c DRule.enc 11 l) (hn : l.length ≤ 1000000) (hR : RsOk l) (ht : -1000000000000000000 ≤ nominal ∧ nominal ≤ 1000000000000000000) :
  Does Tryz.prog 173 [.slice A l.length c, .int .i64 nominal] w (fun v O => v = .bool (farD l nominal) ∧ O = []) := by
 have haf := fun w' (hw : Bel w.heap.size w w') => after_spec A c l (nominal - 259200) w' (hG.up hw) (hA.up hw) hn hR (by omega)
 have hbd : EvOk (afterD l (nominal - 259200)) := afterGo_bd _ _ _ (leastD_le l fun r hr => (hR r hr).1).2 l 0 none (fun e he => by cases he)
 unfold farD
 generalize afterD l (nominal - 259200) = res at *
 have h1 : (if 1152921504606846976 < nominal then (1152921504606846976 : Int) else nominal) = nominal := if_neg (by omega)
 have h2 : (if (-1152921504606846976 : Int) < nominal then nominal else -1152921504606846976) = nominal := if_pos (by omega)
 refine Does_of_W Tryz.func173 rfl rfl rfl rfl ?_
 rcases res with _ | ⟨ey, er, en⟩ <;> simp only [evV, DEvent.enc, dEv0, Option.isSome] at haf ⊢
 ·repeat' (first | (apply RL_pu; rfl; exact PuEvF0) | (refine js ?_; (first | (refine callE haf ?_) | (refine bx ?_; intro bk))) | refine walk1 ?_ | refine und ?_ | (refine RL_gsplit rfl rfl rfl (fun hc => ?_) (fun hc => ?_)) | (refine RD_gsplit rfl rfl rfl (fun hc => ?_) (fun hc => ?_)) | (refine W_cond rfl (fun hc => ?_) (fun hc => ?_)))
  exact rtA
 ·have hb := hbd _ rfl
  dsimp only at hb
  repeat' (first | (apply RL_pu; rfl; exact PuEvF0) | (refine js ?_; (first | (refine callE haf ?_) | (refine bx ?_; intro bk))) | refine walk1 ?_ | refine und ?_ | (refine RL_gsplit rfl rfl rfl (fun hc => ?_) (fun hc => ?_)) | (refine RD_gsplit rfl rfl rfl (fun hc => ?_) (fun hc => ?_)) | (refine W_cond rfl (fun hc => ?_) (fun hc => ?_)))
  exact rtA
theorem PuBfA0 {G : Prop} (h : G := by (first | exact PuI | (apply Pu_loadO1; rfl; first | exact c1 0 _ rfl | exact c2 0 _ rfl | exact c3 0 _ rfl) | (apply Pu_minK; rfl; rfl; exact hmn))) : G := h
theorem QyBfA0 {G : Prop} (h : G := by first | (apply Qy_y; rfl; exact PuBfA0) | exact QyA) : G := h
theorem QFBfA0 {G : Prop} (h : G := by repeat (first | exact QF.nil | (apply QF.mk; rfl; rfl; decide +kernel; exact QyBfA0))) : G := h
theorem PuBfA1 {G : Prop} (h : G := by (apply Pu_loadO1; rfl; first | exact c1 0 _ rfl | exact c2 0 _ rfl | exact c3 0 _ rfl)) : G := h
theorem QyBfA1 {G : Prop} (h : G := by first | (apply Qy_y; rfl; exact PuBfA1) | exact QyA) : G := h
theorem QFBfA1 {G : Prop} (h : G := by repeat (first | exact QF.nil | (apply QF.mk; rfl; rfl; decide +kernel; exact QyBfA1))) : G := h
theorem before1_spec (A : Option Addr) (c : Nat) (l : List DRule) (i : Nat) (r : DRule) (yr nominal : Int) (b1 b2 b3 : Nat) (w : World) (hG : Glob w) (hA : RdSl w A c DRule.enc 11 l) (hi : l[i]? = some r) (hn : l.length ≤ 1000000) (hR : ∀ r ∈ l, -4611686018427387904 ≤ r.save ∧ r.save ≤ 4611686018427387904)
  (hy : -2000000000 ≤ yr ∧ yr ≤ 2000000000) (hf : -4611686018427387904 ≤ r.to) (c1 : CellsAt w ⟨b1, 0, none⟩ [.slice A l.length c]) (c2 : CellsAt w ⟨b2, 0, none⟩ [.int .i64 yr]) (c3 : CellsAt w ⟨b3, 0, none⟩ [.int .i64 nominal]) :
  Does Tryz.prog 117 [.int .i64 i, .pointer (some ⟨b1, 0, none⟩), .pointer (some ⟨b2, 0, none⟩), .pointer (some ⟨b3, 0, none⟩)] w (fun v O => v = .tuple #[evV (beIn (leastD l) nominal r i (min (lastY r) (yr + 2)) 20), .bool (beIn (leastD l) nominal r i (min (lastY r) (yr + 2)) 20).isSome] ∧ O = []) := by
 have hlt : i < l.length := (List.getElem?_eq_some_iff.1 hi).1
 obtain ⟨y0, hy0⟩ : ∃ y0, min (lastY r) (yr + 2) = y0 := ⟨_, rfl⟩
 have hlb : -4611686018427387904 ≤ lastY r ∧ lastY r ≤ 2000000000 := by
  unfold lastY
  split <;> omega
 have hyb : -4611686018427387904 ≤ y0 ∧ y0 ≤ 2000000002 := by omega
 have hmn : (if yr + 2 < lastY r then yr + 2 else lastY r) = y0 := by rw [← hy0]; split <;> omega
 have hla := fun w' => lastY_spec r w'
 rw [hy0]
 obtain ⟨res, hres⟩ : ∃ res, beIn (leastD l) nominal r i y0 20 = res := ⟨_, rfl⟩
 rw [hres]
 have hon := fun y w' (hw : Bel w.heap.size w w') => evOn_spec A c l i y r w' (hG.up hw) (hA.up hw) hi hn hR
 obtain ⟨hna, hca⟩ := hA.rd i _ hi
 generalize leastD l = least at *
 generalize lastY r = ly at *
 clear hy0
 obtain ⟨nm, fr, to, mo, ⟨dk, dw, dd⟩, ⟨cs, cb⟩, sv, le⟩ := r
 change CellsAt w _ [.string nm, .int .i64 fr, .int .i64 to, .int .i64 mo, .int .i64 dk, .int .i64 dw, .int .i64 dd, .int .i64 cs, .int .i64 cb, .int .i64 sv, .string le] at hca
 refine Does_of_W Tryz.func117 rfl rfl rfl rfl ?_
 repeat (first | (apply RL_pu; rfl; exact PuBfA0) | (apply RD_Q; rfl; rfl; decide +kernel; rfl; rfl; exact QyBfA0) | refine walk1 ?_ | (refine jg ?_; (try intro F); (first | (refine callE (fun w' _ => hla w') ?_) | (refine bx ?_; intro bk) | (refine stA ?_)); first | refine ⟨_, EndsA, QFBfA0, ?_⟩ | refine fin ?_) | (refine jn ?_; (try intro F); (first | (refine bx ?_; intro bk) | (refine stA ?_) | (apply Stp_pu; first | exact PuBfA0 | exact PuA)); first | refine ⟨_, EndsA, QFBfA0, ?_⟩ | refine fin ?_) | (apply RD_W; rfl; intro bk))
 refine W_loopF [(0, .int .i64 i), (1, .pointer (some ⟨b1, 0, none⟩)), (2, .pointer (some ⟨b2, 0, none⟩)), (3, .pointer (some ⟨b3, 0, none⟩)), (7, .int .i64 y0), (5, .pointer (some ⟨bk, 0, none⟩))] [.blk bk [.int .i64 0, .int .i64 0, .int .i64 0] 84] (fun j : Nat => [(19, .int .i64 j)]) (fun _ => []) (fun j => j ≤ 20 ∧ beIn least nominal ⟨nm, fr, to, mo, ⟨dk, dw, dd⟩, ⟨cs, cb⟩, sv, le⟩ i (y0 - j) (20 - j) = res) (fun j => 20 - j) 0 SFA SOA ⟨Nat.zero_le _, by simpa using hres⟩ ?_
 rintro j ⟨hj, hi2⟩
 repeat (first | refine walk ?_ | (refine jn ?_; (try intro F); (first | (refine bx ?_; intro bk) | (refine stA ?_) | (apply Stp_pu; exact PuA)); refine fin ?_) | (apply RD_W; rfl; intro bk))
 refine W_cond rfl (fun h => ?_) (fun h => ?_)
 ·have hj20 : j < 20 := by have := of_decide_eq_true h; omega
  rw [show 20 - j = (19 - j) + 1 by omega, beIn] at hi2
  have ho := hon (y0 - j)
  generalize onR least _ i (y0 - j) = o at *
  cases o with
  | none =>
   simp only [evV, DEvent.enc, dEv0, Option.isSome] at ho
   repeat (first | (apply RL_pu; rfl; exact PuBfA1) | (apply RD_Q; rfl; rfl; decide +kernel; rfl; rfl; exact QyBfA1) | refine walk1 ?_ | (refine jg ?_; (try intro F); (first | (refine callE ho ?_) | (refine bx ?_; intro bk) | (refine stA ?_)); first | refine ⟨_, EndsA, QFBfA1, ?_⟩ | refine fin ?_) | (refine jn ?_; (try intro F); (first | (refine bx ?_; intro bk) | (refine stA ?_) | (apply Stp_pu; first | exact PuBfA1 | exact PuA)); first | refine ⟨_, EndsA, QFBfA1, ?_⟩ | refine fin ?_) | (apply RD_W; rfl; intro bk))
   exact ⟨j + 1, OA, ⟨OA, by rw [show 20 - (j + 1) = 19 - j by omega, show y0 - ((j + 1 : Nat) : Int) = y0 - j - 1 by omega]; exact hi2⟩, SFA, SOA⟩
  | some e =>
   obtain ⟨ey, er, en⟩ := e
   simp only [evV, DEvent.enc, Option.isSome] at ho hi2
   repeat (first | (apply RL_pu; rfl; exact PuBfA1) | (apply RD_Q; rfl; rfl; decide +kernel; rfl; rfl; exact QyBfA1) | refine walk1 ?_ | (refine jg ?_; (try intro F); (first | (refine callE ho ?_) | (refine bx ?_; intro bk) | (refine stA ?_)); first | refine ⟨_, EndsA, QFBfA1, ?_⟩ | refine fin ?_) | (refine jn ?_; (try intro F); (first | (refine bx ?_; intro bk) | (refine stA ?_) | (apply Stp_pu; first | exact PuBfA1 | exact PuA)); first | refine ⟨_, EndsA, QFBfA1, ?_⟩ | refine fin ?_) | (apply RD_W; rfl; intro bk))
   refine W_cond rfl (fun h2 => ?_) (fun h2 => ?_)
   ·rw [if_pos (of_decide_eq_true h2)] at hi2
    subst hi2
    repeat (first | refine walk ?_ | (refine jn ?_; (try intro F); (first | (refine bx ?_; intro bk) | (refine stA ?_) | (apply Stp_pu; exact PuA)); refine fin ?_) | (apply RD_W; rfl; intro bk))
    exact rtC
   ·rw [if_neg (of_decide_eq_false h2)] at hi2
    repeat (first | refine walk ?_ | (refine jn ?_; (try intro F); (first | (refine bx ?_; intro bk) | (refine stA ?_) | (apply Stp_pu; exact PuA)); refine fin ?_) | (apply RD_W; rfl; intro bk))
    exact ⟨j + 1, OA, ⟨OA, by rw [show 20 - (j + 1) = 19 - j by omega, show y0 - ((j + 1 : Nat) : Int) = y0 - j - 1 by omega]; exact hi2⟩, SFA, SOA⟩
 ·obtain rfl : j = 20 := by have := of_decide_eq_false h; omega
  obtain rfl : none = res := by rw [← hi2]; rfl
  repeat (first | refine walk ?_ | (refine jn ?_; (try intro F); (first | (refine bx ?_; intro bk) | (refine stA ?_) | (apply Stp_pu; exact PuA)); refine fin ?_) | (apply RD_W; rfl; intro bk))
  exact rtC
theorem before2_spec (a b : DEvent) (w : World) : Does Tryz.prog 118 [.agg (DEvent.enc a).toArray, .agg (DEvent.enc b).toArray] w (fun v O => v = .int .i64 (ordE b a) ∧ O = []) := by
 have h := fun w' => order_spec b a w'
 obtain ⟨y, r, n⟩ := a
 obtain ⟨y2, r2, n2⟩ := b
 show Does _ _ [.agg #[.int .i64 y, .int .i64 r, .int .i64 n], .agg #[.int .i64 y2, .int .i64 r2, .int .i64 n2]] w _
 refine Does_of_W Tryz.func118 rfl rfl rfl rfl ?_
 repeat (first | (refine js ?_; (first | (refine callE (fun w' _ => h w') ?_) | (refine bx ?_; intro bk))) | refine walk ?_)
 exact rtA
theorem bestB_spec (A : Option Addr) (c : Nat) (l : List DRule) (yr nominal : Int) (b1 b2 b3 : Nat) (w : World) (hG : Glob w) (hA : RdSl w A c DRule.enc 11 l) (hn : l.length ≤ 1000000) (hR : ∀ r ∈ l, (-4611686018427387904 ≤ r.save ∧ r.save ≤ 4611686018427387904) ∧ (r.from_ ≤ 4611686018427387904 ∧ -4611686018427387904 ≤ r.to))
  (hy : -2000000000 ≤ yr ∧ yr ≤ 2000000000) (c1 : CellsAt w ⟨b1, 0, none⟩ [.slice A l.length c]) (c2 : CellsAt w ⟨b2, 0, none⟩ [.int .i64 yr]) (c3 : CellsAt w ⟨b3, 0, none⟩ [.int .i64 nominal]) :
  Does Tryz.prog 83 [.slice A l.length c, .func (.func 117) #[] #[.pointer (some ⟨b1, 0, none⟩), .pointer (some ⟨b2, 0, none⟩), .pointer (some ⟨b3, 0, none⟩)], .func (.func 118) #[] #[]] w
   (fun v O => v = .tuple #[evV (befGo (leastD l) nominal yr l 0 none), .bool (befGo (leastD l) nominal yr l 0 none).isSome] ∧ O = []) := by
 have haf := fun (i : Nat) r (hi : l[i]? = some r) w' (hw : Bel w.heap.size w w') => before1_spec A c l i r yr nominal b1 b2 b3 w' (hG.up hw) (hA.up hw) hi hn (fun r hr => (hR r hr).1) hy (hR r (List.mem_of_getElem? hi)).2.2 (c1.up hw (Nat.le_refl _)) (c2.up hw (Nat.le_refl _)) (c3.up hw (Nat.le_refl _))
 obtain ⟨res, hres⟩ : ∃ res, befGo (leastD l) nominal yr l 0 none = res := ⟨_, rfl⟩
 rw [hres]
 generalize leastD l = least at *
 clear hA hR c1 c2 c3
 refine Does_of_W Tryz.func83 rfl rfl rfl rfl ?_
 repeat (first | (refine js ?_; (refine bx ?_; intro bk)) | refine walk ?_)
 rename_i b6
 refine W_loopF [(13, .slice A l.length c), (1, .func (.func 117) #[] #[.pointer (some ⟨b1, 0, none⟩), .pointer (some ⟨b2, 0, none⟩), .pointer (some ⟨b3, 0, none⟩)]), (2, .func (.func 118) #[] #[]), (8, .pointer (some ⟨bk, 0, none⟩)), (6, .pointer (some ⟨b6, 0, none⟩)), (14, .int .i64 l.length)] [.blk b6 [.int .i64 0, .int .i64 0, .int .i64 0] 84]
  (fun g : BG => [(15, .int .i64 g.k), (9, .bool g.b.isSome)]) (fun g => [.blk bk (evC g.b) 84]) (fun g => g.k ≤ l.length ∧ befGo least nominal yr (l.drop g.k) g.k g.b = res) (fun g => l.length - g.k) ⟨0, none⟩ SFA SOA ⟨Nat.zero_le _, hres⟩ ?_
 rintro ⟨k, b⟩ ⟨hk, hi⟩
 dsimp only at hk hi ⊢
 repeat (first | (refine js ?_; (refine bx ?_; intro bk)) | refine walk ?_)
 refine W_cond rfl (fun h => ?_) (fun h => ?_)
 ·have hlt : k < l.length := by simpa using h
  have ho := haf k _ (List.getElem?_eq_getElem hlt)
  rw [drop_cons hlt, befGo] at hi
  generalize beIn least nominal l[k] k (min (lastY l[k]) (yr + 2)) 20 = o at *
  have hord := fun e e2 w' => before2_spec e e2 w'
  rcases o with _ | ⟨ey, er, en⟩ <;> rcases b with _ | ⟨by_, br, bn⟩ <;> simp only [evV, evC, DEvent.enc, dEv0, Option.isSome] at ho hi ⊢
  ·repeat (first | refine und ?_ | (refine js ?_; (first | (apply Stp_callV (f := 117) (us := []) (vs := [.int .i64 k]) (cs := [.pointer (some ⟨b1, 0, none⟩), .pointer (some ⟨b2, 0, none⟩), .pointer (some ⟨b3, 0, none⟩)]) (h := fun w' hw _ => ho w' hw); rfl; rfl; rintro v O' ⟨rfl, rfl⟩) | (refine bx ?_; intro bk))) | refine walk ?_)
   exact ⟨⟨k + 1, none⟩, OA, ⟨OA, hi⟩, SFA, SOA⟩
  ·repeat (first | refine und ?_ | (refine js ?_; (first | (apply Stp_callV (f := 117) (us := []) (vs := [.int .i64 k]) (cs := [.pointer (some ⟨b1, 0, none⟩), .pointer (some ⟨b2, 0, none⟩), .pointer (some ⟨b3, 0, none⟩)]) (h := fun w' hw _ => ho w' hw); rfl; rfl; rintro v O' ⟨rfl, rfl⟩) | (refine bx ?_; intro bk))) | refine walk ?_)
   exact ⟨⟨k + 1, some ⟨by_, br, bn⟩⟩, OA, ⟨OA, hi⟩, SFA, SOA⟩
  ·repeat (first | refine und ?_ | (refine js ?_; (first | (apply Stp_callV (f := 117) (us := []) (vs := [.int .i64 k]) (cs := [.pointer (some ⟨b1, 0, none⟩), .pointer (some ⟨b2, 0, none⟩), .pointer (some ⟨b3, 0, none⟩)]) (h := fun w' hw _ => ho w' hw); rfl; rfl; rintro v O' ⟨rfl, rfl⟩) | (refine bx ?_; intro bk))) | refine walk ?_)
   exact ⟨⟨k + 1, some ⟨ey, er, en⟩⟩, OA, ⟨OA, hi⟩, SFA, SOA⟩
  ·repeat (first | refine und ?_ | (refine js ?_; (first | (apply Stp_callV (f := 117) (us := []) (vs := [.int .i64 k]) (cs := [.pointer (some ⟨b1, 0, none⟩), .pointer (some ⟨b2, 0, none⟩), .pointer (some ⟨b3, 0, none⟩)]) (h := fun w' hw _ => ho w' hw); rfl; rfl; rintro v O' ⟨rfl, rfl⟩) | (apply Stp_callV (f := 118) (us := []) (cs := []) (vs := [.agg #[.int .i64 ey, .int .i64 er, .int .i64 en], .agg #[.int .i64 by_, .int .i64 br, .int .i64 bn]]) (h := fun w' hw _ => hord ⟨ey, er, en⟩ ⟨by_, br, bn⟩ w'); rfl; rfl; rintro v O' ⟨rfl, rfl⟩) | (refine bx ?_; intro bk))) | refine walk ?_)
   refine W_cond rfl (fun h2 => ?_) (fun h2 => ?_)
   ·rw [if_pos (of_decide_eq_true h2)] at hi
    repeat (first | (refine js ?_; (refine bx ?_; intro bk)) | refine walk ?_)
    exact ⟨⟨k + 1, some ⟨ey, er, en⟩⟩, OA, ⟨OA, hi⟩, SFA, SOA⟩
   ·rw [if_neg (of_decide_eq_false h2)] at hi
    repeat (first | (refine js ?_; (refine bx ?_; intro bk)) | refine walk ?_)
    exact ⟨⟨k + 1, some ⟨by_, br, bn⟩⟩, OA, ⟨OA, hi⟩, SFA, SOA⟩
 ·obtain rfl : k = l.length := by have := of_decide_eq_false h; omega
  rw [List.drop_length, befGo] at hi
  subst hi
  rcases b with _ | ⟨by_, br, bn⟩ <;> simp only [evC, DEvent.enc, dEv0]
  ·repeat (first | (refine js ?_; (refine bx ?_; intro bk)) | refine walk ?_)
   exact rtC
  ·repeat (first | (refine js ?_; (refine bx ?_; intro bk)) | refine walk ?_)
   exact rtC
def RsOkB (l : List DRule) : Prop := ∀ r ∈ l, (-4611686018427387904 ≤ r.save ∧ r.save ≤ 4611686018427387904) ∧ (r.from_ ≤ 4611686018427387904 ∧ -4611686018427387904 ≤ r.to)
theorem evBefore_spec (A : Option Addr) (c : Nat) (l : List DRule) (nominal : Int) (w : World) (hG : Glob w) (hA : RdSl w A c DRule.enc 11 l) (hn : l.length ≤ 1000000) (hR : RsOkB l) (ht : -4611686018427387904 ≤ nominal ∧ nominal ≤ 4611686018427387904) :
  Does Tryz.prog 61 [.slice A l.length c, .int .i64 nominal] w (fun v O => v = .tuple #[evV (befD l nominal), .bool (befD l nominal).isSome] ∧ O = []) := by
 have hb := fun (b1 b2 b3 : Nat) w' (hw : Bel w.heap.size w w') c1 c2 c3 => bestB_spec A c l (yearOf nominal) nominal b1 b2 b3 w' (hG.up hw) (hA.up hw) hn hR (yearOf_bd nominal) c1 c2 c3
 change ∀ (b1 b2 b3 : Nat) w' (hw : Bel w.heap.size w w') c1 c2 c3, Does _ _ _ w' (fun v O => v = .tuple #[evV (befD l nominal), .bool (befD l nominal).isSome] ∧ O = []) at hb
 have hyr := fun w' (hw : Bel w.heap.size w w') => year_spec nominal ht w' (hG.up hw)
 generalize befD l nominal = res at *
 generalize yearOf nominal = yr at *
 refine Does_of_W Tryz.func61 rfl rfl rfl rfl ?_
 rcases res with _ | ⟨ey, er, en⟩ <;> simp only [evV, DEvent.enc, dEv0, Option.isSome] at hb ⊢
 ·repeat (first | (refine js ?_; (first | (refine callE hyr ?_) | (apply Stp_call (h := fun w' hw hH => hb _ _ _ w' hw (hH.cells (by repeat' constructor)) (hH.cells (by repeat' constructor)) (hH.cells (by repeat' constructor))); rfl; rintro v O' ⟨rfl, rfl⟩) | (refine bx ?_; intro bk))) | refine walk ?_)
  exact rtC
 ·repeat (first | (refine js ?_; (first | (refine callE hyr ?_) | (apply Stp_call (h := fun w' hw hH => hb _ _ _ w' hw (hH.cells (by repeat' constructor)) (hH.cells (by repeat' constructor)) (hH.cells (by repeat' constructor))); rfl; rintro v O' ⟨rfl, rfl⟩) | (refine bx ?_; intro bk))) | refine walk ?_)
  exact rtC
end Go.Proofs.YtonjepladadmhaaGreatDoor
namespace Go.Wk
open Go Go.RowKit
section
variable {P : Program} {n : Nat} {wr : World} {fr : Fr} {O : List It} {ty : TypeId} {pos : String} {af : Array Edge} {dst : Option Tmp} {g : Option (Nat × Bool)} {Kp : Value → List It → Prop}
theorem Stp_makeMapN {t kt et : Nat} {x : Operand} {kk : IntKind} {i : Int} [hM : MapT P t kt et] (hx : ev fr x = some (.int kk i)) (k : ∀ b, Kp (.map (some b)) (.mp b [] :: O)) : Stp P n wr fr O ⟨dst, .makeMap t (some x), ty, pos, af, g⟩ Kp :=
 Stp_val fun a w hs => by
  have hB : Bel w.heap.size w (w.alloc (.map #[] 0)) := (Bel.refl _ _).alloc (Nat.le_refl _) _
  have hu := MapT.parts hM.h
  refine ⟨.map (some w.heap.size), w.alloc (.map #[] 0), _, ?_, hs.old.trans (hB.mono hs.old.size), hs.own.grow (O' := [.mp w.heap.size []]) hB hs.old.size ⟨fun i hi => ?_, fun i hi b hb => ?_, List.pairwise_singleton _ _⟩, k _⟩
  ·simp [execOp, hs.sim.ev hx, Instr.makeMap, run_underlying hu, asInt, asIntOf, newObj, Sem.run]
  ·rw [List.mem_singleton.1 hi]
   exact ⟨#[], 0, heap_alloc_new w _, rfl, stOk_nil⟩
  ·rw [List.mem_singleton.1 hi] at hb
   simp only [It.S] at hb
   subst hb
   exact ⟨Nat.le_refl _, by simp⟩
theorem toList_eraseIn (es : Array MapEntry) (j : Nat) : (es.eraseIdxIfInBounds j).toList = es.toList.eraseIdx j := by
 unfold Array.eraseIdxIfInBounds
 split
 ·simp
 ·rw [List.eraseIdx_of_length_le (by simp; omega)]
theorem stOk_erase {es : Array MapEntry} {c : Nat} (h : stOk es c) (j : Nat) : stOk (es.eraseIdxIfInBounds j) c := by
 unfold stOk
 rw [toList_eraseIn]
 have hsub : ((es.toList.eraseIdx j).map (·.born)).Sublist (es.toList.map (·.born)) := (List.eraseIdx_sublist _ _).map _
 exact ⟨h.1.sublist hsub, fun n hn => h.2 n (hsub.subset hn)⟩
theorem Stp_delete {t t2 kt et b : Nat} {x ix : Operand} {m : List (ByteArray × Value)} {k : ByteArray} {O' : List It} [hM : MapT P t kt et] [StringT P kt] (hx : ev fr x = some (.map (some b))) (hi : ev fr ix = some (.string k))
  (hu : Upd O (.mp b m) (.mp b (mdel m k)) O') (kk : Kp (.tuple #[]) O') : Stp P n wr fr O ⟨dst, .call ⟨.builtin .delete, #[x, ix], #[t, t2]⟩, ty, pos, af, g⟩ Kp :=
 Stp_val fun a w hs => by
  have ht := MapT.parts hM.h
  obtain ⟨es, c, h1, h2, h9⟩ := hs.own.sat _ hu.mem
  have hf := mfind_del k m es.toList 0 h2
  cases hfi : mfind m k 0 with
  | none =>
   rw [hfi] at hf
   have hst := hs.setMap (es' := es) (c' := c) hu (by unfold entriesOf; rw [hf]; exact h2) h9
   refine ⟨.tuple #[], _, O', ?_, hst.1, hst.2, kk⟩
   simp only [execOp, resolve, invoke, builtin, Builtin.delete_, hs.sim.ev hx, hs.sim.ev hi]
   simp [hs.sim.ev hx, hs.sim.ev hi, Builtin.delete_, run_underlying ht, run_getObj h1, run_checkKey _ k 9999, run_findKey k m es.toList w h2, hfi, setObj, Sem.run, h1]
  | some p =>
   obtain ⟨j, u⟩ := p
   rw [hfi] at hf
   obtain ⟨_, hf2⟩ := hf
   rw [Nat.sub_zero] at hf2
   have hst := hs.setMap (es' := es.eraseIdxIfInBounds j) (c' := c) hu (by unfold entriesOf; rw [toList_eraseIn]; exact hf2) (stOk_erase h9 j)
   refine ⟨.tuple #[], _, O', ?_, hst.1, hst.2, kk⟩
   simp only [execOp, resolve, invoke, builtin, Builtin.delete_, hs.sim.ev hx, hs.sim.ev hi]
   simp [hs.sim.ev hx, hs.sim.ev hi, Builtin.delete_, run_underlying ht, run_getObj h1, run_checkKey _ k 9999, run_findKey k m es.toList w h2, hfi, setObj, Sem.run, h1]
def MpAt (w : World) (b : Nat) (m : List (ByteArray × Value)) : Prop := (It.mp b m).sat w
theorem MpAt.up {w w' : World} {b : Nat} {m : List (ByteArray × Value)} {B : Nat} (h : MpAt w b m) (hb : Bel B w w') (hB : w.heap.size ≤ B) : MpAt w' b m := by
 refine It.sat_congr h fun k hk => ?_
 obtain rfl : k = b := hk
 obtain ⟨es, c, h1, _⟩ := h
 exact hb.block k (Nat.lt_of_lt_of_le (Array.getElem?_eq_some_iff.1 h1).1 hB)
theorem Pu_lookupOld {t kt et b : Nat} {x ix : Operand} {m : List (ByteArray × Value)} {k : ByteArray} {z v : Value} [hM : MapT P t kt et] [StringT P kt] [ZeroV P et z] (hx : ev fr x = some (.map (some b))) (hi : ev fr ix = some (.string k))
  (hp : MpAt wr b m) (hv : (mget m k).getD z = v) : Pu P n wr fr O (.lookup t x ix false) ty v := hv ▸ Pu_lookupO (kt := kt) (et := et) hx hi (fun _ hw _ => hp.up hw (Nat.le_refl _))
theorem Pu_lookupOkOld {t kt et b : Nat} {x ix : Operand} {m : List (ByteArray × Value)} {k : ByteArray} {z v : Value} {c : Bool} [hM : MapT P t kt et] [StringT P kt] [ZeroV P et z] (hx : ev fr x = some (.map (some b))) (hi : ev fr ix = some (.string k))
  (hp : MpAt wr b m) (hv : (mget m k).getD z = v) (hc : (mget m k).isSome = c) : Pu P n wr fr O (.lookup t x ix true) ty (.tuple [v, .bool c].toArray) :=
 fun a w hs _ _ _ _ => by
  have := run_lookup (P := P) (t := t) (kt := kt) (et := et) (k := k) (z := z) (hp.up hs.old (Nat.le_refl _)) true
  simp only [execOp, hs.sim.ev hx, hs.sim.ev hi, Sem.run_bind, this, Result.andThen_ok, Sem.run_pure]
  rw [← hv, ← hc]
  rfl
theorem Pu_eqNilMap {t t' kt et : Nat} {x : Operand} {p : Option Nat} [hM : MapT P t kt et] (hx : ev fr x = some (.map p)) : Pu P n wr fr O (.binOp .eql t x (.const (.map none)) t') ty (.bool p.isNone) :=
 fun a w hs _ _ _ _ => by
  have hu := MapT.parts hM.h
  have h : (binOp .eql t (.map p) (.map none)).run P w = .ok (.bool p.isNone) w := by
   simp only [binOp]
   have : ∀ d, (Op.equalIn (d + 1) t (.map p) (.map none)).run P w = .ok p.isNone w := fun d => by cases p <;> simp [Op.equalIn, run_underlying hu]
   rw [show Op.equal t (.map p) (.map none) = Op.equalIn (9999 + 1) t (.map p) (.map none) from rfl]
   simp only [Sem.run_bind, this 9999, Result.andThen_ok, Sem.run_pure]
  have hc : a.eval (.const (.map none)) = .map none := rfl
  simp [execOp, hs.sim.ev hx, hc, eqGuard, h]
theorem Pu_ifaceMap {t kt et : Nat} {x : Operand} {v : Value} [hM : MapT P t kt et] (hx : ev fr x = some v) : Pu P n wr fr O (.makeInterface t x) ty (.iface t v) :=
 fun a w hs _ _ _ _ => by
  have hu := MapT.parts hM.h
  simp [execOp, hs.sim.ev hx, Instr.makeInterface, run_underlying hu]
theorem Pu_assertMap {t xt kt et : Nat} {x : Operand} {v : Value} [hM : MapT P t kt et] (hx : ev fr x = some (.iface t v)) : Pu P n wr fr O (.typeAssert x xt t false) ty v :=
 fun a w hs _ _ _ _ => by
  have hu := MapT.parts hM.h
  simp [execOp, hs.sim.ev hx, Instr.typeAssert, run_underlying hu]
def isClone (P : Program) (f : FuncId) : Prop := ∀ (args : Array Value) (w : World), (callFunc f args).run P w = ((Extern.MapsClone.clone args).run P w).andThen fun v w' => .ok (.value v) w'
theorem Stp_mapsClone {f t b : Nat} {x : Operand} {ts : Array TypeId} {m : List (ByteArray × Value)} (hf : isClone P f) (hx : ev fr x = some (.iface t (.map (some b)))) (hp : ∀ w, Bel wr.heap.size wr w → Holds wr.heap.size O w → MpAt w b m)
  (kk : ∀ b2, Kp (.iface t (.map (some b2))) (.mp b2 m :: O)) : Stp P n wr fr O ⟨dst, .call ⟨.value (.func f), #[x], ts⟩, ty, pos, af, g⟩ Kp :=
 Stp_val fun a w hs => by
  obtain ⟨es, c, h1, h2⟩ := hp w hs.old hs.own
  have hB : Bel w.heap.size w (w.alloc (.map es c)) := (Bel.refl _ _).alloc (Nat.le_refl _) _
  have hrun : (Extern.MapsClone.clone #[.iface t (.map (some b))]).run P w = .ok (.iface t (.map (some w.heap.size))) (w.alloc (.map es c)) := by
   have e : Extern.MapsClone.clone #[.iface t (.map (some b))] = (getObj b >>= fun o => match o with
     | .map entries clock => (newObj (.map entries clock) >>= fun n => pure (.iface t (.map (some n))))
     | _ => stuck "maps.clone: a map expected") := rfl
   rw [e]
   simp [run_getObj h1, newObj, Sem.run]
  refine ⟨.iface t (.map (some w.heap.size)), w.alloc (.map es c), _, ?_, hs.old.trans (hB.mono hs.old.size), hs.own.grow (O' := [.mp w.heap.size m]) hB hs.old.size ⟨fun i hi => ?_, fun i hi b hb => ?_, List.pairwise_singleton _ _⟩, kk _⟩
  ·have hev := hs.sim.ev hx
   have he : a.eval (.func f) = .func (.func f) #[] #[] := rfl
   have hc := hf #[.iface t (.map (some b))] w
   rw [hrun, Result.andThen_ok] at hc
   simp [execOp, resolve, he, Deferred.ofValue, invoke, hc, hev]
  ·rw [List.mem_singleton.1 hi]
   exact ⟨es, c, heap_alloc_new w _, h2⟩
  ·rw [List.mem_singleton.1 hi] at hb
   simp only [It.S] at hb
   subst hb
   exact ⟨Nat.le_refl _, by simp⟩
end
def Nd (m : List (ByteArray × Value)) : Prop := (m.map (·.1)).Nodup
theorem mget_none_mem (k : ByteArray) : ∀ m : List (ByteArray × Value), mget m k = none ↔ k ∉ m.map (·.1)
 | [] => by simp [mget]
 | (x, v) :: r => by
  simp only [mget, List.map_cons, List.mem_cons, not_or]
  by_cases h : k = x
  ·simp [h]
  ·simp [h, mget_none_mem k r]
theorem mset_keys_in (k : ByteArray) (v : Value) : ∀ m : List (ByteArray × Value), k ∈ m.map (·.1) → (mset m k v).map (·.1) = m.map (·.1)
 | [], h => by simp at h
 | (x, u) :: r, h => by
  simp only [mset]
  by_cases hk : k = x
  ·simp [hk]
  ·rw [if_neg hk]
   simp only [List.map_cons, List.mem_cons, hk, false_or] at h ⊢
   rw [mset_keys_in k v r h]
theorem mset_keys_out (k : ByteArray) (v : Value) : ∀ m : List (ByteArray × Value), k ∉ m.map (·.1) → (mset m k v).map (·.1) = m.map (·.1) ++ [k]
 | [], _ => by simp [mset]
 | (x, u) :: r, h => by
  simp only [List.map_cons, List.mem_cons, not_or] at h
  simp only [mset, if_neg h.1, List.map_cons, mset_keys_out k v r h.2, List.cons_append]
theorem Nd.set {m : List (ByteArray × Value)} (h : Nd m) (k : ByteArray) (v : Value) : Nd (mset m k v) := by
 unfold Nd at h ⊢
 by_cases hk : k ∈ m.map (·.1)
 ·rw [mset_keys_in k v m hk]; exact h
 ·rw [mset_keys_out k v m hk, List.nodup_append]
  exact ⟨h, by simp, fun a ha b hb => by simp only [List.mem_singleton] at hb; subst hb; exact fun e => hk (e ▸ ha)⟩
theorem mdel_sub (k : ByteArray) : ∀ m : List (ByteArray × Value), (mdel m k).Sublist m
 | [] => List.Sublist.slnil
 | (x, u) :: r => by
  simp only [mdel]
  split
  ·exact List.sublist_cons_self _ _
  ·exact (mdel_sub k r).cons_cons _
theorem Nd.del {m : List (ByteArray × Value)} (h : Nd m) (k : ByteArray) : Nd (mdel m k) := List.Nodup.sublist ((mdel_sub k m).map _) h
theorem mget_mdel (k x : ByteArray) : ∀ {m : List (ByteArray × Value)}, Nd m → mget (mdel m k) x = if x = k then none else mget m x
 | [], _ => by simp [mdel, mget]
 | (y, u) :: r, h => by
  unfold Nd at h
  simp only [List.map_cons, List.nodup_cons] at h
  simp only [mdel]
  by_cases hk : k = y
  ·subst hk
   rw [if_pos rfl]
   by_cases hx : x = k
   ·subst hx
    rw [if_pos rfl]
    exact (mget_none_mem x r).2 h.1
   ·rw [if_neg hx, mget, if_neg hx]
  ·rw [if_neg hk]
   simp only [mget]
   by_cases hx : x = y
   ·subst hx
    rw [if_pos rfl, if_pos rfl, if_neg (fun e => hk e.symm)]
   ·rw [if_neg hx, if_neg hx, mget_mdel k x h.2]
theorem mdel_len (k : ByteArray) : ∀ {m : List (ByteArray × Value)}, (mget m k).isSome = true → (mdel m k).length + 1 = m.length
 | [], h => by simp [mget] at h
 | (y, u) :: r, h => by
  simp only [mget] at h
  simp only [mdel]
  by_cases hk : k = y
  ·simp [hk]
  ·rw [if_neg hk] at h ⊢
   simp [mdel_len k h]
theorem mset_len (k : ByteArray) (v : Value) : ∀ m : List (ByteArray × Value), (mset m k v).length ≤ m.length + 1
 | [] => by simp [mset]
 | (y, u) :: r => by
  simp only [mset]
  split
  ·simp
  ·simp [mset_len k v r]
end Go.Wk
