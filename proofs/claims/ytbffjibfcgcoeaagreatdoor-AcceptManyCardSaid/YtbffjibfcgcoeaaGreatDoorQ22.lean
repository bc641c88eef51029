/- Contracts: cmp.Compare, cmp.Or, events.order. Contracts: events.After$1. Contracts: events.best, After. Contracts: events.After, apart.Far. Contracts: numeric.sum. Contracts: format.around$1, format.right. -/
import Derived.Test.YtbffjibfcgcoeaaGreatDoorQ21
set_option linter.unusedVariables false
set_option linter.unusedSimpArgs false
namespace Go.Wk
open Go Go.RowKit
def cmpI (a b : Int) : Int := if a < b then -1 else if b < a then 1 else 0
def iEnc (i : Int) : List Value := [.int .i64 i]
def firstNz : List Int → Int
  | [] => 0
  | x :: l => if x = 0 then firstNz l else x
theorem ordE_eq (a b : DEvent) : ordE a b = firstNz [cmpI a.nominal b.nominal, cmpI a.rule b.rule, cmpI a.year b.year] := by
  unfold ordE cmpI firstNz firstNz firstNz firstNz
  repeat' split
  all_goals omega
end Go.Wk
namespace Go.Proofs.YtbffjibfcgcoeaaGreatDoor
open Go Go.RowKit Go.Wk
attribute [local irreducible] W RL Does thenQ blockQ retQ Calls Pu Stp RD Qy Ay DoesIn
theorem nan64_spec (a : Int) (w : World) : Does Tryz.prog 294 [.int .i64 a] w (fun v O => v = .bool false ∧ O = []) := by
  refine Does_of_W Tryz.func294 rfl rfl rfl rfl ?_
  repeat (first | refine walk ?_)
  exact ret_1 _ [] (.tmp rfl) .nil ⟨by simp, rfl⟩
theorem nanI_spec (a : Int) (w : World) : Does Tryz.prog 295 [.int .i64 a] w (fun v O => v = .bool false ∧ O = []) := by
  refine Does_of_W Tryz.func295 rfl rfl rfl rfl ?_
  repeat (first | refine walk ?_)
  exact ret_1 _ [] (.tmp rfl) .nil ⟨by simp, rfl⟩
theorem cmp64_spec (a b : Int) (w : World) : Does Tryz.prog 247 [.int .i64 a, .int .i64 b] w (fun v O => v = .int .i64 (cmpI a b) ∧ O = []) := by
  refine Does_of_W Tryz.func247 rfl rfl rfl rfl ?_
  repeat' (first | (apply RL_st0; (first | (apply Stp_call (h := fun w' _ _ => nan64_spec a w'); rfl; rintro v O' ⟨rfl, rfl⟩) | (apply Stp_call (h := fun w' _ _ => nan64_spec b w'); rfl; rintro v O' ⟨rfl, rfl⟩))) | (apply RL_st; rfl; (first | (apply Stp_call (h := fun w' _ _ => nan64_spec a w'); rfl; rintro v O' ⟨rfl, rfl⟩) | (apply Stp_call (h := fun w' _ _ => nan64_spec b w'); rfl; rintro v O' ⟨rfl, rfl⟩))) | refine walk ?_ | (refine W_cond rfl (fun hc => ?_) (fun hc => ?_)))
  all_goals first | (refine ret_1 _ [] (.tmp rfl) .nil ⟨?_, rfl⟩; first | rfl | (simp only [*, Bool.true_and, Bool.false_and, Bool.true_or, Bool.false_or, Bool.not_true, Bool.not_false]; done) | (simp_all [cmpI]; done) | (simp_all [cmpI]; omega) | (simp_all [cmpI]; rw [Bool.eq_iff_iff]; simp; omega)) | (exfalso; simp_all [cmpI]; done) | (exfalso; simp_all [cmpI]; omega) | (exfalso; omega)
theorem cmpN_spec (a b : Int) (w : World) : Does Tryz.prog 248 [.int .i64 a, .int .i64 b] w (fun v O => v = .int .i64 (cmpI a b) ∧ O = []) := by
  refine Does_of_W Tryz.func248 rfl rfl rfl rfl ?_
  repeat' (first | (apply RL_st0; (first | (apply Stp_call (h := fun w' _ _ => nanI_spec a w'); rfl; rintro v O' ⟨rfl, rfl⟩) | (apply Stp_call (h := fun w' _ _ => nanI_spec b w'); rfl; rintro v O' ⟨rfl, rfl⟩))) | (apply RL_st; rfl; (first | (apply Stp_call (h := fun w' _ _ => nanI_spec a w'); rfl; rintro v O' ⟨rfl, rfl⟩) | (apply Stp_call (h := fun w' _ _ => nanI_spec b w'); rfl; rintro v O' ⟨rfl, rfl⟩))) | refine walk ?_ | (refine W_cond rfl (fun hc => ?_) (fun hc => ?_)))
  all_goals first | (refine ret_1 _ [] (.tmp rfl) .nil ⟨?_, rfl⟩; first | rfl | (simp only [*, Bool.true_and, Bool.false_and, Bool.true_or, Bool.false_or, Bool.not_true, Bool.not_false]; done) | (simp_all [cmpI]; done) | (simp_all [cmpI]; omega) | (simp_all [cmpI]; rw [Bool.eq_iff_iff]; simp; omega)) | (exfalso; simp_all [cmpI]; done) | (exfalso; simp_all [cmpI]; omega) | (exfalso; omega)
theorem or_spec (A : Option Addr) (c : Nat) (l : List Int) (w : World) (hA : RdSl w A c iEnc 1 l) : Does Tryz.prog 246 [.slice A l.length c] w (fun v O => v = .int .i64 (firstNz l) ∧ O = []) := by
  have hle := hA.le
  have hcp := hA.cap
  unfold maxLen at hcp
  obtain ⟨res, hres⟩ : ∃ res, firstNz l = res := ⟨_, rfl⟩
  rw [hres]
  refine Does_of_W Tryz.func246 rfl rfl rfl rfl ?_
  repeat (first | refine walk ?_)
  refine W_loopF [(6, _), (7, _), (3, _)] [] (fun k : Nat => [(8, .int .i64 k)]) (fun _ => []) (fun k => k ≤ l.length ∧ firstNz (l.drop k) = res) (fun k => l.length - k) 0 (by repeat (first | exact trivial | refine ⟨rfl, ?_⟩)) (by first | exact .refl _ | focus repeat (first | exact SubO.nil | (apply SubO.cons; focus repeat' constructor))) ⟨Nat.zero_le _, hres⟩ ?_
  rintro k ⟨hk, hi⟩
  repeat (first | refine walk ?_)
  refine W_cond rfl (fun h => ?_) (fun h => ?_)
  · have hlt : k < l.length := by simpa using h
    obtain ⟨hna, hca⟩ := hA.rd k _ (List.getElem?_eq_getElem hlt)
    rw [drop_cons hlt, firstNz] at hi
    generalize l[k] = r at *
    repeat (first | (apply RL_pu; rfl; (first | (apply Pu_indexAddr; rfl; rfl; omega; omega; exact hna) | (apply Pu_loadO1; rfl; exact hca 0 _ rfl) | (apply Pu_add; rfl; rfl; (constructor <;> omega)))) | refine walk1 ?_)
    refine W_cond rfl (fun h2 => ?_) (fun h2 => ?_)
    · rw [if_neg (by simpa using h2)] at hi
      repeat (first | refine walk ?_)
      exact ret_1 _ [] (.tmp rfl) .nil ⟨by rw [← hi], rfl⟩
    · rw [if_pos (by simpa using h2)] at hi
      repeat (first | (apply RL_pu; rfl; (apply Pu_add; rfl; rfl; (constructor <;> omega))) | refine walk1 ?_)
      exact ⟨k + 1, (by first | omega | (dsimp only; omega)), ⟨(by first | omega | (dsimp only; omega)), hi⟩, (by repeat (first | exact trivial | refine ⟨rfl, ?_⟩)), .nil⟩
  · have hkl : k = l.length := by
      have := of_decide_eq_false h
      omega
    subst hkl
    rw [List.drop_length] at hi
    repeat (first | refine walk ?_)
    exact ret_1 _ [] (.tmp rfl) .nil ⟨by rw [← hi]; rfl, rfl⟩

theorem cellsRd {α : Type} {enc : α → List Value} {sz c : Nat} {ad : Addr} {l : List α} {w : World} (hsz : ∀ x, (enc x).length = sz) (h1 : l.length ≤ c) (h2 : c ≤ maxLen) (h : CellsAt w ad (l.flatMap enc)) : RdSl w (some ad) c enc sz l :=
  ⟨h1, h2, fun k x hk => ⟨by simp, fun j v hj => by
    rw [add_of_add]
    exact h _ v (flat_get hsz l k x j v hk hj)⟩⟩
theorem order_spec (a b : DEvent) (w : World) : Does Tryz.prog 207 [.agg (DEvent.enc a).toArray, .agg (DEvent.enc b).toArray] w (fun v O => v = .int .i64 (ordE a b) ∧ O = []) := by
  rw [ordE_eq]
  obtain ⟨y, r, n⟩ := a
  obtain ⟨y2, r2, n2⟩ := b
  dsimp only
  have h1 := cmp64_spec n n2
  have h2 := cmpN_spec r r2
  have h3 := cmp64_spec y y2
  generalize cmpI n n2 = x1 at *
  generalize cmpI r r2 = x2 at *
  generalize cmpI y y2 = x3 at *
  have h4 := fun (bk : Nat) w' (hc : CellsAt w' ⟨bk, 0, none⟩ [.int .i64 x1, .int .i64 x2, .int .i64 x3]) => or_spec (some ⟨bk, 0, none⟩) 3 [x1, x2, x3] w' (cellsRd (fun _ => rfl) (Nat.le_refl 3) (by decide) hc)
  show Does _ _ [.agg #[.int .i64 y, .int .i64 r, .int .i64 n], .agg #[.int .i64 y2, .int .i64 r2, .int .i64 n2]] w _
  refine Does_of_W Tryz.func207 rfl rfl rfl rfl ?_
  repeat (first | (apply RL_st0; (first | (apply Stp_call (h := fun w' _ _ => h1 w'); rfl; rintro v O' ⟨rfl, rfl⟩) | (apply Stp_call (h := fun w' _ _ => h2 w'); rfl; rintro v O' ⟨rfl, rfl⟩) | (apply Stp_call (h := fun w' _ _ => h3 w'); rfl; rintro v O' ⟨rfl, rfl⟩) | (apply Stp_call (h := fun w' _ hH => h4 _ w' (hH.cells (by (focus repeat' constructor)))); rfl; rintro v O' ⟨rfl, rfl⟩))) | (apply RL_st; rfl; (first | (apply Stp_call (h := fun w' _ _ => h1 w'); rfl; rintro v O' ⟨rfl, rfl⟩) | (apply Stp_call (h := fun w' _ _ => h2 w'); rfl; rintro v O' ⟨rfl, rfl⟩) | (apply Stp_call (h := fun w' _ _ => h3 w'); rfl; rintro v O' ⟨rfl, rfl⟩) | (apply Stp_call (h := fun w' _ hH => h4 _ w' (hH.cells (by (focus repeat' constructor)))); rfl; rintro v O' ⟨rfl, rfl⟩) | (apply Stp_boxNf; rfl; (focus repeat (first | exact Nf.nil | apply Nf.cons)); intro bk) | (apply Stp_buildSliceC; rfl; rfl; rfl; rfl; (focus repeat (first | exact Nf.nil | apply Nf.cons)); intro bk))) | refine walk ?_ | (refine RD_G0w ?_; intro F; (first | (apply Stp_call (h := fun w' _ _ => h1 w'); rfl; rintro v O' ⟨rfl, rfl⟩) | (apply Stp_call (h := fun w' _ _ => h2 w'); rfl; rintro v O' ⟨rfl, rfl⟩) | (apply Stp_call (h := fun w' _ _ => h3 w'); rfl; rintro v O' ⟨rfl, rfl⟩) | (apply Stp_call (h := fun w' _ hH => h4 _ w' (hH.cells (by (focus repeat' constructor)))); rfl; rintro v O' ⟨rfl, rfl⟩)); refine ⟨_, EndsA, SubO.right _ _, ?_⟩) | (refine RD_Lw ?_; intro F; (first | (apply Stp_call (h := fun w' _ _ => h1 w'); rfl; rintro v O' ⟨rfl, rfl⟩) | (apply Stp_call (h := fun w' _ _ => h2 w'); rfl; rintro v O' ⟨rfl, rfl⟩) | (apply Stp_call (h := fun w' _ _ => h3 w'); rfl; rintro v O' ⟨rfl, rfl⟩) | (apply Stp_call (h := fun w' _ hH => h4 _ w' (hH.cells (by (focus repeat' constructor)))); rfl; rintro v O' ⟨rfl, rfl⟩) | (apply Stp_boxNf; rfl; (focus repeat (first | exact Nf.nil | apply Nf.cons)); intro bk) | (apply Stp_buildSliceC; rfl; rfl; rfl; rfl; (focus repeat (first | exact Nf.nil | apply Nf.cons)); intro bk) | (apply Stp_pu; exact PuA)); refine ⟨_, EndsA, QFA, ?_⟩) | (apply RD_W; rfl; intro bk))
  exact ret_1 _ [] (.tmp rfl) .nil ⟨rfl, rfl⟩
end Go.Proofs.YtbffjibfcgcoeaaGreatDoor

namespace Go.Wk
open Go Go.RowKit
section
variable {P : Program} {n : Nat} {wr : World} {fr : Fr} {O : List It} {ty : TypeId}
theorem Pu_max3 {x y z : Operand} {ts : Array TypeId} {k : IntKind} {i j l q : Int} (hx : ev fr x = some (.int k i)) (hy : ev fr y = some (.int k j)) (hz : ev fr z = some (.int k l)) (hq : max (max i j) l = q) : Pu P n wr fr O (.call ⟨.builtin .max, #[x, y, z], ts⟩) ty (.int k q) := by
  have h1 : (if i < j then j else i) = max i j := by split <;> omega
  have h2 : (if max i j < l then l else max i j) = q := by rw [← hq]; split <;> omega
  exact fun a w hs _ _ _ _ => by
    simp only [execOp, resolve, invoke, builtin, Builtin.max_, Builtin.max2, hs.sim.ev hx, hs.sim.ev hy, hs.sim.ev hz]
    simp [execOp, resolve, invoke, builtin, Builtin.max_, Builtin.max2, hs.sim.ev hx, hs.sim.ev hy, hs.sim.ev hz, h1, h2]
end
end Go.Wk
namespace Go.Proofs.YtbffjibfcgcoeaaGreatDoor
open Go Go.RowKit Go.Wk
attribute [local irreducible] W RL Does thenQ blockQ retQ Calls Pu Stp RD Qy Ay DoesIn
theorem after1_spec (A : Option Addr) (c : Nat) (l : List DRule) (i : Nat) (r : DRule) (yr nominal : Int) (b1 b2 b3 : Nat) (w : World) (hG : Glob w) (hA : RdSl w A c DRule.enc 11 l) (hi : l[i]? = some r) (hn : l.length ≤ 1000000) (hR : ∀ r ∈ l, -4611686018427387904 ≤ r.save ∧ r.save ≤ 4611686018427387904)
    (hy : -2000000000 ≤ yr ∧ yr ≤ 2000000000) (hf : r.from_ ≤ 4611686018427387904) (c1 : CellsAt w ⟨b1, 0, none⟩ [.slice A l.length c]) (c2 : CellsAt w ⟨b2, 0, none⟩ [.int .i64 yr]) (c3 : CellsAt w ⟨b3, 0, none⟩ [.int .i64 nominal]) :
    Does Tryz.prog 255 [.int .i64 i, .pointer (some ⟨b1, 0, none⟩), .pointer (some ⟨b2, 0, none⟩), .pointer (some ⟨b3, 0, none⟩)] w (fun v O => v = .tuple #[evV (evIn (leastD l) nominal r i (max (max r.from_ (-2000000000)) (yr - 2)) 20), .bool (evIn (leastD l) nominal r i (max (max r.from_ (-2000000000)) (yr - 2)) 20).isSome] ∧ O = []) := by
  have hlt : i < l.length := (List.getElem?_eq_some_iff.1 hi).1
  obtain ⟨y0, hy0⟩ : ∃ y0, max (max r.from_ (-2000000000)) (yr - 2) = y0 := ⟨_, rfl⟩
  have hyb : -3000000000 ≤ y0 ∧ y0 ≤ 4611686018427387904 := by omega
  rw [hy0]
  obtain ⟨res, hres⟩ : ∃ res, evIn (leastD l) nominal r i y0 20 = res := ⟨_, rfl⟩
  rw [hres]
  have hon := fun y w' (hw : Bel w.heap.size w w') => evOn_spec A c l i y r w' (hG.up hw) (hA.up hw) hi hn hR
  obtain ⟨hna, hca⟩ := hA.rd i _ hi
  generalize leastD l = least at *
  have hfr : ((DRule.enc r)[1]?) = some (.int .i64 r.from_) := rfl
  have hcell : w.cell? (((adr A).add (i * 11)).add 1) = some (.int .i64 r.from_) := hca 1 _ hfr
  refine Does_of_W Tryz.func255 rfl rfl rfl rfl ?_
  repeat (first | (apply RL_pu; rfl; (first | (apply Pu_indexAddr; rfl; rfl; omega; omega; exact hna) | (apply Pu_loadO1; rfl; first | exact c1 0 _ rfl | exact c2 0 _ rfl | exact c3 0 _ rfl | exact hcell) | (apply Pu_add; rfl; rfl; (constructor <;> omega)) | (apply Pu_sub'; rfl; rfl; (constructor <;> omega)) | (apply Pu_max3; rfl; rfl; rfl; exact hy0))) | (apply RL_st; rfl; (apply Stp_alloc; intro bk)) | (apply RD_Q; rfl; rfl; decide +kernel; rfl; rfl; (first | (apply Qy_y; rfl; (first | (apply Pu_indexAddr; rfl; rfl; omega; omega; exact hna) | (apply Pu_loadO1; rfl; first | exact c1 0 _ rfl | exact c2 0 _ rfl | exact c3 0 _ rfl | exact hcell) | (apply Pu_add; rfl; rfl; (constructor <;> omega)) | (apply Pu_sub'; rfl; rfl; (constructor <;> omega)) | (apply Pu_max3; rfl; rfl; rfl; exact hy0))) | exact QyA)) | refine walk1 ?_ | (refine RD_Lw ?_; intro F; (first | (apply Stp_alloc; intro bk) | (apply Stp_storeNf; rfl; rfl; (focus repeat' constructor); (focus repeat (first | exact Nf.nil | apply Nf.cons)); rfl; rfl; rfl; (focus repeat' constructor)) | (apply Stp_pu; first | (apply Pu_indexAddr; rfl; rfl; omega; omega; exact hna) | (apply Pu_loadO1; rfl; first | exact c1 0 _ rfl | exact c2 0 _ rfl | exact c3 0 _ rfl | exact hcell) | (apply Pu_add; rfl; rfl; (constructor <;> omega)) | (apply Pu_sub'; rfl; rfl; (constructor <;> omega)) | (apply Pu_max3; rfl; rfl; rfl; exact hy0) | exact PuA)); refine ⟨_, EndsA, (by repeat (first | exact QF.nil | (apply QF.mk; rfl; rfl; decide +kernel; (first | (apply Qy_y; rfl; (first | (apply Pu_indexAddr; rfl; rfl; omega; omega; exact hna) | (apply Pu_loadO1; rfl; first | exact c1 0 _ rfl | exact c2 0 _ rfl | exact c3 0 _ rfl | exact hcell) | (apply Pu_add; rfl; rfl; (constructor <;> omega)) | (apply Pu_sub'; rfl; rfl; (constructor <;> omega)) | (apply Pu_max3; rfl; rfl; rfl; exact hy0))) | exact QyA)))), ?_⟩) | (apply RD_W; rfl; intro bk))
  refine W_loopF [(0, .int .i64 i), (1, .pointer (some ⟨b1, 0, none⟩)), (2, .pointer (some ⟨b2, 0, none⟩)), (3, .pointer (some ⟨b3, 0, none⟩)), (7, .int .i64 y0), (5, .pointer (some ⟨bk, 0, none⟩))] [.blk bk [.int .i64 0, .int .i64 0, .int .i64 0] 139] (fun j : Nat => [(19, .int .i64 j)]) (fun _ => []) (fun j => j ≤ 20 ∧ evIn least nominal r i (y0 + j) (20 - j) = res) (fun j => 20 - j) 0 (by repeat (first | exact trivial | refine ⟨rfl, ?_⟩)) (by first | exact .refl _ | focus repeat (first | exact SubO.nil | (apply SubO.cons; focus repeat' constructor))) ⟨Nat.zero_le _, by simpa using hres⟩ ?_
  rintro j ⟨hj, hi2⟩
  repeat (first | (apply RL_st; rfl; (apply Stp_alloc; intro bk)) | refine walk ?_ | (refine RD_Lw ?_; intro F; (first | (apply Stp_alloc; intro bk) | (apply Stp_storeNf; rfl; rfl; (focus repeat' constructor); (focus repeat (first | exact Nf.nil | apply Nf.cons)); rfl; rfl; rfl; (focus repeat' constructor)) | (apply Stp_pu; exact PuA)); refine ⟨_, EndsA, QFA, ?_⟩) | (apply RD_W; rfl; intro bk))
  refine W_cond rfl (fun h => ?_) (fun h => ?_)
  · have hj20 : j < 20 := by have := of_decide_eq_true h; omega
    rw [show 20 - j = (19 - j) + 1 by omega, evIn] at hi2
    have ho := hon (y0 + j)
    generalize onR least r i (y0 + j) = o at *
    cases o with
    | none =>
      simp only [evV, DEvent.enc, dEv0, Option.isSome] at ho
      repeat (first | (apply RL_pu; rfl; (first | (apply Pu_loadO1; rfl; first | exact c1 0 _ rfl | exact c2 0 _ rfl | exact c3 0 _ rfl) | (apply Pu_add; rfl; rfl; (constructor <;> omega)) | (apply Pu_sub'; rfl; rfl; (constructor <;> omega)))) | (apply RL_st0; (apply Stp_call (h := fun w' hw _ => ho w' hw); rfl; rintro v O' ⟨rfl, rfl⟩)) | (apply RL_st; rfl; (first | (apply Stp_call (h := fun w' hw _ => ho w' hw); rfl; rintro v O' ⟨rfl, rfl⟩) | (apply Stp_alloc; intro bk))) | (apply RD_Q; rfl; rfl; decide +kernel; rfl; rfl; (first | (apply Qy_y; rfl; (first | (apply Pu_loadO1; rfl; first | exact c1 0 _ rfl | exact c2 0 _ rfl | exact c3 0 _ rfl) | (apply Pu_add; rfl; rfl; (constructor <;> omega)) | (apply Pu_sub'; rfl; rfl; (constructor <;> omega)))) | exact QyA)) | refine walk1 ?_ | (refine RD_G0w ?_; intro F; (apply Stp_call (h := fun w' hw _ => ho w' hw); rfl; rintro v O' ⟨rfl, rfl⟩); refine ⟨_, EndsA, SubO.right _ _, ?_⟩) | (refine RD_Lw ?_; intro F; (first | (apply Stp_call (h := fun w' hw _ => ho w' hw); rfl; rintro v O' ⟨rfl, rfl⟩) | (apply Stp_alloc; intro bk) | (apply Stp_storeNf; rfl; rfl; (focus repeat' constructor); (focus repeat (first | exact Nf.nil | apply Nf.cons)); rfl; rfl; rfl; (focus repeat' constructor)) | (apply Stp_pu; first | (apply Pu_loadO1; rfl; first | exact c1 0 _ rfl | exact c2 0 _ rfl | exact c3 0 _ rfl) | (apply Pu_add; rfl; rfl; (constructor <;> omega)) | (apply Pu_sub'; rfl; rfl; (constructor <;> omega)) | exact PuA)); refine ⟨_, EndsA, (by repeat (first | exact QF.nil | (apply QF.mk; rfl; rfl; decide +kernel; (first | (apply Qy_y; rfl; (first | (apply Pu_loadO1; rfl; first | exact c1 0 _ rfl | exact c2 0 _ rfl | exact c3 0 _ rfl) | (apply Pu_add; rfl; rfl; (constructor <;> omega)) | (apply Pu_sub'; rfl; rfl; (constructor <;> omega)))) | exact QyA)))), ?_⟩) | (apply RD_W; rfl; intro bk))
      exact ⟨j + 1, (by first | omega | (dsimp only; omega)), ⟨(by first | omega | (dsimp only; omega)), by rw [show 20 - (j + 1) = 19 - j by omega, show y0 + ((j + 1 : Nat) : Int) = y0 + j + 1 by omega]; exact hi2⟩, (by repeat (first | exact trivial | refine ⟨rfl, ?_⟩)), (by first | exact .refl _ | focus repeat (first | exact SubO.nil | (apply SubO.cons; focus repeat' constructor)))⟩
    | some e =>
      obtain ⟨ey, er, en⟩ := e
      simp only [evV, DEvent.enc, Option.isSome] at ho hi2
      repeat (first | (apply RL_pu; rfl; (first | (apply Pu_loadO1; rfl; first | exact c1 0 _ rfl | exact c2 0 _ rfl | exact c3 0 _ rfl) | (apply Pu_add; rfl; rfl; (constructor <;> omega)) | (apply Pu_sub'; rfl; rfl; (constructor <;> omega)))) | (apply RL_st0; (apply Stp_call (h := fun w' hw _ => ho w' hw); rfl; rintro v O' ⟨rfl, rfl⟩)) | (apply RL_st; rfl; (first | (apply Stp_call (h := fun w' hw _ => ho w' hw); rfl; rintro v O' ⟨rfl, rfl⟩) | (apply Stp_alloc; intro bk))) | (apply RD_Q; rfl; rfl; decide +kernel; rfl; rfl; (first | (apply Qy_y; rfl; (first | (apply Pu_loadO1; rfl; first | exact c1 0 _ rfl | exact c2 0 _ rfl | exact c3 0 _ rfl) | (apply Pu_add; rfl; rfl; (constructor <;> omega)) | (apply Pu_sub'; rfl; rfl; (constructor <;> omega)))) | exact QyA)) | refine walk1 ?_ | (refine RD_G0w ?_; intro F; (apply Stp_call (h := fun w' hw _ => ho w' hw); rfl; rintro v O' ⟨rfl, rfl⟩); refine ⟨_, EndsA, SubO.right _ _, ?_⟩) | (refine RD_Lw ?_; intro F; (first | (apply Stp_call (h := fun w' hw _ => ho w' hw); rfl; rintro v O' ⟨rfl, rfl⟩) | (apply Stp_alloc; intro bk) | (apply Stp_storeNf; rfl; rfl; (focus repeat' constructor); (focus repeat (first | exact Nf.nil | apply Nf.cons)); rfl; rfl; rfl; (focus repeat' constructor)) | (apply Stp_pu; first | (apply Pu_loadO1; rfl; first | exact c1 0 _ rfl | exact c2 0 _ rfl | exact c3 0 _ rfl) | (apply Pu_add; rfl; rfl; (constructor <;> omega)) | (apply Pu_sub'; rfl; rfl; (constructor <;> omega)) | exact PuA)); refine ⟨_, EndsA, (by repeat (first | exact QF.nil | (apply QF.mk; rfl; rfl; decide +kernel; (first | (apply Qy_y; rfl; (first | (apply Pu_loadO1; rfl; first | exact c1 0 _ rfl | exact c2 0 _ rfl | exact c3 0 _ rfl) | (apply Pu_add; rfl; rfl; (constructor <;> omega)) | (apply Pu_sub'; rfl; rfl; (constructor <;> omega)))) | exact QyA)))), ?_⟩) | (apply RD_W; rfl; intro bk))
      refine W_cond rfl (fun h2 => ?_) (fun h2 => ?_)
      · rw [if_pos (of_decide_eq_true h2)] at hi2
        subst hi2
        repeat (first | (apply RL_st; rfl; (apply Stp_alloc; intro bk)) | refine walk ?_ | (refine RD_Lw ?_; intro F; (first | (apply Stp_alloc; intro bk) | (apply Stp_storeNf; rfl; rfl; (focus repeat' constructor); (focus repeat (first | exact Nf.nil | apply Nf.cons)); rfl; rfl; rfl; (focus repeat' constructor)) | (apply Stp_pu; exact PuA)); refine ⟨_, EndsA, QFA, ?_⟩) | (apply RD_W; rfl; intro bk))
        exact ret_2 _ _ [] (.cellB rfl (by (focus repeat' constructor)) rfl rfl) (.tmp rfl) .nil ⟨rfl, rfl⟩
      · rw [if_neg (of_decide_eq_false h2)] at hi2
        repeat (first | (apply RL_pu; rfl; (first | (apply Pu_add; rfl; rfl; (constructor <;> omega)) | (apply Pu_sub'; rfl; rfl; (constructor <;> omega)))) | (apply RL_st; rfl; (apply Stp_alloc; intro bk)) | (apply RD_Q; rfl; rfl; decide +kernel; rfl; rfl; (first | (apply Qy_y; rfl; (first | (apply Pu_add; rfl; rfl; (constructor <;> omega)) | (apply Pu_sub'; rfl; rfl; (constructor <;> omega)))) | exact QyA)) | refine walk1 ?_ | (refine RD_Lw ?_; intro F; (first | (apply Stp_alloc; intro bk) | (apply Stp_storeNf; rfl; rfl; (focus repeat' constructor); (focus repeat (first | exact Nf.nil | apply Nf.cons)); rfl; rfl; rfl; (focus repeat' constructor)) | (apply Stp_pu; first | (apply Pu_add; rfl; rfl; (constructor <;> omega)) | (apply Pu_sub'; rfl; rfl; (constructor <;> omega)) | exact PuA)); refine ⟨_, EndsA, (by repeat (first | exact QF.nil | (apply QF.mk; rfl; rfl; decide +kernel; (first | (apply Qy_y; rfl; (first | (apply Pu_add; rfl; rfl; (constructor <;> omega)) | (apply Pu_sub'; rfl; rfl; (constructor <;> omega)))) | exact QyA)))), ?_⟩) | (apply RD_W; rfl; intro bk))
        exact ⟨j + 1, (by first | omega | (dsimp only; omega)), ⟨(by first | omega | (dsimp only; omega)), by rw [show 20 - (j + 1) = 19 - j by omega, show y0 + ((j + 1 : Nat) : Int) = y0 + j + 1 by omega]; exact hi2⟩, (by repeat (first | exact trivial | refine ⟨rfl, ?_⟩)), (by first | exact .refl _ | focus repeat (first | exact SubO.nil | (apply SubO.cons; focus repeat' constructor)))⟩
  · obtain rfl : j = 20 := by have := of_decide_eq_false h; omega
    obtain rfl : none = res := by rw [← hi2]; rfl
    repeat (first | (apply RL_st; rfl; (apply Stp_alloc; intro bk)) | refine walk ?_ | (refine RD_Lw ?_; intro F; (first | (apply Stp_alloc; intro bk) | (apply Stp_storeNf; rfl; rfl; (focus repeat' constructor); (focus repeat (first | exact Nf.nil | apply Nf.cons)); rfl; rfl; rfl; (focus repeat' constructor)) | (apply Stp_pu; exact PuA)); refine ⟨_, EndsA, QFA, ?_⟩) | (apply RD_W; rfl; intro bk))
    exact ret_2 _ _ [] (.cellB rfl (by (focus repeat' constructor)) rfl rfl) (.tmp rfl) .nil ⟨rfl, rfl⟩
end Go.Proofs.YtbffjibfcgcoeaaGreatDoor

namespace Go.Proofs.YtbffjibfcgcoeaaGreatDoor
open Go Go.RowKit Go.Wk
attribute [local irreducible] W RL Does thenQ blockQ retQ Calls Pu Stp RD Qy Ay DoesIn
def evC : Option DEvent → List Value
  | some e => DEvent.enc e
  | none => DEvent.enc dEv0
structure BG where
  k : Nat
  b : Option DEvent
theorem best_spec (A : Option Addr) (c : Nat) (l : List DRule) (yr nominal : Int) (b1 b2 b3 : Nat) (w : World) (hG : Glob w) (hA : RdSl w A c DRule.enc 11 l) (hn : l.length ≤ 1000000) (hR : ∀ r ∈ l, (-4611686018427387904 ≤ r.save ∧ r.save ≤ 4611686018427387904) ∧ r.from_ ≤ 4611686018427387904)
    (hy : -2000000000 ≤ yr ∧ yr ≤ 2000000000) (c1 : CellsAt w ⟨b1, 0, none⟩ [.slice A l.length c]) (c2 : CellsAt w ⟨b2, 0, none⟩ [.int .i64 yr]) (c3 : CellsAt w ⟨b3, 0, none⟩ [.int .i64 nominal]) :
    Does Tryz.prog 254 [.slice A l.length c, .func (.func 255) #[] #[.pointer (some ⟨b1, 0, none⟩), .pointer (some ⟨b2, 0, none⟩), .pointer (some ⟨b3, 0, none⟩)], .func (.func 207) #[] #[]] w
      (fun v O => v = .tuple #[evV (afterGo (leastD l) nominal yr l 0 none), .bool (afterGo (leastD l) nominal yr l 0 none).isSome] ∧ O = []) := by
  have haf := fun (i : Nat) r (hi : l[i]? = some r) w' (hw : Bel w.heap.size w w') => after1_spec A c l i r yr nominal b1 b2 b3 w' (hG.up hw) (hA.up hw) hi hn (fun r hr => (hR r hr).1) hy (hR r (List.mem_of_getElem? hi)).2 (c1.up hw (Nat.le_refl _)) (c2.up hw (Nat.le_refl _)) (c3.up hw (Nat.le_refl _))
  obtain ⟨res, hres⟩ : ∃ res, afterGo (leastD l) nominal yr l 0 none = res := ⟨_, rfl⟩
  rw [hres]
  generalize leastD l = least at *
  clear hA hR c1 c2 c3
  refine Does_of_W Tryz.func254 rfl rfl rfl rfl ?_
  repeat (first | (apply RL_st; rfl; (apply Stp_alloc; intro bk)) | refine walk ?_)
  rename_i b6
  refine W_loopF [(13, .slice A l.length c), (1, .func (.func 255) #[] #[.pointer (some ⟨b1, 0, none⟩), .pointer (some ⟨b2, 0, none⟩), .pointer (some ⟨b3, 0, none⟩)]), (2, .func (.func 207) #[] #[]), (8, .pointer (some ⟨bk, 0, none⟩)), (6, .pointer (some ⟨b6, 0, none⟩)), (14, .int .i64 l.length)] [.blk b6 [.int .i64 0, .int .i64 0, .int .i64 0] 139]
    (fun g : BG => [(15, .int .i64 g.k), (9, .bool g.b.isSome)]) (fun g => [.blk bk (evC g.b) 139]) (fun g => g.k ≤ l.length ∧ afterGo least nominal yr (l.drop g.k) g.k g.b = res) (fun g => l.length - g.k) ⟨0, none⟩ (by repeat (first | exact trivial | refine ⟨rfl, ?_⟩)) (by first | exact .refl _ | focus repeat (first | exact SubO.nil | (apply SubO.cons; focus repeat' constructor))) ⟨Nat.zero_le _, hres⟩ ?_
  rintro ⟨k, b⟩ ⟨hk, hi⟩
  dsimp only at hk hi ⊢
  repeat (first | (apply RL_st; rfl; (apply Stp_alloc; intro bk)) | refine walk ?_)
  refine W_cond rfl (fun h => ?_) (fun h => ?_)
  · have hlt : k < l.length := by simpa using h
    have ho := haf k _ (List.getElem?_eq_getElem hlt)
    rw [drop_cons hlt, afterGo] at hi
    generalize evIn least nominal l[k] k (max (max l[k].from_ (-2000000000)) (yr - 2)) 20 = o at *
    have hord := fun e e2 w' => order_spec e e2 w'
    rcases o with _ | ⟨ey, er, en⟩ <;> rcases b with _ | ⟨by_, br, bn⟩ <;> simp only [evV, evC, DEvent.enc, dEv0, Option.isSome] at ho hi ⊢
    · repeat (first | (refine RL_und rfl rfl rfl rfl ?_) | (apply RL_pu; rfl; (first | (apply Pu_add; rfl; rfl; (constructor <;> omega)) | (apply Pu_sub'; rfl; rfl; (constructor <;> omega)))) | (apply RL_st0; (apply Stp_callV (f := 255) (us := []) (vs := [.int .i64 k]) (cs := [.pointer (some ⟨b1, 0, none⟩), .pointer (some ⟨b2, 0, none⟩), .pointer (some ⟨b3, 0, none⟩)]) (h := fun w' hw _ => ho w' hw); rfl; rfl; rintro v O' ⟨rfl, rfl⟩)) | (apply RL_st; rfl; (first | (apply Stp_callV (f := 255) (us := []) (vs := [.int .i64 k]) (cs := [.pointer (some ⟨b1, 0, none⟩), .pointer (some ⟨b2, 0, none⟩), .pointer (some ⟨b3, 0, none⟩)]) (h := fun w' hw _ => ho w' hw); rfl; rfl; rintro v O' ⟨rfl, rfl⟩) | (apply Stp_alloc; intro bk))) | refine walk1 ?_)
      exact ⟨⟨k + 1, none⟩, (by first | omega | (dsimp only; omega)), ⟨(by first | omega | (dsimp only; omega)), hi⟩, (by repeat (first | exact trivial | refine ⟨rfl, ?_⟩)), (by first | exact .refl _ | focus repeat (first | exact SubO.nil | (apply SubO.cons; focus repeat' constructor)))⟩
    · repeat (first | (refine RL_und rfl rfl rfl rfl ?_) | (apply RL_pu; rfl; (first | (apply Pu_add; rfl; rfl; (constructor <;> omega)) | (apply Pu_sub'; rfl; rfl; (constructor <;> omega)))) | (apply RL_st0; (apply Stp_callV (f := 255) (us := []) (vs := [.int .i64 k]) (cs := [.pointer (some ⟨b1, 0, none⟩), .pointer (some ⟨b2, 0, none⟩), .pointer (some ⟨b3, 0, none⟩)]) (h := fun w' hw _ => ho w' hw); rfl; rfl; rintro v O' ⟨rfl, rfl⟩)) | (apply RL_st; rfl; (first | (apply Stp_callV (f := 255) (us := []) (vs := [.int .i64 k]) (cs := [.pointer (some ⟨b1, 0, none⟩), .pointer (some ⟨b2, 0, none⟩), .pointer (some ⟨b3, 0, none⟩)]) (h := fun w' hw _ => ho w' hw); rfl; rfl; rintro v O' ⟨rfl, rfl⟩) | (apply Stp_alloc; intro bk))) | refine walk1 ?_)
      exact ⟨⟨k + 1, some ⟨by_, br, bn⟩⟩, (by first | omega | (dsimp only; omega)), ⟨(by first | omega | (dsimp only; omega)), hi⟩, (by repeat (first | exact trivial | refine ⟨rfl, ?_⟩)), (by first | exact .refl _ | focus repeat (first | exact SubO.nil | (apply SubO.cons; focus repeat' constructor)))⟩
    · repeat (first | (refine RL_und rfl rfl rfl rfl ?_) | (apply RL_pu; rfl; (first | (apply Pu_add; rfl; rfl; (constructor <;> omega)) | (apply Pu_sub'; rfl; rfl; (constructor <;> omega)))) | (apply RL_st0; (apply Stp_callV (f := 255) (us := []) (vs := [.int .i64 k]) (cs := [.pointer (some ⟨b1, 0, none⟩), .pointer (some ⟨b2, 0, none⟩), .pointer (some ⟨b3, 0, none⟩)]) (h := fun w' hw _ => ho w' hw); rfl; rfl; rintro v O' ⟨rfl, rfl⟩)) | (apply RL_st; rfl; (first | (apply Stp_callV (f := 255) (us := []) (vs := [.int .i64 k]) (cs := [.pointer (some ⟨b1, 0, none⟩), .pointer (some ⟨b2, 0, none⟩), .pointer (some ⟨b3, 0, none⟩)]) (h := fun w' hw _ => ho w' hw); rfl; rfl; rintro v O' ⟨rfl, rfl⟩) | (apply Stp_alloc; intro bk))) | refine walk1 ?_)
      exact ⟨⟨k + 1, some ⟨ey, er, en⟩⟩, (by first | omega | (dsimp only; omega)), ⟨(by first | omega | (dsimp only; omega)), hi⟩, (by repeat (first | exact trivial | refine ⟨rfl, ?_⟩)), (by first | exact .refl _ | focus repeat (first | exact SubO.nil | (apply SubO.cons; focus repeat' constructor)))⟩
    · repeat (first | (refine RL_und rfl rfl rfl rfl ?_) | (apply RL_pu; rfl; (first | (apply Pu_add; rfl; rfl; (constructor <;> omega)) | (apply Pu_sub'; rfl; rfl; (constructor <;> omega)))) | (apply RL_st0; (first | (apply Stp_callV (f := 255) (us := []) (vs := [.int .i64 k]) (cs := [.pointer (some ⟨b1, 0, none⟩), .pointer (some ⟨b2, 0, none⟩), .pointer (some ⟨b3, 0, none⟩)]) (h := fun w' hw _ => ho w' hw); rfl; rfl; rintro v O' ⟨rfl, rfl⟩) | (apply Stp_callV (f := 207) (us := []) (cs := []) (vs := [.agg #[.int .i64 ey, .int .i64 er, .int .i64 en], .agg #[.int .i64 by_, .int .i64 br, .int .i64 bn]]) (h := fun w' hw _ => hord ⟨ey, er, en⟩ ⟨by_, br, bn⟩ w'); rfl; rfl; rintro v O' ⟨rfl, rfl⟩))) | (apply RL_st; rfl; (first | (apply Stp_callV (f := 255) (us := []) (vs := [.int .i64 k]) (cs := [.pointer (some ⟨b1, 0, none⟩), .pointer (some ⟨b2, 0, none⟩), .pointer (some ⟨b3, 0, none⟩)]) (h := fun w' hw _ => ho w' hw); rfl; rfl; rintro v O' ⟨rfl, rfl⟩) | (apply Stp_callV (f := 207) (us := []) (cs := []) (vs := [.agg #[.int .i64 ey, .int .i64 er, .int .i64 en], .agg #[.int .i64 by_, .int .i64 br, .int .i64 bn]]) (h := fun w' hw _ => hord ⟨ey, er, en⟩ ⟨by_, br, bn⟩ w'); rfl; rfl; rintro v O' ⟨rfl, rfl⟩) | (apply Stp_alloc; intro bk))) | refine walk1 ?_)
      refine W_cond rfl (fun h2 => ?_) (fun h2 => ?_)
      · rw [if_pos (of_decide_eq_true h2)] at hi
        repeat (first | (apply RL_pu; rfl; (first | (apply Pu_add; rfl; rfl; (constructor <;> omega)) | (apply Pu_sub'; rfl; rfl; (constructor <;> omega)))) | (apply RL_st; rfl; (apply Stp_alloc; intro bk)) | refine walk1 ?_)
        exact ⟨⟨k + 1, some ⟨ey, er, en⟩⟩, (by first | omega | (dsimp only; omega)), ⟨(by first | omega | (dsimp only; omega)), hi⟩, (by repeat (first | exact trivial | refine ⟨rfl, ?_⟩)), (by first | exact .refl _ | focus repeat (first | exact SubO.nil | (apply SubO.cons; focus repeat' constructor)))⟩
      · rw [if_neg (of_decide_eq_false h2)] at hi
        repeat (first | (apply RL_pu; rfl; (first | (apply Pu_add; rfl; rfl; (constructor <;> omega)) | (apply Pu_sub'; rfl; rfl; (constructor <;> omega)))) | (apply RL_st; rfl; (apply Stp_alloc; intro bk)) | refine walk1 ?_)
        exact ⟨⟨k + 1, some ⟨by_, br, bn⟩⟩, (by first | omega | (dsimp only; omega)), ⟨(by first | omega | (dsimp only; omega)), hi⟩, (by repeat (first | exact trivial | refine ⟨rfl, ?_⟩)), (by first | exact .refl _ | focus repeat (first | exact SubO.nil | (apply SubO.cons; focus repeat' constructor)))⟩
  · obtain rfl : k = l.length := by have := of_decide_eq_false h; omega
    rw [List.drop_length, afterGo] at hi
    subst hi
    rcases b with _ | ⟨by_, br, bn⟩ <;> simp only [evC, DEvent.enc, dEv0]
    · repeat (first | (apply RL_st; rfl; (apply Stp_alloc; intro bk)) | refine walk ?_)
      exact ret_2 _ _ [] (.cellB rfl (by (focus repeat' constructor)) rfl rfl) (.tmp rfl) .nil ⟨rfl, rfl⟩
    · repeat (first | (apply RL_st; rfl; (apply Stp_alloc; intro bk)) | refine walk ?_)
      exact ret_2 _ _ [] (.cellB rfl (by (focus repeat' constructor)) rfl rfl) (.tmp rfl) .nil ⟨rfl, rfl⟩
end Go.Proofs.YtbffjibfcgcoeaaGreatDoor

namespace Go.Proofs.YtbffjibfcgcoeaaGreatDoor
open Go Go.RowKit Go.Wk
attribute [local irreducible] W RL Does thenQ blockQ retQ Calls Pu Stp RD Qy Ay DoesIn
theorem yearOf_bd (t : Int) : -2000000000 ≤ yearOf t ∧ yearOf t ≤ 2000000000 := by unfold yearOf; omega
def RsOk (l : List DRule) : Prop := ∀ r ∈ l, (-4611686018427387904 ≤ r.save ∧ r.save ≤ 4611686018427387904) ∧ r.from_ ≤ 4611686018427387904
theorem after_spec (A : Option Addr) (c : Nat) (l : List DRule) (nominal : Int) (w : World) (hG : Glob w) (hA : RdSl w A c DRule.enc 11 l) (hn : l.length ≤ 1000000) (hR : RsOk l) (ht : -4611686018427387904 ≤ nominal ∧ nominal ≤ 4611686018427387904) :
    Does Tryz.prog 213 [.slice A l.length c, .int .i64 nominal] w (fun v O => v = .tuple #[evV (afterD l nominal), .bool (afterD l nominal).isSome] ∧ O = []) := by
  have hb := fun (b1 b2 b3 : Nat) w' (hw : Bel w.heap.size w w') c1 c2 c3 => best_spec A c l (yearOf nominal) nominal b1 b2 b3 w' (hG.up hw) (hA.up hw) hn hR (yearOf_bd nominal) c1 c2 c3
  change ∀ (b1 b2 b3 : Nat) w' (hw : Bel w.heap.size w w') c1 c2 c3, Does _ _ _ w' (fun v O => v = .tuple #[evV (afterD l nominal), .bool (afterD l nominal).isSome] ∧ O = []) at hb
  have hyr := fun w' (hw : Bel w.heap.size w w') => year_spec nominal ht w' (hG.up hw)
  generalize afterD l nominal = res at *
  generalize yearOf nominal = yr at *
  refine Does_of_W Tryz.func213 rfl rfl rfl rfl ?_
  rcases res with _ | ⟨ey, er, en⟩ <;> simp only [evV, DEvent.enc, dEv0, Option.isSome] at hb ⊢
  · repeat (first | (apply RL_st0; (first | (apply Stp_call (h := fun w' hw _ => hyr w' hw); rfl; rintro v O' ⟨rfl, rfl⟩) | (apply Stp_call (h := fun w' hw hH => hb _ _ _ w' hw (hH.cells (by (focus repeat' constructor))) (hH.cells (by (focus repeat' constructor))) (hH.cells (by (focus repeat' constructor)))); rfl; rintro v O' ⟨rfl, rfl⟩))) | (apply RL_st; rfl; (first | (apply Stp_call (h := fun w' hw _ => hyr w' hw); rfl; rintro v O' ⟨rfl, rfl⟩) | (apply Stp_call (h := fun w' hw hH => hb _ _ _ w' hw (hH.cells (by (focus repeat' constructor))) (hH.cells (by (focus repeat' constructor))) (hH.cells (by (focus repeat' constructor)))); rfl; rintro v O' ⟨rfl, rfl⟩) | (apply Stp_boxNf; rfl; (focus repeat (first | exact Nf.nil | apply Nf.cons)); intro bk) | (apply Stp_alloc; intro bk))) | refine walk ?_)
    exact ret_2 _ _ [] (.cellB rfl (by (focus repeat' constructor)) rfl rfl) (.tmp rfl) .nil ⟨rfl, rfl⟩
  · repeat (first | (apply RL_st0; (first | (apply Stp_call (h := fun w' hw _ => hyr w' hw); rfl; rintro v O' ⟨rfl, rfl⟩) | (apply Stp_call (h := fun w' hw hH => hb _ _ _ w' hw (hH.cells (by (focus repeat' constructor))) (hH.cells (by (focus repeat' constructor))) (hH.cells (by (focus repeat' constructor)))); rfl; rintro v O' ⟨rfl, rfl⟩))) | (apply RL_st; rfl; (first | (apply Stp_call (h := fun w' hw _ => hyr w' hw); rfl; rintro v O' ⟨rfl, rfl⟩) | (apply Stp_call (h := fun w' hw hH => hb _ _ _ w' hw (hH.cells (by (focus repeat' constructor))) (hH.cells (by (focus repeat' constructor))) (hH.cells (by (focus repeat' constructor)))); rfl; rintro v O' ⟨rfl, rfl⟩) | (apply Stp_boxNf; rfl; (focus repeat (first | exact Nf.nil | apply Nf.cons)); intro bk) | (apply Stp_alloc; intro bk))) | refine walk ?_)
    exact ret_2 _ _ [] (.cellB rfl (by (focus repeat' constructor)) rfl rfl) (.tmp rfl) .nil ⟨rfl, rfl⟩

def EvOk (o : Option DEvent) : Prop := ∀ e, o = some e → -200000000000000000 ≤ e.nominal ∧ e.nominal ≤ 200000000000000000
theorem onR_bd (least : Int) (hl : least ≤ 0) (r : DRule) (i y : Int) : EvOk (onR least r i y) := by
  intro e he
  unfold onR at he
  split at he
  · cases he
  · rename_i h1
    split at he
    · cases he
    · have hb := onD_bd y r.month r.day
      have hc : clkChk r.at_ = true := by
        cases hc : clkChk r.at_
        · exact absurd (.inr (.inr hc)) h1
        · rfl
      simp only [clkChk, Bool.and_eq_true, decide_eq_true_eq] at hc
      simp only [Option.some.injEq] at he
      subst he
      dsimp only
      split <;> omega
theorem evIn_bd (least nominal : Int) (hl : least ≤ 0) (r : DRule) (i : Int) : ∀ (k : Nat) (y : Int), EvOk (evIn least nominal r i y k)
  | 0, _ => fun e he => by cases he
  | k + 1, y => by
    rw [evIn]
    have h := onR_bd least hl r i y
    split
    · rename_i e he
      split
      · intro e2 h2; cases h2; exact h e he
      · exact evIn_bd least nominal hl r i k (y + 1)
    · exact evIn_bd least nominal hl r i k (y + 1)
theorem afterGo_bd (least nominal yr : Int) (hl : least ≤ 0) : ∀ (l : List DRule) (i : Nat) (b : Option DEvent), EvOk b → EvOk (afterGo least nominal yr l i b)
  | [], _, _, h => h
  | r :: l, i, b, h => by
    rw [afterGo]
    refine afterGo_bd least nominal yr hl l (i + 1) _ ?_
    have he := evIn_bd least nominal hl r i 20 (max (max r.from_ (-2000000000)) (yr - 2))
    generalize evIn least nominal r i (max (max r.from_ (-2000000000)) (yr - 2)) 20 = o at *
    cases o with
    | none => exact h
    | some e =>
      cases b with
      | none => exact he
      | some x =>
        dsimp only
        split
        · exact he
        · exact h
theorem far_spec (A : Option Addr) (c : Nat) (l : List DRule) (nominal : Int) (w : World) (hG : Glob w) (hA : RdSl w A c DRule.enc 11 l) (hn : l.length ≤ 1000000) (hR : RsOk l) (ht : -1000000000000000000 ≤ nominal ∧ nominal ≤ 1000000000000000000) :
    Does Tryz.prog 171 [.slice A l.length c, .int .i64 nominal] w (fun v O => v = .bool (farD l nominal) ∧ O = []) := by
  have haf := fun w' (hw : Bel w.heap.size w w') => after_spec A c l (nominal - 259200) w' (hG.up hw) (hA.up hw) hn hR (by omega)
  have hbd : EvOk (afterD l (nominal - 259200)) := afterGo_bd _ _ _ (leastD_le l fun r hr => (hR r hr).1).2 l 0 none (fun e he => by cases he)
  unfold farD
  generalize afterD l (nominal - 259200) = res at *
  have h1 : (if 1152921504606846976 < nominal then (1152921504606846976 : Int) else nominal) = nominal := if_neg (by omega)
  have h2 : (if (-1152921504606846976 : Int) < nominal then nominal else -1152921504606846976) = nominal := if_pos (by omega)
  refine Does_of_W Tryz.func171 rfl rfl rfl rfl ?_
  rcases res with _ | ⟨ey, er, en⟩ <;> simp only [evV, DEvent.enc, dEv0, Option.isSome] at haf ⊢
  · repeat' (first | (apply RL_pu; rfl; (first | (apply Pu_minK; rfl; rfl; exact h1) | (apply Pu_maxK; rfl; rfl; exact h2) | (apply Pu_sub'; rfl; rfl; (constructor <;> omega)))) | (apply RL_st0; (apply Stp_call (h := fun w' hw _ => haf w' hw); rfl; rintro v O' ⟨rfl, rfl⟩)) | (apply RL_st; rfl; (first | (apply Stp_call (h := fun w' hw _ => haf w' hw); rfl; rintro v O' ⟨rfl, rfl⟩) | (apply Stp_alloc; intro bk))) | refine walk1 ?_ | (refine RL_und rfl rfl rfl rfl ?_) | (refine RL_gsplit rfl rfl rfl (fun hc => ?_) (fun hc => ?_)) | (refine RD_gsplit rfl rfl rfl (fun hc => ?_) (fun hc => ?_)) | (refine W_cond rfl (fun hc => ?_) (fun hc => ?_)))
    exact ret_1 _ [] (.tmp rfl) .nil ⟨rfl, rfl⟩
  · have hb := hbd _ rfl
    dsimp only at hb
    repeat' (first | (apply RL_pu; rfl; (first | (apply Pu_minK; rfl; rfl; exact h1) | (apply Pu_maxK; rfl; rfl; exact h2) | (apply Pu_sub'; rfl; rfl; (constructor <;> omega)))) | (apply RL_st0; (apply Stp_call (h := fun w' hw _ => haf w' hw); rfl; rintro v O' ⟨rfl, rfl⟩)) | (apply RL_st; rfl; (first | (apply Stp_call (h := fun w' hw _ => haf w' hw); rfl; rintro v O' ⟨rfl, rfl⟩) | (apply Stp_alloc; intro bk))) | refine walk1 ?_ | (refine RL_und rfl rfl rfl rfl ?_) | (refine RL_gsplit rfl rfl rfl (fun hc => ?_) (fun hc => ?_)) | (refine RD_gsplit rfl rfl rfl (fun hc => ?_) (fun hc => ?_)) | (refine W_cond rfl (fun hc => ?_) (fun hc => ?_)))
    exact ret_1 _ [] (.tmp rfl) .nil ⟨rfl, rfl⟩
end Go.Proofs.YtbffjibfcgcoeaaGreatDoor

namespace Go.Proofs.YtbffjibfcgcoeaaGreatDoor
open Go Go.RowKit Go.Wk
attribute [local irreducible] W RL Does thenQ blockQ retQ Calls Pu Stp RD Qy Ay DoesIn
end Go.Proofs.YtbffjibfcgcoeaaGreatDoor

namespace Go.Wk
open Go Go.RowKit
def notLet (c : Int) : Bool := (decide (c < 65) || decide (90 < c)) && (decide (c < 97) || decide (122 < c))
end Go.Wk
namespace Go.Proofs.YtbffjibfcgcoeaaGreatDoor
open Go Go.RowKit Go.Wk
attribute [local irreducible] W RL Does thenQ blockQ retQ Calls Pu Stp RD Qy Ay DoesIn
theorem right_spec (s : ByteArray) (ok : Bool) (w : World) : Does Tryz.prog 76 [.string s, .bool ok] w (fun v O => v = .tuple #[.string (if ok then s else ByteArray.empty), .int .i64 (if ok then 0 else 15)] ∧ O = []) := by
  rw [show ByteArray.empty = ⟨#[]⟩ from rfl]
  refine Does_of_W Tryz.func76 rfl rfl rfl rfl ?_
  cases ok
  · repeat' (first | refine walk ?_ | (refine W_cond rfl (fun hc => ?_) (fun hc => ?_)))
    all_goals first | (refine ret_2 _ _ [] (.tmp rfl) (.tmp rfl) .nil ⟨?_, rfl⟩; first | rfl | (simp only [*, Bool.true_and, Bool.false_and, Bool.true_or, Bool.false_or, Bool.not_true, Bool.not_false]; done) | (simp_all ; done) | (simp_all ; omega) | (simp_all ; rw [Bool.eq_iff_iff]; simp; omega)) | (exfalso; simp_all ; done) | (exfalso; simp_all ; omega) | (exfalso; omega)
  · repeat' (first | refine walk ?_ | (refine W_cond rfl (fun hc => ?_) (fun hc => ?_)))
    all_goals first | (refine ret_2 _ _ [] (.tmp rfl) (.tmp rfl) .nil ⟨?_, rfl⟩; first | rfl | (simp only [*, Bool.true_and, Bool.false_and, Bool.true_or, Bool.false_or, Bool.not_true, Bool.not_false]; done) | (simp_all ; done) | (simp_all ; omega) | (simp_all ; rw [Bool.eq_iff_iff]; simp; omega)) | (exfalso; simp_all ; done) | (exfalso; simp_all ; omega) | (exfalso; omega)
end Go.Proofs.YtbffjibfcgcoeaaGreatDoor
