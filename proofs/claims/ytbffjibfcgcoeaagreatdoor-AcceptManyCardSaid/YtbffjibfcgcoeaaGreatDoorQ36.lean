/- Contract: AcceptMany$2. Contracts: slices.Equal at three types. Contract: slices.Equal at numbers. Rules: make with a length; an index that is a number, in an own block. Lemmas for the chapter's examples: sources that lie in own blocks. -/
import Derived.Test.YtbffjibfcgcoeaaGreatDoorQ35
import Derived.Test.YtbffjibfcgcoeaaGreatDoorQ10
import Derived.Test.YtbffjibfcgcoeaaGreatDoorQ22
import Derived.Laws.OwnMore
import Derived.Test.YtbffjibfcgcoeaaGreatDoorQ08
set_option linter.unusedVariables false
set_option linter.unusedSimpArgs false
namespace Go.Proofs.YtbffjibfcgcoeaaGreatDoor
open Go Go.RowKit Go.Wk
attribute [local irreducible] W RL Does thenQ blockQ retQ Calls Pu Stp RD Qy Ay DoesIn
def mX (i : Nat) : DEra := ⟨i, if i = 0 then 0 else 2, 0, if i = 0 then ByteArray.empty else ⟨#[82]⟩, ⟨#[76, 77, 84]⟩, ⟨true, 1900 + (i : Int), 1, ⟨1, 0, 1⟩, ⟨0, 0⟩⟩⟩
def mXs (n : Nat) : List DEra := (List.range n).map mX
def nR (m s : Int) : DRule := ⟨⟨#[82]⟩, 1850, 1850, m, ⟨1, 0, 1⟩, ⟨0, 0⟩, s, ByteArray.empty⟩
/-- The eras' cells, the last one's end cleared. -/
def mXc (n : Nat) : List Value := lay ((mXs n).flatMap DEra.enc) ((n - 1) * 13 + 5) (DUntil.enc dU0)
def MnX (n : Nat) (v : Value) (O : List It) : Prop := ∃ A c br bz, v = .agg #[.slice (some ⟨br, 0, none⟩) 3 3, .slice (some ⟨bz, 0, none⟩) 1 1, .slice none 0 0, .slice none 0 0] ∧
  O = [.blk bz [.string ⟨#[90]⟩, .slice A n c] 55, .blk br ((nR 5 3600).enc ++ ((nR 8 7200).enc ++ (nR 10 0).enc)) 51, .row (.slice A n c) 60 13 n (mXc n)]
structure MzG where
  k : Nat
  A : Option Addr
  c : Nat
  m : Nat
  ys : List Value
theorem many2_spec (n : Nat) (hn : n ≤ 100) (h1 : 1 ≤ n) (w : World) : Does Tryz.prog 28 [.int .i64 n] w (MnX n) := by
  refine Does_of_W Tryz.func28 rfl rfl rfl rfl ?_
  repeat (first | (apply RL_st; rfl; (first | (apply Stp_alloc; intro bk) | (apply Stp_buildSliceC; rfl; rfl; rfl; rfl; (focus repeat (first | exact Nf.nil | apply Nf.cons)); intro bk))) | refine walk ?_)
  obtain ⟨br, hbr⟩ : ∃ br, bk = br := ⟨_, rfl⟩
  rw [hbr]
  clear hbr bk
  obtain ⟨b3, hb3⟩ : ∃ b3, bk = b3 := ⟨_, rfl⟩
  rw [hb3]
  clear hb3 bk
  obtain ⟨b2, hb2⟩ : ∃ b2, bk = b2 := ⟨_, rfl⟩
  rw [hb2]
  clear hb2 bk
  refine W_nil 60 13 ?_
  refine W_loopF [(2, .pointer (some ⟨b2, 0, none⟩)), (3, .pointer (some ⟨b3, 0, none⟩)), (4, .slice (some ⟨br, 0, none⟩) 3 3), (0, .int .i64 n), (15, .int .i64 n)] [.blk br ((nR 5 3600).enc ++ ((nR 8 7200).enc ++ (nR 10 0).enc)) 51, .blk b2 [.slice none 0 0, .slice none 0 0, .slice none 0 0, .slice none 0 0] 27]
    (fun g : MzG => [(16, .int .i64 g.k)]) (fun g => [.blk b3 [.string ⟨#[90]⟩, .slice g.A g.m g.c] 55, .row (.slice g.A g.m g.c) 60 13 g.m g.ys]) (fun g => g.k ≤ n ∧ g.m = g.k ∧ g.ys = (mXs g.k).flatMap DEra.enc) (fun g => n - g.k) ⟨0, none, 0, 0, []⟩ (by repeat (first | exact trivial | refine ⟨rfl, ?_⟩)) (by first | exact .refl _ | focus repeat (first | exact SubO.nil | (apply SubO.cons; focus repeat' constructor))) ⟨Nat.zero_le _, rfl, rfl⟩ ?_
  rintro ⟨k, A1, c1, m, ys⟩ ⟨hk, hm, hy⟩
  dsimp only at hk hm hy ⊢
  repeat (first | (apply RL_st; rfl; (first | (apply Stp_alloc; intro bk) | (apply Stp_buildSliceC; rfl; rfl; rfl; rfl; (focus repeat (first | exact Nf.nil | apply Nf.cons)); intro bk))) | refine walk ?_)
  refine W_cond rfl (fun hc => ?_) (fun hc => ?_)
  · simp only [decide_eq_true_eq, Int.ofNat_lt] at hc
    by_cases hk0 : k = 0
    · subst hk0
      repeat (first | (apply RL_pu; rfl; (apply Pu_add; rfl; rfl; (constructor <;> omega))) | (apply RL_st0; (apply Stp_append; rfl; rfl; (intro A' c'; (focus repeat' constructor)); (intro w' _ hO; exact blkRaw (hO.of (by (focus repeat' constructor)))); rfl; rfl; (simp only [maxLen]; omega); omega; intro A' c' hc1 hc2 hc3)) | (apply RL_st; rfl; (first | (apply Stp_append; rfl; rfl; (intro A' c'; (focus repeat' constructor)); (intro w' _ hO; exact blkRaw (hO.of (by (focus repeat' constructor)))); rfl; rfl; (simp only [maxLen]; omega); omega; intro A' c' hc1 hc2 hc3) | (apply Stp_alloc; intro bk) | (apply Stp_buildSliceC; rfl; rfl; rfl; rfl; (focus repeat (first | exact Nf.nil | apply Nf.cons)); intro bk))) | refine walk1 ?_)
      refine ⟨⟨0 + 1, A', c', m + 1, ys ++ (mX 0).enc⟩, (by first | omega | (dsimp only; omega)), ⟨(by first | omega | (dsimp only; omega)), (by first | omega | (dsimp only; omega)), ?_⟩, (by repeat (first | exact trivial | refine ⟨rfl, ?_⟩)), (by first | exact .refl _ | focus repeat (first | exact SubO.nil | (apply SubO.cons; focus repeat' constructor)))⟩
      dsimp only
      rw [hy]
      rfl
    · have b0 : decide ((k : Int) = 0) = false := decide_eq_false (by omega)
      repeat (first | (apply RL_pu; rfl; (first | (apply Pu_add; rfl; rfl; (constructor <;> omega)) | (apply Pu_eqlB; rfl; rfl; exact b0))) | (apply RL_st0; (apply Stp_append; rfl; rfl; (intro A' c'; (focus repeat' constructor)); (intro w' _ hO; exact blkRaw (hO.of (by (focus repeat' constructor)))); rfl; rfl; (simp only [maxLen]; omega); omega; intro A' c' hc1 hc2 hc3)) | (apply RL_st; rfl; (first | (apply Stp_append; rfl; rfl; (intro A' c'; (focus repeat' constructor)); (intro w' _ hO; exact blkRaw (hO.of (by (focus repeat' constructor)))); rfl; rfl; (simp only [maxLen]; omega); omega; intro A' c' hc1 hc2 hc3) | (apply Stp_alloc; intro bk) | (apply Stp_buildSliceC; rfl; rfl; rfl; rfl; (focus repeat (first | exact Nf.nil | apply Nf.cons)); intro bk))) | refine walk1 ?_)
      have hmx : (mX k).enc = [.int .i64 k, .int .i64 2, .int .i64 0, .string ⟨#[82]⟩, .string ⟨#[76, 77, 84]⟩, .bool true, .int .i64 (1900 + (k : Int)), .int .i64 1, .int .i64 1, .int .i64 0, .int .i64 1, .int .i64 0, .int .i64 0] := by
        unfold mX
        rw [if_neg hk0, if_neg hk0]
        rfl
      refine ⟨⟨k + 1, A', c', m + 1, ys ++ (mX k).enc⟩, (by first | omega | (dsimp only; omega)), ⟨(by first | omega | (dsimp only; omega)), (by first | omega | (dsimp only; omega)), ?_⟩, (by repeat (first | exact trivial | refine ⟨rfl, ?_⟩)), by dsimp only; rw [hmx]; exact (by first | exact .refl _ | focus repeat (first | exact SubO.nil | (apply SubO.cons; focus repeat' constructor)))⟩
      dsimp only
      rw [hy]
      simp [mXs, List.range_succ]
  · obtain rfl : k = n := by simp only [decide_eq_false_iff_not, Int.ofNat_lt] at hc; omega
    subst hm hy
    have hml : (mXs m).length = m := by simp [mXs]
    have hlen : ((mXs m).flatMap DEra.enc).length = m * 13 := by rw [flat_len DEra.len, hml]
    have hmm : (m : Int) - 1 = ((m - 1 : Nat) : Int) := by omega
    have hg1 : ((mXs m).flatMap DEra.enc)[(m - 1) * 13]? = some (((mXs m).flatMap DEra.enc)[(m - 1) * 13]'(by omega)) := List.getElem?_eq_getElem _
    have hq : (m - 1) * 13 + 5 + 8 ≤ ((mXs m).flatMap DEra.enc).length := by omega
    have hlt : ((m - 1 : Nat) : Int) < (m : Int) := by omega
    repeat (first | (apply RL_pu; rfl; (first | (apply Pu_subE; rfl; rfl; exact hmm; omega) | (apply Pu_indexAddrH; rfl; rfl; omega; exact hlt; (intro w' _ hO; exact (row_cell (hO.of (A := .row (.slice A1 m c1) 60 13 m ((mXs m).flatMap DEra.enc)) (by (focus repeat' constructor))) hg1).1)))) | (apply RL_st0; (apply Stp_storeRF; rfl; rfl; (focus repeat' constructor); rfl; rfl; rfl; exact hq; decide; rfl)) | (apply RL_st; rfl; (first | (apply Stp_storeRF; rfl; rfl; (focus repeat' constructor); rfl; rfl; rfl; exact hq; decide; rfl) | (apply Stp_alloc; intro bk) | (apply Stp_buildSliceC; rfl; rfl; rfl; rfl; (focus repeat (first | exact Nf.nil | apply Nf.cons)); intro bk))) | refine walk1 ?_)
    exact ret_1 _ [.blk bk [.string ⟨#[90]⟩, .slice A1 m c1] 55, .blk br ((nR 5 3600).enc ++ ((nR 8 7200).enc ++ (nR 10 0).enc)) 51, .row (.slice A1 m c1) 60 13 m (mXc m)] (.cellB rfl (by (focus repeat' constructor)) rfl rfl) (by first | exact .refl _ | focus repeat (first | exact SubO.nil | (apply SubO.cons; focus repeat' constructor))) ⟨A1, c1, br, bk, rfl, rfl⟩
theorem lay_app (a : List Value) : ∀ (vs b : List Value) (j : Nat), lay (a ++ b) (a.length + j) vs = a ++ lay b j vs
  | [], _, _ => rfl
  | v :: vs, b, j => by
    rw [lay, lay, List.set_append_right _ _ (by omega), show a.length + j - a.length = j by omega, show a.length + j + 1 = a.length + (j + 1) by omega]
    exact lay_app a vs _ (j + 1)
def mXl (n : Nat) : List DEra := mXs (n - 1) ++ [{ mX (n - 1) with til := dU0 }]
theorem mXc_eq {n : Nat} (h : 1 ≤ n) : mXc n = (mXl n).flatMap DEra.enc := by
  obtain ⟨k, rfl⟩ : ∃ k, n = k + 1 := ⟨n - 1, by omega⟩
  unfold mXc mXl
  rw [Nat.add_sub_cancel]
  have h1 : mXs (k + 1) = mXs k ++ [mX k] := by simp [mXs, List.range_succ]
  have h2 : ((mXs k).flatMap DEra.enc).length = k * 13 := by rw [flat_len DEra.len]; simp [mXs]
  rw [h1, List.flatMap_append, List.flatMap_append, ← h2, lay_app]
  rfl
end Go.Proofs.YtbffjibfcgcoeaaGreatDoor

namespace Go.Proofs.YtbffjibfcgcoeaaGreatDoor
open Go Go.RowKit Go.Wk
attribute [local irreducible] W RL Does thenQ blockQ retQ Calls Pu Stp RD Qy Ay

end Go.Proofs.YtbffjibfcgcoeaaGreatDoor

namespace Go.Proofs.YtbffjibfcgcoeaaGreatDoor
open Go Go.RowKit Go.Wk
attribute [local irreducible] W RL Does thenQ blockQ retQ Calls Pu Stp RD Qy Ay DoesIn
theorem equalI_spec (A B : Option Addr) (ca cb : Nat) (x y : List Int) (w : World) (hA : RdSl w A ca iEnc 1 x) (hB : RdSl w B cb iEnc 1 y) :
    Does Tryz.prog 16 [.slice A x.length ca, .slice B y.length cb] w (fun v O => v = .bool (decide (x = y)) ∧ O = []) := by
  have hs1 := hA.le
  have hs2 := hA.cap
  unfold maxLen at hs2
  generalize hres : decide (x = y) = res
  refine Does_of_W Tryz.func16 rfl rfl rfl rfl ?_
  repeat (first | refine walk ?_ | (refine RD_Lw ?_; intro F; (apply Stp_pu; exact PuA); refine ⟨_, EndsA, QFA, ?_⟩))
  refine W_cond rfl (fun h1 => ?_) (fun h1 => ?_)
  · repeat (first | refine walk ?_ | (refine RD_Lw ?_; intro F; (apply Stp_pu; exact PuA); refine ⟨_, EndsA, QFA, ?_⟩))
    exact ret_1 _ [] (.tmp rfl) .nil ⟨by rw [← hres, dec_len]; simp at h1; omega, rfl⟩
  have hlen : x.length = y.length := by simp at h1; omega
  clear h1
  repeat (first | refine walk ?_ | (refine RD_Lw ?_; intro F; (apply Stp_pu; exact PuA); refine ⟨_, EndsA, QFA, ?_⟩))
  refine W_loopF [(0, _), (1, _), (4, _), (12, _)] _ (fun k : Nat => [(13, .int .i64 k)]) (fun _ => []) (fun k => k ≤ x.length ∧ decide (x.drop k = y.drop k) = res) (fun k => x.length - k) 0 ⟨rfl, rfl, rfl, rfl, rfl, trivial⟩ (.refl _) ⟨by omega, hres⟩ ?_
  rintro k ⟨hk, hi⟩
  repeat (first | refine walk ?_ | (refine RD_Lw ?_; intro F; (apply Stp_pu; exact PuA); refine ⟨_, EndsA, QFA, ?_⟩))
  refine W_cond rfl (fun hc => ?_) (fun hc => ?_)
  · simp only [decide_eq_true_eq, Int.ofNat_lt] at hc
    have hcy : k < y.length := by omega
    obtain ⟨hna, hca⟩ := hA.rd k _ (List.getElem?_eq_getElem hc)
    obtain ⟨hnb, hcb⟩ := hB.rd k _ (List.getElem?_eq_getElem hcy)
    rw [drop_cons hc, drop_cons hcy, dec_cons] at hi
    generalize x[k] = p at *
    generalize y[k] = q at *
    repeat (first | (apply RL_pu; rfl; (first | (apply Pu_indexAddr; rfl; rfl; omega; omega; (first | exact hna | exact hnb)) | (apply Pu_loadO1; rfl; (first | exact hca 0 _ rfl | exact hcb 0 _ rfl)))) | (apply RD_Q; rfl; rfl; decide +kernel; rfl; rfl; (first | (apply Qy_y; rfl; (first | (apply Pu_indexAddr; rfl; rfl; omega; omega; (first | exact hna | exact hnb)) | (apply Pu_loadO1; rfl; (first | exact hca 0 _ rfl | exact hcb 0 _ rfl)))) | exact QyA)) | refine walk1 ?_ | (refine RD_Lw ?_; intro F; (apply Stp_pu; first | (apply Pu_indexAddr; rfl; rfl; omega; omega; (first | exact hna | exact hnb)) | (apply Pu_loadO1; rfl; (first | exact hca 0 _ rfl | exact hcb 0 _ rfl)) | exact PuA); refine ⟨_, EndsA, (by repeat (first | exact QF.nil | (apply QF.mk; rfl; rfl; decide +kernel; (first | (apply Qy_y; rfl; (first | (apply Pu_indexAddr; rfl; rfl; omega; omega; (first | exact hna | exact hnb)) | (apply Pu_loadO1; rfl; (first | exact hca 0 _ rfl | exact hcb 0 _ rfl)))) | exact QyA)))), ?_⟩))
    refine W_cond rfl (fun h3 => ?_) (fun h3 => ?_)
    · repeat (first | refine walk ?_ | (refine RD_Lw ?_; intro F; (apply Stp_pu; exact PuA); refine ⟨_, EndsA, QFA, ?_⟩))
      exact ret_1 _ [] (.tmp rfl) .nil ⟨by simp at h3; simp [← hi, h3], rfl⟩
    repeat (first | refine walk ?_ | (refine RD_Lw ?_; intro F; (apply Stp_pu; exact PuA); refine ⟨_, EndsA, QFA, ?_⟩))
    simp at h3
    exact ⟨k + 1, by omega, ⟨by omega, by rw [← hi]; simp [h3]⟩, (by repeat (first | exact trivial | refine ⟨rfl, ?_⟩)), (by first | exact .refl _ | focus repeat (first | exact SubO.nil | (apply SubO.cons; focus repeat' constructor)))⟩
  simp only [decide_eq_false_iff_not, Int.ofNat_lt] at hc
  repeat (first | refine walk ?_ | (refine RD_Lw ?_; intro F; (apply Stp_pu; exact PuA); refine ⟨_, EndsA, QFA, ?_⟩))
  exact ret_1 _ [] (.tmp rfl) .nil ⟨by rw [← hi, dec_nil (by omega) (by omega)], rfl⟩
end Go.Proofs.YtbffjibfcgcoeaaGreatDoor

namespace Go.Wk
open Go Go.RowKit
section
variable {P : Program} {n : Nat} {wr : World} {fr : Fr} {O : List It} {ty : TypeId} {pos : String} {af : Array Edge} {dst : Option Tmp} {g : Option (Nat × Bool)} {Kp : Value → List It → Prop}
/-- make([]T, N) -/
theorem Stp_makeF {t e sz bytes : Nat} {l c : Operand} {kl kc : IntKind} {N : Nat} {z xs : List Value} [hE : ElemZ P t e sz bytes] [hZ : ZeroT P e z] (hl : ev fr l = some (.int kl N)) (hc : ev fr c = some (.int kc N)) (hn : N * sz ≤ 16777216) (hb : bytes * N ≤ 281474976710656) (h63 : N ≤ maxLen)
    (hx : (madeCells z.toArray (N * sz)).toList = xs) (kk : ∀ b, Kp (.slice (some ⟨b, 0, none⟩) N N) (.row (.slice (some ⟨b, 0, none⟩) N N) e sz N xs :: O)) : Stp P n wr fr O ⟨dst, .makeSlice t l c, ty, pos, af, g⟩ Kp :=
  Stp_val fun a w hs => by
    obtain ⟨i, zv, ht, hi, hz, hsz, hby, hzs, hpos⟩ := ElemZ.parts hE.h
    have h := hZ.h
    unfold zeroChk at h
    rw [hi] at h
    simp only [hz, Option.some.injEq] at h
    have hzx : zv.cells = z.toArray := by rw [← h]
    obtain ⟨w', hrun, r1, r2⟩ := run_makeSlice_full (P := P) w 0 t e i zv sz ht hi hz hsz kl kc N hn (by rw [hby]; exact hb) h63 (Nat.zero_le _)
    rw [hzx, hx] at r1
    refine ⟨_, w', _, ?_, ?_, ?_, kk w.heap.size⟩
    · simp [execOp, hs.sim.ev hl, hs.sim.ev hc, hrun]
    · exact hs.old.grown r2 (run_dr _ _ _ _ hrun) hs.old.size (fun k hk => by cases hk)
    · refine hs.own.grow (O' := [.row (.slice (some ⟨w.heap.size, 0, none⟩) N N) e sz N xs]) ((Bel.refl _ _).grown r2 (run_dr _ _ _ _ hrun) (Nat.le_refl _) (fun k hk => by cases hk)) hs.old.size ⟨fun i hi => ?_, fun i hi b hb => ?_, List.pairwise_singleton _ _⟩
      · rw [List.mem_singleton.1 hi]
        exact r1
      · rw [List.mem_singleton.1 hi] at hb
        simp only [It.S, Value.ownBlock, Option.some.injEq] at hb
        subst hb
        exact ⟨Nat.le_refl _, (r1.lt w.heap.size rfl).2⟩
theorem Pu_indexAddrK {t e sz bytes b s j : Nat} {x ix : Operand} {len cap : Nat} {kk : IntKind} {i : Int} [hE : ElemT P t e sz bytes] (hx : ev fr x = some (.slice (some ⟨b, s, none⟩) len cap)) (hi : ev fr ix = some (.int kk i))
    (h0 : 0 ≤ i) (h1 : i < len) (hj : s + i.toNat * sz = j) : Pu P n wr fr O (.indexAddr t x ix) ty (.pointer (some ⟨b, j, none⟩)) := by
  have := Pu_indexAddr (P := P) (n := n) (wr := wr) (O := O) (ty := ty) (t := t) (e := e) (sz := sz) (bytes := bytes) hx hi h0 h1 (by simp)
  have he : (adr (some ⟨b, s, none⟩)).add (i.toNat * sz) = ⟨b, j, none⟩ := by
    show (⟨b, s, none⟩ : Addr).add (i.toNat * sz) = _
    rw [add_mk, hj]
  rwa [he] at this
end
theorem RdSl.pre {α : Type} {w : World} {A : Option Addr} {c sz : Nat} {enc : α → List Value} {x y : List α} (h : RdSl w A c enc sz (x ++ y)) : RdSl w A c enc sz x :=
  ⟨by have := h.le; rw [List.length_append] at this; omega, h.cap, fun k v hv => h.rd k v (by
    have hk := (List.getElem?_eq_some_iff.1 hv).1
    rw [List.getElem?_append_left hk]; exact hv)⟩
end Go.Wk
namespace Go.Wk
open Go Go.RowKit
theorem Pu_sliceHE {P : Program} {n : Nat} {wr : World} {fr : Fr} {O : List It} {ty : TypeId} {t e sz bytes m : Nat} {x y : Operand} {A : Option Addr} {len cap : Nat} {h : Int} [hE : ElemZ P t e sz bytes] (hx : ev fr x = some (.slice A len cap)) (hy : ev fr y = some (.int .i64 h)) (h0 : 0 ≤ h) (h1 : h ≤ cap) (hm : h.toNat = m) :
    Pu P n wr fr O (.slice t x none (some y) none) ty (.slice A m cap) := hm ▸ Pu_sliceH hx hy h0 h1
end Go.Wk

namespace Go.Proofs.YtbffjibfcgcoeaaGreatDoor
open Go Go.RowKit Go.Wk
def okR (r : DRule) : Bool := decide (r.name.size ≤ 1000000000) && (decide (r.letter.size ≤ 1000000000) && (decide (-9223372036854775808 ≤ r.save) && decide (r.save ≤ 9223372036854775807)))
def okI (n : Int) : Bool := decide (-9223372036854775808 ≤ n) && decide (n ≤ 9223372036854775807)
def okE (e : DEra) : Bool := okI e.off && (okI e.save && (okI e.kind && (decide (e.format.size ≤ 1000000000) && decide (e.set.size ≤ 1000000000))))
def okZ (z : DZone) : Bool := decide (z.name.size ≤ 1000000000) && (decide (z.eras.length ≤ 1000000) && z.eras.all okE)
def okL (l : DLink) : Bool := decide (l.target.size ≤ 1000000000) && decide (l.name.size ≤ 1000000000)
def okD (s : DSource) : Bool := decide (s.rules.length ≤ 1000000) && (decide (s.zones.length ≤ 1000000) && (decide (s.links.length ≤ 1000000) && (decide (s.shifts.length ≤ 1000000) && (s.rules.all okR && (s.zones.all okZ && s.links.all okL)))))
theorem okI_64 {n : Int} (h : okI n = true) : I64 n := by
  unfold okI at h
  rw [Bool.and_eq_true, decide_eq_true_eq, decide_eq_true_eq] at h
  exact h
theorem okD_ok {s : DSource} (h : okD s = true) : SrcOk s ∧ SavI s ∧ ∀ z ∈ s.zones, ∀ e ∈ z.eras, EraOk e := by
  unfold okD at h
  simp only [Bool.and_eq_true, decide_eq_true_eq, List.all_eq_true] at h
  obtain ⟨h1, h2, h3, h4, h5, h6, h7⟩ := h
  have hr : ∀ r ∈ s.rules, _ := fun r hr => by
    have := h5 r hr
    unfold okR at this
    simp only [Bool.and_eq_true, decide_eq_true_eq] at this
    exact this
  have hz : ∀ z ∈ s.zones, z.name.size ≤ 1000000000 ∧ z.eras.length ≤ 1000000 ∧ ∀ e ∈ z.eras, okE e = true := fun z hz => by
    have := h6 z hz
    unfold okZ at this
    simp only [Bool.and_eq_true, decide_eq_true_eq, List.all_eq_true] at this
    exact this
  have he : ∀ e, okE e = true → I64 e.off ∧ I64 e.save ∧ I64 e.kind ∧ e.format.size ≤ 1000000000 ∧ e.set.size ≤ 1000000000 := fun e he => by
    unfold okE at he
    simp only [Bool.and_eq_true, decide_eq_true_eq] at he
    exact ⟨okI_64 he.1, okI_64 he.2.1, okI_64 he.2.2.1, he.2.2.2⟩
  refine ⟨⟨h1, h2, h3, h4, fun r h => ⟨(hr r h).1, (hr r h).2.1⟩, fun z h => ⟨(hz z h).1, (hz z h).2.1, fun e h' => ⟨(he e ((hz z h).2.2 e h')).2.2.2.2, (he e ((hz z h).2.2 e h')).2.2.2.1⟩⟩, fun l h => ?_⟩, fun r h => ⟨(hr r h).2.2.1, (hr r h).2.2.2⟩, fun z h e h' => ?_⟩
  · have := h7 l h
    unfold okL at this
    simp only [Bool.and_eq_true, decide_eq_true_eq] at this
    exact this
  · have := he e ((hz z h).2.2 e h')
    exact ⟨this.1, this.2.1, this.2.2.1, this.2.2.2.1⟩
theorem accOk {w w' : World} {Ar Az Al As : Option Addr} {cr cz cl cs : Nat} {a : DSource} (hL : LibW w) (hG : Glob w) (hw : Bel w.heap.size w w') (h : okD a = true) (hA : RdSource w' Ar Az Al As cr cz cl cs a) : AccOk w' Ar Az Al As cr cz cl cs a :=
  ⟨hL.up hw, hG.up hw, hA, (okD_ok h).1, (okD_ok h).2.1, (okD_ok h).2.2⟩
/-- A source with one zone Z. -/
def exS (rs : List DRule) (es : List DEra) (ls : List DLink) (ss : List ByteArray) : DSource := ⟨rs, [⟨⟨#[90]⟩, es⟩], ls, ss⟩
theorem ex_rd {w : World} {Ar Ae Al As : Option Addr} {cr ce cl cs bz : Nat} {rs : List DRule} {es : List DEra} {ls : List DLink} {ss : List ByteArray} (hr : RdSl w Ar cr DRule.enc 11 rs) (hz : (It.blk bz [.string ⟨#[90]⟩, .slice Ae es.length ce] 55).sat w) (he : RdSl w Ae ce DEra.enc 13 es)
    (hl : RdSl w Al cl DLink.enc 2 ls) (hs : RdSl w As cs strEnc 1 ss) : RdSource w Ar (some ⟨bz, 0, none⟩) Al As cr 1 cl cs (exS rs es ls ss) :=
  ⟨hr, Nat.le_refl 1, by decide, zones_rd (litRd (c := 1) (l := [(⟨⟨⟨#[90]⟩, es⟩, Ae, ce⟩ : ZE)]) ZE.len (Nat.le_refl 1) (by decide) hz) (fun q hq => by rw [List.mem_singleton.1 hq]; exact he), hl, hs⟩
theorem iEnc.len (i : Int) : (iEnc i).length = 1 := rfl
theorem faultT (Ar Az Al As : Option Addr) (cr cz cl cs : Nat) (a : DSource) (q : DPlace) (e : Int) (w : World) (h : AccOk w Ar Az Al As cr cz cl cs a) (hf : faultB a q e = true) :
    Does Tryz.prog 24 [srcV Ar Az Al As cr cz cl cs a, .agg q.enc.toArray, .int .i64 e] w (fun v O => v = .bool true ∧ O = []) := hf ▸ fault25_spec Ar Az Al As cr cz cl cs a q e w h
theorem formsT (Ar Az Al As : Option Addr) (cr cz cl cs : Nat) (a : DSource) (l : List Int) (w : World) (h : AccOk w Ar Az Al As cr cz cl cs a) (hf : formsD a = l) :
    Does Tryz.prog 17 [srcV Ar Az Al As cr cz cl cs a] w (NewSl 3 1 iEnc l) := hf ▸ formsA_spec Ar Az Al As cr cz cl cs a w h
/-- The example in cells, one by one. -/
theorem exam25_nf (w : World) : Does Tryz.prog 46 [] w (fun v O => ∃ br be bz, v = .agg #[.slice (some ⟨br, 0, none⟩) 2 2, .slice (some ⟨bz, 0, none⟩) 1 1, .slice none 0 0, .slice none 0 0] ∧
    O = [.blk bz [.string ⟨#[90]⟩, .slice (some ⟨be, 0, none⟩) 2 2] 55, .blk be [.int .i64 3600, .int .i64 0, .int .i64 0, .string ByteArray.empty, .string ⟨#[76, 77, 84]⟩, .bool true, .int .i64 1980, .int .i64 1, .int .i64 1, .int .i64 0, .int .i64 1, .int .i64 0, .int .i64 0, .int .i64 3600, .int .i64 2, .int .i64 0, .string ⟨#[82]⟩, .string ⟨#[67, 69, 84, 47, 67, 69, 83, 84]⟩, .bool false, .int .i64 0, .int .i64 0, .int .i64 0, .int .i64 0, .int .i64 0, .int .i64 0, .int .i64 0] 60, .blk br [.string ⟨#[82]⟩, .int .i64 1990, .int .i64 1048576, .int .i64 3, .int .i64 2, .int .i64 0, .int .i64 0, .int .i64 7200, .int .i64 0, .int .i64 3600, .string ByteArray.empty, .string ⟨#[82]⟩, .int .i64 1990, .int .i64 1048576, .int .i64 10, .int .i64 2, .int .i64 0, .int .i64 0, .int .i64 10800, .int .i64 0, .int .i64 0, .string ByteArray.empty] 51]) :=
  exam25_spec w
def exR1n : DRule := { exR1 with save := -3600 }
def exE2z : DEra := { exE2 with format := ⟨#[37, 122]⟩ }
def exE2q : DEra := { exE2 with set := ⟨#[81]⟩ }
def exE2u : DEra := { exE2 with til := ⟨true, 2000, 3, ⟨1, 0, 26⟩, ⟨0, 0⟩⟩ }
def exE3 : DEra := ⟨3600, 0, 0, ByteArray.empty, ⟨#[67, 69, 84]⟩, ⟨false, 0, 0, ⟨0, 0, 0⟩, ⟨0, 0⟩⟩⟩
def exE1k : DEra := { exE1 with kind := 2, set := ⟨#[82]⟩ }
def exE2o : DEra := { exE2 with off := 52200 }
def exL : DLink := ⟨⟨#[90]⟩, ⟨#[90]⟩⟩
def d1 : DSource := exS [exR1, exR2] [exE1, exE2] [] []
def d2 : DSource := exS [exR1n, exR2] [exE1, exE2] [] []
def d3 : DSource := exS [exR1, exR2] [exE1, exE2z] [] []
def d4 : DSource := exS [exR1] [exE1, exE2] [] []
def d5 : DSource := exS [exR1, exR2] [exE1, exE2q] [] []
def d6 : DSource := exS [exR1, exR2] [exE1, exE2u, exE3] [] []
def d7 : DSource := exS [exR1, exR2] [exE1k, exE2] [] []
def d8 : DSource := exS [exR1, exR2] [exE1, exE2o] [] []
def d9 : DSource := exS [exR1, exR2] [exE1, exE2] [exL] []
def d10 : DSource := exS [exR1, exR2] [exE1, exE2] [] [⟨#[82]⟩]
def d11 : DSource := exS [exR1, exR2] [exE1, exE2] [] [⟨#[81]⟩]
end Go.Proofs.YtbffjibfcgcoeaaGreatDoor
