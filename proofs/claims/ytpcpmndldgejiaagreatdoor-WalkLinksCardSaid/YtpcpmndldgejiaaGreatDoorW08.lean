/- Parts of the proof. -/
import Derived.Test.YtpcpmndldgejiaaGreatDoorW07
import Derived.Test.YtpcpmndldgejiaaGreatDoorW05
import Derived.Test.YtpcpmndldgejiaaGreatDoorW06
import Derived.LoopN
import Derived.Test.YtpcpmndldgejiaaGreatDoorW04
set_option maxHeartbeats 4000000
set_option linter.unusedVariables false
set_option linter.unusedSimpArgs false
namespace Go.Wk
open Go Go.RowKit
def Zdo (r : Zaa) (least : Int) : Nat -> Bool
 | 0 => Zcm r.from_ && (Zcm r.to || decide (r.to = 1048576))
 | 1 => decide (r.from_ <= r.to)
 | 2 => Zge r.from_ r.to r.month r.day
 | 3 => Zgt r.at_ least
 | 4 => decide (-10800 <= r.save) && decide (r.save <= 10800)
 | _ => decide (r.letter = ByteArray.empty) || Zi1 r.letter
theorem Zmc {P : Program} {n : Nat} {wr : World} {fr : Fr} {O : List It} {ty t t' : TypeId} {x y : Operand} {i j m : Int} (hx : ev fr x = some (.int .i64 i)) (hy : ev fr y = some (.int .i64 j)) (hm : IntKind.i64.wrap (i + j) = m) : Pu P n wr fr O (.binOp .add t x y t') ty (.int .i64 m) := hm ▸ Zmd hx hy
end Go.Wk
namespace Go.Proofs.YtpcpmndldgejiaaGreatDoor
open Go Go.RowKit Go.Wk
attribute [local irreducible] W RL Does Zay Zam retQ Calls Pu Stp RD Qy Ay Zan Zde
theorem ZiQ (y : Int) (w : World) : Does Tryz.prog 291 [.int .i64 y] w (fun v O => v = .bool (Zcm y) /\ O = []) := by
 refine Zab Tryz.func291 rfl rfl rfl rfl ?_
 repeat' (first | refine walk ?_ | refine und ?_ | (refine ZaB rfl rfl rfl (fun hc => ?_) (fun hc => ?_)) | (refine Zaz rfl rfl rfl (fun hc => ?_) (fun hc => ?_)) | (refine Zah rfl (fun hc => ?_) (fun hc => ?_)))
 all_goals first | (refine ret_1 _ [] (.tmp rfl) .nil ⟨?_, rfl⟩; first | rfl | (simp only [*, Bool.true_and, Bool.false_and, Bool.true_or, Bool.false_or, Bool.not_true, Bool.not_false]; done) | (simp_all [Zcm]; done) | (simp_all [Zcm]; omega) | (simp_all [Zcm]; rw [Bool.eq_iff_iff]; simp; omega)) | (exfalso; simp_all [Zcm]; done) | (exfalso; simp_all [Zcm]; omega) | (exfalso; omega)
theorem Zrn (c : Zfe) (least : Int) (hl : -9223372036854775808 <= least /\ least <= 0) (w : World) : Does Tryz.prog 296 [.agg (Zfe.enc c).toArray, .int .i64 least] w (fun v O => v = .bool (Zgt c least) /\ O = []) := by
 by_cases hc : Zbb c = true
 ·have hb : -604799 <= c.sec /\ c.sec <= 604799 := by
   simp only [Zbb, Bool.and_eq_true, decide_eq_true_eq] at hc
   omega
  obtain ⟨m, hm⟩ : ∃ m, IntKind.i64.wrap (c.sec + least) = m := ⟨_, rfl⟩
  have hmm : (decide (-86400 <= m) && decide (m <= 172800)) = (decide (-86400 <= c.sec + least) && decide (c.sec + least <= 172800)) := by
   have hw : IntKind.i64.wrap (c.sec + least) = if c.sec + least < -9223372036854775808 then c.sec + least + 18446744073709551616 else c.sec + least := by
    rw [IntKind.wrap_i64]
    repeat' split
    all_goals omega
   rw [hw] at hm
   rw [Bool.eq_iff_iff]
   simp only [Bool.and_eq_true, decide_eq_true_eq]
   split at hm <;> omega
  have hT : Zgt c least = (Zbb c && (if c.base = 1 then (decide (-86400 <= m) && decide (m <= 172800)) else (decide (-86400 <= c.sec) && decide (c.sec <= 172800)))) := by
   unfold Zgt
   dsimp only
   congr 1
   by_cases hb1 : c.base = 1
   ·rw [if_pos hb1, if_pos hb1, hmm]
   ·rw [if_neg hb1, if_neg hb1]
  rw [hT]
  clear hT hmm
  have hcs := Zem c
  rw [hc] at hcs ⊢
  obtain ⟨s, b⟩ := c
  simp only at *
  show Does _ _ [.agg #[.int .i64 s, .int .i64 b], .int .i64 least] w _
  refine Zab Tryz.func296 rfl rfl rfl rfl ?_
  repeat' (first | (apply RL_pu; rfl; (apply Zmc; rfl; rfl; exact hm)) | (refine js ?_; (first | (refine Zac (fun w' _ => hcs w') ?_) | (refine bx ?_; intro bk))) | refine walk1 ?_ | refine und ?_ | (refine ZaB rfl rfl rfl (fun hc => ?_) (fun hc => ?_)) | (refine Zaz rfl rfl rfl (fun hc => ?_) (fun hc => ?_)) | (refine Zah rfl (fun hc => ?_) (fun hc => ?_)))
  all_goals exact clo1
 ·unfold Zgt
  have hcs := Zem c
  rw [Bool.not_eq_true] at hc
  rw [hc] at hcs ⊢
  obtain ⟨s, b⟩ := c
  simp only at *
  show Does _ _ [.agg #[.int .i64 s, .int .i64 b], .int .i64 least] w _
  refine Zab Tryz.func296 rfl rfl rfl rfl ?_
  repeat' (first | (refine js ?_; (first | (refine Zac (fun w' _ => hcs w') ?_) | (refine bx ?_; intro bk))) | refine walk ?_ | refine und ?_ | (refine ZaB rfl rfl rfl (fun hc => ?_) (fun hc => ?_)) | (refine Zaz rfl rfl rfl (fun hc => ?_) (fun hc => ?_)) | (refine Zah rfl (fun hc => ?_) (fun hc => ?_)))
  all_goals exact clo1
theorem Zsc (r : Zaa) (least : Int) (w : World) : Does Tryz.prog 290 [.agg (Zaa.enc r).toArray, .int .i64 least] w (fun v O => v = .bool (Zdo r least 0) /\ O = []) := by
 unfold Zdo
 have h1 := ZiQ r.from_
 have h2 := ZiQ r.to
 generalize Zcm r.from_ = x1 at *
 generalize Zcm r.to = x2 at *
 obtain ⟨nm, fr, to, mo, ⟨dk, dw, dd⟩, ⟨cs, cb⟩, sv, le⟩ := r
 simp only at *
 show Does _ _ [.agg #[.string nm, .int .i64 fr, .int .i64 to, .int .i64 mo, .int .i64 dk, .int .i64 dw, .int .i64 dd, .int .i64 cs, .int .i64 cb, .int .i64 sv, .string le], .int .i64 least] w _
 refine Zab Tryz.func290 rfl rfl rfl rfl ?_
 repeat' (first | (refine js ?_; (first | (refine Zac (fun w' _ => h1 w') ?_) | (refine Zac (fun w' _ => h2 w') ?_) | (refine bx ?_; intro bk))) | refine walk ?_ | refine und ?_ | (refine ZaB rfl rfl rfl (fun hc => ?_) (fun hc => ?_)) | (refine Zaz rfl rfl rfl (fun hc => ?_) (fun hc => ?_)) | (refine Zah rfl (fun hc => ?_) (fun hc => ?_)))
 all_goals exact clo1
theorem Zsb (r : Zaa) (least : Int) (w : World) : Does Tryz.prog 292 [.agg (Zaa.enc r).toArray, .int .i64 least] w (fun v O => v = .bool (Zdo r least 1) /\ O = []) := by
 unfold Zdo
 obtain ⟨nm, fr, to, mo, ⟨dk, dw, dd⟩, ⟨cs, cb⟩, sv, le⟩ := r
 simp only at *
 show Does _ _ [.agg #[.string nm, .int .i64 fr, .int .i64 to, .int .i64 mo, .int .i64 dk, .int .i64 dw, .int .i64 dd, .int .i64 cs, .int .i64 cb, .int .i64 sv, .string le], .int .i64 least] w _
 refine Zab Tryz.func292 rfl rfl rfl rfl ?_
 repeat' (first | (refine js ?_; (refine bx ?_; intro bk)) | refine walk ?_ | (refine Zah rfl (fun hc => ?_) (fun hc => ?_)))
 all_goals exact clo1
theorem Zsa (r : Zaa) (least : Int) (w : World) (hG : Glob w) : Does Tryz.prog 293 [.agg (Zaa.enc r).toArray, .int .i64 least] w (fun v O => v = .bool (Zdo r least 2) /\ O = []) := by
 unfold Zdo
 have h1 := fun w' hw => Zpn r.from_ r.to r.month r.day w' (Glob.up (w' := w') hG hw)
 generalize Zge r.from_ r.to r.month r.day = x1 at *
 obtain ⟨nm, fr, to, mo, ⟨dk, dw, dd⟩, ⟨cs, cb⟩, sv, le⟩ := r
 simp only at *
 show Does _ _ [.agg #[.string nm, .int .i64 fr, .int .i64 to, .int .i64 mo, .int .i64 dk, .int .i64 dw, .int .i64 dd, .int .i64 cs, .int .i64 cb, .int .i64 sv, .string le], .int .i64 least] w _
 refine Zab Tryz.func293 rfl rfl rfl rfl ?_
 repeat' (first | (refine js ?_; (first | (refine Zac h1 ?_) | (refine bx ?_; intro bk))) | refine walk ?_ | (refine Zah rfl (fun hc => ?_) (fun hc => ?_)))
 all_goals exact clo1
theorem Zr9 (r : Zaa) (least : Int) (hl : -9223372036854775808 <= least /\ least <= 0) (w : World) : Does Tryz.prog 295 [.agg (Zaa.enc r).toArray, .int .i64 least] w (fun v O => v = .bool (Zdo r least 3) /\ O = []) := by
 unfold Zdo
 have h1 := Zrn r.at_ least hl
 generalize Zgt r.at_ least = x1 at *
 obtain ⟨nm, fr, to, mo, ⟨dk, dw, dd⟩, ⟨cs, cb⟩, sv, le⟩ := r
 simp only at *
 show Does _ _ [.agg #[.string nm, .int .i64 fr, .int .i64 to, .int .i64 mo, .int .i64 dk, .int .i64 dw, .int .i64 dd, .int .i64 cs, .int .i64 cb, .int .i64 sv, .string le], .int .i64 least] w _
 refine Zab Tryz.func295 rfl rfl rfl rfl ?_
 repeat' (first | (refine js ?_; (first | (refine Zac (fun w' hw => h1 w') ?_) | (refine bx ?_; intro bk))) | refine walk ?_ | (refine Zah rfl (fun hc => ?_) (fun hc => ?_)))
 all_goals exact clo1
theorem Zr8 (r : Zaa) (least : Int) (w : World) : Does Tryz.prog 297 [.agg (Zaa.enc r).toArray, .int .i64 least] w (fun v O => v = .bool (Zdo r least 4) /\ O = []) := by
 unfold Zdo
 obtain ⟨nm, fr, to, mo, ⟨dk, dw, dd⟩, ⟨cs, cb⟩, sv, le⟩ := r
 simp only at *
 show Does _ _ [.agg #[.string nm, .int .i64 fr, .int .i64 to, .int .i64 mo, .int .i64 dk, .int .i64 dw, .int .i64 dd, .int .i64 cs, .int .i64 cb, .int .i64 sv, .string le], .int .i64 least] w _
 refine Zab Tryz.func297 rfl rfl rfl rfl ?_
 repeat' (first | (refine js ?_; (refine bx ?_; intro bk)) | refine walk ?_ | refine und ?_ | (refine ZaB rfl rfl rfl (fun hc => ?_) (fun hc => ?_)) | (refine Zaz rfl rfl rfl (fun hc => ?_) (fun hc => ?_)) | (refine Zah rfl (fun hc => ?_) (fun hc => ?_)))
 all_goals exact clo1
theorem Zr7 (r : Zaa) (least : Int) (hs : (r.letter.size : Int) <= 9223372036854775807) (w : World) : Does Tryz.prog 298 [.agg (Zaa.enc r).toArray, .int .i64 least] w (fun v O => v = .bool (Zdo r least 5) /\ O = []) := by
 unfold Zdo
 rw [show ByteArray.empty = ⟨#[]⟩ from rfl]
 have h1 := ZoT r.letter hs
 generalize Zi1 r.letter = x1 at *
 obtain ⟨nm, fr, to, mo, ⟨dk, dw, dd⟩, ⟨cs, cb⟩, sv, le⟩ := r
 simp only at *
 show Does _ _ [.agg #[.string nm, .int .i64 fr, .int .i64 to, .int .i64 mo, .int .i64 dk, .int .i64 dw, .int .i64 dd, .int .i64 cs, .int .i64 cb, .int .i64 sv, .string le], .int .i64 least] w _
 refine Zab Tryz.func298 rfl rfl rfl rfl ?_
 repeat' (first | (refine js ?_; (first | (refine Zac (fun w' hw => h1 w') ?_) | (refine bx ?_; intro bk))) | refine walk ?_ | refine und ?_ | (refine ZaB rfl rfl rfl (fun hc => ?_) (fun hc => ?_)) | (refine Zaz rfl rfl rfl (fun hc => ?_) (fun hc => ?_)) | (refine Zah rfl (fun hc => ?_) (fun hc => ?_)))
 all_goals exact clo1
theorem Zkp (r : Zaa) (w : World) : Does Tryz.prog 170 [.agg (Zaa.enc r).toArray] w (fun v O => v = .bool (Zez r) /\ O = []) := by
 unfold Zez
 obtain ⟨nm, fr, to, mo, ⟨dk, dw, dd⟩, ⟨cs, cb⟩, sv, le⟩ := r
 simp only at *
 show Does _ _ [.agg #[.string nm, .int .i64 fr, .int .i64 to, .int .i64 mo, .int .i64 dk, .int .i64 dw, .int .i64 dd, .int .i64 cs, .int .i64 cb, .int .i64 sv, .string le]] w _
 refine Zab Tryz.func170 rfl rfl rfl rfl ?_
 repeat' (first | (apply RL_pu; rfl; (apply Pu_rem; rfl; rfl; decide)) | (refine js ?_; (refine bx ?_; intro bk)) | refine walk1 ?_ | refine und ?_ | (refine ZaB rfl rfl rfl (fun hc => ?_) (fun hc => ?_)) | (refine Zaz rfl rfl rfl (fun hc => ?_) (fun hc => ?_)) | (refine Zah rfl (fun hc => ?_) (fun hc => ?_)))
 all_goals exact clo1
theorem Zc1 (A : Option Addr) (c : Nat) (l : List Zaa) (w : World) (hA : RdSl w A c Zaa.enc 11 l) : Does Tryz.prog 90 [.slice A l.length c] w (fun v O => v = .int .i64 (Zak l) /\ O = []) := by
 have hle := hA.le
 have hcp := hA.cap
 unfold maxLen at hcp
 generalize hres : Zak l = res
 unfold Zak at hres
 refine Zab Tryz.func90 rfl rfl rfl rfl ?_
 repeat (first | (refine js ?_; (refine bx ?_; intro bk)) | refine walk ?_)
 refine Zaq [(6, _), (7, _)] [] (fun g : Nat × Int => [(3, .int .i64 g.2), (8, .int .i64 g.1)]) (fun _ => []) (fun g => g.1 <= l.length /\ (l.drop g.1).foldl (fun m r => min m r.save) g.2 = res) (fun g => l.length - g.1) (0, 0) SFA SOA ⟨Nat.zero_le _, hres⟩ ?_
 rintro ⟨k, m⟩ ⟨hk, hi⟩
 dsimp only at hk hi ⊢
 repeat (first | (refine js ?_; (refine bx ?_; intro bk)) | refine walk ?_)
 refine Zah rfl (fun h => ?_) (fun h => ?_)
 ·have hlt : k < l.length := by simpa using h
  obtain ⟨hna, hca⟩ := hA.rd k _ (List.getElem?_eq_getElem hlt)
  rw [Zat hlt] at hi
  generalize l[k] = r at *
  obtain ⟨nm, fr, to, mo, ⟨dk, dw, dd⟩, ⟨cs, cb⟩, sv, le⟩ := r
  simp only [Zaa.enc, List.foldl_cons] at hca hi
  repeat (first | (apply RL_pu; rfl; (first | exact PuI | (apply Zfc; rfl; rfl))) | (refine js ?_; (refine bx ?_; intro bk)) | refine walk1 ?_)
  rw [show (if sv < m then sv else m) = min m sv by split <;> omega]
  exact ⟨(k + 1, min m sv), OA, ⟨OA, hi⟩, SFA, .nil⟩
 ·have hkl : k = l.length := by
   have := of_decide_eq_false h
   omega
  subst hkl
  rw [List.drop_length] at hi
  repeat (first | (refine js ?_; (refine bx ?_; intro bk)) | refine walk ?_)
  exact ret_1 _ [] (.tmp rfl) .nil ⟨by rw [<- hi]; rfl, rfl⟩
theorem Zkt (A : Option Addr) (c : Nat) (l : List Zaa) (w : World) (hA : RdSl w A c Zaa.enc 11 l) : Does Tryz.prog 89 [.slice A l.length c] w (fun v O => v = .tuple #[.int .i64 (Zdd l).1, .bool (Zdd l).2] /\ O = []) := by
 have hle := hA.le
 have hcp := hA.cap
 unfold maxLen at hcp
 generalize hres : Zdd l = res
 unfold Zdd at hres
 refine Zab Tryz.func89 rfl rfl rfl rfl ?_
 repeat (first | (refine js ?_; (refine bx ?_; intro bk)) | refine walk ?_)
 refine Zaq [(7, _), (8, _)] [] (fun g : Nat × Int => [(4, .int .i64 g.2), (9, .int .i64 g.1)]) (fun _ => []) (fun g => g.1 <= l.length /\ ZcJ (l.drop g.1) g.2 = res) (fun g => l.length - g.1) (0, 0) SFA SOA ⟨Nat.zero_le _, hres⟩ ?_
 rintro ⟨k, m⟩ ⟨hk, hi⟩
 dsimp only at hk hi ⊢
 repeat (first | (refine js ?_; (refine bx ?_; intro bk)) | refine walk ?_)
 refine Zah rfl (fun h => ?_) (fun h => ?_)
 ·have hlt : k < l.length := by simpa using h
  obtain ⟨hna, hca⟩ := hA.rd k _ (List.getElem?_eq_getElem hlt)
  rw [Zat hlt, ZcJ] at hi
  generalize l[k] = r at *
  obtain ⟨nm, fr, to, mo, ⟨dk, dw, dd⟩, ⟨cs, cb⟩, sv, le⟩ := r
  simp only [Zaa.enc] at hca hi
  repeat (first | (apply RL_pu; rfl; exact PuI) | (refine js ?_; (refine bx ?_; intro bk)) | refine walk1 ?_)
  refine Zah rfl (fun h1 => ?_) (fun h1 => ?_)
  ·rw [if_pos (of_decide_eq_true h1)] at hi
   repeat (first | (refine js ?_; (refine bx ?_; intro bk)) | refine walk ?_)
   exact ⟨(k + 1, m), OA, ⟨OA, hi⟩, SFA, .nil⟩
  rw [if_neg (of_decide_eq_false h1)] at hi
  repeat' (first | (refine js ?_; (refine bx ?_; intro bk)) | refine walk ?_ | refine und ?_ | (refine ZaB rfl rfl rfl (fun hc => ?_) (fun hc => ?_)) | (refine Zaz rfl rfl rfl (fun hc => ?_) (fun hc => ?_)) | (refine Zah rfl (fun hc => ?_) (fun hc => ?_)))
  ·rename_i h0
   simp only [Bool.not_eq_true', decide_eq_false_iff_not] at h0 hc
   rw [if_pos ⟨h0, hc⟩] at hi
   exact ret_2 _ _ [] (.tmp rfl) (.tmp rfl) .nil ⟨by rw [<- hi], rfl⟩
  ·simp only [Bool.not_eq_false', decide_eq_true_eq] at hc
   rw [if_neg (fun e => e.2 hc)] at hi
   exact ⟨(k + 1, sv), OA, ⟨OA, hi⟩, SFA, .nil⟩
  ·simp only [Bool.not_eq_false', decide_eq_true_eq] at hc
   rw [if_neg (fun e => e.1 hc)] at hi
   exact ⟨(k + 1, sv), OA, ⟨OA, hi⟩, SFA, .nil⟩
 ·have hkl : k = l.length := by
   have := of_decide_eq_false h
   omega
  subst hkl
  rw [List.drop_length, ZcJ] at hi
  repeat (first | (refine js ?_; (refine bx ?_; intro bk)) | refine walk ?_)
  exact ret_2 _ _ [] (.tmp rfl) (.tmp rfl) .nil ⟨by rw [<- hi], rfl⟩
end Go.Proofs.YtpcpmndldgejiaaGreatDoor
namespace Go.Wk
open Go Go.RowKit
section
variable {P : Program} {n : Nat} {wr : World} {fr : Fr} {O : List It} {Q : Exit -> Fr -> List It -> Prop}
def RW (P : Program) (n : Nat) (wr : World) (c : Code) (Q : Exit -> Fr -> List It -> Prop) : Nat -> Fr -> List It -> Prop
 | 0, _, _ => False
 | k + 1, fr, O => W P n wr c (Zay (RW P n wr c Q k) Q) fr O
theorem ZnW {c : Code} : ∀ (k : Nat) (fr : Fr) (O : List It), RW P n wr c Q k fr O -> ∀ a w, St n wr fr O a w -> Code.rounds P c (lift n wr Q) k a w
 | 0, _, _, h, _, _, _ => h
 | k + 1, fr, O, h, a, w, hs => by
  rw [rounds_succ]
  refine wp_mono (h a w hs) ?_
  rintro e a' w' ⟨fr', O', hs', hq⟩
  cases e with
  | normal => exact ZnW k fr' O' hq a' w' hs'
  | _ => exact ⟨fr', O', hs', hq⟩
theorem ZqV {c : Code} (k : Nat) (h : RW P n wr c Q k fr O) : W P n wr (.loop c) Q fr O := fun a w hs => wp_loop_rounds k (ZnW k fr O h a w hs)
theorem Zew {c : Code} {k : Nat} (h : W P n wr c (Zay (RW P n wr c Q k) Q) fr O) : RW P n wr c Q (k + 1) fr O := h
theorem Does.monoH {f : FuncId} {args : List Value} {w : World} {R R' : Value -> List It -> Prop} (h : Does P f args w R) (hr : ∀ v O base w', R v O -> Zax base O w' -> ∃ O', R' v O' /\ Zax base O' w') : Does P f args w R' :=
 Calls.mono h fun _ _ ⟨v, O, h1, h2, h3, h4⟩ => by
  obtain ⟨O', h5, h6⟩ := hr v O _ _ h4 h3
  exact ⟨v, O', h1, h2, h6, h5⟩
end
section
variable {P : Program} {n : Nat} {wr : World} {fr : Fr} {O : List It} {ty : TypeId}
theorem Zn6 {t len e sz : Nat} {x ix : Operand} {kk : IntKind} {i : Int} {cs vs : List Value} [hA : ArrT P t len e sz true] (hx : ev fr x = some (.agg cs.toArray)) (hi : ev fr ix = some (.int kk i)) (h0 : 0 <= i) (h1 : i < len) (hv : (cs.drop (i.toNat * sz)).take sz = vs) :
  Pu P n wr fr O (.index t x ix) ty (.agg vs.toArray) := fun a w hs _ _ _ _ => by
 have h := hA.h
 unfold Zk0 at h
 split at h
 ·rename_i len' e' hu
  split at h
  ·rename_i sz' ag' ht
   simp only [Option.some.injEq, Prod.mk.injEq] at h
   obtain ⟨rfl, rfl, rfl, rfl⟩ := h
   obtain ⟨inf, dd, hinf, hsz, hag, _⟩ := Ty.parts ht
   have : Ty P e' sz' true := ⟨ht⟩
   subst hv
   simp only [execOp, hs.sim.ev hx, hs.sim.ev hi, Instr.index, asIntOf, Sem.run_bind, Sem.run_pure, Result.andThen_ok, run_underlying hu, h0, h1, and_self, if_true, part, ZdU, Zc0]
   simp [List.take_drop]
  ·cases h
 ·cases h
end
end Go.Wk
namespace Go.Proofs.YtpcpmndldgejiaaGreatDoor
open Go Go.RowKit Go.Wk
attribute [local irreducible] W RL Does Zay Zam retQ Calls Pu Stp RD Qy Ay Zan Zde
theorem Zjj {α : Type} (p : α -> Bool) : ∀ (l : List α) (k : Nat), decide (0 <= ZbJ p l k) = l.any p
 | [], k => rfl
 | x :: l, k => by
  rw [ZbJ, List.any_cons]
  by_cases h : p x = true
  ·rw [if_pos h, h]; simp
  ·rw [if_neg h, Zjj p l (k + 1)]
   simp [h]
theorem Ze7 (A : Option Addr) (c : Nat) (l : List Zaa) (f : FuncId) [Body Tryz.prog f] (us cs : List Value) (p : Zaa -> Bool) (w : World) (hA : RdSl w A c Zaa.enc 11 l)
  (hf : ∀ r w', Bel w.heap.size w w' -> Does Tryz.prog f (us ++ [.agg (Zaa.enc r).toArray] ++ cs) w' (fun v O => v = .bool (p r) /\ O = [])) :
  Does Tryz.prog 123 [.slice A l.length c, .func (.func f) us.toArray cs.toArray] w (fun v O => v = .bool (l.any p) /\ O = []) := by
 have h := fun w' (hw : Bel w.heap.size w w') => ZfO A c l f us cs p w' (hA.up hw) fun r w2 h2 => hf r w2 (hw.trans (h2.mono hw.size))
 rw [<- Zjj p l 0]
 generalize ZbJ p l 0 = k at *
 refine Zab Tryz.func123 rfl rfl rfl rfl ?_
 repeat (first | (refine js ?_; (refine Zac h ?_)) | refine walk ?_)
 exact rtA
theorem Zug (r : Zaa) (w : World) : Does Tryz.prog 121 [.agg (Zaa.enc r).toArray] w (fun v O => v = .bool (decide (r.save = 0)) /\ O = []) := by
 obtain ⟨nm, fr, to, mo, ⟨dk, dw, dd⟩, ⟨cs, cb⟩, sv, le⟩ := r
 show Does _ _ [.agg #[.string nm, .int .i64 fr, .int .i64 to, .int .i64 mo, .int .i64 dk, .int .i64 dw, .int .i64 dd, .int .i64 cs, .int .i64 cb, .int .i64 sv, .string le]] w _
 refine Zab Tryz.func121 rfl rfl rfl rfl ?_
 repeat' (first | (refine js ?_; (refine bx ?_; intro bk)) | refine walk ?_ | (refine Zah rfl (fun hc => ?_) (fun hc => ?_)))
 all_goals exact clo1
theorem ZrM (r : Zaa) (w : World) : Does Tryz.prog 169 [.agg (Zaa.enc r).toArray] w (fun v O => v = .bool (!decide (r.to = 1048576)) /\ O = []) := by
 obtain ⟨nm, fr, to, mo, ⟨dk, dw, dd⟩, ⟨cs, cb⟩, sv, le⟩ := r
 show Does _ _ [.agg #[.string nm, .int .i64 fr, .int .i64 to, .int .i64 mo, .int .i64 dk, .int .i64 dw, .int .i64 dd, .int .i64 cs, .int .i64 cb, .int .i64 sv, .string le]] w _
 refine Zab Tryz.func169 rfl rfl rfl rfl ?_
 repeat' (first | (refine js ?_; (refine bx ?_; intro bk)) | refine walk ?_ | (refine Zah rfl (fun hc => ?_) (fun hc => ?_)))
 all_goals exact clo1
theorem Zuf (r : Zaa) (ad : Addr) (m : Int) (w : World) (h : w.cell? ad = some (.int .i64 m)) : Does Tryz.prog 122 [.agg (Zaa.enc r).toArray, .pointer (some ad)] w (fun v O => v = .bool (!decide (r.save = 0) && !decide (r.save = m)) /\ O = []) := by
 obtain ⟨nm, fr, to, mo, ⟨dk, dw, dd⟩, ⟨cs, cb⟩, sv, le⟩ := r
 show Does _ _ [.agg #[.string nm, .int .i64 fr, .int .i64 to, .int .i64 mo, .int .i64 dk, .int .i64 dw, .int .i64 dd, .int .i64 cs, .int .i64 cb, .int .i64 sv, .string le], .pointer (some ad)] w _
 refine Zab Tryz.func122 rfl rfl rfl rfl ?_
 repeat' (first | (apply RL_pu; rfl; (apply Pu_loadO1; rfl; exact h)) | (refine js ?_; (refine bx ?_; intro bk)) | refine walk1 ?_ | refine und ?_ | (refine ZaB rfl rfl rfl (fun hc => ?_) (fun hc => ?_)) | (refine Zaz rfl rfl rfl (fun hc => ?_) (fun hc => ?_)) | (refine Zah rfl (fun hc => ?_) (fun hc => ?_)))
 all_goals exact clo1
end Go.Proofs.YtpcpmndldgejiaaGreatDoor
namespace Go.Proofs.YtpcpmndldgejiaaGreatDoor
open Go Go.RowKit Go.Wk
attribute [local irreducible] W RL Does Zay Zam retQ Calls Pu Stp RD Qy Ay
theorem Zpb (A : Option Addr) (c : Nat) (x : List Zaa) (w : World) (hA : RdSl w A c Zaa.enc 11 x) (hn : x.length <= 1000000) :
  Does Tryz.prog 38 [.slice A x.length c] w (Zsq 118 11 Zaa.enc x) := by
 refine Zab Tryz.func38 rfl rfl rfl rfl ?_
 repeat (first | (refine js ?_; (refine bx ?_; intro bk)) | refine walk ?_)
 refine Zah rfl (fun h1 => ?_) (fun h1 => ?_)
 ·obtain rfl := hA.none h1
  refine ZfG 118 11 ?_
  repeat (first | (refine js ?_; (refine bx ?_; intro bk)) | refine walk ?_)
  exact ret_1 _ [.row (.slice none 0 0) 118 11 0 []] (.tmp rfl) SOA ⟨none, 0, rfl, rfl⟩
 repeat (first | (refine js ?_; (first | (apply Zpu; rfl; rfl; (intro A' c'; (focus repeat' constructor)); (intro w' hw _; exact (hA.up hw).rd.raw Zaa.len (by decide)); exact Zbr Zaa.len x; exact Zfs oneR x; (simp only [maxLen]; omega); omega; intro A' c' hc1 hc2 hc3) | (refine bx ?_; intro bk))) | refine walk ?_)
 exact ret_1 _ _ (.tmp rfl) (.refl _) ⟨A', c', rfl, rfl⟩
theorem ZeP (k : ByteArray) (v : Value) (x : ByteArray) : ∀ m : List (ByteArray × Value), mget (mset m k v) x = if x = k then some v else mget m x
 | [] => by simp [mset, mget]
 | (y, u) :: r => by
  simp only [mset]
  split
  ·rename_i h; subst h; simp only [mget]; split <;> simp_all
  ·rename_i h
   simp only [mget, ZeP k v x r]
   split
   ·rename_i h2; subst h2; rw [if_neg (fun e => h e.symm)]
   ·rfl
def MpB (m : List (ByteArray × Value)) (l : List ByteArray) : Prop := ∀ x, (mget m x).getD (.bool false) = .bool (memB x l)
theorem MpB.set {m : List (ByteArray × Value)} {l : List ByteArray} (h : MpB m l) (y : ByteArray) : MpB (mset m y (.bool true)) (l ++ [y]) := fun x => by
 rw [ZeP, ZmX]
 by_cases e : x = y
 ·subst e; simp
 ·rw [if_neg e, h x]; simp [show ¬ y = x from fun h => e h.symm]
theorem MpB.nil : MpB [] [] := fun _ => rfl
structure MG (α : Type) where
 k : Nat
 A : Option Addr
 c : Nat
 m : Nat
 xs : List Value
 acc : List α
 mp : List (ByteArray × Value)
theorem ZrD (Ar Az Al As : Option Addr) (cr cz cl cs : Nat) (a : Zai) (w : World) (hA : Zaj w Ar Az Al As cr cz cl cs a) (hn : a.rules.length <= 1000000) :
  Does Tryz.prog 75 [srcV Ar Az Al As cr cz cl cs a] w (Zsq 9 1 Zbh (Zcd a.rules [])) := by
 generalize hres : Zcd a.rules [] = res
 refine Zab Tryz.func75 rfl rfl rfl rfl ?_
 repeat (first | (refine js ?_; (refine bx ?_; intro bk)) | refine walk ?_)
 refine ZfG 9 1 ?_
 refine Zaq [(3, _), (9, _), (10, _)] [] (fun g : MG ByteArray => [(4, .slice g.A g.m g.c), (11, .int .i64 g.k)]) (fun g => [.row (.slice g.A g.m g.c) 9 1 g.m g.xs, .mp _ g.mp]) (fun g => g.k <= a.rules.length /\ g.m = g.acc.length /\ g.xs = g.acc.flatMap Zbh /\ g.m <= g.k /\ MpB g.mp g.acc /\ Zcd (a.rules.drop g.k) g.acc = res) (fun g => a.rules.length - g.k) ⟨0, none, 0, 0, [], [], []⟩ ⟨rfl, rfl, rfl, rfl, rfl, trivial⟩ SOA ⟨by simp, rfl, rfl, Nat.le_refl _, .nil, by simpa using hres⟩ ?_
 rintro ⟨k, A, c, m, xs, acc, mp⟩ ⟨hk, hm, hx, hmk, hp, hi⟩
 dsimp only at hk hm hx hmk hp hi ⊢
 repeat (first | (refine js ?_; (refine bx ?_; intro bk)) | refine walk ?_)
 refine Zah rfl (fun hc => ?_) (fun hc => ?_)
 ·simp only [decide_eq_true_eq, Int.ofNat_lt] at hc
  obtain ⟨hna, hca⟩ := hA.r.rd k _ (List.getElem?_eq_getElem hc)
  have hnb := hna
  have hcb := hca
  rw [Zat hc, Zcd] at hi
  generalize a.rules[k] = r at *
  repeat (first | (apply RL_pu; rfl; (first | exact PuI | (apply ZhB; rfl; rfl; (focus repeat' constructor); exact hp _))) | (refine js ?_; (refine bx ?_; intro bk)) | refine walk1 ?_)
  refine Zah rfl (fun h3 => ?_) (fun h3 => ?_)
  ·simp only [Bool.not_eq_true'] at h3
   rw [h3] at hi
   repeat (first | (apply RL_pu; rfl; exact PuI) | (refine js ?_; (first | (apply Zau; rfl; rfl; (intro A' c'; (focus repeat' constructor)); (intro w' _ hO; exact Za4 (hO.of (by repeat' constructor))); rfl; rfl; (simp only [maxLen]; omega); omega; intro A' c' hc1 hc2 hc3) | (refine bx ?_; intro bk))) | refine walk1 ?_)
   exact ⟨⟨k + 1, A', c', m + 1, xs ++ Zbh r.name, acc ++ [r.name], mset mp r.name (.bool true)⟩, OA, ⟨OA, by simp [hm], by rw [hx]; exact ZgG acc r.name, OA, hp.set _, by rw [<- hi]; simp⟩, SFA, SOA⟩
  simp only [Bool.not_eq_false'] at h3
  rw [h3] at hi
  repeat (first | (refine js ?_; (refine bx ?_; intro bk)) | refine walk ?_)
  exact ⟨⟨k + 1, A, c, m, xs, acc, mp⟩, OA, ⟨OA, hm, hx, OA, hp, by rw [<- hi]; simp⟩, SFA, SOA⟩
 simp only [decide_eq_false_iff_not, Int.ofNat_lt] at hc
 rw [List.drop_eq_nil_of_le (by omega), Zcd] at hi
 subst hi
 repeat (first | (refine js ?_; (refine bx ?_; intro bk)) | refine walk ?_)
 exact ret_1 _ [.row (.slice A acc.length c) 9 1 acc.length (acc.flatMap Zbh)] (.tmp rfl) (by subst hm hx; exact SOA) ⟨A, c, by rw [hm], rfl⟩
structure ZqW where
 name : ByteArray
 rs : List Zaa
 A : Option Addr
 c : Nat
 m : Nat
 xs : List Value
def ZqW.v (g : ZqW) : Value := .slice g.A g.m g.c
def ZqW.row (g : ZqW) : It := .row (.slice g.A g.m g.c) 118 11 g.m g.xs
structure ZE where
 z : ZaY
 A : Option Addr
 c : Nat
def ZE.enc (q : ZE) : List Value := [.string q.z.name, .slice q.A q.z.eras.length q.c]
theorem ZE.len (x : ZE) : x.enc.length = 2 := rfl
def ZaQ (Zs : List ZE) (w : World) : Prop := ∀ q ∈ Zs, RdSl w q.A q.c DEra.enc 13 q.z.eras
theorem Zlf {w : World} {A : Option Addr} {c : Nat} {Zs : List ZE} (h : RdSl w A c ZE.enc 2 Zs) (he : ZaQ Zs w) : RdZ w A (Zs.map ZE.z) := fun k z hz => by
 rw [List.getElem?_map] at hz
 cases hq : Zs[k]? with
 | none => rw [hq] at hz; cases hz
 | some q =>
  rw [hq] at hz
  injection hz with hz
  subst hz
  exact ⟨(h.rd k q hq).1, q.enc, ⟨q.A, q.c, he q (List.mem_of_getElem? hq), rfl⟩, (h.rd k q hq).2⟩
abbrev rowR (A : Option Addr) (c : Nat) (l : List Zaa) : It := .row (.slice A l.length c) 118 11 l.length (l.flatMap Zaa.enc)
abbrev rowZ (A : Option Addr) (c : Nat) (l : List ZE) : It := .row (.slice A l.length c) 54 2 l.length (l.flatMap ZE.enc)
abbrev rowL (A : Option Addr) (c : Nat) (l : List Zbf) : It := .row (.slice A l.length c) 56 2 l.length (l.flatMap Zbf.enc)
abbrev rowS (A : Option Addr) (c : Nat) (l : List ByteArray) : It := .row (.slice A l.length c) 9 1 l.length (l.flatMap Zbh)
def ZAD (s : Zai) (v : Value) (O : List It) : Prop :=
 ∃ Ar cr Az cz Al cl As cs Zs S, v = srcV Ar Az Al As cr cz cl cs s /\ Zs.map ZE.z = s.zones /\ O = [rowR Ar cr s.rules, rowZ Az cz Zs, rowL Al cl s.links, rowS As cs s.shifts, .fact S (ZaQ Zs)]
theorem ZcD {w : World} {Ar Az Al As : Option Addr} {cr cz cl cs : Nat} {Zs : List ZE} {S : Nat -> Prop} {s : Zai} (hz : Zs.map ZE.z = s.zones) (h1 : (rowR Ar cr s.rules).sat w) (h2 : (rowZ Az cz Zs).sat w) (h3 : (rowL Al cl s.links).sat w) (h4 : (rowS As cs s.shifts).sat w) (h5 : (It.fact S (ZaQ Zs)).sat w) :
  Zaj w Ar Az Al As cr cz cl cs s := by
 have h := ZaW ZE.len h2
 have hl : s.zones.length = Zs.length := by rw [<- hz, List.length_map]
 exact ⟨ZaW Zaa.len h1, by rw [hl]; exact h.le, h.cap, hz ▸ Zlf h (ZaA h5), ZaW Zbf.len h3, ZaW Zbh.len h4⟩
end Go.Proofs.YtpcpmndldgejiaaGreatDoor
namespace Go.Proofs.YtpcpmndldgejiaaGreatDoor
open Go Go.RowKit Go.Wk
abbrev ZbD (q : ZE) : It := .row (.slice q.A q.z.eras.length q.c) 74 13 q.z.eras.length (q.z.eras.flatMap DEra.enc)
def ZpT (s : Zai) (v : Value) (O : List It) : Prop :=
 ∃ Ar cr Az cz Al cl As cs Zs, v = srcV Ar Az Al As cr cz cl cs s /\ Zs.map ZE.z = s.zones /\ O = rowR Ar cr s.rules :: rowZ Az cz Zs :: rowL Al cl s.links :: rowS As cs s.shifts :: Zs.map ZbD
theorem ZmR {s : Zai} {v : Value} {O : List It} (h : ZpT s v O) : ∃ O', ZAD s v O' /\ ∀ base w', Zax base O w' -> Zax base O' w' := by
 obtain ⟨Ar, cr, Az, cz, Al, cl, As, cs, Zs, rfl, hz, rfl⟩ := h
 refine ⟨_, ⟨Ar, cr, Az, cz, Al, cl, As, cs, Zs, foot (Zs.map ZbD), rfl, hz, rfl⟩, fun base w' hH => ?_⟩
 have h1 : Zax base (Zs.map ZbD ++ [rowR Ar cr s.rules, rowZ Az cz Zs, rowL Al cl s.links, rowS As cs s.shifts]) w' := hH.perm (List.perm_append_comm (l₁ := [rowR Ar cr s.rules, rowZ Az cz Zs, rowL Al cl s.links, rowS As cs s.shifts]))
 have h2 := h1.fact (p := ZaQ Zs) (fun w2 hi q hq => ZaW DEra.len (hi (ZbD q) (List.mem_map.2 ⟨q, hq, rfl⟩)))
 exact h2.perm (List.perm_append_comm (l₁ := [_]) (l₂ := [rowR Ar cr s.rules, rowZ Az cz Zs, rowL Al cl s.links, rowS As cs s.shifts]))
theorem SubO.permT {l A B O : List It} (h : SubO (l ++ A) O) (hp : A.Perm B) : SubO (l ++ B) O := by
 obtain ⟨R, hR⟩ := h.perm
 exact SubO.ofPerm (R := R) (hR.trans ((hp.append_left l).append_right R))
section
variable {P : Program} {n : Nat} {wr : World} {fr : Fr} {O : List It} {ops : Array Oper} {K : Fr -> List It -> Prop}
end
attribute [local irreducible] W RL Does Zay Zam retQ Calls Pu Stp RD Qy Ay
end Go.Proofs.YtpcpmndldgejiaaGreatDoor
namespace Go.Wk
open Go Go.RowKit
theorem Zsx (z : Array Value) (k : Nat) (h : z.toList.all Value.oneCell' = true) (h0 : 0 < z.size) : (Builtin.zeroCells z k).toList.all Value.oneCell' = true := by
 rw [List.all_eq_true] at h ⊢
 intro x hx
 unfold Builtin.zeroCells at hx
 rw [Array.toList_map, List.mem_map] at hx
 obtain ⟨i, hi, rfl⟩ := hx
 have hlt := Nat.mod_lt i h0
 rw [getElem!_pos z (i % z.size) hlt]
 exact h _ (by simp)
theorem Zqs : ∀ (vs xs : List Value) (j : Nat), xs.length <= j -> lay xs j vs = xs
 | [], _, _, _ => rfl
 | v :: r, xs, j, h => by rw [lay, List.set_eq_of_length_le h, Zqs r xs (j + 1) (by omega)]
theorem Zxc : ∀ (vs pre cs post : List Value), cs.length = vs.length -> lay (pre ++ cs ++ post) pre.length vs = pre ++ vs ++ post
 | [], pre, cs, post, h => by
  have : cs = [] := List.eq_nil_of_length_eq_zero h
  rw [this]; rfl
 | v :: r, pre, [], post, h => by simp at h
 | v :: r, pre, c :: cs, post, h => by
  have := Zxc r (pre ++ [v]) cs post (by simpa using h)
  rw [lay]
  rw [show (pre ++ c :: cs ++ post).set pre.length v = pre ++ [v] ++ cs ++ post by simp]
  rw [List.length_append] at this
  simpa using this
end Go.Wk
namespace Go.Proofs.YtpcpmndldgejiaaGreatDoor
open Go Go.RowKit Go.Wk
attribute [local irreducible] W RL Does Zay Zam retQ Calls Pu Stp RD Qy Ay Zan Zde
theorem Zji {α : Type} (p : α -> Bool) : ∀ (l : List α) (k : Nat), (ZbJ p l k = -1 /\ l.filter (fun r => !p r) = l) \/ ∃ i, ZbJ p l k = ((k + i : Nat) : Int) /\ i < l.length /\ (l.take (i + 1)).filter (fun r => !p r) = l.take i
 | [], k => .inl ⟨rfl, rfl⟩
 | x :: l, k => by
  rw [ZbJ]
  by_cases h : p x = true
  ·rw [if_pos h]
   exact .inr ⟨0, rfl, by simp, by simp [h]⟩
  ·rw [if_neg h]
   rcases Zji p l (k + 1) with ⟨h1, h2⟩ | ⟨i, h1, h2, h3⟩
   ·exact .inl ⟨h1, by rw [List.filter_cons, if_pos (by simp [h]), h2]⟩
   ·refine .inr ⟨i + 1, by rw [h1]; omega, by simpa using h2, ?_⟩
    rw [List.take_succ_cons, List.filter_cons, if_pos (by simp [h]), h3, List.take_succ_cons]
theorem ZyJ {base : Nat} {A : Option Addr} {c : Nat} {l : List Zaa} {w : World} {O R : List It} (h : Zax base O w) (hp : Pick (rowR A c l) O R) (hlc : l.length <= c) (hcm : c <= maxLen) : RdSl w A c Zaa.enc 11 l :=
 ⟨hlc, hcm, fun k x hk => by
  have hs := h.sat _ (hp.perm.mem_iff.2 List.mem_cons_self)
  have hlt := (List.getElem?_eq_some_iff.1 hk).1
  refine ⟨Zbp hs (by omega), fun j v hj => ?_⟩
  rw [Zbe]
  exact (ZbT hs (ZaC Zaa.len l k x j v hk hj)).2⟩
instance zeroRule : ZeroV Tryz.prog 118 (.agg #[.string ByteArray.empty, .int .i64 0, .int .i64 0, .int .i64 0, .int .i64 0, .int .i64 0, .int .i64 0, .int .i64 0, .int .i64 0, .int .i64 0, .string ByteArray.empty]) := ⟨by kernel_rfl⟩
structure DG where
 j : Nat
 C : List Zaa
set_option maxHeartbeats 2000000 in
theorem Zo8 (A : Option Addr) (c : Nat) (l : List Zaa) (f : FuncId) [Body Tryz.prog f] (p : Zaa -> Bool) (wr : World) (hn : l.length <= 1000000) (hlc : l.length <= c) (hcm : c <= maxLen) (hAn : 0 < l.length -> A ≠ none) (hf : ∀ r w', Does Tryz.prog f [.agg (Zaa.enc r).toArray] w' (fun v O => v = .bool (p r) /\ O = [])) :
  Zan Tryz.prog 168 [.slice A l.length c, .func (.func f) #[] #[]] wr [rowR A c l] (fun v O => v = .slice A (l.filter fun r => !p r).length c /\ O = [rowR A c (l.filter fun r => !p r)]) := by
 have hidx := fun w' (hH : Zax wr.heap.size [rowR A c l] w') => ZfO A c l f [] [] p w' (ZyJ hH .here hlc hcm) fun r w2 _ => hf r w2
 unfold maxLen at hcm
 generalize hres : (l.filter fun r => !p r) = res
 rcases Zji p l 0 with ⟨h1, h2⟩ | ⟨i, h1, h2, h3⟩
 ·rw [h1] at hidx
  rw [h2] at hres
  subst hres
  refine ZbH Tryz.func168 rfl rfl rfl rfl ?_
  repeat (first | (refine js ?_; (first | (apply Zag (h := fun w' _ hH => hidx w' hH); rfl; rintro v O' ⟨rfl, rfl⟩) | (refine bx ?_; intro bk))) | refine walk ?_)
  exact ret_1 _ _ (.tmp rfl) (.refl _) ⟨rfl, rfl⟩
 ·rw [h1, Nat.zero_add] at hidx
  have hA := hAn (by omega)
  obtain ⟨ad, rfl⟩ : ∃ ad, A = some ad := by
   cases A with
   | none => exact absurd rfl hA
   | some ad => exact ⟨ad, rfl⟩
  clear hA hAn
  refine ZbH Tryz.func168 rfl rfl rfl rfl ?_
  repeat (first | (refine js ?_; (first | (apply Zag (h := fun w' _ hH => hidx w' hH); rfl; rintro v O' ⟨rfl, rfl⟩) | (refine bx ?_; intro bk))) | refine Zll ?_)
  refine Zb0 (fun fr' O' => Go.Wk.Sub [(0, .slice (some ad) l.length c), (5, .int .i64 res.length)] fr' /\ SubO [.row (.slice (some ad) l.length c) 118 11 l.length ((res ++ l.drop res.length).flatMap Zaa.enc)] O') ?_ ?_
  ·apply W_block
   refine Zaq [(0, _), (1, _)] [] (fun g : DG => [(5, .int .i64 g.C.length), (6, .int .i64 g.j)]) (fun g => [.row (.slice (some ad) l.length c) 118 11 l.length ((g.C ++ l.drop g.C.length).flatMap Zaa.enc)])
    (fun g => g.C = (l.take g.j).filter (fun r => !p r) /\ g.C.length + 1 <= g.j /\ g.j <= l.length) (fun g => l.length - g.j) ⟨i + 1, l.take i⟩ (by dsimp only; rw [List.length_take, Nat.min_eq_left (by omega)]; exact ⟨rfl, rfl, rfl, rfl, trivial⟩) (by dsimp only; rw [List.length_take, Nat.min_eq_left (by omega), List.take_append_drop]; exact .refl _) ⟨h3.symm, by show (l.take i).length + 1 <= i + 1; rw [List.length_take]; omega, by show i + 1 <= l.length; omega⟩ ?_
   rintro ⟨j, C⟩ ⟨hC, hCj, hj⟩
   dsimp only at hC hCj hj ⊢
   have hLl : (C ++ l.drop C.length).length = l.length := by rw [List.length_append, List.length_drop]; omega
   repeat (first | (refine js ?_; (refine bx ?_; intro bk)) | refine walk ?_)
   refine Zah rfl (fun g => ?_) (fun g => ?_)
   ·have hjl : j < l.length := by simpa using g
    have hx : ∀ q v, (Zaa.enc l[j])[q]? = some v -> ((C ++ l.drop C.length).flatMap Zaa.enc)[(j : Int).toNat * 11 + q]? = some v := fun q v hv => by
     refine ZaC Zaa.len _ j l[j] q v ?_ hv
     rw [List.getElem?_append_right (by omega), List.getElem?_drop, show C.length + (j - C.length) = j from by omega, List.getElem?_eq_getElem hjl]
    have hst : (l.take (j + 1)).filter (fun r => !p r) = C ++ (if p l[j] then [] else [l[j]]) := by
     rw [List.take_succ_eq_append_getElem hjl, List.filter_append, <- hC]
     by_cases hp : p l[j] = true
     ·simp [hp]
     ·simp [hp]
    have hput : lay ((C ++ l.drop C.length).flatMap Zaa.enc) (C.length * 11) (Zaa.enc l[j]) = ((C ++ [l[j]]) ++ l.drop (C.length + 1)).flatMap Zaa.enc := by
     have hlt : C.length < l.length := by omega
     rw [Zat hlt, show C ++ l[C.length] :: l.drop (C.length + 1) = C ++ [l[C.length]] ++ l.drop (C.length + 1) by simp, List.flatMap_append, List.flatMap_append, List.flatMap_append, List.flatMap_append, List.flatMap_singleton, List.flatMap_singleton]
     have := Zxc (Zaa.enc l[j]) (C.flatMap Zaa.enc) (Zaa.enc l[C.length]) ((l.drop (C.length + 1)).flatMap Zaa.enc) rfl
     rw [Zbr Zaa.len] at this
     exact this
    generalize l[j] = r at *
    obtain ⟨nm, fr, to, mo, ⟨dk, dw, dd⟩, ⟨cs, cb⟩, sv, le⟩ := r
    have hfr := hf ⟨nm, fr, to, mo, ⟨dk, dw, dd⟩, ⟨cs, cb⟩, sv, le⟩
    generalize p ⟨nm, fr, to, mo, ⟨dk, dw, dd⟩, ⟨cs, cb⟩, sv, le⟩ = b at *
    simp only [Zaa.enc] at hx hput hfr
    repeat (first | (apply RL_pu; rfl; (first | (apply Pu_indexAddr; rfl; rfl; omega; omega; nofun) | (apply Za6; rfl; (focus repeat' constructor); exact hx; rfl))) | (refine js ?_; (first | (apply Zar (f := f) (us := []) (cs := []) (vs := [.agg #[.string nm, .int .i64 fr, .int .i64 to, .int .i64 mo, .int .i64 dk, .int .i64 dw, .int .i64 dd, .int .i64 cs, .int .i64 cb, .int .i64 sv, .string le]]) (h := fun w' hw _ => hfr w'); rfl; rfl; rintro v O' ⟨rfl, rfl⟩) | (refine bx ?_; intro bk))) | refine walk1 ?_)
    refine Zah rfl (fun g2 => ?_) (fun g2 => ?_)
    ·have hb : b = false := by simpa using g2
     rw [hb, if_neg (by decide)] at hst
     have hfl : ((C ++ l.drop C.length).flatMap Zaa.enc).length = l.length * 11 := by rw [Zbr Zaa.len, hLl]
     repeat (first | (apply RL_pu; rfl; (apply Pu_indexAddr; rfl; rfl; omega; omega; nofun)) | (refine js ?_; (first | (apply ZbW (vs := [.string nm, .int .i64 fr, .int .i64 to, .int .i64 mo, .int .i64 dk, .int .i64 dw, .int .i64 dd, .int .i64 cs, .int .i64 cb, .int .i64 sv, .string le]); rfl; rfl; (focus repeat' constructor); rfl; rfl; rfl; (rw [hfl]; omega); decide; exact hput) | (refine bx ?_; intro bk))) | refine walk1 ?_)
     refine ⟨⟨j + 1, _⟩, OA, ⟨hst.symm, by dsimp only; rw [List.length_append, List.length_singleton]; omega, OA⟩, ?_, ?_⟩
     ·dsimp only
      rw [List.length_append, List.length_singleton]
      exact SFA
     ·dsimp only
      rw [List.length_append, List.length_singleton]
      exact SOA
    ·have hb : b = true := by simpa using g2
     rw [hb, if_pos rfl, List.append_nil] at hst
     repeat (first | (refine js ?_; (refine bx ?_; intro bk)) | refine walk ?_)
     exact ⟨⟨j + 1, C⟩, OA, ⟨hst.symm, OA, OA⟩, SFA, SOA⟩
   ·have hjl : j = l.length := by
     have := of_decide_eq_false g
     omega
    rw [hjl, List.take_length, hres] at hC
    subst hC
    repeat (first | (refine js ?_; (refine bx ?_; intro bk)) | refine walk ?_)
    exact ⟨rfl, SFA, SOA⟩
  rintro fr' O' ⟨hf1, hO⟩
  apply thenQ_n
  refine Zch hf1 hO ?_
  clear hf1 hO fr' O'
  have hrl : res.length < l.length := by
   have h4 : l.take (i + 1) ++ l.drop (i + 1) = l := List.take_append_drop _ _
   have h5 : res = l.take i ++ (l.drop (i + 1)).filter (fun r => !p r) := by rw [<- hres, <- h3, <- List.filter_append, h4]
   have h6 := List.length_filter_le (fun r => !p r) (l.drop (i + 1))
   rw [List.length_drop] at h6
   have h7 := congrArg List.length h5
   rw [List.length_append, List.length_take] at h7
   omega
  have hLl : ((res ++ l.drop res.length).flatMap Zaa.enc).length = l.length * 11 := by rw [Zbr Zaa.len, List.length_append, List.length_drop]; congr 1; omega
  have htk : ∀ vs, (lay ((res ++ l.drop res.length).flatMap Zaa.enc) ((res.length : Int).toNat * 11) vs).take (res.length * 11) = res.flatMap Zaa.enc := fun vs => by
   rw [Zig, List.flatMap_append, List.take_left' (by rw [Zbr Zaa.len])]
   exact Zqs _ _ _ (by rw [Zbr Zaa.len]; omega)
  repeat (first | ((apply RL_st0; apply Zsj (p := (res.length : Int).toNat * 11) (k := l.length - (res.length : Int).toNat); rfl; (focus repeat' constructor); exact Zsx _ _ rfl (by decide); omega; (rw [hLl]; omega)); refine ZuG (m := l.length) res.length (by omega) (by repeat' constructor) ?_; rw [htk]) | (apply RL_pu; rfl; (apply ZuZ; rfl; rfl; omega; omega; omega)) | (refine js ?_; (refine bx ?_; intro bk)) | refine walk1 ?_)
  exact ret_1 _ _ (.tmp rfl) (.refl _) ⟨rfl, rfl⟩
attribute [local irreducible] Zez
def ZAE (l : List Zaa) (v : Value) (O : List It) : Prop := ∃ A c, v = .slice A l.length c /\ O = [rowR A c l] /\ l.length <= c /\ c <= maxLen /\ (0 < l.length -> A ≠ none)
theorem ZlR (A : Option Addr) (c : Nat) (x : List Zaa) (w : World) (hA : RdSl w A c Zaa.enc 11 x) (hn : x.length <= 1000000) :
  Does Tryz.prog 38 [.slice A x.length c] w (ZAE x) :=
 (Zpb A c x w hA hn).monoH fun v O base w' ⟨A, c, h1, h2⟩ hH => by
  subst h2
  obtain ⟨A2, c2, e1, h3, h4, h5, _⟩ := Zgw (hH.sat _ List.mem_cons_self)
  injection e1 with e2 _ e3
  subst e2 e3
  exact ⟨_, ⟨A, c, h1, rfl, h3, h4, h5⟩, hH⟩
theorem Zvh {G : Prop} (h : G := by (first | (apply Pu_indexAddr; rfl; rfl; (first | decide | omega); (first | decide | omega); nofun) | (apply Za6; rfl; (focus repeat' constructor); exact hx1; rfl) | (apply Za6; rfl; (focus repeat' constructor); exact hx2; rfl))) : G := h
theorem ZxF {G : Prop} (h : G := by first | (apply Qy_y; rfl; exact Zvh) | exact QyA) : G := h
theorem ZAv {G : Prop} (h : G := by repeat (first | exact QF.nil | (apply QF.mk; rfl; rfl; decide +kernel; exact ZxF))) : G := h
theorem ZtF (A : Option Addr) (c : Nat) (l : List Zaa) (w : World) (hA : RdSl w A c Zaa.enc 11 l) (hn : l.length <= 1000000) :
  Does Tryz.prog 124 [.slice A l.length c] w (fun v O => v = .bool (ZlE l) /\ O = []) := by
 have hfl : (l.filter fun r => !(!decide (r.to = 1048576))) = l.filter fun r => decide (r.to = 1048576) := by
  congr 1; funext r; rw [Bool.not_not]
 have hlen := List.length_filter_le (fun r : Zaa => decide (r.to = 1048576)) l
 obtain ⟨res, hres⟩ : ∃ res, ZlE l = res := ⟨_, rfl⟩
 rw [hres]
 unfold ZlE at hres
 refine Zab Tryz.func124 rfl rfl rfl rfl ?_
 repeat (first | refine walk ?_ | (refine jg ?_; (try intro F); (first | (apply Zag (h := fun w' hw _ => ZlR A c l w' (hA.up hw) hn); rfl; rintro v O' ⟨B, d, rfl, rfl, hb1, hb2, hb3⟩) | (refine bx ?_; intro bk) | (refine stA ?_)); refine fin ?_) | (refine jn ?_; (try intro F); (first | (refine bx ?_; intro bk) | (refine stA ?_) | (apply Zae; exact PuA)); refine fin ?_) | (apply RD_W; rfl; intro bk))
 have hdel := Zo8 B d l 169 (fun r => !decide (r.to = 1048576)) w hn hb1 hb2 hb3 ZrM
 rw [hfl] at hdel
 generalize (l.filter fun r => decide (r.to = 1048576)) = F at *
 repeat (first | refine walk ?_ | (refine ZeB ?_; intro F; (apply Zd7 (h := hdel); rfl; exact .refl _; rintro v O' ⟨rfl, rfl⟩); refine ⟨_, EndsA, SubO.right _ _, ?_⟩) | (refine jn ?_; (try intro F); (first | (apply Zd7 (h := hdel); rfl; exact .refl _; rintro v O' ⟨rfl, rfl⟩) | (refine bx ?_; intro bk) | (refine stA ?_) | (apply Zae; exact PuA)); refine fin ?_) | (apply RD_W; rfl; intro bk))
 rcases F with _ | ⟨a, _ | ⟨b, _ | ⟨x, F⟩⟩⟩
 ·repeat (first | refine walk ?_ | (refine jn ?_; (try intro F); (first | (refine bx ?_; intro bk) | (refine stA ?_) | (apply Zae; exact PuA)); refine fin ?_) | (apply RD_W; rfl; intro bk))
  exact ret_1 _ [] (.tmp rfl) .nil ⟨by rw [<- hres], rfl⟩
 ·repeat (first | refine walk ?_ | (refine jn ?_; (try intro F); (first | (refine bx ?_; intro bk) | (refine stA ?_) | (apply Zae; exact PuA)); refine fin ?_) | (apply RD_W; rfl; intro bk))
  exact ret_1 _ [] (.tmp rfl) .nil ⟨by rw [<- hres], rfl⟩
 ·have hB := hb3 (by simp at hlen; omega)
  obtain ⟨ad, rfl⟩ : ∃ ad, B = some ad := by
   cases B with
   | none => exact absurd rfl hB
   | some ad => exact ⟨ad, rfl⟩
  dsimp only at hres
  have hpa := Zkp a
  have hpb := Zkp b
  generalize Zez a = pa at *
  generalize Zez b = pb at *
  have hx1 : ∀ q v, (Zaa.enc a)[q]? = some v -> ([a, b].flatMap Zaa.enc)[(0 : Int).toNat * 11 + q]? = some v := fun q v hv => ZaC Zaa.len _ 0 a q v rfl hv
  have hx2 : ∀ q v, (Zaa.enc b)[q]? = some v -> ([a, b].flatMap Zaa.enc)[(1 : Int).toNat * 11 + q]? = some v := fun q v hv => ZaC Zaa.len _ 1 b q v rfl hv
  simp only [rowR, List.length_cons, List.length_nil, Nat.zero_add, Nat.reduceAdd]
  generalize hxs : [a, b].flatMap Zaa.enc = xs at *
  clear hxs
  obtain ⟨nm, fr, to, mo, ⟨dk, dw, dd⟩, ⟨cs, cb⟩, sv, le⟩ := a
  obtain ⟨nm2, fr2, to2, mo2, ⟨dk2, dw2, dd2⟩, ⟨cs2, cb2⟩, sv2, le2⟩ := b
  simp only [Zaa.enc] at hx1 hx2 hpa hpb
  repeat (first | (apply RL_pu; rfl; exact Zvh) | (apply RD_Q; rfl; rfl; decide +kernel; rfl; rfl; exact ZxF) | refine walk1 ?_ | (refine jn ?_; (try intro F); (first | (refine bx ?_; intro bk) | (refine stA ?_) | (apply Zae; first | exact Zvh | exact PuA)); first | refine ⟨_, EndsA, ZAv, ?_⟩ | refine fin ?_) | (apply RD_W; rfl; intro bk))
  repeat' (first | (refine js ?_; (first | (refine Zac (fun w' _ => hpa w') ?_) | (refine Zac (fun w' _ => hpb w') ?_) | (refine bx ?_; intro bk))) | refine walk ?_ | (refine ZeB ?_; intro F; (first | (refine Zac (fun w' _ => hpa w') ?_) | (refine Zac (fun w' _ => hpb w') ?_)); refine ⟨_, EndsA, SubO.right _ _, ?_⟩) | (refine RD_Lw ?_; intro F; (first | (refine Zac (fun w' _ => hpa w') ?_) | (refine Zac (fun w' _ => hpb w') ?_) | (refine bx ?_; intro bk) | (refine stA ?_) | (apply Zae; exact PuA)); refine ⟨_, EndsA, QFA, ?_⟩) | (apply RD_W; rfl; intro bk) | refine und ?_ | (refine ZaB rfl rfl rfl (fun hc => ?_) (fun hc => ?_)) | (refine Zaz rfl rfl rfl (fun hc => ?_) (fun hc => ?_)) | (refine Zah rfl (fun hc => ?_) (fun hc => ?_)))
  all_goals clear hx1 hx2 hpa hpb hdel hA hb1 hb2
  all_goals subst hres
  all_goals exact clo1
 ·repeat (first | refine walk ?_ | (refine jn ?_; (try intro F); (first | (refine bx ?_; intro bk) | (refine stA ?_) | (apply Zae; exact PuA)); refine fin ?_) | (apply RD_W; rfl; intro bk))
  exact ret_1 _ [] (.tmp rfl) .nil ⟨by rw [<- hres], rfl⟩
end Go.Proofs.YtpcpmndldgejiaaGreatDoor
