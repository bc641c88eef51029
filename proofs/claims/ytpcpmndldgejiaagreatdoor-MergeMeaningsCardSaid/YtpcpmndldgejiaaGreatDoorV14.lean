/- Parts of the proof. -/
import Derived.Test.YtpcpmndldgejiaaGreatDoorV13
import Derived.Test.YtpcpmndldgejiaaGreatDoorV06
import Derived.Test.YtpcpmndldgejiaaGreatDoorV07
import Derived.LoopN
set_option maxHeartbeats 4000000
set_option linter.unusedVariables false
set_option linter.unusedSimpArgs false
namespace Go.Wk
open Go Go.RowKit
def Zda (r : Zaa) (least : Int) : Nat → Bool
 | 0 => Zch r.from_ && (Zch r.to || decide (r.to = 1048576))
 | 1 => decide (r.from_ ≤ r.to)
 | 2 => alwaysD r.from_ r.to r.month r.day
 | 3 => timedB r.at_ least
 | 4 => decide (-10800 ≤ r.save) && decide (r.save ≤ 10800)
 | _ => decide (r.letter = ByteArray.empty) || letterB r.letter
theorem Pu_addWE {P : Program} {n : Nat} {wr : World} {fr : Fr} {O : List It} {ty t t' : TypeId} {x y : Operand} {i j m : Int} (hx : ev fr x = some (.int .i64 i)) (hy : ev fr y = some (.int .i64 j)) (hm : IntKind.i64.wrap (i + j) = m) : Pu P n wr fr O (.binOp .add t x y t') ty (.int .i64 m) := hm ▸ Pu_addW hx hy
end Go.Wk
namespace Go.Proofs.YtpcpmndldgejiaaGreatDoor
open Go Go.RowKit Go.Wk
attribute [local irreducible] W RL Does Zat Zak retQ Calls Pu Stp RD Qy Ay Zam Zc2
theorem namedY_spec (y : Int) (w : World) : Does Tryz.prog 291 [.int .i64 y] w (fun v O => v = .bool (Zch y) ∧ O = []) := by
 refine Zab Tryz.func291 rfl rfl rfl rfl ?_
 repeat' (first | refine walk ?_ | refine und ?_ | (refine Zav rfl rfl rfl (fun hc => ?_) (fun hc => ?_)) | (refine Zay rfl rfl rfl (fun hc => ?_) (fun hc => ?_)) | (refine Zag rfl (fun hc => ?_) (fun hc => ?_)))
 all_goals first | (refine ret_1 _ [] (.tmp rfl) .nil ⟨?_, rfl⟩; first | rfl | (simp only [*, Bool.true_and, Bool.false_and, Bool.true_or, Bool.false_or, Bool.not_true, Bool.not_false]; done) | (simp_all [Zch]; done) | (simp_all [Zch]; omega) | (simp_all [Zch]; rw [Bool.eq_iff_iff]; simp; omega)) | (exfalso; simp_all [Zch]; done) | (exfalso; simp_all [Zch]; omega) | (exfalso; omega)
theorem timed_spec (c : ZeN) (least : Int) (hl : -9223372036854775808 ≤ least ∧ least ≤ 0) (w : World) : Does Tryz.prog 296 [.agg (ZeN.enc c).toArray, .int .i64 least] w (fun v O => v = .bool (timedB c least) ∧ O = []) := by
 by_cases hc : Za7 c = true
 ·have hb : -604799 ≤ c.sec ∧ c.sec ≤ 604799 := by
   simp only [Za7, Bool.and_eq_true, decide_eq_true_eq] at hc
   omega
  obtain ⟨m, hm⟩ : ∃ m, IntKind.i64.wrap (c.sec + least) = m := ⟨_, rfl⟩
  have hmm : (decide (-86400 ≤ m) && decide (m ≤ 172800)) = (decide (-86400 ≤ c.sec + least) && decide (c.sec + least ≤ 172800)) := by
   have hw : IntKind.i64.wrap (c.sec + least) = if c.sec + least < -9223372036854775808 then c.sec + least + 18446744073709551616 else c.sec + least := by
    rw [IntKind.wrap_i64]
    repeat' split
    all_goals omega
   rw [hw] at hm
   rw [Bool.eq_iff_iff]
   simp only [Bool.and_eq_true, decide_eq_true_eq]
   split at hm <;> omega
  have hT : timedB c least = (Za7 c && (if c.base = 1 then (decide (-86400 ≤ m) && decide (m ≤ 172800)) else (decide (-86400 ≤ c.sec) && decide (c.sec ≤ 172800)))) := by
   unfold timedB
   dsimp only
   congr 1
   by_cases hb1 : c.base = 1
   ·rw [if_pos hb1, if_pos hb1, hmm]
   ·rw [if_neg hb1, if_neg hb1]
  rw [hT]
  clear hT hmm
  have hcs := Zd2 c
  rw [hc] at hcs ⊢
  obtain ⟨s, b⟩ := c
  simp only at *
  show Does _ _ [.agg #[.int .i64 s, .int .i64 b], .int .i64 least] w _
  refine Zab Tryz.func296 rfl rfl rfl rfl ?_
  repeat' (first | (apply RL_pu; rfl; (apply Pu_addWE; rfl; rfl; exact hm)) | (refine js ?_; (first | (refine Zad (fun w' _ => hcs w') ?_) | (refine bx ?_; intro bk))) | refine walk1 ?_ | refine und ?_ | (refine Zav rfl rfl rfl (fun hc => ?_) (fun hc => ?_)) | (refine Zay rfl rfl rfl (fun hc => ?_) (fun hc => ?_)) | (refine Zag rfl (fun hc => ?_) (fun hc => ?_)))
  all_goals exact clo1
 ·unfold timedB
  have hcs := Zd2 c
  rw [Bool.not_eq_true] at hc
  rw [hc] at hcs ⊢
  obtain ⟨s, b⟩ := c
  simp only at *
  show Does _ _ [.agg #[.int .i64 s, .int .i64 b], .int .i64 least] w _
  refine Zab Tryz.func296 rfl rfl rfl rfl ?_
  repeat' (first | (refine js ?_; (first | (refine Zad (fun w' _ => hcs w') ?_) | (refine bx ?_; intro bk))) | refine walk ?_ | refine und ?_ | (refine Zav rfl rfl rfl (fun hc => ?_) (fun hc => ?_)) | (refine Zay rfl rfl rfl (fun hc => ?_) (fun hc => ?_)) | (refine Zag rfl (fun hc => ?_) (fun hc => ?_)))
  all_goals exact clo1
theorem cond1_spec (r : Zaa) (least : Int) (w : World) : Does Tryz.prog 290 [.agg (Zaa.enc r).toArray, .int .i64 least] w (fun v O => v = .bool (Zda r least 0) ∧ O = []) := by
 unfold Zda
 have h1 := namedY_spec r.from_
 have h2 := namedY_spec r.to
 generalize Zch r.from_ = x1 at *
 generalize Zch r.to = x2 at *
 obtain ⟨nm, fr, to, mo, ⟨dk, dw, dd⟩, ⟨cs, cb⟩, sv, le⟩ := r
 simp only at *
 show Does _ _ [.agg #[.string nm, .int .i64 fr, .int .i64 to, .int .i64 mo, .int .i64 dk, .int .i64 dw, .int .i64 dd, .int .i64 cs, .int .i64 cb, .int .i64 sv, .string le], .int .i64 least] w _
 refine Zab Tryz.func290 rfl rfl rfl rfl ?_
 repeat' (first | (refine js ?_; (first | (refine Zad (fun w' _ => h1 w') ?_) | (refine Zad (fun w' _ => h2 w') ?_) | (refine bx ?_; intro bk))) | refine walk ?_ | refine und ?_ | (refine Zav rfl rfl rfl (fun hc => ?_) (fun hc => ?_)) | (refine Zay rfl rfl rfl (fun hc => ?_) (fun hc => ?_)) | (refine Zag rfl (fun hc => ?_) (fun hc => ?_)))
 all_goals exact clo1
theorem cond2_spec (r : Zaa) (least : Int) (w : World) : Does Tryz.prog 292 [.agg (Zaa.enc r).toArray, .int .i64 least] w (fun v O => v = .bool (Zda r least 1) ∧ O = []) := by
 unfold Zda
 obtain ⟨nm, fr, to, mo, ⟨dk, dw, dd⟩, ⟨cs, cb⟩, sv, le⟩ := r
 simp only at *
 show Does _ _ [.agg #[.string nm, .int .i64 fr, .int .i64 to, .int .i64 mo, .int .i64 dk, .int .i64 dw, .int .i64 dd, .int .i64 cs, .int .i64 cb, .int .i64 sv, .string le], .int .i64 least] w _
 refine Zab Tryz.func292 rfl rfl rfl rfl ?_
 repeat' (first | (refine js ?_; (refine bx ?_; intro bk)) | refine walk ?_ | (refine Zag rfl (fun hc => ?_) (fun hc => ?_)))
 all_goals exact clo1
theorem cond3_spec (r : Zaa) (least : Int) (w : World) (hG : Glob w) : Does Tryz.prog 293 [.agg (Zaa.enc r).toArray, .int .i64 least] w (fun v O => v = .bool (Zda r least 2) ∧ O = []) := by
 unfold Zda
 have h1 := fun w' hw => always_spec r.from_ r.to r.month r.day w' (Glob.up (w' := w') hG hw)
 generalize alwaysD r.from_ r.to r.month r.day = x1 at *
 obtain ⟨nm, fr, to, mo, ⟨dk, dw, dd⟩, ⟨cs, cb⟩, sv, le⟩ := r
 simp only at *
 show Does _ _ [.agg #[.string nm, .int .i64 fr, .int .i64 to, .int .i64 mo, .int .i64 dk, .int .i64 dw, .int .i64 dd, .int .i64 cs, .int .i64 cb, .int .i64 sv, .string le], .int .i64 least] w _
 refine Zab Tryz.func293 rfl rfl rfl rfl ?_
 repeat' (first | (refine js ?_; (first | (refine Zad h1 ?_) | (refine bx ?_; intro bk))) | refine walk ?_ | (refine Zag rfl (fun hc => ?_) (fun hc => ?_)))
 all_goals exact clo1
theorem cond4_spec (r : Zaa) (least : Int) (hl : -9223372036854775808 ≤ least ∧ least ≤ 0) (w : World) : Does Tryz.prog 295 [.agg (Zaa.enc r).toArray, .int .i64 least] w (fun v O => v = .bool (Zda r least 3) ∧ O = []) := by
 unfold Zda
 have h1 := timed_spec r.at_ least hl
 generalize timedB r.at_ least = x1 at *
 obtain ⟨nm, fr, to, mo, ⟨dk, dw, dd⟩, ⟨cs, cb⟩, sv, le⟩ := r
 simp only at *
 show Does _ _ [.agg #[.string nm, .int .i64 fr, .int .i64 to, .int .i64 mo, .int .i64 dk, .int .i64 dw, .int .i64 dd, .int .i64 cs, .int .i64 cb, .int .i64 sv, .string le], .int .i64 least] w _
 refine Zab Tryz.func295 rfl rfl rfl rfl ?_
 repeat' (first | (refine js ?_; (first | (refine Zad (fun w' hw => h1 w') ?_) | (refine bx ?_; intro bk))) | refine walk ?_ | (refine Zag rfl (fun hc => ?_) (fun hc => ?_)))
 all_goals exact clo1
theorem cond5_spec (r : Zaa) (least : Int) (w : World) : Does Tryz.prog 297 [.agg (Zaa.enc r).toArray, .int .i64 least] w (fun v O => v = .bool (Zda r least 4) ∧ O = []) := by
 unfold Zda
 obtain ⟨nm, fr, to, mo, ⟨dk, dw, dd⟩, ⟨cs, cb⟩, sv, le⟩ := r
 simp only at *
 show Does _ _ [.agg #[.string nm, .int .i64 fr, .int .i64 to, .int .i64 mo, .int .i64 dk, .int .i64 dw, .int .i64 dd, .int .i64 cs, .int .i64 cb, .int .i64 sv, .string le], .int .i64 least] w _
 refine Zab Tryz.func297 rfl rfl rfl rfl ?_
 repeat' (first | (refine js ?_; (refine bx ?_; intro bk)) | refine walk ?_ | refine und ?_ | (refine Zav rfl rfl rfl (fun hc => ?_) (fun hc => ?_)) | (refine Zay rfl rfl rfl (fun hc => ?_) (fun hc => ?_)) | (refine Zag rfl (fun hc => ?_) (fun hc => ?_)))
 all_goals exact clo1
theorem cond6_spec (r : Zaa) (least : Int) (hs : (r.letter.size : Int) ≤ 9223372036854775807) (w : World) : Does Tryz.prog 298 [.agg (Zaa.enc r).toArray, .int .i64 least] w (fun v O => v = .bool (Zda r least 5) ∧ O = []) := by
 unfold Zda
 rw [show ByteArray.empty = ⟨#[]⟩ from rfl]
 have h1 := letter_spec r.letter hs
 generalize letterB r.letter = x1 at *
 obtain ⟨nm, fr, to, mo, ⟨dk, dw, dd⟩, ⟨cs, cb⟩, sv, le⟩ := r
 simp only at *
 show Does _ _ [.agg #[.string nm, .int .i64 fr, .int .i64 to, .int .i64 mo, .int .i64 dk, .int .i64 dw, .int .i64 dd, .int .i64 cs, .int .i64 cb, .int .i64 sv, .string le], .int .i64 least] w _
 refine Zab Tryz.func298 rfl rfl rfl rfl ?_
 repeat' (first | (refine js ?_; (first | (refine Zad (fun w' hw => h1 w') ?_) | (refine bx ?_; intro bk))) | refine walk ?_ | refine und ?_ | (refine Zav rfl rfl rfl (fun hc => ?_) (fun hc => ?_)) | (refine Zay rfl rfl rfl (fun hc => ?_) (fun hc => ?_)) | (refine Zag rfl (fun hc => ?_) (fun hc => ?_)))
 all_goals exact clo1
theorem posix_spec (r : Zaa) (w : World) : Does Tryz.prog 170 [.agg (Zaa.enc r).toArray] w (fun v O => v = .bool (Zec r) ∧ O = []) := by
 unfold Zec
 obtain ⟨nm, fr, to, mo, ⟨dk, dw, dd⟩, ⟨cs, cb⟩, sv, le⟩ := r
 simp only at *
 show Does _ _ [.agg #[.string nm, .int .i64 fr, .int .i64 to, .int .i64 mo, .int .i64 dk, .int .i64 dw, .int .i64 dd, .int .i64 cs, .int .i64 cb, .int .i64 sv, .string le]] w _
 refine Zab Tryz.func170 rfl rfl rfl rfl ?_
 repeat' (first | (apply RL_pu; rfl; (apply Pu_rem; rfl; rfl; decide)) | (refine js ?_; (refine bx ?_; intro bk)) | refine walk1 ?_ | refine und ?_ | (refine Zav rfl rfl rfl (fun hc => ?_) (fun hc => ?_)) | (refine Zay rfl rfl rfl (fun hc => ?_) (fun hc => ?_)) | (refine Zag rfl (fun hc => ?_) (fun hc => ?_)))
 all_goals exact clo1
theorem ZcR (A : Option Addr) (c : Nat) (l : List Zaa) (w : World) (hA : RdSl w A c Zaa.enc 11 l) : Does Tryz.prog 90 [.slice A l.length c] w (fun v O => v = .int .i64 (Zaj l) ∧ O = []) := by
 have hle := hA.le
 have hcp := hA.cap
 unfold maxLen at hcp
 generalize hres : Zaj l = res
 unfold Zaj at hres
 refine Zab Tryz.func90 rfl rfl rfl rfl ?_
 repeat (first | (refine js ?_; (refine bx ?_; intro bk)) | refine walk ?_)
 refine Zal [(6, _), (7, _)] [] (fun g : Nat × Int => [(3, .int .i64 g.2), (8, .int .i64 g.1)]) (fun _ => []) (fun g => g.1 ≤ l.length ∧ (l.drop g.1).foldl (fun m r => min m r.save) g.2 = res) (fun g => l.length - g.1) (0, 0) SFA SOA ⟨Nat.zero_le _, hres⟩ ?_
 rintro ⟨k, m⟩ ⟨hk, hi⟩
 dsimp only at hk hi ⊢
 repeat (first | (refine js ?_; (refine bx ?_; intro bk)) | refine walk ?_)
 refine Zag rfl (fun h => ?_) (fun h => ?_)
 ·have hlt : k < l.length := by simpa using h
  obtain ⟨hna, hca⟩ := hA.rd k _ (List.getElem?_eq_getElem hlt)
  rw [Zai hlt] at hi
  generalize l[k] = r at *
  obtain ⟨nm, fr, to, mo, ⟨dk, dw, dd⟩, ⟨cs, cb⟩, sv, le⟩ := r
  simp only [Zaa.enc, List.foldl_cons] at hca hi
  repeat (first | (apply RL_pu; rfl; (first | exact PuI | (apply ZeJ; rfl; rfl))) | (refine js ?_; (refine bx ?_; intro bk)) | refine walk1 ?_)
  rw [show (if sv < m then sv else m) = min m sv by split <;> omega]
  exact ⟨(k + 1, min m sv), OA, ⟨OA, hi⟩, SFA, .nil⟩
 ·have hkl : k = l.length := by
   have := of_decide_eq_false h
   omega
  subst hkl
  rw [List.drop_length] at hi
  repeat (first | (refine js ?_; (refine bx ?_; intro bk)) | refine walk ?_)
  exact ret_1 _ [] (.tmp rfl) .nil ⟨by rw [← hi]; rfl, rfl⟩
theorem other_spec (A : Option Addr) (c : Nat) (l : List Zaa) (w : World) (hA : RdSl w A c Zaa.enc 11 l) : Does Tryz.prog 89 [.slice A l.length c] w (fun v O => v = .tuple #[.int .i64 (Zc1 l).1, .bool (Zc1 l).2] ∧ O = []) := by
 have hle := hA.le
 have hcp := hA.cap
 unfold maxLen at hcp
 generalize hres : Zc1 l = res
 unfold Zc1 at hres
 refine Zab Tryz.func89 rfl rfl rfl rfl ?_
 repeat (first | (refine js ?_; (refine bx ?_; intro bk)) | refine walk ?_)
 refine Zal [(7, _), (8, _)] [] (fun g : Nat × Int => [(4, .int .i64 g.2), (9, .int .i64 g.1)]) (fun _ => []) (fun g => g.1 ≤ l.length ∧ ZcC (l.drop g.1) g.2 = res) (fun g => l.length - g.1) (0, 0) SFA SOA ⟨Nat.zero_le _, hres⟩ ?_
 rintro ⟨k, m⟩ ⟨hk, hi⟩
 dsimp only at hk hi ⊢
 repeat (first | (refine js ?_; (refine bx ?_; intro bk)) | refine walk ?_)
 refine Zag rfl (fun h => ?_) (fun h => ?_)
 ·have hlt : k < l.length := by simpa using h
  obtain ⟨hna, hca⟩ := hA.rd k _ (List.getElem?_eq_getElem hlt)
  rw [Zai hlt, ZcC] at hi
  generalize l[k] = r at *
  obtain ⟨nm, fr, to, mo, ⟨dk, dw, dd⟩, ⟨cs, cb⟩, sv, le⟩ := r
  simp only [Zaa.enc] at hca hi
  repeat (first | (apply RL_pu; rfl; exact PuI) | (refine js ?_; (refine bx ?_; intro bk)) | refine walk1 ?_)
  refine Zag rfl (fun h1 => ?_) (fun h1 => ?_)
  ·rw [if_pos (of_decide_eq_true h1)] at hi
   repeat (first | (refine js ?_; (refine bx ?_; intro bk)) | refine walk ?_)
   exact ⟨(k + 1, m), OA, ⟨OA, hi⟩, SFA, .nil⟩
  rw [if_neg (of_decide_eq_false h1)] at hi
  repeat' (first | (refine js ?_; (refine bx ?_; intro bk)) | refine walk ?_ | refine und ?_ | (refine Zav rfl rfl rfl (fun hc => ?_) (fun hc => ?_)) | (refine Zay rfl rfl rfl (fun hc => ?_) (fun hc => ?_)) | (refine Zag rfl (fun hc => ?_) (fun hc => ?_)))
  ·rename_i h0
   simp only [Bool.not_eq_true', decide_eq_false_iff_not] at h0 hc
   rw [if_pos ⟨h0, hc⟩] at hi
   exact ret_2 _ _ [] (.tmp rfl) (.tmp rfl) .nil ⟨by rw [← hi], rfl⟩
  ·simp only [Bool.not_eq_false', decide_eq_true_eq] at hc
   rw [if_neg (fun e => e.2 hc)] at hi
   exact ⟨(k + 1, sv), OA, ⟨OA, hi⟩, SFA, .nil⟩
  ·simp only [Bool.not_eq_false', decide_eq_true_eq] at hc
   rw [if_neg (fun e => e.1 hc)] at hi
   exact ⟨(k + 1, sv), OA, ⟨OA, hi⟩, SFA, .nil⟩
 ·have hkl : k = l.length := by
   have := of_decide_eq_false h
   omega
  subst hkl
  rw [List.drop_length, ZcC] at hi
  repeat (first | (refine js ?_; (refine bx ?_; intro bk)) | refine walk ?_)
  exact ret_2 _ _ [] (.tmp rfl) (.tmp rfl) .nil ⟨by rw [← hi], rfl⟩
end Go.Proofs.YtpcpmndldgejiaaGreatDoor
namespace Go.Wk
open Go Go.RowKit
section
variable {P : Program} {n : Nat} {wr : World} {fr : Fr} {O : List It} {Q : Exit → Fr → List It → Prop}
def RW (P : Program) (n : Nat) (wr : World) (c : Code) (Q : Exit → Fr → List It → Prop) : Nat → Fr → List It → Prop
 | 0, _, _ => False
 | k + 1, fr, O => W P n wr c (Zat (RW P n wr c Q k) Q) fr O
theorem RW_rounds {c : Code} : ∀ (k : Nat) (fr : Fr) (O : List It), RW P n wr c Q k fr O → ∀ a w, St n wr fr O a w → Code.rounds P c (lift n wr Q) k a w
 | 0, _, _, h, _, _, _ => h
 | k + 1, fr, O, h, a, w, hs => by
  rw [rounds_succ]
  refine wp_mono (h a w hs) ?_
  rintro e a' w' ⟨fr', O', hs', hq⟩
  cases e with
  | normal => exact RW_rounds k fr' O' hq a' w' hs'
  | _ => exact ⟨fr', O', hs', hq⟩
theorem W_rounds {c : Code} (k : Nat) (h : RW P n wr c Q k fr O) : W P n wr (.loop c) Q fr O := fun a w hs => wp_loop_rounds k (RW_rounds k fr O h a w hs)
theorem Zd6 {c : Code} {k : Nat} (h : W P n wr c (Zat (RW P n wr c Q k) Q) fr O) : RW P n wr c Q (k + 1) fr O := h
theorem Does.monoH {f : FuncId} {args : List Value} {w : World} {R R' : Value → List It → Prop} (h : Does P f args w R) (hr : ∀ v O base w', R v O → Holds base O w' → ∃ O', R' v O' ∧ Holds base O' w') : Does P f args w R' :=
 Calls.mono h fun _ _ ⟨v, O, h1, h2, h3, h4⟩ => by
  obtain ⟨O', h5, h6⟩ := hr v O _ _ h4 h3
  exact ⟨v, O', h1, h2, h6, h5⟩
end
section
variable {P : Program} {n : Nat} {wr : World} {fr : Fr} {O : List It} {ty : TypeId}
theorem Pu_indexArrN {t len e sz : Nat} {x ix : Operand} {kk : IntKind} {i : Int} {cs vs : List Value} [hA : ArrT P t len e sz true] (hx : ev fr x = some (.agg cs.toArray)) (hi : ev fr ix = some (.int kk i)) (h0 : 0 ≤ i) (h1 : i < len) (hv : (cs.drop (i.toNat * sz)).take sz = vs) :
  Pu P n wr fr O (.index t x ix) ty (.agg vs.toArray) := fun a w hs _ _ _ _ => by
 have h := hA.h
 unfold arrChk at h
 split at h
 ·rename_i len' e' hu
  split at h
  ·rename_i sz' ag' ht
   simp only [Option.some.injEq, Prod.mk.injEq] at h
   obtain ⟨rfl, rfl, rfl, rfl⟩ := h
   obtain ⟨inf, dd, hinf, hsz, hag, _⟩ := Ty.parts ht
   have : Ty P e' sz' true := ⟨ht⟩
   subst hv
   simp only [execOp, hs.sim.ev hx, hs.sim.ev hi, Instr.index, asIntOf, Sem.run_bind, Sem.run_pure, Result.andThen_ok, run_underlying hu, h0, h1, and_self, if_true, part, Zdx, ZcQ]
   simp [List.take_drop]
  ·cases h
 ·cases h
end
end Go.Wk
namespace Go.Proofs.YtpcpmndldgejiaaGreatDoor
open Go Go.RowKit Go.Wk
attribute [local irreducible] W RL Does Zat Zak retQ Calls Pu Stp RD Qy Ay Zam Zc2
theorem findI_any {α : Type} (p : α → Bool) : ∀ (l : List α) (k : Nat), decide (0 ≤ ZbH p l k) = l.any p
 | [], k => rfl
 | x :: l, k => by
  rw [ZbH, List.any_cons]
  by_cases h : p x = true
  ·rw [if_pos h, h]; simp
  ·rw [if_neg h, findI_any p l (k + 1)]
   simp [h]
theorem ZeD (A : Option Addr) (c : Nat) (l : List Zaa) (f : FuncId) [Body Tryz.prog f] (us cs : List Value) (p : Zaa → Bool) (w : World) (hA : RdSl w A c Zaa.enc 11 l)
  (hf : ∀ r w', Bel w.heap.size w w' → Does Tryz.prog f (us ++ [.agg (Zaa.enc r).toArray] ++ cs) w' (fun v O => v = .bool (p r) ∧ O = [])) :
  Does Tryz.prog 123 [.slice A l.length c, .func (.func f) us.toArray cs.toArray] w (fun v O => v = .bool (l.any p) ∧ O = []) := by
 have h := fun w' (hw : Bel w.heap.size w w') => Zdq A c l f us cs p w' (hA.up hw) fun r w2 h2 => hf r w2 (hw.trans (h2.mono hw.size))
 rw [← findI_any p l 0]
 generalize ZbH p l 0 = k at *
 refine Zab Tryz.func123 rfl rfl rfl rfl ?_
 repeat (first | (refine js ?_; (refine Zad h ?_)) | refine walk ?_)
 exact rtA
theorem chk1_spec (r : Zaa) (w : World) : Does Tryz.prog 121 [.agg (Zaa.enc r).toArray] w (fun v O => v = .bool (decide (r.save = 0)) ∧ O = []) := by
 obtain ⟨nm, fr, to, mo, ⟨dk, dw, dd⟩, ⟨cs, cb⟩, sv, le⟩ := r
 show Does _ _ [.agg #[.string nm, .int .i64 fr, .int .i64 to, .int .i64 mo, .int .i64 dk, .int .i64 dw, .int .i64 dd, .int .i64 cs, .int .i64 cb, .int .i64 sv, .string le]] w _
 refine Zab Tryz.func121 rfl rfl rfl rfl ?_
 repeat' (first | (refine js ?_; (refine bx ?_; intro bk)) | refine walk ?_ | (refine Zag rfl (fun hc => ?_) (fun hc => ?_)))
 all_goals exact clo1
theorem last1_spec (r : Zaa) (w : World) : Does Tryz.prog 169 [.agg (Zaa.enc r).toArray] w (fun v O => v = .bool (!decide (r.to = 1048576)) ∧ O = []) := by
 obtain ⟨nm, fr, to, mo, ⟨dk, dw, dd⟩, ⟨cs, cb⟩, sv, le⟩ := r
 show Does _ _ [.agg #[.string nm, .int .i64 fr, .int .i64 to, .int .i64 mo, .int .i64 dk, .int .i64 dw, .int .i64 dd, .int .i64 cs, .int .i64 cb, .int .i64 sv, .string le]] w _
 refine Zab Tryz.func169 rfl rfl rfl rfl ?_
 repeat' (first | (refine js ?_; (refine bx ?_; intro bk)) | refine walk ?_ | (refine Zag rfl (fun hc => ?_) (fun hc => ?_)))
 all_goals exact clo1
theorem chk2_spec (r : Zaa) (ad : Addr) (m : Int) (w : World) (h : w.cell? ad = some (.int .i64 m)) : Does Tryz.prog 122 [.agg (Zaa.enc r).toArray, .pointer (some ad)] w (fun v O => v = .bool (!decide (r.save = 0) && !decide (r.save = m)) ∧ O = []) := by
 obtain ⟨nm, fr, to, mo, ⟨dk, dw, dd⟩, ⟨cs, cb⟩, sv, le⟩ := r
 show Does _ _ [.agg #[.string nm, .int .i64 fr, .int .i64 to, .int .i64 mo, .int .i64 dk, .int .i64 dw, .int .i64 dd, .int .i64 cs, .int .i64 cb, .int .i64 sv, .string le], .pointer (some ad)] w _
 refine Zab Tryz.func122 rfl rfl rfl rfl ?_
 repeat' (first | (apply RL_pu; rfl; (apply Pu_loadO1; rfl; exact h)) | (refine js ?_; (refine bx ?_; intro bk)) | refine walk1 ?_ | refine und ?_ | (refine Zav rfl rfl rfl (fun hc => ?_) (fun hc => ?_)) | (refine Zay rfl rfl rfl (fun hc => ?_) (fun hc => ?_)) | (refine Zag rfl (fun hc => ?_) (fun hc => ?_)))
 all_goals exact clo1
end Go.Proofs.YtpcpmndldgejiaaGreatDoor
namespace Go.Wk
open Go Go.RowKit
theorem zeros_one (z : Array Value) (k : Nat) (h : z.toList.all Value.oneCell' = true) (h0 : 0 < z.size) : (Builtin.zeroCells z k).toList.all Value.oneCell' = true := by
 rw [List.all_eq_true] at h ⊢
 intro x hx
 unfold Builtin.zeroCells at hx
 rw [Array.toList_map, List.mem_map] at hx
 obtain ⟨i, hi, rfl⟩ := hx
 have hlt := Nat.mod_lt i h0
 rw [getElem!_pos z (i % z.size) hlt]
 exact h _ (by simp)
theorem lay_outA : ∀ (vs xs : List Value) (j : Nat), xs.length ≤ j → lay xs j vs = xs
 | [], _, _, _ => rfl
 | v :: r, xs, j, h => by rw [lay, List.set_eq_of_length_le h, lay_outA r xs (j + 1) (by omega)]
theorem lay_at : ∀ (vs pre cs post : List Value), cs.length = vs.length → lay (pre ++ cs ++ post) pre.length vs = pre ++ vs ++ post
 | [], pre, cs, post, h => by
  have : cs = [] := List.eq_nil_of_length_eq_zero h
  rw [this]; rfl
 | v :: r, pre, [], post, h => by simp at h
 | v :: r, pre, c :: cs, post, h => by
  have := lay_at r (pre ++ [v]) cs post (by simpa using h)
  rw [lay]
  rw [show (pre ++ c :: cs ++ post).set pre.length v = pre ++ [v] ++ cs ++ post by simp]
  rw [List.length_append] at this
  simpa using this
end Go.Wk
namespace Go.Proofs.YtpcpmndldgejiaaGreatDoor
open Go Go.RowKit Go.Wk
attribute [local irreducible] W RL Does Zat Zak retQ Calls Pu Stp RD Qy Ay Zam Zc2
theorem findI_cases {α : Type} (p : α → Bool) : ∀ (l : List α) (k : Nat), (ZbH p l k = -1 ∧ l.filter (fun r => !p r) = l) ∨ ∃ i, ZbH p l k = ((k + i : Nat) : Int) ∧ i < l.length ∧ (l.take (i + 1)).filter (fun r => !p r) = l.take i
 | [], k => .inl ⟨rfl, rfl⟩
 | x :: l, k => by
  rw [ZbH]
  by_cases h : p x = true
  ·rw [if_pos h]
   exact .inr ⟨0, rfl, by simp, by simp [h]⟩
  ·rw [if_neg h]
   rcases findI_cases p l (k + 1) with ⟨h1, h2⟩ | ⟨i, h1, h2, h3⟩
   ·exact .inl ⟨h1, by rw [List.filter_cons, if_pos (by simp [h]), h2]⟩
   ·refine .inr ⟨i + 1, by rw [h1]; omega, by simpa using h2, ?_⟩
    rw [List.take_succ_cons, List.filter_cons, if_pos (by simp [h]), h3, List.take_succ_cons]
theorem rowR_rd {base : Nat} {A : Option Addr} {c : Nat} {l : List Zaa} {w : World} {O R : List It} (h : Holds base O w) (hp : Pick (rowR A c l) O R) (hlc : l.length ≤ c) (hcm : c ≤ maxLen) : RdSl w A c Zaa.enc 11 l :=
 ⟨hlc, hcm, fun k x hk => by
  have hs := h.sat _ (hp.perm.mem_iff.2 List.mem_cons_self)
  have hlt := (List.getElem?_eq_some_iff.1 hk).1
  refine ⟨ZbE hs (by omega), fun j v hj => ?_⟩
  rw [Zba]
  exact (ZbP hs (ZaG Zaa.len l k x j v hk hj)).2⟩
instance zeroRule : ZeroV Tryz.prog 118 (.agg #[.string ByteArray.empty, .int .i64 0, .int .i64 0, .int .i64 0, .int .i64 0, .int .i64 0, .int .i64 0, .int .i64 0, .int .i64 0, .int .i64 0, .string ByteArray.empty]) := ⟨by kernel_rfl⟩
structure DG where
 j : Nat
 C : List Zaa
set_option maxHeartbeats 2000000 in
theorem delete_spec (A : Option Addr) (c : Nat) (l : List Zaa) (f : FuncId) [Body Tryz.prog f] (p : Zaa → Bool) (wr : World) (hn : l.length ≤ 1000000) (hlc : l.length ≤ c) (hcm : c ≤ maxLen) (hAn : 0 < l.length → A ≠ none) (hf : ∀ r w', Does Tryz.prog f [.agg (Zaa.enc r).toArray] w' (fun v O => v = .bool (p r) ∧ O = [])) :
  Zam Tryz.prog 168 [.slice A l.length c, .func (.func f) #[] #[]] wr [rowR A c l] (fun v O => v = .slice A (l.filter fun r => !p r).length c ∧ O = [rowR A c (l.filter fun r => !p r)]) := by
 have hidx := fun w' (hH : Holds wr.heap.size [rowR A c l] w') => Zdq A c l f [] [] p w' (rowR_rd hH .here hlc hcm) fun r w2 _ => hf r w2
 unfold maxLen at hcm
 generalize hres : (l.filter fun r => !p r) = res
 rcases findI_cases p l 0 with ⟨h1, h2⟩ | ⟨i, h1, h2, h3⟩
 ·rw [h1] at hidx
  rw [h2] at hres
  subst hres
  refine ZaY Tryz.func168 rfl rfl rfl rfl ?_
  repeat (first | (refine js ?_; (first | (apply Zah (h := fun w' _ hH => hidx w' hH); rfl; rintro v O' ⟨rfl, rfl⟩) | (refine bx ?_; intro bk))) | refine walk ?_)
  exact ret_1 _ _ (.tmp rfl) (.refl _) ⟨rfl, rfl⟩
 ·rw [h1, Nat.zero_add] at hidx
  have hA := hAn (by omega)
  obtain ⟨ad, rfl⟩ : ∃ ad, A = some ad := by
   cases A with
   | none => exact absurd rfl hA
   | some ad => exact ⟨ad, rfl⟩
  clear hA hAn
  refine ZaY Tryz.func168 rfl rfl rfl rfl ?_
  repeat (first | (refine js ?_; (first | (apply Zah (h := fun w' _ hH => hidx w' hH); rfl; rintro v O' ⟨rfl, rfl⟩) | (refine bx ?_; intro bk))) | refine walkB ?_)
  refine Zb1 (fun fr' O' => Go.Wk.Sub [(0, .slice (some ad) l.length c), (5, .int .i64 res.length)] fr' ∧ SubO [.row (.slice (some ad) l.length c) 118 11 l.length ((res ++ l.drop res.length).flatMap Zaa.enc)] O') ?_ ?_
  ·apply W_block
   refine Zal [(0, _), (1, _)] [] (fun g : DG => [(5, .int .i64 g.C.length), (6, .int .i64 g.j)]) (fun g => [.row (.slice (some ad) l.length c) 118 11 l.length ((g.C ++ l.drop g.C.length).flatMap Zaa.enc)])
    (fun g => g.C = (l.take g.j).filter (fun r => !p r) ∧ g.C.length + 1 ≤ g.j ∧ g.j ≤ l.length) (fun g => l.length - g.j) ⟨i + 1, l.take i⟩ (by dsimp only; rw [List.length_take, Nat.min_eq_left (by omega)]; exact ⟨rfl, rfl, rfl, rfl, trivial⟩) (by dsimp only; rw [List.length_take, Nat.min_eq_left (by omega), List.take_append_drop]; exact .refl _) ⟨h3.symm, by show (l.take i).length + 1 ≤ i + 1; rw [List.length_take]; omega, by show i + 1 ≤ l.length; omega⟩ ?_
   rintro ⟨j, C⟩ ⟨hC, hCj, hj⟩
   dsimp only at hC hCj hj ⊢
   have hLl : (C ++ l.drop C.length).length = l.length := by rw [List.length_append, List.length_drop]; omega
   repeat (first | (refine js ?_; (refine bx ?_; intro bk)) | refine walk ?_)
   refine Zag rfl (fun g => ?_) (fun g => ?_)
   ·have hjl : j < l.length := by simpa using g
    have hx : ∀ q v, (Zaa.enc l[j])[q]? = some v → ((C ++ l.drop C.length).flatMap Zaa.enc)[(j : Int).toNat * 11 + q]? = some v := fun q v hv => by
     refine ZaG Zaa.len _ j l[j] q v ?_ hv
     rw [List.getElem?_append_right (by omega), List.getElem?_drop, show C.length + (j - C.length) = j from by omega, List.getElem?_eq_getElem hjl]
    have hst : (l.take (j + 1)).filter (fun r => !p r) = C ++ (if p l[j] then [] else [l[j]]) := by
     rw [List.take_succ_eq_append_getElem hjl, List.filter_append, ← hC]
     by_cases hp : p l[j] = true
     ·simp [hp]
     ·simp [hp]
    have hput : lay ((C ++ l.drop C.length).flatMap Zaa.enc) (C.length * 11) (Zaa.enc l[j]) = ((C ++ [l[j]]) ++ l.drop (C.length + 1)).flatMap Zaa.enc := by
     have hlt : C.length < l.length := by omega
     rw [Zai hlt, show C ++ l[C.length] :: l.drop (C.length + 1) = C ++ [l[C.length]] ++ l.drop (C.length + 1) by simp, List.flatMap_append, List.flatMap_append, List.flatMap_append, List.flatMap_append, List.flatMap_singleton, List.flatMap_singleton]
     have := lay_at (Zaa.enc l[j]) (C.flatMap Zaa.enc) (Zaa.enc l[C.length]) ((l.drop (C.length + 1)).flatMap Zaa.enc) rfl
     rw [ZaF Zaa.len] at this
     exact this
    generalize l[j] = r at *
    obtain ⟨nm, fr, to, mo, ⟨dk, dw, dd⟩, ⟨cs, cb⟩, sv, le⟩ := r
    have hfr := hf ⟨nm, fr, to, mo, ⟨dk, dw, dd⟩, ⟨cs, cb⟩, sv, le⟩
    generalize p ⟨nm, fr, to, mo, ⟨dk, dw, dd⟩, ⟨cs, cb⟩, sv, le⟩ = b at *
    simp only [Zaa.enc] at hx hput hfr
    repeat (first | (apply RL_pu; rfl; (first | (apply Pu_indexAddr; rfl; rfl; omega; omega; nofun) | (apply ZdJ; rfl; (focus repeat' constructor); exact hx; rfl))) | (refine js ?_; (first | (apply ZaA (f := f) (us := []) (cs := []) (vs := [.agg #[.string nm, .int .i64 fr, .int .i64 to, .int .i64 mo, .int .i64 dk, .int .i64 dw, .int .i64 dd, .int .i64 cs, .int .i64 cb, .int .i64 sv, .string le]]) (h := fun w' hw _ => hfr w'); rfl; rfl; rintro v O' ⟨rfl, rfl⟩) | (refine bx ?_; intro bk))) | refine walk1 ?_)
    refine Zag rfl (fun g2 => ?_) (fun g2 => ?_)
    ·have hb : b = false := by simpa using g2
     rw [hb, if_neg (by decide)] at hst
     have hfl : ((C ++ l.drop C.length).flatMap Zaa.enc).length = l.length * 11 := by rw [ZaF Zaa.len, hLl]
     repeat (first | (apply RL_pu; rfl; (apply Pu_indexAddr; rfl; rfl; omega; omega; nofun)) | (refine js ?_; (first | (apply Zcq (vs := [.string nm, .int .i64 fr, .int .i64 to, .int .i64 mo, .int .i64 dk, .int .i64 dw, .int .i64 dd, .int .i64 cs, .int .i64 cb, .int .i64 sv, .string le]); rfl; rfl; (focus repeat' constructor); rfl; rfl; rfl; (rw [hfl]; omega); decide; exact hput) | (refine bx ?_; intro bk))) | refine walk1 ?_)
     refine ⟨⟨j + 1, _⟩, OA, ⟨hst.symm, by dsimp only; rw [List.length_append, List.length_singleton]; omega, OA⟩, ?_, ?_⟩
     ·dsimp only
      rw [List.length_append, List.length_singleton]
      exact SFA
     ·dsimp only
      rw [List.length_append, List.length_singleton]
      exact SOA
    ·have hb : b = true := by simpa using g2
     rw [hb, if_pos rfl, List.append_nil] at hst
     repeat (first | (refine js ?_; (refine bx ?_; intro bk)) | refine walk ?_)
     exact ⟨⟨j + 1, C⟩, OA, ⟨hst.symm, OA, OA⟩, SFA, SOA⟩
   ·have hjl : j = l.length := by
     have := of_decide_eq_false g
     omega
    rw [hjl, List.take_length, hres] at hC
    subst hC
    repeat (first | (refine js ?_; (refine bx ?_; intro bk)) | refine walk ?_)
    exact ⟨rfl, SFA, SOA⟩
  rintro fr' O' ⟨hf1, hO⟩
  apply thenQ_n
  refine ZbV hf1 hO ?_
  clear hf1 hO fr' O'
  have hrl : res.length < l.length := by
   have h4 : l.take (i + 1) ++ l.drop (i + 1) = l := List.take_append_drop _ _
   have h5 : res = l.take i ++ (l.drop (i + 1)).filter (fun r => !p r) := by rw [← hres, ← h3, ← List.filter_append, h4]
   have h6 := List.length_filter_le (fun r => !p r) (l.drop (i + 1))
   rw [List.length_drop] at h6
   have h7 := congrArg List.length h5
   rw [List.length_append, List.length_take] at h7
   omega
  have hLl : ((res ++ l.drop res.length).flatMap Zaa.enc).length = l.length * 11 := by rw [ZaF Zaa.len, List.length_append, List.length_drop]; congr 1; omega
  have htk : ∀ vs, (lay ((res ++ l.drop res.length).flatMap Zaa.enc) ((res.length : Int).toNat * 11) vs).take (res.length * 11) = res.flatMap Zaa.enc := fun vs => by
   rw [lay_take, List.flatMap_append, List.take_left' (by rw [ZaF Zaa.len])]
   exact lay_outA _ _ _ (by rw [ZaF Zaa.len]; omega)
  repeat (first | ((apply RL_st0; apply Stp_clearR (p := (res.length : Int).toNat * 11) (k := l.length - (res.length : Int).toNat); rfl; (focus repeat' constructor); exact zeros_one _ _ rfl (by decide); omega; (rw [hLl]; omega)); refine RL_shrink (m := l.length) res.length (by omega) (by repeat' constructor) ?_; rw [htk]) | (apply RL_pu; rfl; (apply Pu_sliceL; rfl; rfl; omega; omega; omega)) | (refine js ?_; (refine bx ?_; intro bk)) | refine walk1 ?_)
  exact ret_1 _ _ (.tmp rfl) (.refl _) ⟨rfl, rfl⟩
end Go.Proofs.YtpcpmndldgejiaaGreatDoor
namespace Go.Proofs.YtpcpmndldgejiaaGreatDoor
open Go Go.RowKit Go.Wk
attribute [local irreducible] W RL Does Zat Zak retQ Calls Pu Stp RD Qy Ay Zam Zc2 Zec
def NewRow (l : List Zaa) (v : Value) (O : List It) : Prop := ∃ A c, v = .slice A l.length c ∧ O = [rowR A c l] ∧ l.length ≤ c ∧ c ≤ maxLen ∧ (0 < l.length → A ≠ none)
theorem cloneRow_spec (A : Option Addr) (c : Nat) (x : List Zaa) (w : World) (hA : RdSl w A c Zaa.enc 11 x) (hn : x.length ≤ 1000000) :
  Does Tryz.prog 38 [.slice A x.length c] w (NewRow x) :=
 (cloneR_spec A c x w hA hn).monoH fun v O base w' ⟨A, c, h1, h2⟩ hH => by
  subst h2
  obtain ⟨A2, c2, e1, h3, h4, h5, _⟩ := row_form (hH.sat _ List.mem_cons_self)
  injection e1 with e2 _ e3
  subst e2 e3
  exact ⟨_, ⟨A, c, h1, rfl, h3, h4, h5⟩, hH⟩
theorem PuRsD0 {G : Prop} (h : G := by (first | (apply Pu_indexAddr; rfl; rfl; (first | decide | omega); (first | decide | omega); nofun) | (apply ZdJ; rfl; (focus repeat' constructor); exact hx1; rfl) | (apply ZdJ; rfl; (focus repeat' constructor); exact hx2; rfl))) : G := h
theorem QyRsD0 {G : Prop} (h : G := by first | (apply Qy_y; rfl; exact PuRsD0) | exact QyA) : G := h
theorem QFRsD0 {G : Prop} (h : G := by repeat (first | exact QF.nil | (apply QF.mk; rfl; rfl; decide +kernel; exact QyRsD0))) : G := h
theorem last_spec (A : Option Addr) (c : Nat) (l : List Zaa) (w : World) (hA : RdSl w A c Zaa.enc 11 l) (hn : l.length ≤ 1000000) :
  Does Tryz.prog 124 [.slice A l.length c] w (fun v O => v = .bool (lastB l) ∧ O = []) := by
 have hfl : (l.filter fun r => !(!decide (r.to = 1048576))) = l.filter fun r => decide (r.to = 1048576) := by
  congr 1; funext r; rw [Bool.not_not]
 have hlen := List.length_filter_le (fun r : Zaa => decide (r.to = 1048576)) l
 obtain ⟨res, hres⟩ : ∃ res, lastB l = res := ⟨_, rfl⟩
 rw [hres]
 unfold lastB at hres
 refine Zab Tryz.func124 rfl rfl rfl rfl ?_
 repeat (first | refine walk ?_ | (refine jg ?_; (try intro F); (first | (apply Zah (h := fun w' hw _ => cloneRow_spec A c l w' (hA.up hw) hn); rfl; rintro v O' ⟨B, d, rfl, rfl, hb1, hb2, hb3⟩) | (refine bx ?_; intro bk) | (refine stA ?_)); refine fin ?_) | (refine jn ?_; (try intro F); (first | (refine bx ?_; intro bk) | (refine stA ?_) | (apply Zae; exact PuA)); refine fin ?_) | (apply RD_W; rfl; intro bk))
 have hdel := delete_spec B d l 169 (fun r => !decide (r.to = 1048576)) w hn hb1 hb2 hb3 last1_spec
 rw [hfl] at hdel
 generalize (l.filter fun r => decide (r.to = 1048576)) = F at *
 repeat (first | refine walk ?_ | (refine RD_G0w ?_; intro F; (apply Zbt (h := hdel); rfl; exact .refl _; rintro v O' ⟨rfl, rfl⟩); refine ⟨_, EndsA, SubO.right _ _, ?_⟩) | (refine jn ?_; (try intro F); (first | (apply Zbt (h := hdel); rfl; exact .refl _; rintro v O' ⟨rfl, rfl⟩) | (refine bx ?_; intro bk) | (refine stA ?_) | (apply Zae; exact PuA)); refine fin ?_) | (apply RD_W; rfl; intro bk))
 rcases F with _ | ⟨a, _ | ⟨b, _ | ⟨x, F⟩⟩⟩
 ·repeat (first | refine walk ?_ | (refine jn ?_; (try intro F); (first | (refine bx ?_; intro bk) | (refine stA ?_) | (apply Zae; exact PuA)); refine fin ?_) | (apply RD_W; rfl; intro bk))
  exact ret_1 _ [] (.tmp rfl) .nil ⟨by rw [← hres], rfl⟩
 ·repeat (first | refine walk ?_ | (refine jn ?_; (try intro F); (first | (refine bx ?_; intro bk) | (refine stA ?_) | (apply Zae; exact PuA)); refine fin ?_) | (apply RD_W; rfl; intro bk))
  exact ret_1 _ [] (.tmp rfl) .nil ⟨by rw [← hres], rfl⟩
 ·have hB := hb3 (by simp at hlen; omega)
  obtain ⟨ad, rfl⟩ : ∃ ad, B = some ad := by
   cases B with
   | none => exact absurd rfl hB
   | some ad => exact ⟨ad, rfl⟩
  dsimp only at hres
  have hpa := posix_spec a
  have hpb := posix_spec b
  generalize Zec a = pa at *
  generalize Zec b = pb at *
  have hx1 : ∀ q v, (Zaa.enc a)[q]? = some v → ([a, b].flatMap Zaa.enc)[(0 : Int).toNat * 11 + q]? = some v := fun q v hv => ZaG Zaa.len _ 0 a q v rfl hv
  have hx2 : ∀ q v, (Zaa.enc b)[q]? = some v → ([a, b].flatMap Zaa.enc)[(1 : Int).toNat * 11 + q]? = some v := fun q v hv => ZaG Zaa.len _ 1 b q v rfl hv
  simp only [rowR, List.length_cons, List.length_nil, Nat.zero_add, Nat.reduceAdd]
  generalize hxs : [a, b].flatMap Zaa.enc = xs at *
  clear hxs
  obtain ⟨nm, fr, to, mo, ⟨dk, dw, dd⟩, ⟨cs, cb⟩, sv, le⟩ := a
  obtain ⟨nm2, fr2, to2, mo2, ⟨dk2, dw2, dd2⟩, ⟨cs2, cb2⟩, sv2, le2⟩ := b
  simp only [Zaa.enc] at hx1 hx2 hpa hpb
  repeat (first | (apply RL_pu; rfl; exact PuRsD0) | (apply RD_Q; rfl; rfl; decide +kernel; rfl; rfl; exact QyRsD0) | refine walk1 ?_ | (refine jn ?_; (try intro F); (first | (refine bx ?_; intro bk) | (refine stA ?_) | (apply Zae; first | exact PuRsD0 | exact PuA)); first | refine ⟨_, EndsA, QFRsD0, ?_⟩ | refine fin ?_) | (apply RD_W; rfl; intro bk))
  repeat' (first | (refine js ?_; (first | (refine Zad (fun w' _ => hpa w') ?_) | (refine Zad (fun w' _ => hpb w') ?_) | (refine bx ?_; intro bk))) | refine walk ?_ | (refine RD_G0w ?_; intro F; (first | (refine Zad (fun w' _ => hpa w') ?_) | (refine Zad (fun w' _ => hpb w') ?_)); refine ⟨_, EndsA, SubO.right _ _, ?_⟩) | (refine RD_Lw ?_; intro F; (first | (refine Zad (fun w' _ => hpa w') ?_) | (refine Zad (fun w' _ => hpb w') ?_) | (refine bx ?_; intro bk) | (refine stA ?_) | (apply Zae; exact PuA)); refine ⟨_, EndsA, QFA, ?_⟩) | (apply RD_W; rfl; intro bk) | refine und ?_ | (refine Zav rfl rfl rfl (fun hc => ?_) (fun hc => ?_)) | (refine Zay rfl rfl rfl (fun hc => ?_) (fun hc => ?_)) | (refine Zag rfl (fun hc => ?_) (fun hc => ?_)))
  all_goals clear hx1 hx2 hpa hpb hdel hA hb1 hb2
  all_goals subst hres
  all_goals exact clo1
 ·repeat (first | refine walk ?_ | (refine jn ?_; (try intro F); (first | (refine bx ?_; intro bk) | (refine stA ?_) | (apply Zae; exact PuA)); refine fin ?_) | (apply RD_W; rfl; intro bk))
  exact ret_1 _ [] (.tmp rfl) .nil ⟨by rw [← hres], rfl⟩
end Go.Proofs.YtpcpmndldgejiaaGreatDoor
namespace Go.Proofs.YtpcpmndldgejiaaGreatDoor
open Go Go.RowKit Go.Wk
attribute [local irreducible] W RL Does Zat Zak retQ Calls Pu Stp RD Qy Ay Zam Zc2 Zec RW
def tailR (l : List Zaa) : Nat × Int :=
 if (l.any fun r => decide (r.save = 0)) = false ∨ (Zaj l < 0 ∧ (l.any fun r => !decide (r.save = 0) && !decide (r.save = Zaj l)) = true) then (0, 14)
 else if lastB l = false then (0, 16)
 else (0, 0)
def outR (l : List Zaa) : Option (Nat × Int) → Nat × Int
 | some x => x
 | none => tailR l
theorem rsChk_eq (l : List Zaa) : rsChk l = outR l (Zbh (Zaj l) l 0) := by
 unfold rsChk outR tailR
 cases Zbh (Zaj l) l 0 <;> rfl
theorem ruleErr_eq (r : Zaa) (least : Int) : Zcn r least = if Zda r least 0 = false then 3 else if Zda r least 1 = false then 12 else if Zda r least 2 = false then 3 else if Zda r least 3 = false then 3 else if Zda r least 4 = false then 14 else if Zda r least 5 = false then 15 else 0 := by
 by_cases h : r.to < r.from_
 ·have e : Zda r least 1 = false := decide_eq_false (by omega)
  rw [e, if_pos rfl, Zcn, if_pos h]; rfl
 ·have e : Zda r least 1 = true := decide_eq_true (by omega)
  rw [e, if_neg (show ¬ true = false by decide), Zcn, if_neg h]; rfl
theorem leastD_go (l : List Zaa) : ∀ m : Int, -4611686018427387904 ≤ m → m ≤ 4611686018427387904 → (∀ r ∈ l, -4611686018427387904 ≤ r.save ∧ r.save ≤ 4611686018427387904) → -4611686018427387904 ≤ l.foldl (fun m r => min m r.save) m ∧ l.foldl (fun m r => min m r.save) m ≤ 4611686018427387904 := by
 induction l with
 | nil => intro m h1 h2 _; exact ⟨h1, h2⟩
 | cons r l ih =>
  intro m h1 h2 h
  have hr := h r List.mem_cons_self
  exact ih (min m r.save) (by omega) (by omega) fun x hx => h x (List.mem_cons_of_mem _ hx)
theorem leastD_go64 (l : List Zaa) : ∀ m : Int, -9223372036854775808 ≤ m → m ≤ 0 → (∀ r ∈ l, -9223372036854775808 ≤ r.save ∧ r.save ≤ 9223372036854775807) → -9223372036854775808 ≤ l.foldl (fun m r => min m r.save) m ∧ l.foldl (fun m r => min m r.save) m ≤ 0 := by
 induction l with
 | nil => intro m h1 h2 _; exact ⟨h1, h2⟩
 | cons r l ih =>
  intro m h1 h2 h
  have hr := h r List.mem_cons_self
  exact ih (min m r.save) (by omega) (by omega) fun x hx => h x (List.mem_cons_of_mem _ hx)
def condFn (j : Nat) : FuncId := if j = 0 then 290 else if j = 1 then 292 else if j = 2 then 293 else if j = 3 then 295 else if j = 4 then 297 else 298
def errN (j : Nat) : Int := if j = 0 then 3 else if j = 1 then 12 else if j = 2 then 3 else if j = 3 then 3 else if j = 4 then 14 else 15
def errFrom (b : Nat → Bool) : Nat → Int
 | 0 => 0
 | n + 1 => if b (5 - n) = false then errN (5 - n) else errFrom b n
theorem ruleErr_from (r : Zaa) (least : Int) : Zcn r least = errFrom (Zda r least) 6 := ruleErr_eq r least
theorem cond_cells (j : Nat) (hj : j < 6) : (condCells.drop (((j : Int)).toNat * 2)).take 2 = [fnV (condFn j), .int .i64 (errN j)] := by
 have h : j = 0 ∨ j = 1 ∨ j = 2 ∨ j = 3 ∨ j = 4 ∨ j = 5 := by omega
 rcases h with rfl | rfl | rfl | rfl | rfl | rfl <;> rfl
theorem conds_spec (j : Nat) (hj : j < 6) (r : Zaa) (least : Int) (w : World) (hG : Glob w) (hl : -9223372036854775808 ≤ least ∧ least ≤ 0) (hs : (r.letter.size : Int) ≤ 9223372036854775807) :
  Does Tryz.prog (condFn j) [.agg (Zaa.enc r).toArray, .int .i64 least] w (fun v O => v = .bool (Zda r least j) ∧ O = []) := by
 have h : j = 0 ∨ j = 1 ∨ j = 2 ∨ j = 3 ∨ j = 4 ∨ j = 5 := by omega
 rcases h with rfl | rfl | rfl | rfl | rfl | rfl
 ·exact cond1_spec r least w
 ·exact cond2_spec r least w
 ·exact cond3_spec r least w hG
 ·exact cond4_spec r least hl w
 ·exact cond5_spec r least w
 ·exact cond6_spec r least hs w
theorem condFn_body (j : Nat) : Body Tryz.prog (condFn j) := by
 unfold condFn
 split
 ·infer_instance
 split
 ·infer_instance
 split
 ·infer_instance
 split
 ·infer_instance
 split <;> infer_instance
theorem PuRsE0 {G : Prop} (h : G := by (first | exact PuI | (apply Pu_loadON; rfl; exact hG.con; rfl))) : G := h
theorem PuRsE1 {G : Prop} (h : G := by (apply Pu_indexArrN; rfl; rfl; omega; omega; exact hcc)) : G := h
theorem rscheck_spec (A : Option Addr) (c : Nat) (l : List Zaa) (w : World) (hG : Glob w) (hA : RdSl w A c Zaa.enc 11 l) (hn : l.length ≤ 1000000) (hR : ∀ r ∈ l, (-9223372036854775808 ≤ r.save ∧ r.save ≤ 9223372036854775807) ∧ (r.letter.size : Int) ≤ 9223372036854775807) :
  Does Tryz.prog 86 [.slice A l.length c] w (fun v O => v = .tuple #[.int .i64 (rsChk l).1, .int .i64 (rsChk l).2] ∧ O = []) := by
 have hls := leastD_go64 l 0 (by omega) (by omega) fun r hr => (hR r hr).1
 have hlast := fun w' (hw : Bel w.heap.size w w') => last_spec A c l w' (hA.up hw) hn
 have hany1 := fun w' (hw : Bel w.heap.size w w') => ZeD A c l 121 [] [] (fun r => decide (r.save = 0)) w' (hA.up hw) fun r w2 _ => chk1_spec r w2
 have hany2 := fun (b : Nat) w' (hw : Bel w.heap.size w w') (hc : Zap w' ⟨b, 0, none⟩ [.int .i64 (Zaj l)]) => ZeD A c l 122 [] [.pointer (some ⟨b, 0, none⟩)] (fun r => !decide (r.save = 0) && !decide (r.save = Zaj l)) w' (hA.up hw) fun r w2 h2 => chk2_spec r ⟨b, 0, none⟩ (Zaj l) w2 ((hc.up h2 (Nat.le_refl _)) 0 _ rfl)
 have hlst := fun w' (hw : Bel w.heap.size w w') => ZcR A c l w' (hA.up hw)
 obtain ⟨res, hres⟩ : ∃ res, rsChk l = res := ⟨_, rfl⟩
 rw [hres]
 rw [rsChk_eq] at hres
 have htl : ∃ t, tailR l = t := ⟨_, rfl⟩
 change -9223372036854775808 ≤ Zaj l ∧ Zaj l ≤ 0 at hls
 refine Zab Tryz.func86 rfl rfl rfl rfl ?_
 repeat (first | refine walk ?_ | (refine jg ?_; (try intro F); (first | (refine Zad hlst ?_) | (refine bx ?_; intro bk) | (refine stA ?_)); refine fin ?_) | (refine jn ?_; (try intro F); (first | (refine bx ?_; intro bk) | (refine stA ?_) | (apply Zae; exact PuA)); refine fin ?_) | (apply RD_W; rfl; intro bk))
 refine Zal [(0, .slice A l.length c), (4, .pointer (some ⟨bk, 0, none⟩)), (13, .slice A l.length c), (14, .int .i64 l.length)] [.blk bk [.int .i64 (Zaj l)] 2] (fun k : Nat => [(15, .int .i64 k)]) (fun _ => []) (fun k => k ≤ l.length ∧ outR l (Zbh (Zaj l) (l.drop k) k) = res) (fun k => l.length - k) 0 SFA SOA ⟨Nat.zero_le _, hres⟩ ?_
 rintro k ⟨hk, hi⟩
 repeat (first | refine walk ?_ | (refine jn ?_; (try intro F); (first | (refine bx ?_; intro bk) | (refine stA ?_) | (apply Zae; exact PuA)); refine fin ?_) | (apply RD_W; rfl; intro bk))
 refine Zag rfl (fun h => ?_) (fun h => ?_)
 ·have hlt : k < l.length := by simpa using h
  obtain ⟨hna, hca⟩ := hA.rd k _ (List.getElem?_eq_getElem hlt)
  have hRr := hR l[k] (List.getElem_mem hlt)
  rw [Zai hlt, Zbh, ruleErr_from] at hi
  generalize l[k] = r at *
  have hcs := fun j (hj : j < 6) w' (hw : Bel w.heap.size w w') => conds_spec j hj r (Zaj l) w' (hG.up hw) hls hRr.2
  generalize Zda r (Zaj l) = bb at *
  obtain ⟨nm, fr, to, mo, ⟨dk, dw, dd⟩, ⟨cs, cb⟩, sv, le⟩ := r
  simp only [Zaa.enc] at hca hcs
  obtain ⟨b4, hb4⟩ : ∃ b4, bk = b4 := ⟨_, rfl⟩
  rw [hb4] at *
  clear hb4 bk
  repeat (first | (apply RL_pu; rfl; exact PuRsE0) | (apply RD_Q; rfl; rfl; decide +kernel; rfl; rfl; exact QyRsE0) | refine walk1 ?_ | (refine jn ?_; (try intro F); (first | (refine bx ?_; intro bk) | (refine stA ?_) | (apply Zae; first | exact PuRsE0 | exact PuA)); first | refine ⟨_, EndsA, QFRsE0, ?_⟩ | refine fin ?_) | (apply RD_W; rfl; intro bk))
  refine Zal [(20, .agg condCells.toArray), (6, .pointer (some ⟨bk, 0, none⟩)), (5, .int .i64 k), (15, .int .i64 k), (0, .slice A l.length c), (4, .pointer (some ⟨b4, 0, none⟩)), (13, .slice A l.length c), (14, .int .i64 l.length)] [.blk bk [.string nm, .int .i64 fr, .int .i64 to, .int .i64 mo, .int .i64 dk, .int .i64 dw, .int .i64 dd, .int .i64 cs, .int .i64 cb, .int .i64 sv, .string le] 118, .blk b4 [.int .i64 (Zaj l)] 2] (fun j : Nat => [(21, .int .i64 j)]) (fun _ => []) (fun j => j ≤ 6 ∧ errFrom bb (6 - j) = errFrom bb 6) (fun j => 6 - j) 0 SFA SOA ⟨Nat.zero_le _, rfl⟩ ?_
  rintro j ⟨hj, he⟩
  repeat (first | refine walk ?_ | (refine jn ?_; (try intro F); (first | (refine bx ?_; intro bk) | (refine stA ?_) | (apply Zae; exact PuA)); refine fin ?_) | (apply RD_W; rfl; intro bk))
  refine Zag rfl (fun h2 => ?_) (fun h2 => ?_)
  ·have hj6 : j < 6 := by have := of_decide_eq_true h2; omega
   have hcj := hcs j hj6
   have hcc := cond_cells j hj6
   haveI := condFn_body j
   rw [show 6 - j = (5 - j) + 1 by omega, errFrom, show 5 - (5 - j) = j by omega] at he
   have hne : errN j ≠ 0 := by
    unfold errN
    repeat' split
    all_goals decide
   generalize condFn j = cf at *
   generalize bb j = bj at *
   generalize errN j = ej at *
   repeat (first | (apply RL_pu; rfl; exact PuRsE1) | (apply RD_Q; rfl; rfl; decide +kernel; rfl; rfl; exact QyRsE1) | refine walk1 ?_ | (refine jg ?_; (try intro F); (first | (apply ZaA (f := cf) (us := []) (cs := []) (vs := [.agg #[.string nm, .int .i64 fr, .int .i64 to, .int .i64 mo, .int .i64 dk, .int .i64 dw, .int .i64 dd, .int .i64 cs, .int .i64 cb, .int .i64 sv, .string le], .int .i64 (Zaj l)]) (h := fun w' hw _ => hcj w' hw); rfl; rfl; rintro v O' ⟨rfl, rfl⟩) | (refine bx ?_; intro bk) | (refine stA ?_)); first | refine ⟨_, EndsA, QFRsE1, ?_⟩ | refine fin ?_) | (refine jn ?_; (try intro F); (first | (refine bx ?_; intro bk) | (refine stA ?_) | (apply Zae; first | exact PuRsE1 | exact PuA)); first | refine ⟨_, EndsA, QFRsE1, ?_⟩ | refine fin ?_) | (apply RD_W; rfl; intro bk))
   refine Zag rfl (fun h3 => ?_) (fun h3 => ?_)
   ·have hb : bj = false := by simpa using h3
    rw [if_pos hb] at he
    rw [← he, if_neg hne] at hi
    repeat (first | refine walk ?_ | (refine jn ?_; (try intro F); (first | (refine bx ?_; intro bk) | (refine stA ?_) | (apply Zae; exact PuA)); refine fin ?_) | (apply RD_W; rfl; intro bk))
    exact ret_2 _ _ [] (.tmp rfl) (.tmp rfl) .nil ⟨by rw [← hi]; rfl, rfl⟩
   ·have hb : bj = true := by simpa using h3
    rw [if_neg (by rw [hb]; decide)] at he
    repeat (first | refine walk ?_ | (refine jn ?_; (try intro F); (first | (refine bx ?_; intro bk) | (refine stA ?_) | (apply Zae; exact PuA)); refine fin ?_) | (apply RD_W; rfl; intro bk))
    exact ⟨j + 1, OA, ⟨OA, by rw [show 6 - (j + 1) = 5 - j by omega]; exact he⟩, SFA, SOA⟩
  ·have hj6 : j = 6 := by have := of_decide_eq_false h2; omega
   subst hj6
   rw [show errFrom bb (6 - 6) = 0 from rfl] at he
   rw [← he, if_pos rfl] at hi
   repeat (first | refine walk ?_ | (refine jn ?_; (try intro F); (first | (refine bx ?_; intro bk) | (refine stA ?_) | (apply Zae; exact PuA)); refine fin ?_) | (apply RD_W; rfl; intro bk))
   exact ⟨k + 1, OA, ⟨OA, hi⟩, SFA, SOA⟩
 ·have hkl : k = l.length := by
   have := of_decide_eq_false h
   omega
  subst hkl
  rw [List.drop_length, Zbh, outR, tailR] at hi
  generalize l.any (fun r => decide (r.save = 0)) = a1 at *
  generalize l.any (fun r => !decide (r.save = 0) && !decide (r.save = Zaj l)) = a2 at *
  generalize lastB l = a3 at *
  have hany3 := hany2 bk
  clear hany2 hlst
  repeat' (first | (refine js ?_; (first | (refine Zad hany1 ?_) | (apply Zah (h := fun w' hw hH => hany3 w' hw (hH.cells (by repeat' constructor))); rfl; rintro v O' ⟨rfl, rfl⟩) | (refine Zad hlast ?_) | (refine bx ?_; intro bk))) | refine walk ?_ | (refine RD_G0w ?_; intro F; (first | (refine Zad hany1 ?_) | (apply Zah (h := fun w' hw hH => hany3 w' hw (hH.cells (by repeat' constructor))); rfl; rintro v O' ⟨rfl, rfl⟩) | (refine Zad hlast ?_)); refine ⟨_, EndsA, SubO.right _ _, ?_⟩) | (refine RD_Lw ?_; intro F; (first | (refine Zad hany1 ?_) | (apply Zah (h := fun w' hw hH => hany3 w' hw (hH.cells (by repeat' constructor))); rfl; rintro v O' ⟨rfl, rfl⟩) | (refine Zad hlast ?_) | (refine bx ?_; intro bk) | (refine stA ?_) | (apply Zae; exact PuA)); refine ⟨_, EndsA, QFA, ?_⟩) | (apply RD_W; rfl; intro bk) | refine und ?_ | (refine Zav rfl rfl rfl (fun hc => ?_) (fun hc => ?_)) | (refine Zay rfl rfl rfl (fun hc => ?_) (fun hc => ?_)) | (refine Zag rfl (fun hc => ?_) (fun hc => ?_)))
  all_goals clear hany1 hany3 hlast hG hA hR
  all_goals subst hi
  all_goals try (have h0 : ¬ Zaj l < 0 := of_decide_eq_false (by assumption); simp only [h0, false_and, or_false])
  all_goals exact clo2
end Go.Proofs.YtpcpmndldgejiaaGreatDoor
namespace Go.Proofs.YtpcpmndldgejiaaGreatDoor
open Go Go.RowKit Go.Wk
attribute [local irreducible] W RL Does Zat Zak retQ Calls Pu Stp RD Qy Ay Zam
theorem PuUntil0 {G : Prop} (h : G := by (apply ZeI; rfl; rfl; (constructor <;> omega))) : G := h
theorem add_spec (a b : Int) (h : -9223372036854775808 ≤ a + b ∧ a + b ≤ 9223372036854775807) (w : World) : Does Tryz.prog 118 [.int .i64 a, .int .i64 b] w (fun v O => v = .tuple #[.int .i64 (a + b), .bool true] ∧ O = []) := by
 have hd : ¬ ((!(decide (a < a + b) == decide (0 < b))) = true) := by
  rw [show decide (a < a + b) = decide (0 < b) from by rw [Bool.eq_iff_iff]; simp only [decide_eq_true_eq]; omega]
  simp
 refine Zab Tryz.func118 rfl rfl rfl rfl ?_
 repeat' (first | (apply RL_pu; rfl; exact PuUntil0) | refine walk1 ?_ | refine und ?_ | (refine Zav rfl rfl rfl (fun hc => ?_) (fun hc => ?_)) | (refine Zay rfl rfl rfl (fun hc => ?_) (fun hc => ?_)) | (refine Zag rfl (fun hc => ?_) (fun hc => ?_)))
 all_goals first | (exfalso; simp_all; done) | exact rtB | skip
theorem onD_bd (y m : Int) (d : DDay) : -2000000000000 ≤ (onD y m d).1 ∧ (onD y m d).1 ≤ 2000000000000 := by
 unfold onD
 split
 ·exact ⟨by decide, by decide⟩
 ·rename_i h1
  split
  ·exact ⟨by decide, by decide⟩
  ·rename_i h2
   split
   ·exact ⟨by decide, by decide⟩
   ·simp only [Bool.not_eq_false] at h1 h2
    have hb := dayNo_bd h1
    have hl := lenM_bd y m
    have hd := dayChk_bd h2
    simp only [findD, behindW, ZeE]
    repeat' split
    all_goals omega
theorem seconds_spec (u : Za6) (hc : -604799 ≤ u.at_.sec ∧ u.at_.sec ≤ 604799) (w : World) (hG : Glob w) : Does Tryz.prog 146 [.agg (Za6.enc u).toArray] w (fun v O => v = .int .i64 (86400 * (onD u.year u.month u.day).1 + u.at_.sec) ∧ O = []) := by
 have ho := fun w' (hw : Bel w.heap.size w w') => on_spec u.year u.month u.day w' (hG.up hw)
 have hb := onD_bd u.year u.month u.day
 generalize onD u.year u.month u.day = x at *
 obtain ⟨x1, x2⟩ := x
 obtain ⟨is, yr, mo, ⟨dk, dw, dd⟩, ⟨cs, cb⟩⟩ := u
 simp only at *
 show Does _ _ [.agg #[.bool is, .int .i64 yr, .int .i64 mo, .int .i64 dk, .int .i64 dw, .int .i64 dd, .int .i64 cs, .int .i64 cb]] w _
 refine Zab Tryz.func146 rfl rfl rfl rfl ?_
 repeat' (first | (apply RL_pu; rfl; exact PuUntil0) | (refine js ?_; (first | (refine Zad ho ?_) | (refine bx ?_; intro bk))) | refine walk1 ?_ | (refine Zag rfl (fun hc => ?_) (fun hc => ?_)))
 all_goals exact clo1
theorem PuUntil1 {G : Prop} (h : G := by (apply Pu_add; rfl; rfl; (constructor <;> (simp only [decide_eq_false_iff_not, decide_eq_true_eq] at *; omega)))) : G := h
theorem ucheck_spec (u : Za6) (least : Int) (w : World) (hG : Glob w) : Does Tryz.prog 135 [.agg (Za6.enc u).toArray, .int .i64 least] w (fun v O => v = .int .i64 (ZaU u least) ∧ O = []) := by
 have ho := fun w' (hw : Bel w.heap.size w w') => on_spec u.year u.month u.day w' (hG.up hw)
 have hcc := Zd2 u.at_
 have hcb : Za7 u.at_ = true → -604799 ≤ u.at_.sec ∧ u.at_.sec ≤ 604799 := fun hc => by
  simp only [Za7, Bool.and_eq_true, decide_eq_true_eq] at hc
  omega
 unfold ZaU
 generalize onD u.year u.month u.day = x at *
 generalize Za7 u.at_ = y at *
 obtain ⟨x1, x2⟩ := x
 obtain ⟨is, yr, mo, ⟨dk, dw, dd⟩, ⟨cs, cb⟩⟩ := u
 simp only at *
 cases y
 ·clear hcb
  show Does _ _ [.agg #[.bool is, .int .i64 yr, .int .i64 mo, .int .i64 dk, .int .i64 dw, .int .i64 dd, .int .i64 cs, .int .i64 cb], .int .i64 least] w _
  refine Zab Tryz.func135 rfl rfl rfl rfl ?_
  repeat' (first | (apply RL_pu; rfl; exact PuUntil1) | (refine js ?_; (first | (refine Zad (fun w' hw => hcc w') ?_) | (refine bx ?_; intro bk))) | refine walk1 ?_ | refine und ?_ | (refine Zav rfl rfl rfl (fun hc => ?_) (fun hc => ?_)) | (refine Zay rfl rfl rfl (fun hc => ?_) (fun hc => ?_)) | (refine Zag rfl (fun hc => ?_) (fun hc => ?_)))
  all_goals clear ho hcc hG
  all_goals exact clo1
 ·have hb := hcb rfl
  clear hcb
  show Does _ _ [.agg #[.bool is, .int .i64 yr, .int .i64 mo, .int .i64 dk, .int .i64 dw, .int .i64 dd, .int .i64 cs, .int .i64 cb], .int .i64 least] w _
  refine Zab Tryz.func135 rfl rfl rfl rfl ?_
  repeat' (first | (apply RL_pu; rfl; exact PuUntil1) | (refine js ?_; (first | (refine Zad (fun w' hw => hcc w') ?_) | (refine Zad ho ?_) | (refine bx ?_; intro bk))) | refine walk1 ?_ | refine und ?_ | (refine Zav rfl rfl rfl (fun hc => ?_) (fun hc => ?_)) | (refine Zay rfl rfl rfl (fun hc => ?_) (fun hc => ?_)) | (refine Zag rfl (fun hc => ?_) (fun hc => ?_)))
  all_goals clear ho hcc hG
  all_goals exact clo1
theorem untilChk_ok {u : Za6} {least : Int} (h : ZaU u least = 0) : (-10800 ≤ least ∧ least ≤ 0) ∧ -604799 ≤ u.at_.sec ∧ u.at_.sec ≤ 604799 := by
 unfold ZaU at h
 split at h
 ·cases h
 split at h
 ·cases h
 split at h
 ·cases h
 ·rename_i h1 _ h2
  have hc : Za7 u.at_ = true := by
   cases hc : Za7 u.at_
   ·exact absurd (.inr (.inr hc)) h2
   ·rfl
  simp only [Za7, Bool.and_eq_true, decide_eq_true_eq] at hc
  omega
theorem Zeq (u : Za6) (least : Int) (w : World) (hG : Glob w) : Does Tryz.prog 136 [.agg (Za6.enc u).toArray, .int .i64 least] w (fun v O => v = .tuple #[.int .i64 (ZaE u least).1, .int .i64 (ZaE u least).2] ∧ O = []) := by
 have hcu := fun w' (hw : Bel w.heap.size w w') => ucheck_spec u least w' (hG.up hw)
 unfold ZaE
 by_cases he : ZaU u least = 0
 ·obtain ⟨hl, hc⟩ := untilChk_ok he
  have hs := fun w' (hw : Bel w.heap.size w w') => seconds_spec u hc w' (hG.up hw)
  have hb := onD_bd u.year u.month u.day
  rw [if_neg (by simpa using he)]
  rw [he] at hcu
  generalize onD u.year u.month u.day = x at *
  obtain ⟨x1, x2⟩ := x
  clear he
  obtain ⟨is, yr, mo, ⟨dk, dw, dd⟩, ⟨cs, cb⟩⟩ := u
  simp only at *
  show Does _ _ [.agg #[.bool is, .int .i64 yr, .int .i64 mo, .int .i64 dk, .int .i64 dw, .int .i64 dd, .int .i64 cs, .int .i64 cb], .int .i64 least] w _
  refine Zab Tryz.func136 rfl rfl rfl rfl ?_
  repeat' (first | (apply RL_pu; rfl; exact PuUntil1) | (refine js ?_; (first | (refine Zad hcu ?_) | (refine Zad hs ?_) | (refine bx ?_; intro bk))) | refine walk1 ?_ | (refine Zag rfl (fun hc => ?_) (fun hc => ?_)))
  all_goals clear hs hcu hG
  all_goals exact clo2
 ·rw [if_pos he]
  generalize ZaU u least = x at *
  obtain ⟨is, yr, mo, ⟨dk, dw, dd⟩, ⟨cs, cb⟩⟩ := u
  simp only at *
  show Does _ _ [.agg #[.bool is, .int .i64 yr, .int .i64 mo, .int .i64 dk, .int .i64 dw, .int .i64 dd, .int .i64 cs, .int .i64 cb], .int .i64 least] w _
  refine Zab Tryz.func136 rfl rfl rfl rfl ?_
  repeat (first | (apply RL_pu; rfl; exact PuUntil1) | (refine js ?_; (first | (refine Zad hcu ?_) | (refine bx ?_; intro bk))) | refine walkB1 ?_)
  refine Zag rfl (fun h1 => ?_) (fun h1 => ?_)
  ·repeat (first | (refine js ?_; (refine bx ?_; intro bk)) | refine walk ?_)
   exact rtB
  ·exact absurd (by simpa using h1) he
end Go.Proofs.YtpcpmndldgejiaaGreatDoor
