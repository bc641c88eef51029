/- Parts of the proof. -/
import Derived.Test.YtpcpmndldgejiaaGreatDoorV20
import Derived.Test.YtpcpmndldgejiaaGreatDoorV13
import Derived.Test.YtpcpmndldgejiaaGreatDoorV19
import Derived.Test.YtpcpmndldgejiaaGreatDoorV16
import Derived.Test.YtpcpmndldgejiaaGreatDoorV12
set_option maxHeartbeats 4000000
set_option linter.unusedVariables false
set_option linter.unusedSimpArgs false
namespace Go.Proofs.YtpcpmndldgejiaaGreatDoor
open Go Go.RowKit Go.Wk Go.Lib
attribute [local irreducible] W RL Does Zat Zak retQ Calls Pu Stp RD Qy Ay Zam RW
theorem LibW.up {w w' : World} (h : LibW w) (hb : Bel w.heap.size w w') : LibW w' where
 mxl := by
  obtain ⟨m, hm⟩ := h.mxl
  exact ⟨m, (hb.cell (World.block_lt_of_cell? w _ hm)).trans hm⟩
 syn := by
  obtain ⟨ev, h1, h2⟩ := h.syn
  exact ⟨ev, (hb.cell (World.block_lt_of_cell? w _ h1)).trans h1, h2⟩
theorem isN_spec (s : ByteArray) (w : World) (hL : LibW w) (hs : s.size ≤ 1000000000000) : Does Tryz.prog 163 [.string s] w (fun v O => v = .bool (ZbF s.data.toList).isSome ∧ O = []) := by
 have hp := fun w' (hw : Bel w.heap.size w w') => parse_spec s w' (fun w2 hw2 => (hL.up hw).up hw2) hs
 refine Zab Tryz.func163 rfl rfl rfl rfl ?_
 generalize ZbF s.data.toList = o at *
 cases o with
 | none =>
  simp only [prV] at hp
  repeat (first | (refine js ?_; (refine Zad hp ?_)) | refine walk ?_)
  exact rtA
 | some x =>
  simp only [prV] at hp
  repeat (first | (refine js ?_; (refine Zad hp ?_)) | refine walk ?_)
  exact rtA
theorem cutV_len (f p : List UInt8) : (cutV f p).1.length + (cutV f p).2.1.length ≤ f.length := by
 unfold cutV
 split
 ·rename_i a b h
  have := cutAt_len h
  simp only [List.length_nil] at this
  dsimp only
  omega
 ·simp
def arV (l : List UInt8) : Value := .tuple #[.string ⟨(cutV l [37, 115]).1.toArray⟩, .string ⟨(cutV l [37, 115]).2.1.toArray⟩, .bool (Zcb l).isSome]
theorem arB_eq (l : List UInt8) : (Zcb l).isSome = ((cutV l [37, 115]).2.2 && (Zc5 ((cutV l [37, 115]).1 ++ (cutV l [37, 115]).2.1) && decide (((cutV l [37, 115]).1 ++ (cutV l [37, 115]).2.1).length ≤ 5))) := by
 unfold Zcb cutV
 cases Zds [37, 115] l [] with
 | none => rfl
 | some ab =>
  obtain ⟨a, b⟩ := ab
  dsimp only
  by_cases h1 : Zc5 (a ++ b) = true
  ·by_cases h2 : (a ++ b).length ≤ 5
   ·rw [if_pos ⟨h1, h2⟩, h1, decide_eq_true h2]; rfl
   ·rw [if_neg (fun h => h2 h.2), decide_eq_false h2, Bool.and_false, Bool.and_false]; rfl
  ·rw [if_neg (fun h => h1 h.1), show Zc5 (a ++ b) = false from by simpa using h1, Bool.false_and, Bool.and_false]; rfl
theorem PuFmtB0 {G : Prop} (h : G := by (first | (apply ZcG; rfl; rfl; exact hss) | (apply Zbv; rfl; rfl; exact hil) | (apply ZeL; rfl; rfl; exact h5))) : G := h
theorem wkFmtB0 {G G' : Prop} (k : G') (h : Hold G' → G := by intro k9; (first | (apply RL_pu; rfl; exact PuFmtB0) | (refine js ?_; (first | (refine Zad hc ?_) | (refine Zad (fun w' hw => hix w') ?_))) | refine walk1 ?_); exact k9.out) : G := h ⟨k⟩
theorem around_spec (f : ByteArray) (w : World) (hL : LibW w) (hs : f.size ≤ 1000000000) : Does Tryz.prog 115 [.string f] w (fun v O => v = arV f.data.toList ∧ O = []) := by
 have hc := fun w' (hw : Bel w.heap.size w w') => cut_spec f ⟨#[37, 115]⟩ w' (hL.up hw) (by omega)
 rw [show (⟨#[37, 115]⟩ : ByteArray).data.toList = [37, 115] from rfl] at hc
 have hl := cutV_len f.data.toList [37, 115]
 have hfs : f.data.toList.length = f.size := by simp
 rw [hfs] at hl
 unfold arV
 rw [arB_eq]
 obtain ⟨ab, hab⟩ : ∃ ab, cutV f.data.toList [37, 115] = ab := ⟨_, rfl⟩
 rw [hab] at hc hl ⊢
 obtain ⟨a, b, ok⟩ := ab
 dsimp only at hc hl ⊢
 have hix := fun w' => ixf_spec (⟨a.toArray⟩ ++ ⟨b.toArray⟩) w'
 have hd : ((⟨a.toArray⟩ : ByteArray) ++ ⟨b.toArray⟩).data.toList = a ++ b := by simp
 have hs1 : (⟨a.toArray⟩ : ByteArray).size = a.length := by show a.toArray.size = a.length; simp
 have hs2 : (⟨b.toArray⟩ : ByteArray).size = b.length := by show b.toArray.size = b.length; simp
 have hsz : ((⟨a.toArray⟩ : ByteArray) ++ ⟨b.toArray⟩).size = (a ++ b).length := by rw [ByteArray.size_append, hs1, hs2, List.length_append]
 have h1 := idx_let ((⟨a.toArray⟩ : ByteArray) ++ ⟨b.toArray⟩) ((⟨a.toArray⟩ : ByteArray) ++ ⟨b.toArray⟩).size 0 (by omega)
 rw [List.drop_zero, hd] at h1
 have hil : decide (idxFunc (fun r => Zdz (r : Int)) true ((⟨a.toArray⟩ : ByteArray) ++ ⟨b.toArray⟩) < 0) = Zc5 (a ++ b) := by
  rw [Bool.eq_iff_iff, decide_eq_true_eq]
  exact h1
 have h5 : decide (((((⟨a.toArray⟩ : ByteArray) ++ ⟨b.toArray⟩).size : Nat) : Int) ≤ 5) = decide ((a ++ b).length ≤ 5) := by
  rw [decide_eq_decide]
  omega
 have hss : (⟨a.toArray⟩ : ByteArray).size + (⟨b.toArray⟩ : ByteArray).size ≤ 9223372036854775807 := by omega
 clear h1
 generalize idxFunc (fun r => Zdz (r : Int)) true ((⟨a.toArray⟩ : ByteArray) ++ ⟨b.toArray⟩) = i at *
 generalize Zc5 (a ++ b) = lt at *
 generalize decide ((a ++ b).length ≤ 5) = l5 at *
 refine Zab Tryz.func115 rfl rfl rfl rfl ?_
 cases ok with
 | false =>
  repeat refine wkFmtB0 ?_
  exact ret_3 _ _ _ [] (.tmp rfl) (.tmp rfl) (.tmp rfl) .nil ⟨rfl, rfl⟩
 | true =>
  cases lt with
  | false =>
   repeat refine wkFmtB0 ?_
   exact ret_3 _ _ _ [] (.tmp rfl) (.tmp rfl) (.tmp rfl) .nil ⟨rfl, rfl⟩
  | true =>
   repeat refine wkFmtB0 ?_
   exact ret_3 _ _ _ [] (.tmp rfl) (.tmp rfl) (.tmp rfl) .nil ⟨rfl, rfl⟩
def kindV (ab0 ok ab1 ab2 ar q4 i0 i1 i2 : Bool) : Int := if ab0 then 1 else if ok && (ab1 && ab2) then 2 else if ar then 3 else if q4 then 4 else if i0 || (ok && (i1 && i2)) then 5 else 0
theorem kindF_eq (l : List UInt8) : ZbK l = kindV (ZcN l) (cutV l [47]).2.2 (ZcN (cutV l [47]).1) (ZcN (cutV l [47]).2.1) (Zcb l).isSome (decide (l = [37, 122])) (ZbF l).isSome (ZbF (cutV l [47]).1).isSome (ZbF (cutV l [47]).2.1).isSome := by
 unfold ZbK kindV cutV
 cases Zds [47] l [] with
 | none => simp
 | some ab => simp
theorem kind_spec (f : ByteArray) (w : World) (hL : LibW w) (hs : f.size ≤ 1000000000) : Does Tryz.prog 114 [.string f] w (fun v O => v = .int .i64 (ZbK f.data.toList) ∧ O = []) := by
 have hc := fun w' (hw : Bel w.heap.size w w') => cut_spec f ⟨#[47]⟩ w' (hL.up hw) (by omega)
 rw [show (⟨#[47]⟩ : ByteArray).data.toList = [47] from rfl] at hc
 have hl := cutV_len f.data.toList [47]
 have hfs : f.data.toList.length = f.size := by simp
 rw [hfs] at hl
 have har := fun w' (hw : Bel w.heap.size w w') => around_spec f w' (hL.up hw) hs
 unfold arV at har
 rw [kindF_eq]
 have hq : decide (f = ⟨#[37, 122]⟩) = decide (f.data.toList = [37, 122]) := by
  rw [decide_eq_decide]
  exact ⟨fun h => by rw [h], fun h => by
   apply ByteArray.ext
   rw [← Array.toArray_toList (xs := f.data), h]⟩
 obtain ⟨ab, hab⟩ : ∃ ab, cutV f.data.toList [47] = ab := ⟨_, rfl⟩
 rw [hab] at hc hl ⊢
 obtain ⟨a, b, ok⟩ := ab
 dsimp only at hc hl ⊢
 have hs1 : (⟨a.toArray⟩ : ByteArray).size = a.length := by show a.toArray.size = a.length; simp
 have hs2 : (⟨b.toArray⟩ : ByteArray).size = b.length := by show b.toArray.size = b.length; simp
 have a0 := fun w' => abbr_spec f (by omega) w'
 have a1 := fun w' => abbr_spec ⟨a.toArray⟩ (by omega) w'
 have a2 := fun w' => abbr_spec ⟨b.toArray⟩ (by omega) w'
 have i0 := fun w' (hw : Bel w.heap.size w w') => isN_spec f w' (hL.up hw) (by omega)
 have i1 := fun w' (hw : Bel w.heap.size w w') => isN_spec ⟨a.toArray⟩ w' (hL.up hw) (by omega)
 have i2 := fun w' (hw : Bel w.heap.size w w') => isN_spec ⟨b.toArray⟩ w' (hL.up hw) (by omega)
 rw [show abbrB f = ZcN f.data.toList from rfl] at a0
 rw [show abbrB ⟨a.toArray⟩ = ZcN a from rfl] at a1
 rw [show abbrB ⟨b.toArray⟩ = ZcN b from rfl] at a2
 rw [show (⟨a.toArray⟩ : ByteArray).data.toList = a from rfl] at i1
 rw [show (⟨b.toArray⟩ : ByteArray).data.toList = b from rfl] at i2
 generalize ZcN f.data.toList = A0 at *
 generalize ZcN a = A1 at *
 generalize ZcN b = A2 at *
 generalize (ZbF f.data.toList).isSome = I0 at *
 generalize (ZbF a).isSome = I1 at *
 generalize (ZbF b).isSome = I2 at *
 generalize (Zcb f.data.toList).isSome = ar at *
 generalize decide (f.data.toList = [37, 122]) = q4 at *
 refine Zab Tryz.func114 rfl rfl rfl rfl ?_
 repeat' (first | (apply RL_pu; rfl; (apply Pu_eqlSB; rfl; rfl; exact hq)) | (refine js ?_; (first | (refine Zad hc ?_) | (refine Zad har ?_) | (refine Zad (fun w' hw => a0 w') ?_) | (refine Zad (fun w' hw => a1 w') ?_) | (refine Zad (fun w' hw => a2 w') ?_) | (refine Zad i0 ?_) | (refine Zad i1 ?_) | (refine Zad i2 ?_))) | refine walk1 ?_ | refine und ?_ | (refine Zav rfl rfl rfl (fun hc => ?_) (fun hc => ?_)) | (refine Zay rfl rfl rfl (fun hc => ?_) (fun hc => ?_)) | (refine Zag rfl (fun hc => ?_) (fun hc => ?_)))
 all_goals first | (refine ret_1 _ [] (.tmp rfl) .nil ⟨?_, rfl⟩; first | rfl | (simp only [*, Bool.true_and, Bool.false_and, Bool.true_or, Bool.false_or, Bool.not_true, Bool.not_false]; done) | (simp_all [kindV]; done) | (simp_all [kindV]; omega) | (simp_all [kindV]; rw [Bool.eq_iff_iff]; simp; omega)) | (exfalso; simp_all [kindV]; done) | (exfalso; simp_all [kindV]; omega) | (exfalso; omega)
end Go.Proofs.YtpcpmndldgejiaaGreatDoor
namespace Go.Wk
open Go Go.RowKit
end Go.Wk
namespace Go.Proofs.YtpcpmndldgejiaaGreatDoor
open Go Go.RowKit Go.Wk Go.Lib
attribute [local irreducible] W RL Does Zat Zak retQ Calls Pu Stp RD Qy Ay Zam RW
def ptsV : Option (List UInt8 × List UInt8) → Value
 | none => .tuple #[.string ByteArray.empty, .string ByteArray.empty, .bool false]
 | some (a, b) => .tuple #[.string ⟨a.toArray⟩, .string ⟨b.toArray⟩, .bool true]
theorem partsF_eq (l : List UInt8) : ZcZ l = if (cutV l [47]).2.2 = true ∧ (ZbK l = 2 ∨ ZbK l = 5) then some ((cutV l [47]).1, (cutV l [47]).2.1) else none := by
 unfold ZcZ cutV
 cases Zds [47] l [] with
 | none => simp
 | some ab => simp
theorem kindF_ne (l : List UInt8) (h : ZbK l = 3) : Zcb l = some ((cutV l [37, 115]).1, (cutV l [37, 115]).2.1) := by
 have hs : (Zcb l).isSome = true := by
  rw [kindF_eq] at h
  unfold kindV at h
  cases hx : (Zcb l).isSome with
  | true => rfl
  | false =>
   rw [hx] at h
   exfalso
   revert h
   repeat' split
   all_goals first | decide | (intro h; omega) | simp_all
 unfold Zcb cutV at *
 cases hc : Zds [37, 115] l [] with
 | none => rw [hc] at hs; cases hs
 | some ab =>
  rw [hc] at hs
  dsimp only at hs ⊢
  split at hs
  ·rename_i h1; rw [if_pos h1]
  ·cases hs
theorem PuFmtC0 {G : Prop} (h : G := by (first | (apply Pu_addWE; rfl; rfl; exact hw) | (apply ZaX; rfl; rfl; exact b1) | (apply ZaX; rfl; rfl; exact b2) | (apply ZaM; rfl; rfl; exact b3))) : G := h
theorem PuFmtC1 {G : Prop} (h : G := by (first | (apply Pu_addWE; rfl; rfl; exact hw) | (apply ZaX; rfl; rfl; exact b1) | (apply ZaX; rfl; rfl; exact b2))) : G := h
theorem addAny_spec (a b : Int) (ha : I64 a) (hb : I64 b) (w : World) : Does Tryz.prog 118 [.int .i64 a, .int .i64 b] w (fun v O => v = .tuple #[.int .i64 (if Zdr (a + b) then a + b else 0), .bool (Zdr (a + b))] ∧ O = []) := by
 unfold I64 at ha hb
 have hw : IntKind.i64.wrap (a + b) = if a + b < -9223372036854775808 then a + b + 18446744073709551616 else if 9223372036854775807 < a + b then a + b - 18446744073709551616 else a + b := by
  rw [IntKind.wrap_i64]
  repeat' split
  all_goals omega
 refine Zab Tryz.func118 rfl rfl rfl rfl ?_
 by_cases hlo : a + b < -9223372036854775808
 ·rw [if_pos hlo] at hw
  have hok : Zdr (a + b) = false := by unfold Zdr; rw [decide_eq_false (by omega)]; rfl
  have b1 : decide (a < a + b + 18446744073709551616) = true := decide_eq_true (by omega)
  have b2 : decide (0 < b) = false := decide_eq_false (by omega)
  have b3 : (!decide (b = 0)) = true := by rw [decide_eq_false (by omega)]; rfl
  rw [hok]
  repeat (first | (apply RL_pu; rfl; exact PuFmtC0) | refine walk1 ?_)
  exact rtB
 rw [if_neg hlo] at hw
 by_cases hhi : 9223372036854775807 < a + b
 ·rw [if_pos hhi] at hw
  have hok : Zdr (a + b) = false := by unfold Zdr; rw [decide_eq_false (show ¬ a + b ≤ 9223372036854775807 by omega), Bool.and_false]
  have b1 : decide (a < a + b - 18446744073709551616) = false := decide_eq_false (by omega)
  have b2 : decide (0 < b) = true := decide_eq_true (by omega)
  have b3 : (!decide (b = 0)) = true := by rw [decide_eq_false (by omega)]; rfl
  rw [hok]
  repeat (first | (apply RL_pu; rfl; exact PuFmtC0) | refine walk1 ?_)
  exact rtB
 rw [if_neg hhi] at hw
 have hok : Zdr (a + b) = true := by unfold Zdr; rw [decide_eq_true (by omega), decide_eq_true (by omega)]; rfl
 rw [hok, if_pos rfl]
 by_cases hp : 0 < b
 ·have b1 : decide (a < a + b) = true := decide_eq_true (by omega)
  have b2 : decide (0 < b) = true := decide_eq_true hp
  repeat (first | (apply RL_pu; rfl; exact PuFmtC1) | refine walk1 ?_)
  exact rtB
 ·have b1 : decide (a < a + b) = false := decide_eq_false (by omega)
  have b2 : decide (0 < b) = false := decide_eq_false hp
  repeat (first | (apply RL_pu; rfl; exact PuFmtC1) | refine walk1 ?_)
  exact rtB
theorem PuFmtC2 {G : Prop} (h : G := by (apply ZaM; rfl; rfl; exact b2)) : G := h
theorem parts_spec (f : ByteArray) (w : World) (hL : LibW w) (hs : f.size ≤ 1000000000) : Does Tryz.prog 113 [.string f] w (fun v O => v = ptsV (ZcZ f.data.toList) ∧ O = []) := by
 have hc := fun w' (hw : Bel w.heap.size w w') => cut_spec f ⟨#[47]⟩ w' (hL.up hw) (by omega)
 rw [show (⟨#[47]⟩ : ByteArray).data.toList = [47] from rfl] at hc
 have hk := fun w' (hw : Bel w.heap.size w w') => kind_spec f w' (hL.up hw) hs
 rw [partsF_eq]
 generalize ZbK f.data.toList = K at *
 generalize cutV f.data.toList [47] = ab at *
 obtain ⟨a, b, ok⟩ := ab
 dsimp only at hc ⊢
 refine Zab Tryz.func113 rfl rfl rfl rfl ?_
 cases ok with
 | false =>
  rw [if_neg (by rintro ⟨h, _⟩; cases h)]
  repeat (first | refine und ?_ | (refine js ?_; (first | (refine Zad hc ?_) | (refine Zad hk ?_))) | refine walk ?_)
  exact ret_3 _ _ _ [] (.tmp rfl) (.tmp rfl) (.tmp rfl) .nil ⟨rfl, rfl⟩
 | true =>
  by_cases h2 : K = 2
  ·subst h2
   rw [if_pos ⟨rfl, .inl rfl⟩]
   repeat (first | (refine js ?_; (first | (refine Zad hc ?_) | (refine Zad hk ?_))) | refine walk ?_)
   exact ret_3 _ _ _ [] (.tmp rfl) (.tmp rfl) (.tmp rfl) .nil ⟨rfl, rfl⟩
  ·have b2 : (!decide (K = 2)) = true := by rw [decide_eq_false h2]; rfl
   by_cases h5 : K = 5
   ·subst h5
    rw [if_pos ⟨rfl, .inr rfl⟩]
    repeat (first | (apply RL_pu; rfl; exact PuFmtC2) | (refine js ?_; (first | (refine Zad hc ?_) | (refine Zad hk ?_))) | refine walk1 ?_)
    exact ret_3 _ _ _ [] (.tmp rfl) (.tmp rfl) (.tmp rfl) .nil ⟨rfl, rfl⟩
   ·have b5 : (!decide (K = 5)) = true := by rw [decide_eq_false h5]; rfl
    rw [if_neg (by rintro ⟨_, h | h⟩; exact h2 h; exact h5 h)]
    repeat (first | (apply RL_pu; rfl; (first | exact PuFmtC2 | (apply ZaM; rfl; rfl; exact b5))) | (refine js ?_; (first | (refine Zad hc ?_) | (refine Zad hk ?_))) | refine walk1 ?_)
    exact ret_3 _ _ _ [] (.tmp rfl) (.tmp rfl) (.tmp rfl) .nil ⟨rfl, rfl⟩
theorem bytes_back (s : ByteArray) : (⟨s.data.toList.toArray⟩ : ByteArray) = s := by
 apply ByteArray.ext
 simp
theorem PuFmtC4 {G : Prop} (h : G := by (apply ZaI; rfl; rfl; exact hb0)) : G := h
theorem PuFmtC5 {G : Prop} (h : G := by (first | (apply ZcG; rfl; rfl; exact q1) | (apply ZcG; rfl; rfl; exact q2))) : G := h
theorem QyFmtC5 {G : Prop} (h : G := by first | (apply Qy_y; rfl; exact PuFmtC5) | exact QyA) : G := h
theorem QFFmtC5 {G : Prop} (h : G := by repeat (first | exact QF.nil | (apply QF.mk; rfl; rfl; decide +kernel; exact QyFmtC5))) : G := h
theorem PuFmtC6 {G : Prop} (h : G := by (apply Pu_neqSB; rfl; rfl; exact hb)) : G := h
theorem PuFmtC7 {G : Prop} (h : G := by (first | (apply ZaI; rfl; rfl; exact hb3) | (apply ZaI; rfl; rfl; exact hb4) | (apply ZaI; rfl; rfl; exact hb1) | (apply ZaI; rfl; rfl; exact hb5))) : G := h
theorem fabbr_spec (f letter : ByteArray) (off save : Int) (w : World) (hL : LibW w) (hs : f.size ≤ 1000000000) (hl : letter.size ≤ 1000000000) (ho : I64 off) (hv : I64 save) :
  Does Tryz.prog 74 [.string f, .int .i64 off, .agg #[.int .i64 save, .string letter]] w (fun v O => v = xpV (Zcg f.data.toList off save letter.data.toList) ∧ O = []) := by
 have hp := fun w' (hw : Bel w.heap.size w w') => parts_spec f w' (hL.up hw) hs
 have hk := fun w' (hw : Bel w.heap.size w w') => kind_spec f w' (hL.up hw) hs
 have har := fun w' (hw : Bel w.heap.size w w') => around_spec f w' (hL.up hw) hs
 have hsm := fun w' => addAny_spec off save ho hv w'
 have h3 := kindF_ne f.data.toList
 have hcl := cutV_len f.data.toList [37, 115]
 have hfs : f.data.toList.length = f.size := by simp
 rw [hfs] at hcl
 have hfb := bytes_back f
 unfold arV at har
 unfold Zcg
 refine Zab Tryz.func74 rfl rfl rfl rfl ?_
 cases hP : ZcZ f.data.toList with
 | some ab =>
  obtain ⟨a, b⟩ := ab
  rw [hP] at hp
  simp only [ptsV] at hp
  dsimp only
  by_cases h0 : save = 0
  ·subst h0
   rw [if_pos rfl]
   repeat (first | refine walk ?_ | (refine jg ?_; (try intro F); (first | (refine Zad hp ?_) | (refine bx ?_; intro bk)); refine fin ?_) | (refine jn ?_; (try intro F); (first | (refine bx ?_; intro bk) | (apply Zae; exact PuA)); refine fin ?_))
   exact rtB
  ·rw [if_neg h0]
   have hb0 : decide (save = 0) = false := decide_eq_false h0
   repeat (first | (apply RL_pu; rfl; exact PuFmtC4) | (apply RD_Q; rfl; rfl; decide +kernel; rfl; rfl; exact QyFmtC4) | refine walk1 ?_ | (refine jg ?_; (try intro F); (first | (refine Zad hp ?_) | (refine bx ?_; intro bk)); first | refine ⟨_, EndsA, QFFmtC4, ?_⟩ | refine fin ?_) | (refine jn ?_; (try intro F); (first | (refine bx ?_; intro bk) | (apply Zae; first | exact PuFmtC4 | exact PuA)); first | refine ⟨_, EndsA, QFFmtC4, ?_⟩ | refine fin ?_))
   exact rtB
 | none =>
 rw [hP] at hp
 simp only [ptsV] at hp
 dsimp only
 generalize ZbK f.data.toList = K at *
 by_cases hK3 : K = 3
 ·subst hK3
  rw [if_pos rfl, h3 rfl]
  dsimp only
  generalize (cutV f.data.toList [37, 115]).1 = a at *
  generalize (cutV f.data.toList [37, 115]).2.1 = b at *
  have hs1 : (⟨a.toArray⟩ : ByteArray).size = a.length := by show a.toArray.size = a.length; simp
  have hs2 : (⟨b.toArray⟩ : ByteArray).size = b.length := by show b.toArray.size = b.length; simp
  have q1 : (⟨a.toArray⟩ : ByteArray).size + letter.size ≤ 9223372036854775807 := by omega
  have q2 : ((⟨a.toArray⟩ : ByteArray) ++ letter).size + (⟨b.toArray⟩ : ByteArray).size ≤ 9223372036854775807 := by rw [ByteArray.size_append]; omega
  have q3 : (((⟨a.toArray⟩ : ByteArray) ++ letter ++ ⟨b.toArray⟩).size : Int) ≤ 9223372036854775807 := by rw [ByteArray.size_append, ByteArray.size_append]; omega
  have hx : ((⟨a.toArray⟩ : ByteArray) ++ letter ++ ⟨b.toArray⟩).data.toList = a ++ letter.data.toList ++ b := by simp
  have hXb := bytes_back ((⟨a.toArray⟩ : ByteArray) ++ letter ++ ⟨b.toArray⟩)
  have hab := fun w' => abbr_spec ((⟨a.toArray⟩ : ByteArray) ++ letter ++ ⟨b.toArray⟩) q3 w'
  rw [show abbrB ((⟨a.toArray⟩ : ByteArray) ++ letter ++ ⟨b.toArray⟩) = ZcN (a ++ letter.data.toList ++ b) from by unfold abbrB ZcN; rw [hx]] at hab
  rw [hx] at hXb
  have hri := fun w' => right_spec ((⟨a.toArray⟩ : ByteArray) ++ letter ++ ⟨b.toArray⟩) (ZcN (a ++ letter.data.toList ++ b)) w'
  cases hok : ZcN (a ++ letter.data.toList ++ b) with
  | false =>
   rw [hok] at hab hri
   rw [if_neg (by decide)]
   repeat (first | (apply RL_pu; rfl; exact PuFmtC5) | (apply RD_Q; rfl; rfl; decide +kernel; rfl; rfl; exact QyFmtC5) | refine walk1 ?_ | (refine jg ?_; (try intro F); (first | (refine Zad hp ?_) | (refine Zad hk ?_) | (refine Zad har ?_) | (refine Zad (fun w' hw => hab w') ?_) | (refine Zad (fun w' hw => hri w') ?_) | (refine bx ?_; intro bk)); first | refine ⟨_, EndsA, QFFmtC5, ?_⟩ | refine fin ?_) | (refine jn ?_; (try intro F); (first | (refine bx ?_; intro bk) | (apply Zae; first | exact PuFmtC5 | exact PuA)); first | refine ⟨_, EndsA, QFFmtC5, ?_⟩ | refine fin ?_))
   exact rtB
  | true =>
   rw [hok] at hab hri
   rw [if_pos rfl]
   unfold xpV
   dsimp only
   rw [hXb]
   repeat (first | (apply RL_pu; rfl; exact PuFmtC5) | (apply RD_Q; rfl; rfl; decide +kernel; rfl; rfl; exact QyFmtC5) | refine walk1 ?_ | (refine jg ?_; (try intro F); (first | (refine Zad hp ?_) | (refine Zad hk ?_) | (refine Zad har ?_) | (refine Zad (fun w' hw => hab w') ?_) | (refine Zad (fun w' hw => hri w') ?_) | (refine bx ?_; intro bk)); first | refine ⟨_, EndsA, QFFmtC5, ?_⟩ | refine fin ?_) | (refine jn ?_; (try intro F); (first | (refine bx ?_; intro bk) | (apply Zae; first | exact PuFmtC5 | exact PuA)); first | refine ⟨_, EndsA, QFFmtC5, ?_⟩ | refine fin ?_))
   exact rtB
 have hb3 : decide (K = 3) = false := decide_eq_false hK3
 rw [if_neg hK3]
 by_cases hK4 : K = 4
 ·subst hK4
  rw [if_pos rfl]
  cases hok : Zdr (off + save) with
  | false =>
   rw [hok] at hsm
   rw [if_neg (by rintro ⟨h, _⟩; cases h)]
   have htx := fun w' => Zel 0 w'
   have hr2 := fun w' => right_spec ⟨(Zb3 0).toArray⟩ false w'
   rw [if_neg (by decide)] at hsm
   repeat (first | refine walk ?_ | (refine jg ?_; (try intro F); (first | (refine Zad hp ?_) | (refine Zad hk ?_) | (refine Zad (fun w' hw => hsm w') ?_) | (refine Zad (fun w' hw => htx w') ?_) | (refine Zad (fun w' hw => hr2 w') ?_) | (refine bx ?_; intro bk)); refine fin ?_) | (refine jn ?_; (try intro F); (first | (refine bx ?_; intro bk) | (apply Zae; exact PuA)); refine fin ?_))
   exact rtB
  | true =>
   rw [hok, if_pos rfl] at hsm
   have htx := fun w' => Zel (off + save) w'
   have hri := fun ok w' => right_spec ⟨(Zb3 (off + save)).toArray⟩ ok w'
   by_cases he : Zb3 (off + save) = []
   ·rw [if_neg (by rintro ⟨_, h⟩; exact h he)]
    have hr2 := hri false
    have hb : (!decide ((⟨(Zb3 (off + save)).toArray⟩ : ByteArray) = ByteArray.empty)) = false := by rw [he]; decide
    repeat (first | (apply RL_pu; rfl; exact PuFmtC6) | (apply RD_Q; rfl; rfl; decide +kernel; rfl; rfl; exact QyFmtC6) | refine walk1 ?_ | (refine jg ?_; (try intro F); (first | (refine Zad hp ?_) | (refine Zad hk ?_) | (refine Zad (fun w' hw => hsm w') ?_) | (refine Zad (fun w' hw => htx w') ?_) | (refine Zad (fun w' hw => hr2 w') ?_) | (refine bx ?_; intro bk)); first | refine ⟨_, EndsA, QFFmtC6, ?_⟩ | refine fin ?_) | (refine jn ?_; (try intro F); (first | (refine bx ?_; intro bk) | (apply Zae; first | exact PuFmtC6 | exact PuA)); first | refine ⟨_, EndsA, QFFmtC6, ?_⟩ | refine fin ?_))
    exact rtB
   ·rw [if_pos ⟨rfl, he⟩]
    have hr2 := hri true
    have hb : (!decide ((⟨(Zb3 (off + save)).toArray⟩ : ByteArray) = ByteArray.empty)) = true := by
     rw [decide_eq_false (fun h => he (by simpa using congrArg (fun b : ByteArray => b.data.toList) h))]; rfl
    repeat (first | (apply RL_pu; rfl; exact PuFmtC6) | (apply RD_Q; rfl; rfl; decide +kernel; rfl; rfl; exact QyFmtC6) | refine walk1 ?_ | (refine jg ?_; (try intro F); (first | (refine Zad hp ?_) | (refine Zad hk ?_) | (refine Zad (fun w' hw => hsm w') ?_) | (refine Zad (fun w' hw => htx w') ?_) | (refine Zad (fun w' hw => hr2 w') ?_) | (refine bx ?_; intro bk)); first | refine ⟨_, EndsA, QFFmtC6, ?_⟩ | refine fin ?_) | (refine jn ?_; (try intro F); (first | (refine bx ?_; intro bk) | (apply Zae; first | exact PuFmtC6 | exact PuA)); first | refine ⟨_, EndsA, QFFmtC6, ?_⟩ | refine fin ?_))
    exact rtB
 have hb4 : decide (K = 4) = false := decide_eq_false hK4
 rw [if_neg hK4]
 by_cases hK1 : K = 1
 ·subst hK1
  rw [if_pos (.inl rfl)]
  unfold xpV
  dsimp only
  rw [hfb]
  repeat (first | refine walk ?_ | (refine jg ?_; (try intro F); (first | (refine Zad hp ?_) | (refine Zad hk ?_) | (refine bx ?_; intro bk)); refine fin ?_) | (refine jn ?_; (try intro F); (first | (refine bx ?_; intro bk) | (apply Zae; exact PuA)); refine fin ?_))
  exact rtB
 have hb1 : decide (K = 1) = false := decide_eq_false hK1
 by_cases hK5 : K = 5
 ·subst hK5
  rw [if_pos (.inr rfl)]
  unfold xpV
  dsimp only
  rw [hfb]
  repeat (first | refine walk ?_ | (refine jg ?_; (try intro F); (first | (refine Zad hp ?_) | (refine Zad hk ?_) | (refine bx ?_; intro bk)); refine fin ?_) | (refine jn ?_; (try intro F); (first | (refine bx ?_; intro bk) | (apply Zae; exact PuA)); refine fin ?_))
  exact rtB
 have hb5 : decide (K = 5) = false := decide_eq_false hK5
 rw [if_neg (by rintro (h | h); exact hK1 h; exact hK5 h)]
 repeat (first | (apply RL_pu; rfl; exact PuFmtC7) | (apply RD_Q; rfl; rfl; decide +kernel; rfl; rfl; exact QyFmtC7) | refine walk1 ?_ | (refine jg ?_; (try intro F); (first | (refine Zad hp ?_) | (refine Zad hk ?_) | (refine bx ?_; intro bk)); first | refine ⟨_, EndsA, QFFmtC7, ?_⟩ | refine fin ?_) | (refine jn ?_; (try intro F); (first | (refine bx ?_; intro bk) | (apply Zae; first | exact PuFmtC7 | exact PuA)); first | refine ⟨_, EndsA, QFFmtC7, ?_⟩ | refine fin ?_))
 exact rtB
end Go.Proofs.YtpcpmndldgejiaaGreatDoor
namespace Go.Proofs.YtpcpmndldgejiaaGreatDoor
open Go Go.RowKit Go.Wk
attribute [local irreducible] W RL Does Zat Zak retQ Calls Pu Stp RD Qy Ay Zam
end Go.Proofs.YtpcpmndldgejiaaGreatDoor
namespace Go.Wk
open Go Go.RowKit
theorem onR_some {least : Int} {r : Zaa} {i y : Int} {e : Zac} (h : onR least r i y = some e) : e.year = y ∧ e.rule = i ∧ max r.from_ (-2000000000) ≤ y ∧ y ≤ 2000000000 ∧ -604799 ≤ r.at_.sec ∧ r.at_.sec ≤ 604799 ∧ (onD y r.month r.day).2 = 0 ∧ e.nominal = 86400 * (onD y r.month r.day).1 + (r.at_.sec + (if r.at_.base = 1 then max least (-10800) else 0)) := by
 unfold onR at h
 split at h
 ·cases h
 rename_i h1
 split at h
 ·cases h
 rename_i h2
 cases h
 have hc : Za7 r.at_ = true := by
  cases hc : Za7 r.at_
  ·exact absurd (.inr (.inr hc)) h1
  ·rfl
 simp only [Za7, Bool.and_eq_true, decide_eq_true_eq] at hc
 have hl : ¬ lastY r < y := fun h => h1 (.inr (.inl h))
 have hl2 : lastY r ≤ 2000000000 := by unfold lastY; split <;> omega
 refine ⟨rfl, rfl, ?_, by omega, hc.1.1.1, hc.1.1.2, Decidable.not_not.1 h2, ?_⟩
 ·have : ¬ y < max r.from_ (-2000000000) := fun h => h1 (.inl h)
  omega
 ·dsimp only
  omega
def mar1 (y : Int) : Int := y / 400 * 146097 + y % 400 * 365 + y % 400 / 4 - y % 400 / 100 - 719468
theorem mar1_succ (y : Int) : mar1 y + 365 ≤ mar1 (y + 1) ∧ mar1 (y + 1) ≤ mar1 y + 366 := by unfold mar1; omega
theorem mar1_mono (y : Int) : ∀ k : Nat, mar1 y + 365 * k ≤ mar1 (y + k)
 | 0 => by simp
 | k + 1 => by
  have h1 := mar1_mono y k
  have h2 := mar1_succ (y + k)
  rw [show y + ((k + 1 : Nat) : Int) = y + k + 1 by omega]
  omega
theorem mar1_lt {y z : Int} (h : y < z) : mar1 y + 365 ≤ mar1 z := by
 have h1 := mar1_mono y (z - y).toNat
 rw [show y + ((z - y).toNat : Int) = z by omega] at h1
 omega
theorem mar1_le {y z : Int} (h : y ≤ z) : mar1 y ≤ mar1 z := by
 by_cases he : y = z
 ·subst he; exact Int.le_refl _
 ·have := mar1_lt (y := y) (z := z) (by omega)
  omega
theorem dayNo_mar (y m d : Int) (h : 3 ≤ m) : ZbM y m d = mar1 y + Zbf.getD (m - 3).toNat 0 + d - 1 := by
 unfold ZbM dayNoM mar1
 rw [if_neg (by omega)]
 omega
theorem dayNo_feb (y : Int) : mar1 y - 29 ≤ ZbM y 2 1 ∧ ZbM y 2 1 ≤ mar1 y - 28 := by
 have h := mar1_succ (y - 1)
 rw [show y - 1 + 1 = y by omega] at h
 unfold ZbM dayNoM
 rw [if_pos (by omega), show Zbf.getD ((2 : Int) + 12 - 3).toNat 0 = 337 by decide]
 unfold mar1 at *
 omega
theorem lenM_28 (y m : Int) (h0 : 1 ≤ m) (h1 : m ≤ 12) : 28 ≤ lenM y m := by
 unfold lenM
 rw [if_neg (by omega)]
 split
 ·split <;> omega
 ·split <;> omega
def DrDay (d : DDay) : Prop := (d.kind = 2 ∧ 0 ≤ d.week ∧ d.week ≤ 6 ∧ d.day = 0) ∨ (d.kind = 3 ∧ 0 ≤ d.week ∧ d.week ≤ 6 ∧ 1 ≤ d.day ∧ d.day ≤ 22 ∧ d.day.tmod 7 = 1) ∨ (d.kind = 1 ∧ d.week = 0 ∧ 1 ≤ d.day ∧ d.day ≤ 28)
theorem DrDay.chk {d : DDay} (h : DrDay d) : Zc9 d = true := by
 obtain ⟨k, w, n⟩ := d
 simp only [DrDay] at h
 rcases h with ⟨rfl, h1, h2, rfl⟩ | ⟨rfl, h1, h2, h3, h4, _⟩ | ⟨rfl, rfl, h3, h4⟩
 ·simp [Zc9, dayK, weekK]; omega
 ·simp [Zc9, dayK, weekK]; omega
 ·simp [Zc9, dayK, weekK]; omega
theorem DrDay.le28 {d : DDay} (h : DrDay d) : d.day ≤ 28 := by
 unfold DrDay at h
 omega
theorem DrDay.on {d : DDay} (h : DrDay d) {y m : Int} (hy : inY y = true) (h0 : 1 ≤ m) (h1 : m ≤ 12) : (onD y m d).2 = 0 ∧ ZbM y m 1 ≤ (onD y m d).1 ∧ (onD y m d).1 ≤ ZbM y m 1 + 30 := by
 have hl := lenM_28 y m h0 h1
 have hl2 := lenM_bd y m
 have h28 := h.le28
 have hd : Zb0 y m 1 = true := by
  unfold Zb0
  rw [hy]
  simp
  omega
 unfold onD
 rw [if_neg (by rw [hd]; decide), if_neg (by rw [h.chk]; decide), if_neg (by omega)]
 refine ⟨rfl, ?_⟩
 dsimp only
 generalize ZbM y m 1 = D
 generalize lenM y m = L at *
 obtain ⟨k, w, n⟩ := d
 simp only [DrDay] at h
 unfold findD ZeE behindW
 dsimp only at h28 ⊢
 rcases h with ⟨rfl, h1, h2, rfl⟩ | ⟨rfl, h1, h2, h3, h4, _⟩ | ⟨rfl, rfl, h3, h4⟩
 ·rw [if_neg (by decide), if_pos rfl]; omega
 ·rw [if_neg (by decide), if_neg (by decide), if_pos rfl]; omega
 ·rw [if_pos rfl]; omega
structure DrRule (r : Zaa) : Prop where
 f0 : 1900 ≤ r.from_
 f1 : r.from_ ≤ 2149
 ft : r.from_ ≤ r.to
 t1 : r.to ≤ 2149 ∨ r.to = 1048576
 mon : (2 ≤ r.month ∧ r.month ≤ 4) ∨ r.month = 6 ∨ (8 ≤ r.month ∧ r.month ≤ 10)
 day : DrDay r.day
 clk : 0 ≤ r.at_.sec ∧ r.at_.sec ≤ 86400 ∧ 0 ≤ r.at_.base ∧ r.at_.base ≤ 2
 save : -3600 ≤ r.save ∧ r.save ≤ 7200
 letter : r.letter ∈ [ByteArray.empty, ⟨#[83]⟩, ⟨#[68]⟩, ⟨#[68, 84]⟩]
def sea (m : Int) : Int := if m ≤ 4 then 0 else if m ≤ 7 then 1 else 2
def loS (m : Int) : Int := if m ≤ 4 then -29 else if m ≤ 7 then 92 else 153
def hiS (m : Int) : Int := if m ≤ 4 then 62 else if m ≤ 7 then 123 else 245
theorem DrRule.mon12 {r : Zaa} (h : DrRule r) : 1 ≤ r.month ∧ r.month ≤ 12 := by have := h.mon; omega
theorem mon_bd {m : Int} (h : (2 ≤ m ∧ m ≤ 4) ∨ m = 6 ∨ (8 ≤ m ∧ m ≤ 10)) (y : Int) : mar1 y + loS m ≤ ZbM y m 1 ∧ ZbM y m 1 + 31 ≤ mar1 y + hiS m := by
 have hc : m = 2 ∨ m = 3 ∨ m = 4 ∨ m = 6 ∨ m = 8 ∨ m = 9 ∨ m = 10 := by omega
 have hf := dayNo_feb y
 rcases hc with rfl | rfl | rfl | rfl | rfl | rfl | rfl
 ·simp only [loS, hiS]
  omega
 all_goals
  rw [dayNo_mar _ _ _ (by decide)]
  simp only [loS, hiS, Zbf]
  simp
  omega
theorem DrRule.ev {r : Zaa} (h : DrRule r) {least i y : Int} {e : Zac} (hl : -3600 ≤ least ∧ least ≤ 0) (he : onR least r i y = some e) :
  e.year = y ∧ e.rule = i ∧ r.from_ ≤ y ∧ (r.to ≤ 2149 → y ≤ r.to) ∧ 86400 * (mar1 y + loS r.month) - 3600 ≤ e.nominal ∧ e.nominal ≤ 86400 * (mar1 y + hiS r.month) := by
 have hf0 := h.f0
 have hc := h.clk
 obtain ⟨m0, m1⟩ := h.mon12
 obtain ⟨b1, b2⟩ := mon_bd h.mon y
 unfold onR at he
 split at he
 ·cases he
 rename_i hy
 split at he
 ·cases he
 cases he
 have hyr : ¬ y < max r.from_ (-2000000000) := fun hh => hy (.inl hh)
 have hyl : ¬ lastY r < y := fun hh => hy (.inr (.inl hh))
 have hl2 : lastY r ≤ 2000000000 := by unfold lastY; split <;> omega
 have hyt : r.to ≤ 2149 → y ≤ r.to := fun hh => by
  have : lastY r = r.to := by unfold lastY; rw [if_neg (by omega)]; omega
  omega
 have hin : inY y = true := by
  unfold inY
  simp
  omega
 obtain ⟨_, o1, o2⟩ := h.day.on hin m0 m1
 refine ⟨rfl, rfl, by omega, hyt, ?_⟩
 dsimp only
 have hm : -3600 ≤ (if r.at_.base = 1 then max least (-10800) else 0) ∧ (if r.at_.base = 1 then max least (-10800) else 0) ≤ 0 := by split <;> omega
 generalize (if r.at_.base = 1 then max least (-10800) else 0) = mx at *
 generalize (onD y r.month r.day).1 = D at *
 omega
def Dist (a b : Zaa) : Prop := a.to < b.from_ ∨ sea a.month ≠ sea b.month
theorem sea_far {a b : Int} (ha : (2 ≤ a ∧ a ≤ 4) ∨ a = 6 ∨ (8 ≤ a ∧ a ≤ 10)) (hb : (2 ≤ b ∧ b ≤ 4) ∨ b = 6 ∨ (8 ≤ b ∧ b ≤ 10)) (h : sea a ≠ sea b) : hiS a + 30 ≤ loS b ∨ hiS b + 30 ≤ loS a := by
 unfold sea at h
 unfold hiS loS
 split at h <;> split at h <;> (try split at h) <;> (try split at h) <;> omega
theorem loS_bd (m : Int) : -29 ≤ loS m ∧ hiS m ≤ 245 := by
 unfold loS hiS
 split
 ·omega
 ·split <;> omega
theorem DrRule.far {a b : Zaa} (ha : DrRule a) (hb : DrRule b) {least i j y z : Int} {e f : Zac} (hl : -3600 ≤ least ∧ least ≤ 0) (he : onR least a i y = some e) (hf : onR least b j z = some f) (hd : y = z → Dist a b ∨ Dist b a) :
  259200 ≤ e.nominal - f.nominal ∨ 259200 ≤ f.nominal - e.nominal := by
 obtain ⟨_, _, a1, a2, a3, a4⟩ := ha.ev hl he
 obtain ⟨_, _, b1, b2, b3, b4⟩ := hb.ev hl hf
 have la := loS_bd a.month
 have lb := loS_bd b.month
 rcases Int.lt_trichotomy y z with h | h | h
 ·have := mar1_lt h
  omega
 ·subst h
  have hs : sea a.month ≠ sea b.month := by
   have af := ha.f1
   have bf := hb.f1
   rcases hd rfl with (h | h) | (h | h)
   ·have := a2 (by omega); omega
   ·exact h
   ·have := b2 (by omega); omega
   ·exact fun hh => h hh.symm
  have := sea_far ha.mon hb.mon hs
  omega
 ·have := mar1_lt h
  omega
end Go.Wk
namespace Go.Proofs.YtpcpmndldgejiaaGreatDoor
open Go Go.RowKit Go.Wk
def LeastE' (P : Zac → Prop) : Option Zac → Prop
 | none => ∀ e, ¬ P e
 | some e => P e ∧ ∀ e', P e' → ltE e' e = false
def NearP' (M : List Zac) (e : Zac) : Prop := ∃ x ∈ M, ltE x e = true ∧ e.nominal - x.nominal < 259200
theorem closeE_least' : ∀ (M : List Zac), DescE M → M.Nodup → LeastE' (fun e => e ∈ M ∧ NearP' M e) (closeE M)
 | [], _, _ => fun e he => by simp at he
 | [a], _, _ => fun e he => by
  obtain ⟨h1, x, h2, h3, _⟩ := he
  rw [List.mem_singleton] at h1 h2
  subst h1 h2
  rw [swoE.irrefl] at h3
  cases h3
 | a :: b :: l, hd, hn => by
  obtain ⟨d1, d2⟩ := List.pairwise_cons.1 hd
  obtain ⟨n1, n2⟩ := List.nodup_cons.1 hn
  obtain ⟨d3, _⟩ := List.pairwise_cons.1 d2
  have ih := closeE_least' (b :: l) d2 n2
  have hlt : ∀ x ∈ b :: l, ltE x a = true := fun x hx => by
   cases h : ltE x a
   ·have := totE a x (d1 x hx) h
    subst this
    exact absurd hx n1
   ·rfl
  have hrest : ∀ e ∈ b :: l, NearP' (a :: b :: l) e ↔ NearP' (b :: l) e := fun e he => by
   constructor
   ·rintro ⟨x, hx, h1, h2⟩
    rcases List.mem_cons.1 hx with rfl | hx
    ·rw [d1 e he] at h1; cases h1
    ·exact ⟨x, hx, h1, h2⟩
   ·rintro ⟨x, hx, h1, h2⟩
    exact ⟨x, List.mem_cons_of_mem _ hx, h1, h2⟩
  have ha : NearP' (a :: b :: l) a ↔ a.nominal - b.nominal < 259200 := by
   constructor
   ·rintro ⟨x, hx, h1, h2⟩
    rcases List.mem_cons.1 hx with rfl | hx
    ·rw [swoE.irrefl] at h1; cases h1
    ·have hxb : x.nominal ≤ b.nominal := by
      rcases List.mem_cons.1 hx with rfl | hx
      ·exact Int.le_refl _
      ·have h3 := d3 x hx
       simp only [ltE, ordE_lt, decide_eq_false_iff_not] at h3
       omega
     omega
   ·intro h
    exact ⟨b, List.mem_cons_of_mem _ List.mem_cons_self, hlt b List.mem_cons_self, h⟩
  rw [closeE]
  cases hc : closeE (b :: l) with
  | none =>
   rw [hc] at ih
   rw [Option.none_or]
   by_cases hab : a.nominal - b.nominal < 259200
   ·rw [if_pos hab]
    refine ⟨⟨List.mem_cons_self, ha.2 hab⟩, fun e he => ?_⟩
    rcases List.mem_cons.1 he.1 with rfl | h
    ·exact swoE.irrefl _
    ·exact absurd ⟨h, (hrest e h).1 he.2⟩ (ih e)
   ·rw [if_neg hab]
    intro e he
    rcases List.mem_cons.1 he.1 with rfl | h
    ·exact hab (ha.1 he.2)
    ·exact ih e ⟨h, (hrest e h).1 he.2⟩
  | some c =>
   rw [hc] at ih
   rw [Option.some_or]
   obtain ⟨⟨c1, c2⟩, c3⟩ := ih
   refine ⟨⟨List.mem_cons_of_mem _ c1, (hrest c c1).2 c2⟩, fun e he => ?_⟩
   rcases List.mem_cons.1 he.1 with rfl | h
   ·exact d1 c c1
   ·exact c3 e ⟨h, (hrest e h).1 he.2⟩
theorem ZdB (L y : Int) : ∀ (l : List Zaa) (i : Nat) (e : Zac), e ∈ ZdL L y l i ↔ ∃ (j : Nat) (r : Zaa), l[j]? = some r ∧ onR L r ((i + j : Nat) : Int) y = some e
 | [], i, e => by simp [ZdL]
 | r :: l, i, e => by
  rw [ZdL, List.mem_append, ZdB L y l (i + 1) e, Option.mem_toList]
  constructor
  ·rintro (h | ⟨j, r', h1, h2⟩)
   ·exact ⟨0, r, rfl, h⟩
   ·exact ⟨j + 1, r', by simpa using h1, by rw [show i + (j + 1) = i + 1 + j by omega]; exact h2⟩
  ·rintro ⟨j, r', h1, h2⟩
   cases j with
   | zero => simp only [List.getElem?_cons_zero, Option.some.injEq] at h1; subst h1; exact .inl h2
   | succ j => exact .inr ⟨j, r', by simpa using h1, by rw [show i + 1 + j = i + (j + 1) by omega]; exact h2⟩
theorem mem_allC' (l : List Zaa) (L f : Int) : ∀ (k : Nat) (e : Zac), e ∈ allC l L f k ↔ ∃ q : Nat, q < k ∧ e ∈ ZdL L (f + q) l 0
 | 0, e => by simp [allC]
 | k + 1, e => by
  rw [allC, List.mem_append, mem_allC' l L f k e]
  constructor
  ·rintro (⟨q, h1, h2⟩ | h)
   ·exact ⟨q, by omega, h2⟩
   ·exact ⟨k, by omega, h⟩
  ·rintro ⟨q, h1, h2⟩
   by_cases hq : q = k
   ·subst hq; exact .inr h2
   ·exact .inl ⟨q, by omega, h2⟩
theorem yearC_nodup' (L y : Int) : ∀ (l : List Zaa) (i : Nat), (ZdL L y l i).Nodup
 | [], _ => List.nodup_nil
 | r :: l, i => by
  rw [ZdL]
  refine List.nodup_append.2 ⟨?_, yearC_nodup' L y l (i + 1), ?_⟩
  ·cases onR L r i y <;> simp
  ·intro a ha b hb hab
   subst hab
   obtain ⟨j, r', _, h2⟩ := (ZdB L y l (i + 1) a).1 hb
   have e1 := (onR_some (Option.mem_toList.1 ha)).2.1
   have e2 := (onR_some h2).2.1
   omega
theorem allC_nodup' (l : List Zaa) (L f : Int) : ∀ k, (allC l L f k).Nodup
 | 0 => List.nodup_nil
 | k + 1 => by
  rw [allC]
  refine List.nodup_append.2 ⟨allC_nodup' l L f k, yearC_nodup' _ _ _ _, ?_⟩
  intro a ha b hb hab
  subst hab
  obtain ⟨q, h1, h2⟩ := (mem_allC' l L f k a).1 ha
  obtain ⟨j, r, _, h3⟩ := (ZdB _ _ _ _ _).1 h2
  obtain ⟨j', r', _, h4⟩ := (ZdB _ _ _ _ _).1 hb
  have e1 := (onR_some h3).1
  have e2 := (onR_some h4).1
  omega
theorem evIn_sound' (least nominal : Int) (r : Zaa) (i : Int) : ∀ (k : Nat) (y : Int) (e : Zac), evIn least nominal r i y k = some e → ∃ q : Nat, onR least r i (y + q) = some e ∧ nominal < e.nominal
 | 0, _, _, h => by cases h
 | k + 1, y, e, h => by
  rw [evIn] at h
  have ih := evIn_sound' least nominal r i k (y + 1) e
  have lift : (∃ q : Nat, onR least r i (y + 1 + q) = some e ∧ nominal < e.nominal) → ∃ q : Nat, onR least r i (y + q) = some e ∧ nominal < e.nominal := by
   rintro ⟨q, hq⟩
   exact ⟨q + 1, by rw [show y + ((q + 1 : Nat) : Int) = y + 1 + q by omega]; exact hq⟩
  cases he : onR least r i y with
  | none => rw [he] at h; exact lift (ih h)
  | some e' =>
   rw [he] at h
   dsimp only at h
   by_cases hc : nominal < e'.nominal
   ·rw [if_pos hc] at h
    cases h
    exact ⟨0, by simpa using he, hc⟩
   ·rw [if_neg hc] at h
    exact lift (ih h)
theorem afterGo_sound' (least nominal yr : Int) : ∀ (l : List Zaa) (i : Nat) (b : Option Zac) (e : Zac), ZcF least nominal yr l i b = some e → b = some e ∨ ∃ (j : Nat) (r : Zaa), l[j]? = some r ∧ evIn least nominal r ((i + j : Nat) : Int) (max (max r.from_ (-2000000000)) (yr - 2)) 20 = some e
 | [], _, _, _, h => .inl h
 | r :: l, i, b, e, h => by
  rw [ZcF] at h
  rcases afterGo_sound' least nominal yr l (i + 1) _ e h with h1 | ⟨j, r', h1, h2⟩
  ·cases he : evIn least nominal r i (max (max r.from_ (-2000000000)) (yr - 2)) 20 with
   | none => rw [he] at h1; exact .inl h1
   | some e' =>
    rw [he] at h1
    have hr : ∀ x, e' = x → ∃ (j : Nat) (r' : Zaa), (r :: l)[j]? = some r' ∧ evIn least nominal r' ((i + j : Nat) : Int) (max (max r'.from_ (-2000000000)) (yr - 2)) 20 = some x := fun x hx => ⟨0, r, rfl, by rw [← hx]; exact he⟩
    cases b with
    | none => cases h1; exact .inr (hr _ rfl)
    | some b =>
     dsimp only at h1
     split at h1
     ·cases h1; exact .inr (hr _ rfl)
     ·exact .inl h1
  ·exact .inr ⟨j + 1, r', by simpa using h1, by rw [show i + (j + 1) = i + 1 + j by omega]; exact h2⟩
end Go.Proofs.YtpcpmndldgejiaaGreatDoor
