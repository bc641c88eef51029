/- Parts of the proof. -/
import Derived.Test.YtdlmhmmhdbbliaaGreatDoorW15
import Derived.Test.YtdlmhmmhdbbliaaGreatDoorW05
import Derived.Shelf.SlSortCmp.NoneTotal
import Derived.Shelf.Lay
import Derived.Sort.Grow
import Derived.Deep.Draws
import Derived.Deep.RegionHeld3
import Derived.Test.YtdlmhmmhdbbliaaGreatDoorW14
import Derived.Test.YtdlmhmmhdbbliaaGreatDoorW08
set_option maxHeartbeats 4000000
set_option linter.unusedVariables false
set_option linter.unusedSimpArgs false
namespace Go.Proofs.YtdlmhmmhdbbliaaGreatDoor
open Go Go.RowKit Go.Wk Go.Lib
attribute [local irreducible] W RL Does Zau Zaj retQ Calls Pu Stp RD Qy Ay Zak RW
theorem LibW.up {w w' : World} (h : LibW w) (hb : Bel w.heap.size w w') : LibW w' where
 mxl := by
  obtain ⟨m, hm⟩ := h.mxl
  exact ⟨m, (hb.cell (World.block_lt_of_cell? w _ hm)).trans hm⟩
 syn := by
  obtain ⟨ev, h1, h2⟩ := h.syn
  exact ⟨ev, (hb.cell (World.block_lt_of_cell? w _ h1)).trans h1, h2⟩
theorem ZkG (s : ByteArray) (w : World) (hL : LibW w) (hs : s.size <= 1000000000000) : Does Tryz.prog 154 [.string s] w (fun v O => v = .bool (ZbF s.data.toList).isSome /\ O = []) := by
 have hp := fun w' (hw : Bel w.heap.size w w') => Zqn s w' (fun w2 hw2 => (hL.up hw).up hw2) hs
 refine Zab Tryz.func154 rfl rfl rfl rfl ?_
 generalize ZbF s.data.toList = o at *
 cases o with
 | none =>
  simp only [prV] at hp
  repeat (first | (refine js ?_; (refine Zac hp ?_)) | refine walk ?_)
  exact rtA
 | some x =>
  simp only [prV] at hp
  repeat (first | (refine js ?_; (refine Zac hp ?_)) | refine walk ?_)
  exact rtA
theorem ZkQ (f p : List UInt8) : (cutV f p).1.length + (cutV f p).2.1.length <= f.length := by
 unfold cutV
 split
 ·rename_i a b h
  have := Zmz h
  simp only [List.length_nil] at this
  dsimp only
  omega
 ·simp
def arV (l : List UInt8) : Value := .tuple #[.string ⟨(cutV l [37, 115]).1.toArray⟩, .string ⟨(cutV l [37, 115]).2.1.toArray⟩, .bool (ZbX l).isSome]
theorem ZyT (l : List UInt8) : (ZbX l).isSome = ((cutV l [37, 115]).2.2 && (ZcW ((cutV l [37, 115]).1 ++ (cutV l [37, 115]).2.1) && decide (((cutV l [37, 115]).1 ++ (cutV l [37, 115]).2.1).length <= 5))) := by
 unfold ZbX cutV
 cases Zdj [37, 115] l [] with
 | none => rfl
 | some ab =>
  obtain ⟨a, b⟩ := ab
  dsimp only
  by_cases h1 : ZcW (a ++ b) = true
  ·by_cases h2 : (a ++ b).length <= 5
   ·rw [if_pos ⟨h1, h2⟩, h1, decide_eq_true h2]; rfl
   ·rw [if_neg (fun h => h2 h.2), decide_eq_false h2, Bool.and_false, Bool.and_false]; rfl
  ·rw [if_neg (fun h => h1 h.1), show ZcW (a ++ b) = false from by simpa using h1, Bool.false_and, Bool.and_false]; rfl
theorem Zye {G : Prop} (h : G := by (first | (apply ZfJ; rfl; rfl; exact hss) | (apply Zbg; rfl; rfl; exact hil) | (apply ZcA; rfl; rfl; exact h5))) : G := h
theorem Zna {G G' : Prop} (k : G') (h : Hold G' -> G := by intro k9; (first | (apply RL_pu; rfl; exact Zye) | (refine js ?_; (first | (refine Zac hc ?_) | (refine Zac (fun w' hw => hix w') ?_))) | refine walk1 ?_); exact k9.out) : G := h ⟨k⟩
theorem ZiK (f : ByteArray) (w : World) (hL : LibW w) (hs : f.size <= 1000000000) : Does Tryz.prog 103 [.string f] w (fun v O => v = arV f.data.toList /\ O = []) := by
 have hc := fun w' (hw : Bel w.heap.size w w') => ZkP f ⟨#[37, 115]⟩ w' (hL.up hw) (by omega)
 rw [show (⟨#[37, 115]⟩ : ByteArray).data.toList = [37, 115] from rfl] at hc
 have hl := ZkQ f.data.toList [37, 115]
 have hfs : f.data.toList.length = f.size := by simp
 rw [hfs] at hl
 unfold arV
 rw [ZyT]
 obtain ⟨ab, hab⟩ : ∃ ab, cutV f.data.toList [37, 115] = ab := ⟨_, rfl⟩
 rw [hab] at hc hl ⊢
 obtain ⟨a, b, ok⟩ := ab
 dsimp only at hc hl ⊢
 have hix := fun w' => Zvl (⟨a.toArray⟩ ++ ⟨b.toArray⟩) w'
 have hd : ((⟨a.toArray⟩ : ByteArray) ++ ⟨b.toArray⟩).data.toList = a ++ b := by simp
 have hs1 : (⟨a.toArray⟩ : ByteArray).size = a.length := by show a.toArray.size = a.length; simp
 have hs2 : (⟨b.toArray⟩ : ByteArray).size = b.length := by show b.toArray.size = b.length; simp
 have hsz : ((⟨a.toArray⟩ : ByteArray) ++ ⟨b.toArray⟩).size = (a ++ b).length := by rw [ByteArray.size_append, hs1, hs2, List.length_append]
 have h1 := ZsH ((⟨a.toArray⟩ : ByteArray) ++ ⟨b.toArray⟩) ((⟨a.toArray⟩ : ByteArray) ++ ⟨b.toArray⟩).size 0 (by omega)
 rw [List.drop_zero, hd] at h1
 have hil : decide (idxFunc (fun r => Zds (r : Int)) true ((⟨a.toArray⟩ : ByteArray) ++ ⟨b.toArray⟩) < 0) = ZcW (a ++ b) := by
  rw [Bool.eq_iff_iff, decide_eq_true_eq]
  exact h1
 have h5 : decide (((((⟨a.toArray⟩ : ByteArray) ++ ⟨b.toArray⟩).size : Nat) : Int) <= 5) = decide ((a ++ b).length <= 5) := by
  rw [decide_eq_decide]
  omega
 have hss : (⟨a.toArray⟩ : ByteArray).size + (⟨b.toArray⟩ : ByteArray).size <= 9223372036854775807 := by omega
 clear h1
 generalize idxFunc (fun r => Zds (r : Int)) true ((⟨a.toArray⟩ : ByteArray) ++ ⟨b.toArray⟩) = i at *
 generalize ZcW (a ++ b) = lt at *
 generalize decide ((a ++ b).length <= 5) = l5 at *
 refine Zab Tryz.func103 rfl rfl rfl rfl ?_
 cases ok with
 | false =>
  repeat refine Zna ?_
  exact Zhm _ _ _ [] (.tmp rfl) (.tmp rfl) (.tmp rfl) .nil ⟨rfl, rfl⟩
 | true =>
  cases lt with
  | false =>
   repeat refine Zna ?_
   exact Zhm _ _ _ [] (.tmp rfl) (.tmp rfl) (.tmp rfl) .nil ⟨rfl, rfl⟩
  | true =>
   repeat refine Zna ?_
   exact Zhm _ _ _ [] (.tmp rfl) (.tmp rfl) (.tmp rfl) .nil ⟨rfl, rfl⟩
def Zl7 (ab0 ok ab1 ab2 ar q4 i0 i1 i2 : Bool) : Int := if ab0 then 1 else if ok && (ab1 && ab2) then 2 else if ar then 3 else if q4 then 4 else if i0 || (ok && (i1 && i2)) then 5 else 0
theorem Zpb (l : List UInt8) : ZbH l = Zl7 (ZcH l) (cutV l [47]).2.2 (ZcH (cutV l [47]).1) (ZcH (cutV l [47]).2.1) (ZbX l).isSome (decide (l = [37, 122])) (ZbF l).isSome (ZbF (cutV l [47]).1).isSome (ZbF (cutV l [47]).2.1).isSome := by
 unfold ZbH Zl7 cutV
 cases Zdj [47] l [] with
 | none => simp
 | some ab => simp
theorem Zia (f : ByteArray) (w : World) (hL : LibW w) (hs : f.size <= 1000000000) : Does Tryz.prog 102 [.string f] w (fun v O => v = .int .i64 (ZbH f.data.toList) /\ O = []) := by
 have hc := fun w' (hw : Bel w.heap.size w w') => ZkP f ⟨#[47]⟩ w' (hL.up hw) (by omega)
 rw [show (⟨#[47]⟩ : ByteArray).data.toList = [47] from rfl] at hc
 have hl := ZkQ f.data.toList [47]
 have hfs : f.data.toList.length = f.size := by simp
 rw [hfs] at hl
 have har := fun w' (hw : Bel w.heap.size w w') => ZiK f w' (hL.up hw) hs
 unfold arV at har
 rw [Zpb]
 have hq : decide (f = ⟨#[37, 122]⟩) = decide (f.data.toList = [37, 122]) := by
  rw [decide_eq_decide]
  exact ⟨fun h => by rw [h], fun h => by
   apply ByteArray.ext
   rw [<- Array.toArray_toList (xs := f.data), h]⟩
 obtain ⟨ab, hab⟩ : ∃ ab, cutV f.data.toList [47] = ab := ⟨_, rfl⟩
 rw [hab] at hc hl ⊢
 obtain ⟨a, b, ok⟩ := ab
 dsimp only at hc hl ⊢
 have hs1 : (⟨a.toArray⟩ : ByteArray).size = a.length := by show a.toArray.size = a.length; simp
 have hs2 : (⟨b.toArray⟩ : ByteArray).size = b.length := by show b.toArray.size = b.length; simp
 have a0 := fun w' => Zgh f (by omega) w'
 have a1 := fun w' => Zgh ⟨a.toArray⟩ (by omega) w'
 have a2 := fun w' => Zgh ⟨b.toArray⟩ (by omega) w'
 have i0 := fun w' (hw : Bel w.heap.size w w') => ZkG f w' (hL.up hw) (by omega)
 have i1 := fun w' (hw : Bel w.heap.size w w') => ZkG ⟨a.toArray⟩ w' (hL.up hw) (by omega)
 have i2 := fun w' (hw : Bel w.heap.size w w') => ZkG ⟨b.toArray⟩ w' (hL.up hw) (by omega)
 rw [show Zq9 f = ZcH f.data.toList from rfl] at a0
 rw [show Zq9 ⟨a.toArray⟩ = ZcH a from rfl] at a1
 rw [show Zq9 ⟨b.toArray⟩ = ZcH b from rfl] at a2
 rw [show (⟨a.toArray⟩ : ByteArray).data.toList = a from rfl] at i1
 rw [show (⟨b.toArray⟩ : ByteArray).data.toList = b from rfl] at i2
 generalize ZcH f.data.toList = A0 at *
 generalize ZcH a = A1 at *
 generalize ZcH b = A2 at *
 generalize (ZbF f.data.toList).isSome = I0 at *
 generalize (ZbF a).isSome = I1 at *
 generalize (ZbF b).isSome = I2 at *
 generalize (ZbX f.data.toList).isSome = ar at *
 generalize decide (f.data.toList = [37, 122]) = q4 at *
 refine Zab Tryz.func102 rfl rfl rfl rfl ?_
 repeat' (first | (apply RL_pu; rfl; (apply ZhB; rfl; rfl; exact hq)) | (refine js ?_; (first | (refine Zac hc ?_) | (refine Zac har ?_) | (refine Zac (fun w' hw => a0 w') ?_) | (refine Zac (fun w' hw => a1 w') ?_) | (refine Zac (fun w' hw => a2 w') ?_) | (refine Zac i0 ?_) | (refine Zac i1 ?_) | (refine Zac i2 ?_))) | refine walk1 ?_ | refine und ?_ | (refine Zas rfl rfl rfl (fun hc => ?_) (fun hc => ?_)) | (refine Zar rfl rfl rfl (fun hc => ?_) (fun hc => ?_)) | (refine Zaf rfl (fun hc => ?_) (fun hc => ?_)))
 all_goals first | (refine ret_1 _ [] (.tmp rfl) .nil ⟨?_, rfl⟩; first | rfl | (simp only [*, Bool.true_and, Bool.false_and, Bool.true_or, Bool.false_or, Bool.not_true, Bool.not_false]; done) | (simp_all [Zl7]; done) | (simp_all [Zl7]; omega) | (simp_all [Zl7]; rw [Bool.eq_iff_iff]; simp; omega)) | (exfalso; simp_all [Zl7]; done) | (exfalso; simp_all [Zl7]; omega) | (exfalso; omega)
end Go.Proofs.YtdlmhmmhdbbliaaGreatDoor
namespace Go.Wk
open Go Go.RowKit
end Go.Wk
namespace Go.Proofs.YtdlmhmmhdbbliaaGreatDoor
open Go Go.RowKit Go.Wk Go.Lib
attribute [local irreducible] W RL Does Zau Zaj retQ Calls Pu Stp RD Qy Ay Zak RW
def ptsV : Option (List UInt8 × List UInt8) -> Value
 | none => .tuple #[.string ByteArray.empty, .string ByteArray.empty, .bool false]
 | some (a, b) => .tuple #[.string ⟨a.toArray⟩, .string ⟨b.toArray⟩, .bool true]
theorem Zr3 (l : List UInt8) : Zcn l = if (cutV l [47]).2.2 = true /\ (ZbH l = 2 \/ ZbH l = 5) then some ((cutV l [47]).1, (cutV l [47]).2.1) else none := by
 unfold Zcn cutV
 cases Zdj [47] l [] with
 | none => simp
 | some ab => simp
theorem Zvh (l : List UInt8) (h : ZbH l = 3) : ZbX l = some ((cutV l [37, 115]).1, (cutV l [37, 115]).2.1) := by
 have hs : (ZbX l).isSome = true := by
  rw [Zpb] at h
  unfold Zl7 at h
  cases hx : (ZbX l).isSome with
  | true => rfl
  | false =>
   rw [hx] at h
   exfalso
   revert h
   repeat' split
   all_goals first | decide | (intro h; omega) | simp_all
 unfold ZbX cutV at *
 cases hc : Zdj [37, 115] l [] with
 | none => rw [hc] at hs; cases hs
 | some ab =>
  rw [hc] at hs
  dsimp only at hs ⊢
  split at hs
  ·rename_i h1; rw [if_pos h1]
  ·cases hs
theorem Zul {G : Prop} (h : G := by (first | (apply Zk9; rfl; rfl; exact hw) | (apply ZaM; rfl; rfl; exact b1) | (apply ZaM; rfl; rfl; exact b2) | (apply ZaD; rfl; rfl; exact b3))) : G := h
theorem Zuk {G : Prop} (h : G := by (first | (apply Zk9; rfl; rfl; exact hw) | (apply ZaM; rfl; rfl; exact b1) | (apply ZaM; rfl; rfl; exact b2))) : G := h
theorem ZiO (a b : Int) (ha : I64 a) (hb : I64 b) (w : World) : Does Tryz.prog 106 [.int .i64 a, .int .i64 b] w (fun v O => v = .tuple #[.int .i64 (if Zc7 (a + b) then a + b else 0), .bool (Zc7 (a + b))] /\ O = []) := by
 unfold I64 at ha hb
 have hw : IntKind.i64.wrap (a + b) = if a + b < -9223372036854775808 then a + b + 18446744073709551616 else if 9223372036854775807 < a + b then a + b - 18446744073709551616 else a + b := by
  rw [IntKind.wrap_i64]
  repeat' split
  all_goals omega
 refine Zab Tryz.func106 rfl rfl rfl rfl ?_
 by_cases hlo : a + b < -9223372036854775808
 ·rw [if_pos hlo] at hw
  have hok : Zc7 (a + b) = false := by unfold Zc7; rw [decide_eq_false (by omega)]; rfl
  have b1 : decide (a < a + b + 18446744073709551616) = true := decide_eq_true (by omega)
  have b2 : decide (0 < b) = false := decide_eq_false (by omega)
  have b3 : (!decide (b = 0)) = true := by rw [decide_eq_false (by omega)]; rfl
  rw [hok]
  repeat (first | (apply RL_pu; rfl; exact Zul) | refine walk1 ?_)
  exact rtB
 rw [if_neg hlo] at hw
 by_cases hhi : 9223372036854775807 < a + b
 ·rw [if_pos hhi] at hw
  have hok : Zc7 (a + b) = false := by unfold Zc7; rw [decide_eq_false (show ¬ a + b <= 9223372036854775807 by omega), Bool.and_false]
  have b1 : decide (a < a + b - 18446744073709551616) = false := decide_eq_false (by omega)
  have b2 : decide (0 < b) = true := decide_eq_true (by omega)
  have b3 : (!decide (b = 0)) = true := by rw [decide_eq_false (by omega)]; rfl
  rw [hok]
  repeat (first | (apply RL_pu; rfl; exact Zul) | refine walk1 ?_)
  exact rtB
 rw [if_neg hhi] at hw
 have hok : Zc7 (a + b) = true := by unfold Zc7; rw [decide_eq_true (by omega), decide_eq_true (by omega)]; rfl
 rw [hok, if_pos rfl]
 by_cases hp : 0 < b
 ·have b1 : decide (a < a + b) = true := decide_eq_true (by omega)
  have b2 : decide (0 < b) = true := decide_eq_true hp
  repeat (first | (apply RL_pu; rfl; exact Zuk) | refine walk1 ?_)
  exact rtB
 ·have b1 : decide (a < a + b) = false := decide_eq_false (by omega)
  have b2 : decide (0 < b) = false := decide_eq_false hp
  repeat (first | (apply RL_pu; rfl; exact Zuk) | refine walk1 ?_)
  exact rtB
theorem Zuj {G : Prop} (h : G := by (apply ZaD; rfl; rfl; exact b2)) : G := h
theorem Zql (f : ByteArray) (w : World) (hL : LibW w) (hs : f.size <= 1000000000) : Does Tryz.prog 101 [.string f] w (fun v O => v = ptsV (Zcn f.data.toList) /\ O = []) := by
 have hc := fun w' (hw : Bel w.heap.size w w') => ZkP f ⟨#[47]⟩ w' (hL.up hw) (by omega)
 rw [show (⟨#[47]⟩ : ByteArray).data.toList = [47] from rfl] at hc
 have hk := fun w' (hw : Bel w.heap.size w w') => Zia f w' (hL.up hw) hs
 rw [Zr3]
 generalize ZbH f.data.toList = K at *
 generalize cutV f.data.toList [47] = ab at *
 obtain ⟨a, b, ok⟩ := ab
 dsimp only at hc ⊢
 refine Zab Tryz.func101 rfl rfl rfl rfl ?_
 cases ok with
 | false =>
  rw [if_neg (by rintro ⟨h, _⟩; cases h)]
  repeat (first | refine und ?_ | (refine js ?_; (first | (refine Zac hc ?_) | (refine Zac hk ?_))) | refine walk ?_)
  exact Zhm _ _ _ [] (.tmp rfl) (.tmp rfl) (.tmp rfl) .nil ⟨rfl, rfl⟩
 | true =>
  by_cases h2 : K = 2
  ·subst h2
   rw [if_pos ⟨rfl, .inl rfl⟩]
   repeat (first | (refine js ?_; (first | (refine Zac hc ?_) | (refine Zac hk ?_))) | refine walk ?_)
   exact Zhm _ _ _ [] (.tmp rfl) (.tmp rfl) (.tmp rfl) .nil ⟨rfl, rfl⟩
  ·have b2 : (!decide (K = 2)) = true := by rw [decide_eq_false h2]; rfl
   by_cases h5 : K = 5
   ·subst h5
    rw [if_pos ⟨rfl, .inr rfl⟩]
    repeat (first | (apply RL_pu; rfl; exact Zuj) | (refine js ?_; (first | (refine Zac hc ?_) | (refine Zac hk ?_))) | refine walk1 ?_)
    exact Zhm _ _ _ [] (.tmp rfl) (.tmp rfl) (.tmp rfl) .nil ⟨rfl, rfl⟩
   ·have b5 : (!decide (K = 5)) = true := by rw [decide_eq_false h5]; rfl
    rw [if_neg (by rintro ⟨_, h | h⟩; exact h2 h; exact h5 h)]
    repeat (first | (apply RL_pu; rfl; (first | exact Zuj | (apply ZaD; rfl; rfl; exact b5))) | (refine js ?_; (first | (refine Zac hc ?_) | (refine Zac hk ?_))) | refine walk1 ?_)
    exact Zhm _ _ _ [] (.tmp rfl) (.tmp rfl) (.tmp rfl) .nil ⟨rfl, rfl⟩
theorem Zj2 (s : ByteArray) : (⟨s.data.toList.toArray⟩ : ByteArray) = s := by
 apply ByteArray.ext
 simp
theorem Zui {G : Prop} (h : G := by (apply ZaC; rfl; rfl; exact hb0)) : G := h
theorem Zi4 {G : Prop} (h : G := by (first | (apply ZfJ; rfl; rfl; exact q1) | (apply ZfJ; rfl; rfl; exact q2))) : G := h
theorem Zoh {G : Prop} (h : G := by first | (apply Qy_y; rfl; exact Zi4) | exact QyA) : G := h
theorem Zk4 {G : Prop} (h : G := by repeat (first | exact QF.nil | (apply QF.mk; rfl; rfl; decide +kernel; exact Zoh))) : G := h
theorem Zle {G : Prop} (h : G := by (apply Ze7; rfl; rfl; exact hb)) : G := h
theorem Zuh {G : Prop} (h : G := by (first | (apply ZaC; rfl; rfl; exact hb3) | (apply ZaC; rfl; rfl; exact hb4) | (apply ZaC; rfl; rfl; exact hb1) | (apply ZaC; rfl; rfl; exact hb5))) : G := h
theorem ZeU (f letter : ByteArray) (off save : Int) (w : World) (hL : LibW w) (hs : f.size <= 1000000000) (hl : letter.size <= 1000000000) (ho : I64 off) (hv : I64 save) :
  Does Tryz.prog 67 [.string f, .int .i64 off, .agg #[.int .i64 save, .string letter]] w (fun v O => v = xpV (ZbI f.data.toList off save letter.data.toList) /\ O = []) := by
 have hp := fun w' (hw : Bel w.heap.size w w') => Zql f w' (hL.up hw) hs
 have hk := fun w' (hw : Bel w.heap.size w w') => Zia f w' (hL.up hw) hs
 have har := fun w' (hw : Bel w.heap.size w w') => ZiK f w' (hL.up hw) hs
 have hsm := fun w' => ZiO off save ho hv w'
 have h3 := Zvh f.data.toList
 have hcl := ZkQ f.data.toList [37, 115]
 have hfs : f.data.toList.length = f.size := by simp
 rw [hfs] at hcl
 have hfb := Zj2 f
 unfold arV at har
 unfold ZbI
 refine Zab Tryz.func67 rfl rfl rfl rfl ?_
 cases hP : Zcn f.data.toList with
 | some ab =>
  obtain ⟨a, b⟩ := ab
  rw [hP] at hp
  simp only [ptsV] at hp
  dsimp only
  by_cases h0 : save = 0
  ·subst h0
   rw [if_pos rfl]
   repeat (first | refine walk ?_ | (refine jg ?_; (try intro F); (first | (refine Zac hp ?_) | (refine bx ?_; intro bk)); refine fin ?_) | (refine jn ?_; (try intro F); (first | (refine bx ?_; intro bk) | (apply Zae; exact PuA)); refine fin ?_))
   exact rtB
  ·rw [if_neg h0]
   have hb0 : decide (save = 0) = false := decide_eq_false h0
   repeat (first | (apply RL_pu; rfl; exact Zui) | (apply RD_Q; rfl; rfl; decide +kernel; rfl; rfl; exact QyFmtC4) | refine walk1 ?_ | (refine jg ?_; (try intro F); (first | (refine Zac hp ?_) | (refine bx ?_; intro bk)); first | refine ⟨_, EndsA, QFFmtC4, ?_⟩ | refine fin ?_) | (refine jn ?_; (try intro F); (first | (refine bx ?_; intro bk) | (apply Zae; first | exact Zui | exact PuA)); first | refine ⟨_, EndsA, QFFmtC4, ?_⟩ | refine fin ?_))
   exact rtB
 | none =>
 rw [hP] at hp
 simp only [ptsV] at hp
 dsimp only
 generalize ZbH f.data.toList = K at *
 by_cases hK3 : K = 3
 ·subst hK3
  rw [if_pos rfl, h3 rfl]
  dsimp only
  generalize (cutV f.data.toList [37, 115]).1 = a at *
  generalize (cutV f.data.toList [37, 115]).2.1 = b at *
  have hs1 : (⟨a.toArray⟩ : ByteArray).size = a.length := by show a.toArray.size = a.length; simp
  have hs2 : (⟨b.toArray⟩ : ByteArray).size = b.length := by show b.toArray.size = b.length; simp
  have q1 : (⟨a.toArray⟩ : ByteArray).size + letter.size <= 9223372036854775807 := by omega
  have q2 : ((⟨a.toArray⟩ : ByteArray) ++ letter).size + (⟨b.toArray⟩ : ByteArray).size <= 9223372036854775807 := by rw [ByteArray.size_append]; omega
  have q3 : (((⟨a.toArray⟩ : ByteArray) ++ letter ++ ⟨b.toArray⟩).size : Int) <= 9223372036854775807 := by rw [ByteArray.size_append, ByteArray.size_append]; omega
  have hx : ((⟨a.toArray⟩ : ByteArray) ++ letter ++ ⟨b.toArray⟩).data.toList = a ++ letter.data.toList ++ b := by simp
  have hXb := Zj2 ((⟨a.toArray⟩ : ByteArray) ++ letter ++ ⟨b.toArray⟩)
  have hab := fun w' => Zgh ((⟨a.toArray⟩ : ByteArray) ++ letter ++ ⟨b.toArray⟩) q3 w'
  rw [show Zq9 ((⟨a.toArray⟩ : ByteArray) ++ letter ++ ⟨b.toArray⟩) = ZcH (a ++ letter.data.toList ++ b) from by unfold Zq9 ZcH; rw [hx]] at hab
  rw [hx] at hXb
  have hri := fun w' => ZgA ((⟨a.toArray⟩ : ByteArray) ++ letter ++ ⟨b.toArray⟩) (ZcH (a ++ letter.data.toList ++ b)) w'
  cases hok : ZcH (a ++ letter.data.toList ++ b) with
  | false =>
   rw [hok] at hab hri
   rw [if_neg (by decide)]
   repeat (first | (apply RL_pu; rfl; exact Zi4) | (apply RD_Q; rfl; rfl; decide +kernel; rfl; rfl; exact Zoh) | refine walk1 ?_ | (refine jg ?_; (try intro F); (first | (refine Zac hp ?_) | (refine Zac hk ?_) | (refine Zac har ?_) | (refine Zac (fun w' hw => hab w') ?_) | (refine Zac (fun w' hw => hri w') ?_) | (refine bx ?_; intro bk)); first | refine ⟨_, EndsA, Zk4, ?_⟩ | refine fin ?_) | (refine jn ?_; (try intro F); (first | (refine bx ?_; intro bk) | (apply Zae; first | exact Zi4 | exact PuA)); first | refine ⟨_, EndsA, Zk4, ?_⟩ | refine fin ?_))
   exact rtB
  | true =>
   rw [hok] at hab hri
   rw [if_pos rfl]
   unfold xpV
   dsimp only
   rw [hXb]
   repeat (first | (apply RL_pu; rfl; exact Zi4) | (apply RD_Q; rfl; rfl; decide +kernel; rfl; rfl; exact Zoh) | refine walk1 ?_ | (refine jg ?_; (try intro F); (first | (refine Zac hp ?_) | (refine Zac hk ?_) | (refine Zac har ?_) | (refine Zac (fun w' hw => hab w') ?_) | (refine Zac (fun w' hw => hri w') ?_) | (refine bx ?_; intro bk)); first | refine ⟨_, EndsA, Zk4, ?_⟩ | refine fin ?_) | (refine jn ?_; (try intro F); (first | (refine bx ?_; intro bk) | (apply Zae; first | exact Zi4 | exact PuA)); first | refine ⟨_, EndsA, Zk4, ?_⟩ | refine fin ?_))
   exact rtB
 have hb3 : decide (K = 3) = false := decide_eq_false hK3
 rw [if_neg hK3]
 by_cases hK4 : K = 4
 ·subst hK4
  rw [if_pos rfl]
  cases hok : Zc7 (off + save) with
  | false =>
   rw [hok] at hsm
   rw [if_neg (by rintro ⟨h, _⟩; cases h)]
   have htx := fun w' => Zei 0 w'
   have hr2 := fun w' => ZgA ⟨(ZbJ 0).toArray⟩ false w'
   rw [if_neg (by decide)] at hsm
   repeat (first | refine walk ?_ | (refine jg ?_; (try intro F); (first | (refine Zac hp ?_) | (refine Zac hk ?_) | (refine Zac (fun w' hw => hsm w') ?_) | (refine Zac (fun w' hw => htx w') ?_) | (refine Zac (fun w' hw => hr2 w') ?_) | (refine bx ?_; intro bk)); refine fin ?_) | (refine jn ?_; (try intro F); (first | (refine bx ?_; intro bk) | (apply Zae; exact PuA)); refine fin ?_))
   exact rtB
  | true =>
   rw [hok, if_pos rfl] at hsm
   have htx := fun w' => Zei (off + save) w'
   have hri := fun ok w' => ZgA ⟨(ZbJ (off + save)).toArray⟩ ok w'
   by_cases he : ZbJ (off + save) = []
   ·rw [if_neg (by rintro ⟨_, h⟩; exact h he)]
    have hr2 := hri false
    have hb : (!decide ((⟨(ZbJ (off + save)).toArray⟩ : ByteArray) = ByteArray.empty)) = false := by rw [he]; decide
    repeat (first | (apply RL_pu; rfl; exact Zle) | (apply RD_Q; rfl; rfl; decide +kernel; rfl; rfl; exact QyFmtC6) | refine walk1 ?_ | (refine jg ?_; (try intro F); (first | (refine Zac hp ?_) | (refine Zac hk ?_) | (refine Zac (fun w' hw => hsm w') ?_) | (refine Zac (fun w' hw => htx w') ?_) | (refine Zac (fun w' hw => hr2 w') ?_) | (refine bx ?_; intro bk)); first | refine ⟨_, EndsA, QFFmtC6, ?_⟩ | refine fin ?_) | (refine jn ?_; (try intro F); (first | (refine bx ?_; intro bk) | (apply Zae; first | exact Zle | exact PuA)); first | refine ⟨_, EndsA, QFFmtC6, ?_⟩ | refine fin ?_))
    exact rtB
   ·rw [if_pos ⟨rfl, he⟩]
    have hr2 := hri true
    have hb : (!decide ((⟨(ZbJ (off + save)).toArray⟩ : ByteArray) = ByteArray.empty)) = true := by
     rw [decide_eq_false (fun h => he (by simpa using congrArg (fun b : ByteArray => b.data.toList) h))]; rfl
    repeat (first | (apply RL_pu; rfl; exact Zle) | (apply RD_Q; rfl; rfl; decide +kernel; rfl; rfl; exact QyFmtC6) | refine walk1 ?_ | (refine jg ?_; (try intro F); (first | (refine Zac hp ?_) | (refine Zac hk ?_) | (refine Zac (fun w' hw => hsm w') ?_) | (refine Zac (fun w' hw => htx w') ?_) | (refine Zac (fun w' hw => hr2 w') ?_) | (refine bx ?_; intro bk)); first | refine ⟨_, EndsA, QFFmtC6, ?_⟩ | refine fin ?_) | (refine jn ?_; (try intro F); (first | (refine bx ?_; intro bk) | (apply Zae; first | exact Zle | exact PuA)); first | refine ⟨_, EndsA, QFFmtC6, ?_⟩ | refine fin ?_))
    exact rtB
 have hb4 : decide (K = 4) = false := decide_eq_false hK4
 rw [if_neg hK4]
 by_cases hK1 : K = 1
 ·subst hK1
  rw [if_pos (.inl rfl)]
  unfold xpV
  dsimp only
  rw [hfb]
  repeat (first | refine walk ?_ | (refine jg ?_; (try intro F); (first | (refine Zac hp ?_) | (refine Zac hk ?_) | (refine bx ?_; intro bk)); refine fin ?_) | (refine jn ?_; (try intro F); (first | (refine bx ?_; intro bk) | (apply Zae; exact PuA)); refine fin ?_))
  exact rtB
 have hb1 : decide (K = 1) = false := decide_eq_false hK1
 by_cases hK5 : K = 5
 ·subst hK5
  rw [if_pos (.inr rfl)]
  unfold xpV
  dsimp only
  rw [hfb]
  repeat (first | refine walk ?_ | (refine jg ?_; (try intro F); (first | (refine Zac hp ?_) | (refine Zac hk ?_) | (refine bx ?_; intro bk)); refine fin ?_) | (refine jn ?_; (try intro F); (first | (refine bx ?_; intro bk) | (apply Zae; exact PuA)); refine fin ?_))
  exact rtB
 have hb5 : decide (K = 5) = false := decide_eq_false hK5
 rw [if_neg (by rintro (h | h); exact hK1 h; exact hK5 h)]
 repeat (first | (apply RL_pu; rfl; exact Zuh) | (apply RD_Q; rfl; rfl; decide +kernel; rfl; rfl; exact QyFmtC7) | refine walk1 ?_ | (refine jg ?_; (try intro F); (first | (refine Zac hp ?_) | (refine Zac hk ?_) | (refine bx ?_; intro bk)); first | refine ⟨_, EndsA, QFFmtC7, ?_⟩ | refine fin ?_) | (refine jn ?_; (try intro F); (first | (refine bx ?_; intro bk) | (apply Zae; first | exact Zuh | exact PuA)); first | refine ⟨_, EndsA, QFFmtC7, ?_⟩ | refine fin ?_))
 exact rtB
structure LtG where
 k : Nat
 A : Option Addr
 c : Nat
 m : Nat
 ys : List Value
theorem Zug {G : Prop} (h : G := by (first | (apply ZaF; rfl; rfl; omega; omega; (intro w' _ hO; exact (ZaU (hO.of (A := .row (.slice A1 L.length c1) 9 1 L.length (L.flatMap ZaW)) (by repeat' constructor)) hg1).1)) | (apply Zk7; rfl; (focus repeat' constructor); exact hg1))) : G := h
theorem Zuf {G : Prop} (h : G := by (apply Ze7; rfl; rfl; exact hb)) : G := h
theorem Zue {G : Prop} (h : G := by (apply ZaD; rfl; rfl; exact hb)) : G := h
theorem ZnS (e : DEra) (A : Option Addr) (c : Nat) (l : List Zaa) (w : World) (hL : LibW w) (hA : RdSl w A c Zaa.enc 11 l) (ho : I64 e.off) (hs : I64 e.save) (hr : ∀ r ∈ l, I64 r.save) (hn : l.length <= 1000000) (hfs : e.format.size <= 1000000000) (hlt : ∀ r ∈ l, r.letter.size <= 1000000000) :
  Does Tryz.prog 187 [.agg e.enc.toArray, .slice A l.length c] w (fun v O => v = .int .i64 (Zig e l) /\ O = []) := by
 have hk := fun w' (hw : Bel w.heap.size w w') => Zia e.format w' (hL.up hw) hfs
 have hx := fun w' (hw : Bel w.heap.size w w') => ZnU e A c l w' (hA.up hw) ho hs hr hn
 have hab := fun (x : ByteArray) (hx : x.size <= 1000000000) w' (hw : Bel w.heap.size w w') => ZeU e.format x 0 0 w' (hL.up hw) hfs hx ⟨by decide, by decide⟩ ⟨by decide, by decide⟩
 unfold Zig
 dsimp only
 obtain ⟨L, hLt⟩ : ∃ L : List ByteArray, (if e.kind = 2 then l.map (·.letter) else [ByteArray.empty]) = L := ⟨_, rfl⟩
 have hLe : (if e.kind = 2 then l.map (fun r => r.letter.data.toList) else [[]]) = L.map (·.data.toList) := by
  rw [<- hLt]
  split
  ·rw [List.map_map]; rfl
  ·rfl
 have hLs : ∀ x ∈ L, x.size <= 1000000000 := by
  rw [<- hLt]
  intro x hx
  split at hx
  ·obtain ⟨r, hr, rfl⟩ := List.mem_map.1 hx; exact hlt r hr
  ·simp only [List.mem_singleton] at hx; subst hx; decide
 have hLn : L.length <= 1000001 := by
  rw [<- hLt]
  split
  ·rw [List.length_map]; omega
  ·decide
 rw [hLe]
 obtain ⟨off, kind, save, set, format, til⟩ := e
 dsimp only at ho hs hk hx hab hfs hLt ⊢
 generalize ZbH format.data.toList = K at *
 obtain ⟨xv, hxv⟩ : ∃ xv, ZfG ⟨off, kind, save, set, format, til⟩ l = xv := ⟨_, rfl⟩
 rw [hxv] at hx ⊢
 obtain ⟨xt, xe⟩ := xv
 simp only [xpV, DEra.enc] at hx hab ⊢
 refine Zab Tryz.func187 rfl rfl rfl rfl ?_
 repeat (first | (refine js ?_; (refine bx ?_; intro bk)) | refine Zkq ?_)
 rename_i b2
 obtain ⟨b1, hb1⟩ : ∃ b1, bk = b1 := ⟨_, rfl⟩
 rw [hb1]
 clear hb1 bk
 refine ZxW (fun fr' O' => ∃ A1 c1, Sub [(2, .pointer (some ⟨b2, 0, none⟩)), (1, .slice A l.length c), (5, .slice A1 L.length c1)] fr' /\ SubO [.row (.slice A1 L.length c1) 9 1 L.length (L.flatMap ZaW), .blk b2 [.int .i64 off, .int .i64 kind, .int .i64 save, .string set, .string format, .bool til.is, .int .i64 til.year, .int .i64 til.month, .int .i64 til.day.kind, .int .i64 til.day.week, .int .i64 til.day.day, .int .i64 til.at_.sec, .int .i64 til.at_.base] 75] O') ?_ ?_
 ·refine Zaf rfl (fun h => ?_) (fun h => ?_)
  ·rw [if_pos (of_decide_eq_true h)] at hLt
   subst hLt
   repeat (first | (refine js ?_; (refine bx ?_; intro bk)) | refine walk ?_)
   refine Zfc 9 1 ?_
   refine Zao [(2, .pointer (some ⟨b2, 0, none⟩)), (1, .slice A l.length c), (19, .slice A l.length c), (20, .int .i64 l.length)] [.blk b2 [.int .i64 off, .int .i64 kind, .int .i64 save, .string set, .string format, .bool til.is, .int .i64 til.year, .int .i64 til.month, .int .i64 til.day.kind, .int .i64 til.day.week, .int .i64 til.day.day, .int .i64 til.at_.sec, .int .i64 til.at_.base] 75] (fun g : LtG => [(5, .slice g.A g.m g.c), (21, .int .i64 g.k)]) (fun g => [.row (.slice g.A g.m g.c) 9 1 g.m g.ys])
    (fun g => g.k <= l.length /\ g.m = g.k /\ g.ys = ((l.take g.k).map (·.letter)).flatMap ZaW) (fun g => l.length - g.k) ⟨0, none, 0, 0, []⟩ SFA SOA ⟨Nat.zero_le _, rfl, rfl⟩ ?_
   rintro ⟨k, A1, c1, m, ys⟩ ⟨hkl, hm, hy⟩
   dsimp only at hkl hm hy ⊢
   repeat (first | (refine js ?_; (refine bx ?_; intro bk)) | refine walk ?_)
   refine Zaf rfl (fun hc => ?_) (fun hc => ?_)
   ·simp only [decide_eq_true_eq, Int.ofNat_lt] at hc
    obtain ⟨hna, hca⟩ := hA.rd k _ (List.getElem?_eq_getElem hc)
    have htk := List.take_append_getElem hc
    generalize l[k] = r at *
    repeat (first | (apply RL_pu; rfl; exact PuI) | (refine js ?_; (first | (apply ZaA; rfl; rfl; (intro A' c'; (focus repeat' constructor)); (intro w' _ hO; exact ZbG (hO.of (by repeat' constructor))); rfl; rfl; (simp only [maxLen]; omega); omega; intro A' c' hc1 hc2 hc3) | (refine bx ?_; intro bk))) | refine walk1 ?_)
    exact ⟨⟨k + 1, A', c', m + 1, ys ++ [.string r.letter]⟩, OA, ⟨OA, OA, by dsimp only; rw [hy, <- htk]; simp [ZaW]⟩, SFA, SOA⟩
   ·obtain rfl : k = l.length := by simp only [decide_eq_false_iff_not, Int.ofNat_lt] at hc; omega
    rw [List.take_length] at hy
    subst hm hy
    repeat (first | (refine js ?_; (refine bx ?_; intro bk)) | refine walk ?_)
    rw [List.length_map]
    exact ⟨A1, c1, SFA, SOA⟩
  ·rw [if_neg (of_decide_eq_false h)] at hLt
   subst hLt
   refine Ztu (b := b1) (m := 1) 1 (by repeat' constructor) rfl (by decide) ?_
   repeat (first | (refine js ?_; (refine bx ?_; intro bk)) | refine walk ?_)
   exact ⟨some ⟨b1, 0, none⟩, 1, SFA, SOA⟩
 rintro fr' O' ⟨A1, c1, hf, hO⟩
 refine Zcz hf hO ?_
 clear hf hO fr' O' hLt hLe b1
 by_cases k0 : K = 0
 ·subst k0
  rw [if_pos rfl]
  repeat (first | (refine js ?_; (first | (refine Zac hk ?_) | (refine bx ?_; intro bk))) | refine walk ?_)
  exact rtA
 have e0 : decide (K = 0) = false := decide_eq_false k0
 rw [if_neg k0]
 by_cases k3 : K = 3
 ·subst k3
  rw [if_pos rfl]
  obtain ⟨res, hres⟩ : ∃ res, ZdS format.data.toList (L.map (·.data.toList)) = res := ⟨_, rfl⟩
  rw [hres]
  repeat (first | (refine js ?_; (first | (refine Zac hk ?_) | (refine bx ?_; intro bk))) | refine walk ?_)
  refine Zao [(2, .pointer (some ⟨b2, 0, none⟩)), (39, .slice A1 L.length c1), (40, .int .i64 L.length)] [.row (.slice A1 L.length c1) 9 1 L.length (L.flatMap ZaW), .blk b2 [.int .i64 off, .int .i64 kind, .int .i64 save, .string set, .string format, .bool til.is, .int .i64 til.year, .int .i64 til.month, .int .i64 til.day.kind, .int .i64 til.day.week, .int .i64 til.day.day, .int .i64 til.at_.sec, .int .i64 til.at_.base] 75] (fun k : Nat => [(41, .int .i64 k)]) (fun _ => []) (fun k => k <= L.length /\ ZdS format.data.toList ((L.drop k).map (·.data.toList)) = res) (fun k => L.length - k) 0 SFA SOA ⟨Nat.zero_le _, hres⟩ ?_
  rintro k ⟨hkl, hi⟩
  repeat (first | (refine js ?_; (refine bx ?_; intro bk)) | refine walk ?_)
  refine Zaf rfl (fun hc => ?_) (fun hc => ?_)
  ·simp only [decide_eq_true_eq, Int.ofNat_lt] at hc
   have hg1 : (L.flatMap ZaW)[k * 1]? = some (.string L[k]) := by
    have := ZaB (enc := ZaW) (fun _ => rfl) L k _ 0 (.string L[k]) (List.getElem?_eq_getElem hc) rfl
    simpa using this
   rw [Zan hc, List.map_cons, ZdS] at hi
   have hxs := hLs _ (List.getElem_mem hc)
   generalize L[k] = x at *
   have ha := hab x hxs
   generalize ZbI format.data.toList 0 0 x.data.toList = av at *
   obtain ⟨at_, ae⟩ := av
   dsimp only at ha hi
   by_cases hz : ae = 0
   ·subst hz
    rw [if_pos rfl] at hi
    repeat (first | (apply RL_pu; rfl; exact Zug) | (refine js ?_; (first | (refine Zac ha ?_) | (refine bx ?_; intro bk))) | refine walk1 ?_)
    exact ⟨k + 1, OA, ⟨OA, hi⟩, SFA, SOA⟩
   ·rw [if_neg hz] at hi
    subst hi
    have hb : (!decide (ae = 0)) = true := by rw [decide_eq_false hz]; rfl
    repeat (first | (apply RL_pu; rfl; (first | exact Zug | (apply ZaD; rfl; rfl; exact hb))) | (refine js ?_; (first | (refine Zac ha ?_) | (refine bx ?_; intro bk))) | refine walk1 ?_)
    exact rtA
  ·simp only [decide_eq_false_iff_not, Int.ofNat_lt] at hc
   rw [List.drop_eq_nil_of_le (by omega)] at hi
   subst hi
   repeat (first | (refine js ?_; (refine bx ?_; intro bk)) | refine walk ?_)
   exact rtA
 have e3 : decide (K = 3) = false := decide_eq_false k3
 rw [if_neg k3]
 by_cases k45 : K = 4 \/ K = 5
 ·rw [if_pos k45]
  by_cases hxe : xe = 0
  ·subst hxe
   rcases k45 with rfl | rfl
   ·rw [if_neg (by rintro (h | ⟨h, _⟩); exact h rfl; omega)]
    repeat (first | refine und ?_ | (refine js ?_; (first | (refine Zac hk ?_) | (refine Zac hx ?_) | (refine bx ?_; intro bk))) | refine walk ?_)
    exact rtA
   ·by_cases hxt : xt = format.data.toList
    ·have hb : (!decide ((⟨xt.toArray⟩ : ByteArray) = format)) = false := by rw [decide_eq_true (by rw [hxt])]; rfl
     rw [if_neg (by rintro (h | ⟨_, h⟩); exact h rfl; exact h hxt)]
     repeat (first | refine und ?_ | (apply RL_pu; rfl; exact Zuf) | (refine js ?_; (first | (refine Zac hk ?_) | (refine Zac hx ?_) | (refine bx ?_; intro bk))) | refine walk1 ?_)
     exact rtA
    ·have hb : (!decide ((⟨xt.toArray⟩ : ByteArray) = format)) = true := by rw [decide_eq_false (fun h => hxt (by rw [<- h]))]; rfl
     rw [if_pos (.inr ⟨rfl, hxt⟩)]
     repeat (first | refine und ?_ | (apply RL_pu; rfl; exact Zuf) | (refine js ?_; (first | (refine Zac hk ?_) | (refine Zac hx ?_) | (refine bx ?_; intro bk))) | refine walk1 ?_)
     exact rtA
  ·have hb : (!decide (xe = 0)) = true := by rw [decide_eq_false hxe]; rfl
   rw [if_pos (.inl hxe)]
   rcases k45 with rfl | rfl
   ·repeat (first | refine und ?_ | (apply RL_pu; rfl; exact Zue) | (refine js ?_; (first | (refine Zac hk ?_) | (refine Zac hx ?_) | (refine bx ?_; intro bk))) | refine walk1 ?_)
    exact rtA
   ·repeat (first | refine und ?_ | (apply RL_pu; rfl; exact Zue) | (refine js ?_; (first | (refine Zac hk ?_) | (refine Zac hx ?_) | (refine bx ?_; intro bk))) | refine walk1 ?_)
    exact rtA
 rw [if_neg k45]
 have e4 : decide (K = 4) = false := decide_eq_false (fun h => k45 (.inl h))
 have e5 : decide (K = 5) = false := decide_eq_false (fun h => k45 (.inr h))
 repeat (first | (apply RL_pu; rfl; (first | (apply ZaC; rfl; rfl; exact e0) | (apply ZaC; rfl; rfl; exact e3) | (apply ZaC; rfl; rfl; exact e4) | (apply ZaC; rfl; rfl; exact e5))) | (refine js ?_; (first | (refine Zac hk ?_) | (refine bx ?_; intro bk))) | refine walk1 ?_)
 exact rtA
end Go.Proofs.YtdlmhmmhdbbliaaGreatDoor
namespace Go.Proofs.YtdlmhmmhdbbliaaGreatDoor
open Go Go.RowKit Go.Wk
attribute [local irreducible] W RL Does Zau Zaj retQ Calls Pu Stp RD Qy Ay
theorem ZwS {G : Prop} (h : G := by (first | (apply Pu_indexAddr; rfl; rfl; omega; omega; (first | exact hna)) | (apply Pu_loadON; rfl; (first | exact hca); rfl))) : G := h
theorem ZeQ (Ar Az Al As : Option Addr) (cr cz cl cs : Nat) (a : Zai) (set : ByteArray) (w : World) (hA : Zat w Ar Az Al As cr cz cl cs a) (hn : a.rules.length <= 1000000) :
  Does Tryz.prog 55 [srcV Ar Az Al As cr cz cl cs a, .string set] w (Zrh 82 11 Zaa.enc (ofB a.rules set)) := by
 generalize hres : ofB a.rules set = res
 refine Zab Tryz.func55 rfl rfl rfl rfl ?_
 repeat (first | (refine js ?_; (refine bx ?_; intro bk)) | refine walk ?_)
 refine Zfc 82 11 ?_
 refine Zao [(1, _), (2, _), (4, _), (9, _), (10, _)] [_] (fun g : AG Zaa => [(5, .slice g.A g.m g.c), (11, .int .i64 g.k)]) (fun g => [.row (.slice g.A g.m g.c) 82 11 g.m g.xs]) (fun g => g.k <= a.rules.length /\ g.m = g.acc.length /\ g.xs = g.acc.flatMap Zaa.enc /\ g.m <= g.k /\ g.acc ++ ofB (a.rules.drop g.k) set = res) (fun g => a.rules.length - g.k) ⟨0, none, 0, 0, [], []⟩ ⟨rfl, rfl, rfl, rfl, rfl, rfl, rfl, trivial⟩ (.cons (by repeat' constructor) (.refl _)) ⟨by simp, rfl, rfl, Nat.le_refl _, by simpa using hres⟩ ?_
 rintro ⟨k, A, c, m, xs, acc⟩ ⟨hk, hm, hx, hmk, hi⟩
 dsimp only at hk hm hx hmk hi ⊢
 repeat (first | (refine js ?_; (refine bx ?_; intro bk)) | refine walk ?_)
 refine Zaf rfl (fun hc => ?_) (fun hc => ?_)
 ·simp only [decide_eq_true_eq, Int.ofNat_lt] at hc
  obtain ⟨hna, hca⟩ := hA.r.rd k _ (List.getElem?_eq_getElem hc)
  rw [Zan hc, ofB, List.filter_cons] at hi
  generalize a.rules[k] = r at *
  repeat (first | (apply RL_pu; rfl; exact ZwS) | (refine js ?_; (refine bx ?_; intro bk)) | refine walk1 ?_)
  refine Zaf rfl (fun h3 => ?_) (fun h3 => ?_)
  ·rw [if_pos h3] at hi
   repeat (first | (apply RL_pu; rfl; exact ZwS) | (refine js ?_; (first | (apply ZaA; rfl; rfl; (intro A' c'; (focus repeat' constructor)); (intro w' _ hO; exact ZbG (hO.of (by repeat' constructor))); rfl; rfl; (simp only [maxLen]; omega); omega; intro A' c' hc1 hc2 hc3) | (refine bx ?_; intro bk))) | refine walk1 ?_)
   exact ⟨⟨k + 1, A', c', m + 1, xs ++ r.enc, acc ++ [r]⟩, OA, ⟨OA, by simp [hm], by rw [hx]; exact Zf3 acc r, OA, by rw [<- hi]; simp [ofB]⟩, SFA, SOA⟩
  rw [h3] at hi
  repeat (first | (refine js ?_; (refine bx ?_; intro bk)) | refine walk ?_)
  exact ⟨⟨k + 1, A, c, m, xs, acc⟩, OA, ⟨OA, hm, hx, OA, hi⟩, SFA, SOA⟩
 simp only [decide_eq_false_iff_not, Int.ofNat_lt] at hc
 rw [List.drop_eq_nil_of_le (by omega)] at hi
 simp only [ofB, List.filter_nil, List.append_nil] at hi
 subst hi
 repeat (first | (refine js ?_; (refine bx ?_; intro bk)) | refine walk ?_)
 exact ret_1 _ [.row (.slice A acc.length c) 82 11 acc.length (acc.flatMap Zaa.enc)] (.tmp rfl) (by subst hm hx; exact SOA) ⟨A, c, by rw [hm], rfl⟩
end Go.Proofs.YtdlmhmmhdbbliaaGreatDoor
namespace Go.Proofs.YtdlmhmmhdbbliaaGreatDoor
open Go.Shelf Go.RowKit Go.Lib Go.Sort
def Znn : Ren where
 f := fun | 6 => 214 | 15 => 230 | 14 => 229 | 28 => 245 | 29 => 169 | 20 => 237 | 21 => 238 | 22 => 239 | 23 => 240 | 24 => 241 | 25 => 242 | 26 => 243 | 27 => 244 | 46 => 252 | 47 => 253 | 48 => 254 | 49 => 255 | 50 => 256 | 57 => 261 | n => n
 t := fun | 22 => 264 | 24 => 92 | 25 => 140 | 3 => 3 | 39 => 255 | 0 => 0 | 53 => 54 | 55 => 216 | 4 => 4 | 46 => 324 | 45 => 323 | 50 => 269 | 5 => 5 | 9 => 9 | 66 => 335 | 70 => 339 | 76 => 346 | 77 => 347 | n => n
 g := fun n => n
theorem ZrJ : SlLaysF0.n6 Tryz.prog Znn where
 mixed := by kernel_rfl
 f6 := ⟨Tryz.f214.name, by decide, Tryz.func214.trans (congrArg some (by kernel_rfl))⟩
 f14 := ⟨Tryz.f229.name, by decide, Tryz.func229.trans (congrArg some (by kernel_rfl))⟩
 f20 := ⟨Tryz.f237.name, by decide, Tryz.func237.trans (congrArg some (by kernel_rfl))⟩
 f21 := ⟨Tryz.f238.name, by decide, Tryz.func238.trans (congrArg some (by kernel_rfl))⟩
 f22 := ⟨Tryz.f239.name, by decide, Tryz.func239.trans (congrArg some (by kernel_rfl))⟩
 f23 := ⟨Tryz.f240.name, by decide, Tryz.func240.trans (congrArg some (by kernel_rfl))⟩
 f24 := ⟨Tryz.f241.name, by decide, Tryz.func241.trans (congrArg some (by kernel_rfl))⟩
 f25 := ⟨Tryz.f242.name, by decide, Tryz.func242.trans (congrArg some (by kernel_rfl))⟩
 f26 := ⟨Tryz.f243.name, by decide, Tryz.func243.trans (congrArg some (by kernel_rfl))⟩
 f27 := ⟨Tryz.f244.name, by decide, Tryz.func244.trans (congrArg some (by kernel_rfl))⟩
 f46 := ⟨Tryz.f252.name, by decide, Tryz.func252.trans (congrArg some (by kernel_rfl))⟩
 f49 := ⟨Tryz.f255.name, by decide, Tryz.func255.trans (congrArg some (by kernel_rfl))⟩
 f50 := ⟨Tryz.f256.name, by decide, Tryz.func256.trans (congrArg some (by kernel_rfl))⟩
 f57 := ⟨Tryz.f261.name, by decide, Tryz.func261.trans (congrArg some (by kernel_rfl))⟩
 f15 := Tryz.func230.trans (congrArg some (by kernel_rfl))
 f28 := Tryz.func245.trans (congrArg some (by kernel_rfl))
 f29 := Tryz.func169.trans (congrArg some (by kernel_rfl))
 f47 := Tryz.func253.trans (congrArg some (by kernel_rfl))
 f48 := Tryz.func254.trans (congrArg some (by kernel_rfl))
 t0 := Tryz.underlying0
 a0 := Tryz.isAgg0
 z0 := Tryz.sizeOf0
 v0 := Tryz.zeroValue0
 t3 := Tryz.underlying3
 a3 := Tryz.isAgg3
 z3 := Tryz.sizeOf3
 v3 := Tryz.zeroValue3
 t4 := Tryz.underlying4
 a4 := Tryz.isAgg4
 z4 := Tryz.sizeOf4
 v4 := Tryz.zeroValue4
 t5 := Tryz.underlying5
 a5 := Tryz.isAgg5
 z5 := Tryz.sizeOf5
 v5 := Tryz.zeroValue5
 t9 := Tryz.underlying9
 a9 := Tryz.isAgg9
 z9 := Tryz.sizeOf9
 v9 := Tryz.zeroValue9
 t22 := Tryz.underlying264
 a22 := Tryz.isAgg264
 z22 := Tryz.sizeOf264
 v22 := Tryz.zeroValue264
 t25 := Tryz.underlying140
 a25 := Tryz.isAgg140
 z25 := Tryz.sizeOf140
 v25 := Tryz.zeroValue140
 t39 := Tryz.underlying255
 a39 := Tryz.isAgg255
 z39 := Tryz.sizeOf255
 v39 := Tryz.zeroValue255
 t45 := Tryz.underlying323
 a45 := Tryz.isAgg323
 z45 := Tryz.sizeOf323
 v45 := Tryz.zeroValue323
 t46 := Tryz.underlying324
 a46 := Tryz.isAgg324
 z46 := Tryz.sizeOf324
 v46 := Tryz.zeroValue324
 t50 := Tryz.underlying269
 a50 := Tryz.isAgg269
 z50 := Tryz.sizeOf269
 v50 := Tryz.zeroValue269
 t53 := Tryz.underlying54
 a53 := Tryz.isAgg54
 z53 := Tryz.sizeOf54
 v53 := Tryz.zeroValue54
 t55 := Tryz.underlying216
 a55 := Tryz.isAgg216
 z55 := Tryz.sizeOf216
 v55 := Tryz.zeroValue216
 t66 := Tryz.underlying335
 a66 := Tryz.isAgg335
 z66 := Tryz.sizeOf335
 v66 := Tryz.zeroValue335
 t70 := Tryz.underlying339
 a70 := Tryz.isAgg339
 z70 := Tryz.sizeOf339
 v70 := Tryz.zeroValue339
 t76 := Tryz.underlying346
 a76 := Tryz.isAgg346
 z76 := Tryz.sizeOf346
 v76 := Tryz.zeroValue346
 t77 := Tryz.underlying347
 a77 := Tryz.isAgg347
 z77 := Tryz.sizeOf347
 v77 := Tryz.zeroValue347
open Go Go.Shelf Go.Lib Go.RowKit Go.Sort Go.Wk
set_option maxHeartbeats 4000000
theorem ZxH (a b : Int) (w : World) : Calls Tryz.prog 94 #[.int .i64 a, .int .i64 b] w fun e w' => e = .returned (.int .i64 (cmpI a b)) /\ w' = w := by
 go_enter Tryz.func94, Tryz.ntmps94
 go_wp2
 all_goals go_ret
 all_goals (unfold cmpI; repeat' split)
 all_goals first | exact ⟨rfl, rfl⟩ | (exfalso; omega)
theorem ZyN (a b : Int) (w : World) : Calls Tryz.prog 95 #[.int .i64 a, .int .i64 b] w fun e w' => e = .returned (.int .i64 (cmpI a b)) /\ w' = w := by
 go_enter Tryz.func95, Tryz.ntmps95
 go_wp2
 all_goals go_ret
 all_goals (unfold cmpI; repeat' split)
 all_goals first | exact ⟨rfl, rfl⟩ | (exfalso; omega)
theorem or_l (x y z : Int) (b : Nat) (w : World) (h0 : w.cell? ⟨b, 0, none⟩ = some (.int .i64 x)) (h1 : w.cell? ⟨b, 1, none⟩ = some (.int .i64 y)) (h2 : w.cell? ⟨b, 2, none⟩ = some (.int .i64 z)) :
  Calls Tryz.prog 93 #[.slice (some ⟨b, 0, none⟩) 3 3] w fun e w' => e = .returned (.int .i64 (ZbN [x, y, z])) /\ w' = w := by
 go_enter Tryz.func93, Tryz.ntmps93
 go_wp2
 refine wp_loop_rounds 4 ?_
 rw [rounds_succ]
 by_cases hx : x = 0
 ·subst hx
  go_wp2
  rw [rounds_succ]
  by_cases hy : y = 0
  ·subst hy
   go_wp2
   rw [rounds_succ]
   by_cases hz : z = 0
   ·subst hz
    go_wp2
    rw [rounds_succ]
    go_wp2
    go_ret
    exact ⟨rfl, rfl⟩
   ·go_wp2
    go_ret
    exact ⟨by simp [ZbN, hz], rfl⟩
  ·go_wp2
   go_ret
   exact ⟨by simp [ZbN, hy], rfl⟩
 ·go_wp2
  go_ret
  exact ⟨by simp [ZbN, hx], rfl⟩
attribute [local irreducible] cmpI ZbN
theorem Zqo (a b : Zad) (w : World) : Calls Tryz.prog 63 #[.agg (Zad.enc a).toArray, .agg (Zad.enc b).toArray] w fun e w' => e = .returned (.int .i64 (ordE a b)) /\ ∃ q os', w' = grow (w.drewN q) os' := by
 rw [Zr6]
 obtain ⟨y, r, n⟩ := a
 obtain ⟨y2, r2, n2⟩ := b
 dsimp only
 have h1 := ZxH
 have h2 := ZyN
 have h3 := or_l
 simp only [Zad.enc]
 go_enter Tryz.func63, Tryz.ntmps63
 go_wp2_with fail
 go_region_held3 (fun W => W.cell? ⟨w.heap.size, 0, none⟩ = some (.int .i64 y) /\ W.cell? ⟨w.heap.size, 1, none⟩ = some (.int .i64 r) /\ W.cell? ⟨w.heap.size, 2, none⟩ = some (.int .i64 n) /\ W.cell? ⟨w.heap.size + 1, 0, none⟩ = some (.int .i64 y2) /\ W.cell? ⟨w.heap.size + 1, 1, none⟩ = some (.int .i64 r2) /\ W.cell? ⟨w.heap.size + 1, 2, none⟩ = some (.int .i64 n2)) (go_keep)
  (first
   | (go_at_call 94; refine (h1 _ _ _).mono ?_; rintro e w' ⟨rfl, rfl⟩)
   | (go_at_call 95; refine (h2 _ _ _).mono ?_; rintro e w' ⟨rfl, rfl⟩)
   | (go_at_call 93; refine (h3 (cmpI n n2) (cmpI r r2) (cmpI y y2) _ _ (by go_simp) (by go_simp) (by go_simp)).mono ?_; rintro e w' ⟨rfl, rfl⟩))
 all_goals (try go_wp2)
 all_goals go_ret
 all_goals exact ⟨rfl, 1, _, by rw [alloc_eq_grow, alloc_eq_grow, alloc_eq_grow, grow_grow, grow_grow]; rfl⟩
end Go.Proofs.YtdlmhmmhdbbliaaGreatDoor
namespace Go.Proofs.YtdlmhmmhdbbliaaGreatDoor
open Go Go.RowKit Go.Wk
theorem Zad.len (x : Zad) : (Zad.enc x).length = 3 := rfl
def Zmp (A : Option Addr) (c : Nat) (l : List Zad) : It := .row (.slice A l.length c) 92 3 l.length (l.flatMap Zad.enc)
def Zct (l : List Zad) : List Zad := l.mergeSort fun x y => !ltE y x
theorem Zfv (l : List Zad) : (Zct l).length = l.length := List.length_mergeSort _
instance : Inhabited Zad := ⟨dEv0⟩
theorem Zpg (l : List Zad) : Go.Sort.flatK Zad.enc 3 l.toArray = (l.flatMap Zad.enc).toArray := by
 have hfl := Zba Zad.len l
 refine Go.Sort.ext_get! (by rw [Go.Sort.size_flatK]; simp [hfl]) fun t ht => ?_
 have ht' : t < l.toArray.size * 3 := by rwa [Go.Sort.size_flatK] at ht
 rw [Go.Sort.get_flatK _ _ _ _ ht']
 have hlt : t / 3 < l.length := by simp at ht'; omega
 have h3 : t % 3 < 3 := Nat.mod_lt _ (by decide)
 have hget := ZaB Zad.len l (t / 3) l[t / 3] (t % 3) ((Zad.enc l[t / 3])[t % 3]'h3) (List.getElem?_eq_getElem hlt) (List.getElem?_eq_getElem h3)
 rw [show t / 3 * 3 + t % 3 = t by omega] at hget
 rw [getElem!_pos l.toArray (t / 3) (by simpa using hlt)]
 rw [show (l.flatMap Zad.enc).toArray[t]! = (l.flatMap Zad.enc)[t]?.getD default from by simp only [getElem!_def, List.getElem?_toArray]; cases (l.flatMap Zad.enc)[t]? <;> rfl]
 rw [hget]
 rw [getElem!_pos (Zad.enc _) (t % 3) (by rw [Zad.len]; exact h3)]
 simp
 rfl
theorem ZuO (b : Nat) (l : List Zad) (w : World) : CmpLays Tryz.prog 63 #[] Zad.enc 3 ordE b 0 l.toArray.size w :=
 fun m os dk _ x y => by
  have := Zqo x y (sortWorldK Zad.enc 3 w b 0 m dk os)
  simpa using this
theorem ZrK (A : Option Addr) (c : Nat) (l : List Zad) (wr : World) (hn : l.length <= 1000000000) :
  Zak Tryz.prog 214 [.slice A l.length c, .func (.func 63) #[] #[]] wr [Zmp A c l] (fun v O => v = .tuple #[] /\ O = [Zmp A c (Zct l)]) := by
 intro w hB hH
 have hsat := hH.sat _ (List.mem_singleton.2 rfl)
 obtain ⟨hxl, ⟨hv, _⟩ | ⟨b, cap, cur, hval, hb0, hg, hmc, hcm, hsz, hcur⟩⟩ := id hsat
 ·injection hv with h1 h2 h3
  obtain rfl := List.eq_nil_of_length_eq_zero h2
  subst h1 h3
  refine Calls.mono (AnyF.slices_SortFunc_none ZrJ none 0 (.func (.func 63) #[] #[]) w) ?_
  rintro e w' ⟨rfl, rfl⟩
  exact ⟨_, _, rfl, hB, hH, rfl, by rw [show Zct [] = [] from by simp [Zct]]⟩
 injection hval with hA h2 h3
 subst hA h3
 have hbw : b < w.heap.size := (Array.getElem?_eq_some_iff.1 hg).1
 have hin := hH.inb _ (List.mem_singleton.2 rfl) b (by simp [It.S, Zmp, Value.ownBlock])
 have hfl := Zba Zad.len l
 have hcl : l.length * 3 <= cur.size := by
  have := congrArg List.length hcur
  rw [List.length_take, hfl, Array.length_toList] at this
  omega
 have hget : ∀ j, j < l.length * 3 -> cur[j]? = (l.flatMap Zad.enc)[j]? := fun j hj => by
  rw [<- hcur, List.getElem?_take, if_pos (by omega)]
  simp
 have hHold : Go.Sort.HoldsK Zad.enc 3 w b 0 l.toArray := fun j hj => by
  rw [Zpg] at hj ⊢
  have hj' : j < l.length * 3 := by simpa [hfl] using hj
  have hjl : j < (l.flatMap Zad.enc).length := by rw [hfl]; exact hj'
  refine ⟨?_, by simp [World.frozen?, hg]⟩
  rw [Nat.zero_add, show w.cell? ⟨b, j, none⟩ = cur[j]? from by simp [World.cell?, hg], hget j hj', List.getElem?_eq_getElem hjl, getElem!_pos _ j (by simpa using hjl)]
  simp
 have h := AnyQ.slices_SortFunc_total ZrJ 3 Tryz.isAgg92 Tryz.sizeOf92 Zad.enc Zad.len (fun x v hv => by simp [Zad.enc] at hv; rcases hv with rfl | rfl | rfl <;> rfl) ordE swoE 63 #[] b 0 c l.toArray w
  (enters_of Tryz.func63 (by kernel_rfl) rfl) (ZuO b l w) hHold hbw (by simp; omega) totE
 refine Calls.mono h ?_
 rintro e w' ⟨rfl, n, os, rfl⟩
 rw [show (l.toArray.toList.mergeSort fun x y => !(ltOf ordE) y x) = Zct l from rfl]
 have hlen := Zfv l
 generalize Zct l = s at hlen ⊢
 have hfs := Zba Zad.len s
 have hsh : (sortWorldK Zad.enc 3 w b 0 n s.toArray os).heap = (w.heap.modify b (Go.Sort.onCells (Go.Sort.putCells id 0 (s.flatMap Zad.enc).toArray))) ++ os := by
  unfold sortWorldK Go.Sort.putRowK
  rw [Zpg]
  rfl
 have hold : ∀ i, i < w.heap.size -> i ≠ b -> (sortWorldK Zad.enc 3 w b 0 n s.toArray os).heap[i]? = w.heap[i]? := fun i hi hne => by
  rw [hsh, Array.getElem?_append_left (by simpa using hi), Array.getElem?_modify, if_neg (fun e => hne e.symm)]
 have hnew : (sortWorldK Zad.enc 3 w b 0 n s.toArray os).heap[b]? = some (.cells (Go.Sort.putCells id 0 (s.flatMap Zad.enc).toArray cur) 92 (0, 0)) := by
  rw [hsh, Array.getElem?_append_left (by simpa using hbw), Array.getElem?_modify, if_pos rfl, hg]
  rfl
 have hsize : w.heap.size <= (sortWorldK Zad.enc 3 w b 0 n s.toArray os).heap.size := by rw [hsh]; simp
 have hbel : Bel wr.heap.size wr (sortWorldK Zad.enc 3 w b 0 n s.toArray os) :=
  hB.trans ⟨⟨rfl, rfl, rfl, hsize, fun i hi => hold i (by have := hB.size; omega) (by omega)⟩⟩
 refine ⟨_, [Zmp (some ⟨b, 0, none⟩) c s], rfl, hbel, ?_, rfl, rfl⟩
 refine hH.upd (A := Zmp (some ⟨b, 0, none⟩) c l) .here hB.size hsize (fun i hi hS => hold i hi (fun e => hS (by rw [e]; simp [It.S, Zmp, Value.ownBlock]))) ?_ (fun i hi => .inl hi)
 refine ⟨by rw [hfs], .inr ⟨b, c, _, rfl, Nat.zero_le _, hnew, by omega, hcm, ?_, ?_⟩⟩
 ·simp only [Go.Sort.putCells, Array.size_mapIdx]
  exact hsz
 ·apply List.ext_getElem?
  intro j
  rw [List.getElem?_take]
  by_cases hj : j < s.length * 3
  ·rw [if_pos hj]
   have hjc : j < cur.size := by omega
   have hjs : j < (s.flatMap Zad.enc).length := by omega
   simp only [Array.getElem?_toList, Go.Sort.putCells, Array.getElem?_mapIdx, Array.getElem?_eq_getElem hjc, Option.map_some, Nat.zero_le, true_and, Nat.zero_add, List.size_toArray, if_pos hjs, Nat.sub_zero]
   rw [List.getElem?_eq_getElem hjs, getElem!_pos _ j (by simpa using hjs)]
   simp
  ·rw [if_neg hj, List.getElem?_eq_none (by omega)]
end Go.Proofs.YtdlmhmmhdbbliaaGreatDoor
