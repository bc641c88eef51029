/- Parts of the proof. -/
import Derived.Test.YtbjomhdhkpgbaaaGreatDoorY12
import Derived.Maps.RangeRun
import Derived.ChangeMaps4
import Derived.Test.YtbjomhdhkpgbaaaGreatDoorY09
import Derived.RangeFuncIn
import Derived.RangeFuncLeaves
import Derived.RangeFuncRecord
import Derived.RangeFuncSeq
import Derived.TacticsIn
import Derived.ControlIn
import Derived.RangeFuncCalls
set_option maxHeartbeats 4000000
set_option linter.unusedVariables false
set_option linter.unusedSimpArgs false
namespace Go.Proofs.YtbjomhdhkpgbaaaGreatDoor
open Go Go.RowKit Go.Wk Go.Lib
attribute [local irreducible] W RL Does Zap Zak retQ Calls Pu Stp RD Qy Ay Zal RW
theorem LibW.up {w w' : World} (h : LibW w) (hb : Bel w.heap.size w w') : LibW w' where
 mxl := by
  obtain ⟨m, hm⟩ := h.mxl
  exact ⟨m, (hb.cell (World.block_lt_of_cell? w _ hm)).trans hm⟩
 syn := by
  obtain ⟨ev, h1, h2⟩ := h.syn
  exact ⟨ev, (hb.cell (World.block_lt_of_cell? w _ h1)).trans h1, h2⟩
theorem Zk3 (s : ByteArray) (w : World) (hL : LibW w) (hs : s.size <= 1000000000000) : Does Tryz.prog 101 [.string s] w (fun v O => v = .bool (ZbQ s.data.toList).isSome /\ O = []) := by
 have hp := fun w' (hw : Bel w.heap.size w w') => Zrv s w' (fun w2 hw2 => (hL.up hw).up hw2) hs
 refine Zaa Tryz.func101 rfl rfl rfl rfl ?_
 generalize ZbQ s.data.toList = o at *
 cases o with
 | none =>
  simp only [prV] at hp
  repeat (first | (refine js ?_; (refine Zad hp ?_)) | refine walk ?_)
  exact rtA
 | some x =>
  simp only [prV] at hp
  repeat (first | (refine js ?_; (refine Zad hp ?_)) | refine walk ?_)
  exact rtA
theorem Zlc (f p : List UInt8) : (cutV f p).1.length + (cutV f p).2.1.length <= f.length := by
 unfold cutV
 split
 ·rename_i a b h
  have := Zm5 h
  simp only [List.length_nil] at this
  dsimp only
  omega
 ·simp
def arV (l : List UInt8) : Value := .tuple #[.string ⟨(cutV l [37, 115]).1.toArray⟩, .string ⟨(cutV l [37, 115]).2.1.toArray⟩, .bool (Zcc l).isSome]
theorem ZAA (l : List UInt8) : (Zcc l).isSome = ((cutV l [37, 115]).2.2 && (Zdg ((cutV l [37, 115]).1 ++ (cutV l [37, 115]).2.1) && decide (((cutV l [37, 115]).1 ++ (cutV l [37, 115]).2.1).length <= 5))) := by
 unfold Zcc cutV
 cases ZcT [37, 115] l [] with
 | none => rfl
 | some ab =>
  obtain ⟨a, b⟩ := ab
  dsimp only
  by_cases h1 : Zdg (a ++ b) = true
  ·by_cases h2 : (a ++ b).length <= 5
   ·rw [if_pos ⟨h1, h2⟩, h1, decide_eq_true h2]; rfl
   ·rw [if_neg (fun h => h2 h.2), decide_eq_false h2, Bool.and_false, Bool.and_false]; rfl
  ·rw [if_neg (fun h => h1 h.1), show Zdg (a ++ b) = false from by simpa using h1, Bool.false_and, Bool.and_false]; rfl
theorem ZzU {G : Prop} (h : G := by (first | (apply Ze4; rfl; rfl; exact hss) | (apply Zbt; rfl; rfl; exact hil) | (apply ZlA; rfl; rfl; exact h5))) : G := h
theorem ZnJ {G G' : Prop} (k : G') (h : Hold G' -> G := by intro k9; (first | (apply RL_pu; rfl; exact ZzU) | (refine js ?_; (first | (refine Zad hc ?_) | (refine Zad (fun w' hw => hix w') ?_))) | refine walk1 ?_); exact k9.out) : G := h ⟨k⟩
theorem Zjc (f : ByteArray) (w : World) (hL : LibW w) (hs : f.size <= 1000000000) : Does Tryz.prog 99 [.string f] w (fun v O => v = arV f.data.toList /\ O = []) := by
 have hc := fun w' (hw : Bel w.heap.size w w') => Zlb f ⟨#[37, 115]⟩ w' (hL.up hw) (by omega)
 rw [show (⟨#[37, 115]⟩ : ByteArray).data.toList = [37, 115] from rfl] at hc
 have hl := Zlc f.data.toList [37, 115]
 have hfs : f.data.toList.length = f.size := by simp
 rw [hfs] at hl
 unfold arV
 rw [ZAA]
 obtain ⟨ab, hab⟩ : ∃ ab, cutV f.data.toList [37, 115] = ab := ⟨_, rfl⟩
 rw [hab] at hc hl ⊢
 obtain ⟨a, b, ok⟩ := ab
 dsimp only at hc hl ⊢
 have hix := fun w' => ZwS (⟨a.toArray⟩ ++ ⟨b.toArray⟩) w'
 have hd : ((⟨a.toArray⟩ : ByteArray) ++ ⟨b.toArray⟩).data.toList = a ++ b := by simp
 have hs1 : (⟨a.toArray⟩ : ByteArray).size = a.length := by show a.toArray.size = a.length; simp
 have hs2 : (⟨b.toArray⟩ : ByteArray).size = b.length := by show b.toArray.size = b.length; simp
 have hsz : ((⟨a.toArray⟩ : ByteArray) ++ ⟨b.toArray⟩).size = (a ++ b).length := by rw [ByteArray.size_append, hs1, hs2, List.length_append]
 have h1 := ZtX ((⟨a.toArray⟩ : ByteArray) ++ ⟨b.toArray⟩) ((⟨a.toArray⟩ : ByteArray) ++ ⟨b.toArray⟩).size 0 (by omega)
 rw [List.drop_zero, hd] at h1
 have hil : decide (idxFunc (fun r => ZdM (r : Int)) true ((⟨a.toArray⟩ : ByteArray) ++ ⟨b.toArray⟩) < 0) = Zdg (a ++ b) := by
  rw [Bool.eq_iff_iff, decide_eq_true_eq]
  exact h1
 have h5 : decide (((((⟨a.toArray⟩ : ByteArray) ++ ⟨b.toArray⟩).size : Nat) : Int) <= 5) = decide ((a ++ b).length <= 5) := by
  rw [decide_eq_decide]
  omega
 have hss : (⟨a.toArray⟩ : ByteArray).size + (⟨b.toArray⟩ : ByteArray).size <= 9223372036854775807 := by omega
 clear h1
 generalize idxFunc (fun r => ZdM (r : Int)) true ((⟨a.toArray⟩ : ByteArray) ++ ⟨b.toArray⟩) = i at *
 generalize Zdg (a ++ b) = lt at *
 generalize decide ((a ++ b).length <= 5) = l5 at *
 refine Zaa Tryz.func99 rfl rfl rfl rfl ?_
 cases ok with
 | false =>
  repeat refine ZnJ ?_
  exact Zf6 _ _ _ [] (.tmp rfl) (.tmp rfl) (.tmp rfl) .nil ⟨rfl, rfl⟩
 | true =>
  cases lt with
  | false =>
   repeat refine ZnJ ?_
   exact Zf6 _ _ _ [] (.tmp rfl) (.tmp rfl) (.tmp rfl) .nil ⟨rfl, rfl⟩
  | true =>
   repeat refine ZnJ ?_
   exact Zf6 _ _ _ [] (.tmp rfl) (.tmp rfl) (.tmp rfl) .nil ⟨rfl, rfl⟩
def ZmG (ab0 ok ab1 ab2 ar q4 i0 i1 i2 : Bool) : Int := if ab0 then 1 else if ok && (ab1 && ab2) then 2 else if ar then 3 else if q4 then 4 else if i0 || (ok && (i1 && i2)) then 5 else 0
theorem Zqi (l : List UInt8) : ZaK l = ZmG (ZcZ l) (cutV l [47]).2.2 (ZcZ (cutV l [47]).1) (ZcZ (cutV l [47]).2.1) (Zcc l).isSome (decide (l = [37, 122])) (ZbQ l).isSome (ZbQ (cutV l [47]).1).isSome (ZbQ (cutV l [47]).2.1).isSome := by
 unfold ZaK ZmG cutV
 cases ZcT [47] l [] with
 | none => simp
 | some ab => simp
theorem ZeS (f : ByteArray) (w : World) (hL : LibW w) (hs : f.size <= 1000000000) : Does Tryz.prog 59 [.string f] w (fun v O => v = .int .i64 (ZaK f.data.toList) /\ O = []) := by
 have hc := fun w' (hw : Bel w.heap.size w w') => Zlb f ⟨#[47]⟩ w' (hL.up hw) (by omega)
 rw [show (⟨#[47]⟩ : ByteArray).data.toList = [47] from rfl] at hc
 have hl := Zlc f.data.toList [47]
 have hfs : f.data.toList.length = f.size := by simp
 rw [hfs] at hl
 have har := fun w' (hw : Bel w.heap.size w w') => Zjc f w' (hL.up hw) hs
 unfold arV at har
 rw [Zqi]
 have hq : decide (f = ⟨#[37, 122]⟩) = decide (f.data.toList = [37, 122]) := by
  rw [decide_eq_decide]
  exact ⟨fun h => by rw [h], fun h => by
   apply ByteArray.ext
   rw [<- Array.toArray_toList (xs := f.data), h]⟩
 obtain ⟨ab, hab⟩ : ∃ ab, cutV f.data.toList [47] = ab := ⟨_, rfl⟩
 rw [hab] at hc hl ⊢
 obtain ⟨a, b, ok⟩ := ab
 dsimp only at hc hl ⊢
 have hs1 : (⟨a.toArray⟩ : ByteArray).size = a.length := by show a.toArray.size = a.length; simp
 have hs2 : (⟨b.toArray⟩ : ByteArray).size = b.length := by show b.toArray.size = b.length; simp
 have a0 := fun w' => Zgt f (by omega) w'
 have a1 := fun w' => Zgt ⟨a.toArray⟩ (by omega) w'
 have a2 := fun w' => Zgt ⟨b.toArray⟩ (by omega) w'
 have i0 := fun w' (hw : Bel w.heap.size w w') => Zk3 f w' (hL.up hw) (by omega)
 have i1 := fun w' (hw : Bel w.heap.size w w') => Zk3 ⟨a.toArray⟩ w' (hL.up hw) (by omega)
 have i2 := fun w' (hw : Bel w.heap.size w w') => Zk3 ⟨b.toArray⟩ w' (hL.up hw) (by omega)
 rw [show Zsd f = ZcZ f.data.toList from rfl] at a0
 rw [show Zsd ⟨a.toArray⟩ = ZcZ a from rfl] at a1
 rw [show Zsd ⟨b.toArray⟩ = ZcZ b from rfl] at a2
 rw [show (⟨a.toArray⟩ : ByteArray).data.toList = a from rfl] at i1
 rw [show (⟨b.toArray⟩ : ByteArray).data.toList = b from rfl] at i2
 generalize ZcZ f.data.toList = A0 at *
 generalize ZcZ a = A1 at *
 generalize ZcZ b = A2 at *
 generalize (ZbQ f.data.toList).isSome = I0 at *
 generalize (ZbQ a).isSome = I1 at *
 generalize (ZbQ b).isSome = I2 at *
 generalize (Zcc f.data.toList).isSome = ar at *
 generalize decide (f.data.toList = [37, 122]) = q4 at *
 refine Zaa Tryz.func59 rfl rfl rfl rfl ?_
 repeat' (first | (apply RL_pu; rfl; (apply Zen; rfl; rfl; exact hq)) | (refine js ?_; (first | (refine Zad hc ?_) | (refine Zad har ?_) | (refine Zad (fun w' hw => a0 w') ?_) | (refine Zad (fun w' hw => a1 w') ?_) | (refine Zad (fun w' hw => a2 w') ?_) | (refine Zad i0 ?_) | (refine Zad i1 ?_) | (refine Zad i2 ?_))) | refine walk1 ?_ | refine und ?_ | (refine Zay rfl rfl rfl (fun hc => ?_) (fun hc => ?_)) | (refine Zaw rfl rfl rfl (fun hc => ?_) (fun hc => ?_)) | (refine Zah rfl (fun hc => ?_) (fun hc => ?_)))
 all_goals first | (refine ret_1 _ [] (.tmp rfl) .nil ⟨?_, rfl⟩; first | rfl | (simp only [*, Bool.true_and, Bool.false_and, Bool.true_or, Bool.false_or, Bool.not_true, Bool.not_false]; done) | (simp_all [ZmG]; done) | (simp_all [ZmG]; omega) | (simp_all [ZmG]; rw [Bool.eq_iff_iff]; simp; omega)) | (exfalso; simp_all [ZmG]; done) | (exfalso; simp_all [ZmG]; omega) | (exfalso; omega)
end Go.Proofs.YtbjomhdhkpgbaaaGreatDoor
namespace Go.Wk
open Go Go.RowKit
end Go.Wk
namespace Go.Proofs.YtbjomhdhkpgbaaaGreatDoor
open Go Go.RowKit Go.Wk Go.Lib
attribute [local irreducible] W RL Does Zap Zak retQ Calls Pu Stp RD Qy Ay Zal RW
def ptsV : Option (List UInt8 × List UInt8) -> Value
 | none => .tuple #[.string ByteArray.empty, .string ByteArray.empty, .bool false]
 | some (a, b) => .tuple #[.string ⟨a.toArray⟩, .string ⟨b.toArray⟩, .bool true]
theorem Ztj (l : List UInt8) : Zbk l = if (cutV l [47]).2.2 = true /\ (ZaK l = 2 \/ ZaK l = 5) then some ((cutV l [47]).1, (cutV l [47]).2.1) else none := by
 unfold Zbk cutV
 cases ZcT [47] l [] with
 | none => simp
 | some ab => simp
theorem ZwP (l : List UInt8) (h : ZaK l = 3) : Zcc l = some ((cutV l [37, 115]).1, (cutV l [37, 115]).2.1) := by
 have hs : (Zcc l).isSome = true := by
  rw [Zqi] at h
  unfold ZmG at h
  cases hx : (Zcc l).isSome with
  | true => rfl
  | false =>
   rw [hx] at h
   exfalso
   revert h
   repeat' split
   all_goals first | decide | (intro h; omega) | simp_all
 unfold Zcc cutV at *
 cases hc : ZcT [37, 115] l [] with
 | none => rw [hc] at hs; cases hs
 | some ab =>
  rw [hc] at hs
  dsimp only at hs ⊢
  split at hs
  ·rename_i h1; rw [if_pos h1]
  ·cases hs
theorem ZvI {G : Prop} (h : G := by (first | (apply ZlD; rfl; rfl; exact hw) | (apply Za0; rfl; rfl; exact b1) | (apply Za0; rfl; rfl; exact b2) | (apply ZaG; rfl; rfl; exact b3))) : G := h
theorem ZvH {G : Prop} (h : G := by (first | (apply ZlD; rfl; rfl; exact hw) | (apply Za0; rfl; rfl; exact b1) | (apply Za0; rfl; rfl; exact b2))) : G := h
theorem Zjg (a b : Int) (ha : I64 a) (hb : I64 b) (w : World) : Does Tryz.prog 116 [.int .i64 a, .int .i64 b] w (fun v O => v = .tuple #[.int .i64 (if Zdr (a + b) then a + b else 0), .bool (Zdr (a + b))] /\ O = []) := by
 unfold I64 at ha hb
 have hw : IntKind.i64.wrap (a + b) = if a + b < -9223372036854775808 then a + b + 18446744073709551616 else if 9223372036854775807 < a + b then a + b - 18446744073709551616 else a + b := by
  rw [IntKind.wrap_i64]
  repeat' split
  all_goals omega
 refine Zaa Tryz.func116 rfl rfl rfl rfl ?_
 by_cases hlo : a + b < -9223372036854775808
 ·rw [if_pos hlo] at hw
  have hok : Zdr (a + b) = false := by unfold Zdr; rw [decide_eq_false (by omega)]; rfl
  have b1 : decide (a < a + b + 18446744073709551616) = true := decide_eq_true (by omega)
  have b2 : decide (0 < b) = false := decide_eq_false (by omega)
  have b3 : (!decide (b = 0)) = true := by rw [decide_eq_false (by omega)]; rfl
  rw [hok]
  repeat (first | (apply RL_pu; rfl; exact ZvI) | refine walk1 ?_)
  exact rtB
 rw [if_neg hlo] at hw
 by_cases hhi : 9223372036854775807 < a + b
 ·rw [if_pos hhi] at hw
  have hok : Zdr (a + b) = false := by unfold Zdr; rw [decide_eq_false (show ¬ a + b <= 9223372036854775807 by omega), Bool.and_false]
  have b1 : decide (a < a + b - 18446744073709551616) = false := decide_eq_false (by omega)
  have b2 : decide (0 < b) = true := decide_eq_true (by omega)
  have b3 : (!decide (b = 0)) = true := by rw [decide_eq_false (by omega)]; rfl
  rw [hok]
  repeat (first | (apply RL_pu; rfl; exact ZvI) | refine walk1 ?_)
  exact rtB
 rw [if_neg hhi] at hw
 have hok : Zdr (a + b) = true := by unfold Zdr; rw [decide_eq_true (by omega), decide_eq_true (by omega)]; rfl
 rw [hok, if_pos rfl]
 by_cases hp : 0 < b
 ·have b1 : decide (a < a + b) = true := decide_eq_true (by omega)
  have b2 : decide (0 < b) = true := decide_eq_true hp
  repeat (first | (apply RL_pu; rfl; exact ZvH) | refine walk1 ?_)
  exact rtB
 ·have b1 : decide (a < a + b) = false := decide_eq_false (by omega)
  have b2 : decide (0 < b) = false := decide_eq_false hp
  repeat (first | (apply RL_pu; rfl; exact ZvH) | refine walk1 ?_)
  exact rtB
theorem ZvG {G : Prop} (h : G := by (apply ZaG; rfl; rfl; exact b2)) : G := h
theorem ZjS (f : ByteArray) (w : World) (hL : LibW w) (hs : f.size <= 1000000000) : Does Tryz.prog 114 [.string f] w (fun v O => v = ptsV (Zbk f.data.toList) /\ O = []) := by
 have hc := fun w' (hw : Bel w.heap.size w w') => Zlb f ⟨#[47]⟩ w' (hL.up hw) (by omega)
 rw [show (⟨#[47]⟩ : ByteArray).data.toList = [47] from rfl] at hc
 have hk := fun w' (hw : Bel w.heap.size w w') => ZeS f w' (hL.up hw) hs
 rw [Ztj]
 generalize ZaK f.data.toList = K at *
 generalize cutV f.data.toList [47] = ab at *
 obtain ⟨a, b, ok⟩ := ab
 dsimp only at hc ⊢
 refine Zaa Tryz.func114 rfl rfl rfl rfl ?_
 cases ok with
 | false =>
  rw [if_neg (by rintro ⟨h, _⟩; cases h)]
  repeat (first | refine und ?_ | (refine js ?_; (first | (refine Zad hc ?_) | (refine Zad hk ?_))) | refine walk ?_)
  exact Zf6 _ _ _ [] (.tmp rfl) (.tmp rfl) (.tmp rfl) .nil ⟨rfl, rfl⟩
 | true =>
  by_cases h2 : K = 2
  ·subst h2
   rw [if_pos ⟨rfl, .inl rfl⟩]
   repeat (first | (refine js ?_; (first | (refine Zad hc ?_) | (refine Zad hk ?_))) | refine walk ?_)
   exact Zf6 _ _ _ [] (.tmp rfl) (.tmp rfl) (.tmp rfl) .nil ⟨rfl, rfl⟩
  ·have b2 : (!decide (K = 2)) = true := by rw [decide_eq_false h2]; rfl
   by_cases h5 : K = 5
   ·subst h5
    rw [if_pos ⟨rfl, .inr rfl⟩]
    repeat (first | (apply RL_pu; rfl; exact ZvG) | (refine js ?_; (first | (refine Zad hc ?_) | (refine Zad hk ?_))) | refine walk1 ?_)
    exact Zf6 _ _ _ [] (.tmp rfl) (.tmp rfl) (.tmp rfl) .nil ⟨rfl, rfl⟩
   ·have b5 : (!decide (K = 5)) = true := by rw [decide_eq_false h5]; rfl
    rw [if_neg (by rintro ⟨_, h | h⟩; exact h2 h; exact h5 h)]
    repeat (first | (apply RL_pu; rfl; (first | exact ZvG | (apply ZaG; rfl; rfl; exact b5))) | (refine js ?_; (first | (refine Zad hc ?_) | (refine Zad hk ?_))) | refine walk1 ?_)
    exact Zf6 _ _ _ [] (.tmp rfl) (.tmp rfl) (.tmp rfl) .nil ⟨rfl, rfl⟩
theorem Zkk (s : ByteArray) : (⟨s.data.toList.toArray⟩ : ByteArray) = s := by
 apply ByteArray.ext
 simp
theorem ZvF {G : Prop} (h : G := by (apply ZaH; rfl; rfl; exact hb0)) : G := h
theorem Zjo {G : Prop} (h : G := by (first | (apply Ze4; rfl; rfl; exact q1) | (apply Ze4; rfl; rfl; exact q2))) : G := h
theorem Zpa {G : Prop} (h : G := by first | (apply Qy_y; rfl; exact Zjo) | exact QyA) : G := h
theorem Zlw {G : Prop} (h : G := by repeat (first | exact QF.nil | (apply QF.mk; rfl; rfl; decide +kernel; exact Zpa))) : G := h
theorem ZlJ {G : Prop} (h : G := by (apply Zgy; rfl; rfl; exact hb)) : G := h
theorem ZvE {G : Prop} (h : G := by (first | (apply ZaH; rfl; rfl; exact hb3) | (apply ZaH; rfl; rfl; exact hb4) | (apply ZaH; rfl; rfl; exact hb1) | (apply ZaH; rfl; rfl; exact hb5))) : G := h
theorem Zkb (f letter : ByteArray) (off save : Int) (w : World) (hL : LibW w) (hs : f.size <= 1000000000) (hl : letter.size <= 1000000000) (ho : I64 off) (hv : I64 save) :
  Does Tryz.prog 80 [.string f, .int .i64 off, .agg #[.int .i64 save, .string letter]] w (fun v O => v = xpV (Zb7 f.data.toList off save letter.data.toList) /\ O = []) := by
 have hp := fun w' (hw : Bel w.heap.size w w') => ZjS f w' (hL.up hw) hs
 have hk := fun w' (hw : Bel w.heap.size w w') => ZeS f w' (hL.up hw) hs
 have har := fun w' (hw : Bel w.heap.size w w') => Zjc f w' (hL.up hw) hs
 have hsm := fun w' => Zjg off save ho hv w'
 have h3 := ZwP f.data.toList
 have hcl := Zlc f.data.toList [37, 115]
 have hfs : f.data.toList.length = f.size := by simp
 rw [hfs] at hcl
 have hfb := Zkk f
 unfold arV at har
 unfold Zb7
 refine Zaa Tryz.func80 rfl rfl rfl rfl ?_
 cases hP : Zbk f.data.toList with
 | some ab =>
  obtain ⟨a, b⟩ := ab
  rw [hP] at hp
  simp only [ptsV] at hp
  dsimp only
  by_cases h0 : save = 0
  ·subst h0
   rw [if_pos rfl]
   repeat (first | refine walk ?_ | (refine jg ?_; (try intro F); (first | (refine Zad hp ?_) | (refine bx ?_; intro bk)); refine fin ?_) | (refine jn ?_; (try intro F); (first | (refine bx ?_; intro bk) | (apply Zag; exact PuA)); refine fin ?_))
   exact rtB
  ·rw [if_neg h0]
   have hb0 : decide (save = 0) = false := decide_eq_false h0
   repeat (first | (apply RL_pu; rfl; exact ZvF) | (apply RD_Q; rfl; rfl; decide +kernel; rfl; rfl; exact QyFmtC4) | refine walk1 ?_ | (refine jg ?_; (try intro F); (first | (refine Zad hp ?_) | (refine bx ?_; intro bk)); first | refine ⟨_, EndsA, QFFmtC4, ?_⟩ | refine fin ?_) | (refine jn ?_; (try intro F); (first | (refine bx ?_; intro bk) | (apply Zag; first | exact ZvF | exact PuA)); first | refine ⟨_, EndsA, QFFmtC4, ?_⟩ | refine fin ?_))
   exact rtB
 | none =>
 rw [hP] at hp
 simp only [ptsV] at hp
 dsimp only
 generalize ZaK f.data.toList = K at *
 by_cases hK3 : K = 3
 ·subst hK3
  rw [if_pos rfl, h3 rfl]
  dsimp only
  generalize (cutV f.data.toList [37, 115]).1 = a at *
  generalize (cutV f.data.toList [37, 115]).2.1 = b at *
  have hs1 : (⟨a.toArray⟩ : ByteArray).size = a.length := by show a.toArray.size = a.length; simp
  have hs2 : (⟨b.toArray⟩ : ByteArray).size = b.length := by show b.toArray.size = b.length; simp
  have q1 : (⟨a.toArray⟩ : ByteArray).size + letter.size <= 9223372036854775807 := by omega
  have q2 : ((⟨a.toArray⟩ : ByteArray) ++ letter).size + (⟨b.toArray⟩ : ByteArray).size <= 9223372036854775807 := by rw [ByteArray.size_append]; omega
  have q3 : (((⟨a.toArray⟩ : ByteArray) ++ letter ++ ⟨b.toArray⟩).size : Int) <= 9223372036854775807 := by rw [ByteArray.size_append, ByteArray.size_append]; omega
  have hx : ((⟨a.toArray⟩ : ByteArray) ++ letter ++ ⟨b.toArray⟩).data.toList = a ++ letter.data.toList ++ b := by simp
  have hXb := Zkk ((⟨a.toArray⟩ : ByteArray) ++ letter ++ ⟨b.toArray⟩)
  have hab := fun w' => Zgt ((⟨a.toArray⟩ : ByteArray) ++ letter ++ ⟨b.toArray⟩) q3 w'
  rw [show Zsd ((⟨a.toArray⟩ : ByteArray) ++ letter ++ ⟨b.toArray⟩) = ZcZ (a ++ letter.data.toList ++ b) from by unfold Zsd ZcZ; rw [hx]] at hab
  rw [hx] at hXb
  have hri := fun w' => ZgM ((⟨a.toArray⟩ : ByteArray) ++ letter ++ ⟨b.toArray⟩) (ZcZ (a ++ letter.data.toList ++ b)) w'
  cases hok : ZcZ (a ++ letter.data.toList ++ b) with
  | false =>
   rw [hok] at hab hri
   rw [if_neg (by decide)]
   repeat (first | (apply RL_pu; rfl; exact Zjo) | (apply RD_Q; rfl; rfl; decide +kernel; rfl; rfl; exact Zpa) | refine walk1 ?_ | (refine jg ?_; (try intro F); (first | (refine Zad hp ?_) | (refine Zad hk ?_) | (refine Zad har ?_) | (refine Zad (fun w' hw => hab w') ?_) | (refine Zad (fun w' hw => hri w') ?_) | (refine bx ?_; intro bk)); first | refine ⟨_, EndsA, Zlw, ?_⟩ | refine fin ?_) | (refine jn ?_; (try intro F); (first | (refine bx ?_; intro bk) | (apply Zag; first | exact Zjo | exact PuA)); first | refine ⟨_, EndsA, Zlw, ?_⟩ | refine fin ?_))
   exact rtB
  | true =>
   rw [hok] at hab hri
   rw [if_pos rfl]
   unfold xpV
   dsimp only
   rw [hXb]
   repeat (first | (apply RL_pu; rfl; exact Zjo) | (apply RD_Q; rfl; rfl; decide +kernel; rfl; rfl; exact Zpa) | refine walk1 ?_ | (refine jg ?_; (try intro F); (first | (refine Zad hp ?_) | (refine Zad hk ?_) | (refine Zad har ?_) | (refine Zad (fun w' hw => hab w') ?_) | (refine Zad (fun w' hw => hri w') ?_) | (refine bx ?_; intro bk)); first | refine ⟨_, EndsA, Zlw, ?_⟩ | refine fin ?_) | (refine jn ?_; (try intro F); (first | (refine bx ?_; intro bk) | (apply Zag; first | exact Zjo | exact PuA)); first | refine ⟨_, EndsA, Zlw, ?_⟩ | refine fin ?_))
   exact rtB
 have hb3 : decide (K = 3) = false := decide_eq_false hK3
 rw [if_neg hK3]
 by_cases hK4 : K = 4
 ·subst hK4
  rw [if_pos rfl]
  cases hok : Zdr (off + save) with
  | false =>
   rw [hok] at hsm
   rw [if_neg (by rintro ⟨h, _⟩; cases h)]
   have htx := fun w' => ZeG 0 w'
   have hr2 := fun w' => ZgM ⟨(ZaS 0).toArray⟩ false w'
   rw [if_neg (by decide)] at hsm
   repeat (first | refine walk ?_ | (refine jg ?_; (try intro F); (first | (refine Zad hp ?_) | (refine Zad hk ?_) | (refine Zad (fun w' hw => hsm w') ?_) | (refine Zad (fun w' hw => htx w') ?_) | (refine Zad (fun w' hw => hr2 w') ?_) | (refine bx ?_; intro bk)); refine fin ?_) | (refine jn ?_; (try intro F); (first | (refine bx ?_; intro bk) | (apply Zag; exact PuA)); refine fin ?_))
   exact rtB
  | true =>
   rw [hok, if_pos rfl] at hsm
   have htx := fun w' => ZeG (off + save) w'
   have hri := fun ok w' => ZgM ⟨(ZaS (off + save)).toArray⟩ ok w'
   by_cases he : ZaS (off + save) = []
   ·rw [if_neg (by rintro ⟨_, h⟩; exact h he)]
    have hr2 := hri false
    have hb : (!decide ((⟨(ZaS (off + save)).toArray⟩ : ByteArray) = ByteArray.empty)) = false := by rw [he]; decide
    repeat (first | (apply RL_pu; rfl; exact ZlJ) | (apply RD_Q; rfl; rfl; decide +kernel; rfl; rfl; exact QyFmtC6) | refine walk1 ?_ | (refine jg ?_; (try intro F); (first | (refine Zad hp ?_) | (refine Zad hk ?_) | (refine Zad (fun w' hw => hsm w') ?_) | (refine Zad (fun w' hw => htx w') ?_) | (refine Zad (fun w' hw => hr2 w') ?_) | (refine bx ?_; intro bk)); first | refine ⟨_, EndsA, QFFmtC6, ?_⟩ | refine fin ?_) | (refine jn ?_; (try intro F); (first | (refine bx ?_; intro bk) | (apply Zag; first | exact ZlJ | exact PuA)); first | refine ⟨_, EndsA, QFFmtC6, ?_⟩ | refine fin ?_))
    exact rtB
   ·rw [if_pos ⟨rfl, he⟩]
    have hr2 := hri true
    have hb : (!decide ((⟨(ZaS (off + save)).toArray⟩ : ByteArray) = ByteArray.empty)) = true := by
     rw [decide_eq_false (fun h => he (by simpa using congrArg (fun b : ByteArray => b.data.toList) h))]; rfl
    repeat (first | (apply RL_pu; rfl; exact ZlJ) | (apply RD_Q; rfl; rfl; decide +kernel; rfl; rfl; exact QyFmtC6) | refine walk1 ?_ | (refine jg ?_; (try intro F); (first | (refine Zad hp ?_) | (refine Zad hk ?_) | (refine Zad (fun w' hw => hsm w') ?_) | (refine Zad (fun w' hw => htx w') ?_) | (refine Zad (fun w' hw => hr2 w') ?_) | (refine bx ?_; intro bk)); first | refine ⟨_, EndsA, QFFmtC6, ?_⟩ | refine fin ?_) | (refine jn ?_; (try intro F); (first | (refine bx ?_; intro bk) | (apply Zag; first | exact ZlJ | exact PuA)); first | refine ⟨_, EndsA, QFFmtC6, ?_⟩ | refine fin ?_))
    exact rtB
 have hb4 : decide (K = 4) = false := decide_eq_false hK4
 rw [if_neg hK4]
 by_cases hK1 : K = 1
 ·subst hK1
  rw [if_pos (.inl rfl)]
  unfold xpV
  dsimp only
  rw [hfb]
  repeat (first | refine walk ?_ | (refine jg ?_; (try intro F); (first | (refine Zad hp ?_) | (refine Zad hk ?_) | (refine bx ?_; intro bk)); refine fin ?_) | (refine jn ?_; (try intro F); (first | (refine bx ?_; intro bk) | (apply Zag; exact PuA)); refine fin ?_))
  exact rtB
 have hb1 : decide (K = 1) = false := decide_eq_false hK1
 by_cases hK5 : K = 5
 ·subst hK5
  rw [if_pos (.inr rfl)]
  unfold xpV
  dsimp only
  rw [hfb]
  repeat (first | refine walk ?_ | (refine jg ?_; (try intro F); (first | (refine Zad hp ?_) | (refine Zad hk ?_) | (refine bx ?_; intro bk)); refine fin ?_) | (refine jn ?_; (try intro F); (first | (refine bx ?_; intro bk) | (apply Zag; exact PuA)); refine fin ?_))
  exact rtB
 have hb5 : decide (K = 5) = false := decide_eq_false hK5
 rw [if_neg (by rintro (h | h); exact hK1 h; exact hK5 h)]
 repeat (first | (apply RL_pu; rfl; exact ZvE) | (apply RD_Q; rfl; rfl; decide +kernel; rfl; rfl; exact QyFmtC7) | refine walk1 ?_ | (refine jg ?_; (try intro F); (first | (refine Zad hp ?_) | (refine Zad hk ?_) | (refine bx ?_; intro bk)); first | refine ⟨_, EndsA, QFFmtC7, ?_⟩ | refine fin ?_) | (refine jn ?_; (try intro F); (first | (refine bx ?_; intro bk) | (apply Zag; first | exact ZvE | exact PuA)); first | refine ⟨_, EndsA, QFFmtC7, ?_⟩ | refine fin ?_))
 exact rtB
end Go.Proofs.YtbjomhdhkpgbaaaGreatDoor
namespace Go.Wk
open Go Go.RowKit Go.ChangeMaps
def Rng (b r : Nat) (m left : List (ByteArray × Value)) (cur : Option (ByteArray × Value)) (w : World) : Prop :=
 ∃ (es : Array MapEntry) (clock since : Nat) (seen : Array Nat) (c0 : Nat), w.heap[b]? = some (.map es clock) /\ ZcK m es /\ stOk es clock /\ (∀ x ∈ es.toList, x.born < since) /\ since <= c0 /\ since <= clock /\ w.heap[r]? = some (.mapIter (some b) since seen c0) /\ ZcK left (leftOf es seen) /\
  ∀ kv, cur = some kv -> ∃ e ∈ es.toList, ∃ s0 : Array Nat, seen = s0.push e.born /\ c0 = clock /\ e.key = .string kv.1 /\ e.val = kv.2
theorem Rng.congr {b r : Nat} {m left : List (ByteArray × Value)} {cur : Option (ByteArray × Value)} {w w' : World} (h : Rng b r m left cur w) (h1 : w'.heap[b]? = w.heap[b]?) (h2 : w'.heap[r]? = w.heap[r]?) : Rng b r m left cur w' := by
 obtain ⟨es, clock, since, seen, c0, a1, a2, a3, a4, a5, a5', a6, a7, a8⟩ := h
 exact ⟨es, clock, since, seen, c0, h1.trans a1, a2, a3, a4, a5, a5', h2.trans a6, a7, a8⟩
section
variable {P : Program} {n : Nat} {wr : World} {fr : Fr} {O : List It} {ty : TypeId} {pos : String} {af : Array Edge} {dst : Option Tmp} {g : Option (Nat × Bool)} {Kp : Value -> List It -> Prop}
end
open Go Go.RowKit
def WF (F : Fence) : Prop := F = Fence.wide \/ ∃ l, F = Fence.wide.inRound l
theorem WF.fn {F : Fence} (h : WF F) (f : FuncId) : F.fn f := by rcases h with rfl | ⟨l, rfl⟩ <;> trivial
theorem WF.depth {F : Fence} (h : WF F) : F.depth = none := by rcases h with rfl | ⟨l, rfl⟩ <;> rfl
theorem WF.calls {F : Fence} (h : WF F) {n : Nat} {P : Program} {f : FuncId} {args : Array Value} {w : World} {R : Ending -> World -> Prop} (hc : Calls P f args w R) : CallsIn F n P f args w R := by
 rcases h with rfl | ⟨l, rfl⟩
 ·exact callsIn_wide.2 hc
 ·exact CallsIn.inRound l (callsIn_wide.2 hc)
def calm : Result Next -> Prop
 | .ok (.value _) _ => True
 | .ok .skip _ => True
 | .ok (.enter _ _) _ => True
 | .halt _ _ => True
 | _ => False
theorem Zst {F : Fence} (hF : WF F) {n : Nat} {P : Program} {o : Oper} {a a2 : Act} {w : World} {K K2 : Act -> World -> Prop} {Q Q2 : Exit -> Act -> World -> Prop} (he : a2.eval = a.eval) (hd : ∀ c, o.op ≠ .defer c) (hc : calm ((execOp a.eval o).run P w)) (h : o.wp P a w K Q) (hQ : ∀ e a w, ¬ Q e a w)
  (hK : ∀ v w', K (a.put o.dst v) w' -> K2 (a2.put o.dst v) w') : o.wpIn F n P a2 w K2 Q2 := by
 refine ⟨fun f _ => hF.fn f, ?_⟩
 rw [Oper.semAt_eq _ _ _ hd, he]
 unfold Oper.wp at h
 generalize (execOp a.eval o).run P w = r at *
 cases r with
 | ok nx w' =>
  cases nx with
  | value v => exact hK _ _ h
  | skip => exact hK _ _ h
  | enter f args =>
   rw [Oper.upon_enter] at h
   rw [Oper.uponIn_enter]
   refine ⟨fun hh => (by rw [hF.depth] at hh; cases hh), (hF.calls h).mono ?_⟩
   intro e w'' he
   cases e with
   | returned v => exact hK _ _ he
   | panicked c => exact (hQ _ _ _ he).elim
   | outgrown => exact he.elim fun a h => h.elim fun w h => (hQ _ _ _ h).elim
  | _ => exact hc.elim
 | halt x w' =>
  cases x with
  | panic v => exact (hQ _ _ _ h).elim
  | _ => exact h.elim
section
variable {F : Fence} {P : Program} {n : Nat} {wr : World} {ops : Array Oper} {rest : List Oper} {K : Fr -> List It -> Prop} {fr : Fr} {O : List It} {ty : TypeId} {pos : String} {af : Array Edge} {D : List Deferred}
def actD (D : List Deferred) (a : Act) : Act := { a with defers := D }
def ZA1 (D : List Deferred) (n : Nat) (wr : World) (K : Fr -> List It -> Prop) : Exit -> Act -> World -> Prop := fun e a w => e = .normal /\ a.defers = D /\ ∃ fr O, St n wr fr O (actD [] a) w /\ K fr O
def RLI (F : Fence) (D : List Deferred) (P : Program) (n : Nat) (wr : World) (ops : Array Oper) (l : List Oper) (K : Fr -> List It -> Prop) (fr : Fr) (O : List It) : Prop :=
 ∀ a w, St n wr fr O a w -> wpListIn F 0 P ops (ZA1 D n wr K) l (actD D a) w
theorem Zeh {a : Act} {fr : Fr} {w : World} (h : St n wr fr O a w) : actD [] (actD D a) = a := by
 have := h.sim.defers
 cases a
 simp only at this
 subst this
 rfl
theorem ZdB (a : Act) (d : Option Tmp) (v : Value) : (actD D a).put d v = actD D (a.put d v) := by cases d <;> rfl
theorem ZbB (h : K fr O) : RLI F D P n wr ops [] K fr O := fun a w hs => ⟨rfl, rfl, fr, O, by rw [Zeh hs]; exact hs, h⟩
theorem ZbF (hF : WF F) {d : Nat} {op : Op} {v : Value} (hd : Nat.ble (d + 1) n = true) (hop : ∀ c, op ≠ .defer c) (h : Pu P n wr fr O op ty v) (k : RLI F D P n wr ops rest K ((d, v) :: fr) O) :
  RLI F D P n wr ops (⟨some d, op, ty, pos, af, none⟩ :: rest) K fr O := by
 intro a w hs
 have hrun := h a w hs (some d) pos af none
 refine wpListIn_plain rfl fun K' hK => Zst (a := a) (K := fun x w => x = a.put (some d) v /\ St n wr ((d, v) :: fr) O x w) (Q := fun _ _ _ => False) hF rfl hop (by rw [hrun]; trivial) ?_ (fun _ _ _ h => h) ?_
 ·unfold Oper.wp
  rw [hrun, Oper.upon_value]
  exact ⟨rfl, hs.sim.put hd v, hs.old, hs.own⟩
 ·rintro u w' ⟨e, hst⟩
  rw [ZdB]
  exact hK _ _ (k _ _ (e ▸ hst))
theorem ZdU (hF : WF F) {dst : Option Tmp} {op : Op} (hd : ∀ d, dst = some d -> Nat.ble (d + 1) n = true) (hop : ∀ c, op ≠ .defer c) (hc : ∀ a w, St n wr fr O a w -> calm ((execOp a.eval ⟨dst, op, ty, pos, af, none⟩).run P w))
  (h : Stp P n wr fr O ⟨dst, op, ty, pos, af, none⟩ fun v O' => RLI F D P n wr ops rest K (updF fr dst v) O') : RLI F D P n wr ops (⟨dst, op, ty, pos, af, none⟩ :: rest) K fr O := by
 intro a w hs
 refine wpListIn_plain rfl fun K' hK => Zst (a := a) (K := fun x w => ∃ v O', x = a.put dst v /\ Bel wr.heap.size wr w /\ Zat wr.heap.size O' w /\ RLI F D P n wr ops rest K (updF fr dst v) O') (Q := fun _ _ _ => False) hF rfl hop (hc a w hs) ?_ (fun _ _ _ h => h) ?_
 ·exact h a w hs _ _ fun v O' w' h1 h2 h3 => ⟨v, O', rfl, h1, h2, h3⟩
 ·rintro u w' ⟨v, O', e, h1, h2, h3⟩
  rw [ZdB]
  refine hK _ _ (h3 _ _ ?_)
  show St n wr _ O' (a.put dst u) w'
  rw [e]
  cases dst with
  | none => exact ⟨hs.sim, h1, h2⟩
  | some d => exact ⟨hs.sim.put (hd d rfl) v, h1, h2⟩
theorem Zut {dst : Option Tmp} {g : Option (Nat × Bool)} {f : FuncId} {xs : List Operand} {ts : Array TypeId} [Body P f] (a : Act) (w : World) : calm ((execOp a.eval ⟨dst, .call ⟨.value (.func f), xs.toArray, ts⟩, ty, pos, af, g⟩).run P w) := by
 simp [execOp, resolve, Act.eval, Deferred.ofValue, invoke, Zbv, calm]
theorem Zb6 {dst : Option Tmp} {g : Option (Nat × Bool)} {f : FuncId} {gx : Operand} {xs : List Operand} {ts : Array TypeId} {us cs : List Value} [Body P f] {a : Act} {w : World} (hs : St n wr fr O a w) (hg : ev fr gx = some (.func (.func f) us.toArray cs.toArray)) :
  calm ((execOp a.eval ⟨dst, .call ⟨.value gx, xs.toArray, ts⟩, ty, pos, af, g⟩).run P w) := by
 simp [execOp, resolve, hs.sim.ev hg, Deferred.ofValue, invoke, Zbv, calm]
theorem ZdS {dst : Option Tmp} {g : Option (Nat × Bool)} {t : TypeId} {x y : Operand} (a : Act) (w : World) : calm ((execOp a.eval ⟨dst, .store t x y, ty, pos, af, g⟩).run P w) := by
 simp only [execOp, Sem.run_bind]
 generalize (Instr.storeAt t (a.eval x) (a.eval y)).run P w = r
 cases r <;> simp [calm, Result.andThen]
theorem Zji {dst : Option Tmp} {op : Op} {j : Nat} {b : Bool} {oj : Oper} {d : Nat} (hj : ops[j]? = some oj) (hd : oj.dst = some d) (hb : look fr d = some (.bool b))
  (k : RLI F D P n wr ops (⟨dst, op, ty, pos, af, none⟩ :: rest) K fr O) : RLI F D P n wr ops (⟨dst, op, ty, pos, af, some (j, b)⟩ :: rest) K fr O := by
 intro a w hs
 have := k a w hs
 have hy : yielded ops (actD D a).tmps j = some b := by
  show yielded ops a.tmps j = some b
  simp [yielded, hj, hd, hs.sim.at_ d _ hb]
 simp only [wpListIn, Region.wanted, hy, if_true, beq_self_eq_true] at this ⊢
 exact this
theorem Zno (hF : WF F) {d' : Nat} {op : Op} {j : Nat} {b b' : Bool} {oj : Oper} {d : Nat} (hj : ops[j]? = some oj) (hd : oj.dst = some d) (hb : look fr d = some (.bool b')) (hne : b' = !b) (hdn : Nat.ble (d' + 1) n = true)
  (k : RLI F D P n wr ops rest K ((d', undef) :: fr) O) : RLI F D P n wr ops (⟨some d', op, ty, pos, af, some (j, b)⟩ :: rest) K fr O := by
 intro a w hs
 have := k (a.put (some d') undef) w ⟨hs.sim.put hdn undef, hs.old, hs.own⟩
 have hy : yielded ops (actD D a).tmps j = some b' := by
  show yielded ops a.tmps j = some b'
  simp [yielded, hj, hd, hs.sim.at_ d _ hb]
 have hw : Region.wanted (⟨some d', op, ty, pos, af, some (j, b)⟩ : Oper) (yielded ops (actD D a).tmps) = false := by
  subst hne
  simp [Region.wanted, hy]
 simp only [wpListIn, hw]
 exact ⟨fun f _ => hF.fn f, by rw [ZdB]; exact this⟩
def ZtH (D : List Deferred) (n : Nat) (wr : World) (Q : Exit -> Fr -> List It -> Prop) : Exit -> Act -> World -> Prop := fun e a w => a.defers = D /\ ∃ fr O, St n wr fr O (actD [] a) w /\ Q e fr O
def WI (F : Fence) (D : List Deferred) (P : Program) (n : Nat) (wr : World) (c : Code) (Q : Exit -> Fr -> List It -> Prop) (fr : Fr) (O : List It) : Prop :=
 ∀ a w, St n wr fr O a w -> c.wpIn F 0 P (ZtH D n wr Q) (actD D a) w
theorem Ze1 {a : Act} (h : a.defers = D) : actD D (actD [] a) = a := by cases a; simp only at h; subst h; rfl
variable {Q : Exit -> Fr -> List It -> Prop}
theorem ZbW {x y : Code} (h : WI F D P n wr x (Zap (WI F D P n wr y Q) Q) fr O) : WI F D P n wr (.seq x y) Q fr O := by
 intro a w hs
 refine wpIn_seq (wpIn_mono (h a w hs) ?_)
 rintro e a' w' ⟨hd, fr', O', hs', hq⟩
 cases e with
 | normal =>
  have := hq _ w' hs'
  rw [Ze1 hd] at this
  exact this
 | _ => exact ⟨hd, fr', O', hs', hq⟩
theorem Zls (h : Q .normal fr O) : WI F D P n wr .skip Q fr O := fun a _ hs => wpIn_skip ⟨rfl, fr, O, by rw [Zeh hs]; exact hs, h⟩
theorem Zjh (h : Q .ret fr O) : WI F D P n wr .ret Q fr O := fun a _ hs => wpIn_ret ⟨rfl, fr, O, by rw [Zeh hs]; exact hs, h⟩
theorem Zej {c : Operand} {x y : Code} {b : Bool} (hc : ev fr c = some (.bool b)) (ht : b = true -> WI F D P n wr x Q fr O) (hf : b = false -> WI F D P n wr y Q fr O) : WI F D P n wr (.cond c x y) Q fr O := by
 intro a w hs
 have he : (actD D a).eval c = .bool b := hs.sim.ev hc
 exact wpIn_cond_split he (fun h => ht h a w hs) (fun h => hf h a w hs)
theorem ZbX {id : Nat} {l : List Oper} (h : RLI F D P n wr l.toArray l (Q .normal) fr O) : WI F D P n wr (.region id l.toArray false) Q fr O := by
 intro a w hs
 refine wpIn_mono (wpIn_region_lit (h a w hs)) ?_
 rintro e a' w' ⟨rfl, hd, fr', O', hs', hq⟩
 exact ⟨hd, fr', O', hs', hq⟩
def Zbm (l : Nat) (r : Loop) : It := .fact (fun k => k = l) (fun w => w.heap[l]? = some (.loop r))
def Zci (b : Nat) : It := .fact (fun k => k = b) (fun w => w.heap[b]? = some (.deferred (some [])))
theorem Zbm.at {l : Nat} {r : Loop} {w : World} (h : (Zbm l r).sat w) : w.heap[l]? = some (.loop r) := Za1 h
theorem Zci.at {b : Nat} {w : World} (h : (Zci b).sat w) : w.heap[b]? = some (.deferred (some [])) := Za1 h
theorem Zd1 (w : World) (l : Nat) (o : Obj) : (w.putObj l o).heap.size = w.heap.size := by simp [World.putObj]
theorem ZfY {a : Act} {w : World} {l : Nat} {r r' : Loop} {O' : List It} (hs : St n wr fr O a w) (hu : Upd O (Zbm l r) (Zbm l r') O') : St n wr fr O' a (w.putObj l (.loop r')) := by
 have hin := hs.own.inb _ hu.mem l rfl
 refine ⟨hs.sim, hs.old.trans ⟨⟨rfl, rfl, rfl, by rw [Zd1]; exact Nat.le_refl _, fun i hi => World.putObj_heap_other (by omega)⟩⟩, hs.own.upd hu hs.old.size (by rw [Zd1]; exact Nat.le_refl _) (fun i _ hi => World.putObj_heap_other hi) ?_ (fun i hi => .inl hi)⟩
 intro w' ha
 rw [ha l rfl]
 exact World.putObj_heap_same hin.2
def ZAd (l : Nat) (r : Loop) (R : Bool -> List It -> Prop) : Exit -> Fr -> List It -> Prop
 | .normal => fun _ O => ∃ O', Upd O (Zbm l { r with state := .busy }) (Zbm l { r with state := .ready, pending := none }) O' /\ R true O'
 | .ret => fun _ O => ∃ O', Upd O (Zbm l { r with state := .busy }) (Zbm l { r with state := .done, pending := some .ret }) O' /\ R false O'
 | _ => fun _ _ => False
def Zc0 (P : Program) (l : Nat) (v : Value) (wr : World) (O : List It) (R : Bool -> List It -> Prop) : Prop :=
 ∀ w, Bel wr.heap.size wr w -> Zat wr.heap.size O w -> YieldAt Fence.wide 0 P l #[v] w fun e w' => ∃ b O', e = .returned (.bool b) /\ Bel wr.heap.size wr w' /\ Zat wr.heap.size O' w' /\ R b O'
theorem Zhg {l p : Nat} {r : Loop} {v : Value} {a0 : Act} {O1 : List It} {R : Bool -> List It -> Prop} (hp : r.params = #[p]) (hr : r.state = .ready) (ht : r.tmps = a0.tmps) (hsim : Sim n fr a0) (hpn : Nat.ble (p + 1) n = true)
  (hu : Upd O (Zbm l r) (Zbm l { r with state := .busy }) O1) {id : Nat} {la : List Oper} (hass : r.assign = .region id la.toArray false)
  (hb : RLI (Fence.wide.inRound l) [] P n wr la.toArray la (fun fr' O' => O' = O /\ WI (Fence.wide.inRound l) [] P n wr r.body (ZAd l r R) fr' O1) ((p, v) :: fr) O) : Zc0 P l v wr O R := by
 intro w hB hH
 have hl := Zbm.at (hH.sat _ hu.mem)
 have hy := run_yield (P := P) (args := #[v]) hl (by rw [hp]; rfl)
 rw [hp, ht] at hy
 refine ⟨r.fn, _, r.assign, r.body, hy, roundIn_of_wpIn trivial ?_⟩
 have hst : St n wr ((p, v) :: fr) O { tmps := a0.tmps.setIfInBounds p v, defers := [] } w := by
  have := hsim.put hpn v
  refine ⟨?_, hB, hH⟩
  have e : ({ tmps := a0.tmps.setIfInBounds p v, defers := [] } : Act) = a0.put (some p) v := by
   have := hsim.defers
   simp [Act.put, this]
  rw [e]
  exact this
 rw [hass, show Array.foldl (fun tmps (x : Tmp × Value) => match x with | (t, a) => tmps.setIfInBounds t a) a0.tmps (#[p].zip #[v]) = a0.tmps.setIfInBounds p v by simp]
 refine wpIn_mono (wpIn_region_lit (hb _ w hst)) ?_
 rintro e a' w' ⟨rfl, hd, fr', O', hs', rfl, hW⟩
 have hl' := Zbm.at (hs'.own.sat _ hu.mem)
 refine ⟨_, run_beginRound hl' hr, ?_⟩
 have hs2 := ZfY hs' hu
 have h3 := hW _ _ hs2
 rw [Ze1 hd] at h3
 refine wpIn_mono h3 ?_
 rintro e2 a2 w2 ⟨hd2, fr2, O2, hs3, hq⟩
 cases e2 with
 | normal =>
  obtain ⟨O3, hu3, hR⟩ := hq
  have hl3 := Zbm.at (hs3.own.sat _ hu3.mem)
  have hs4 := ZfY hs3 hu3
  exact ⟨_, _, run_endRound none hl3, true, O3, rfl, hs4.old, hs4.own, hR⟩
 | ret =>
  obtain ⟨O3, hu3, hR⟩ := hq
  have hl3 := Zbm.at (hs3.own.sat _ hu3.mem)
  have hs4 := ZfY hs3 hu3
  exact ⟨_, _, run_endRound (some .ret) hl3, false, O3, rfl, hs4.old, hs4.own, hR⟩
 | exit id => exact hq.elim
 | goto t => exact hq.elim
 | panic ch => exact hq.elim
 | outgrown => exact hq.elim
theorem Znn {d l : Nat} {gx y : Operand} {ts : Array TypeId} {v : Value} {R : Bool -> List It -> Prop} (hd : Nat.ble (d + 1) n = true) (hg : ev fr gx = some (.func (.yield l) #[] #[])) (hx : ev fr y = some v) (h : Zc0 P l v wr O R)
  (k : ∀ b O', R b O' -> RLI Fence.wide [] P n wr ops rest K ((d, .bool b) :: fr) O') : RLI Fence.wide [] P n wr ops (⟨some d, .call ⟨.value gx, #[y], ts⟩, ty, pos, af, none⟩ :: rest) K fr O := by
 intro a w hs
 refine wpListIn_plain rfl fun K' hK => ⟨fun f _ => trivial, ?_⟩
 obtain ⟨fn, tmps, assign, body, hy, hR⟩ := h w hs.old hs.own
 have e : actD [] a = a := by
  have := hs.sim.defers
  cases a; simp only at this; subst this; rfl
 rw [e]
 have hrun : (Oper.semAt Fence.wide.round a.eval ⟨some d, .call ⟨.value gx, #[y], ts⟩, ty, pos, af, none⟩).run P w = .ok (.round l fn tmps assign body) w := by
  rw [Oper.semAt_eq _ _ _ (by intro c hc; cases hc)]
  simp [execOp, resolve, hs.sim.ev hg, hs.sim.ev hx, Deferred.ofValue, invoke, hy]
 rw [hrun, Oper.uponIn_round]
 refine ⟨fun hh => (by cases hh), hR.mono ?_⟩
 rintro e2 w' ⟨b, O', rfl, h1, h2, h3⟩
 have := k b O' h3 (a.put (some d) (.bool b)) w' ⟨hs.sim.put hd _, h1, h2⟩
 refine hK _ _ ?_
 have e2 : actD [] (a.put (some d) (.bool b)) = a.put (some d) (.bool b) := by rw [<- ZdB, e]
 rw [e2] at this
 exact this
theorem Znj {id : Nat} {l : List Oper} (h : RLI Fence.wide [] P n wr l.toArray l (Q .normal) fr O) : W P n wr (.region id l.toArray false) Q fr O := by
 intro a w hs
 have e : actD [] a = a := by
  have := hs.sim.defers
  cases a; simp only at this; subst this; rfl
 have h1 := h a w hs
 rw [e] at h1
 refine wpIn_wide.1 (wpIn_mono (wpIn_region_lit h1) ?_)
 rintro e a' w' ⟨rfl, hd, fr', O', hs', hq⟩
 refine ⟨fr', O', ?_, hq⟩
 rw [show a' = actD [] a' from (by cases a'; simp only at hd; subst hd; rfl)]
 exact hs'
theorem SubO.trans {A B C : List It} (h : SubO A B) (k : SubO B C) : SubO A C := by
 obtain ⟨R1, h1⟩ := h.perm
 obtain ⟨R2, h2⟩ := k.perm
 exact SubO.ofPerm (R := R1 ++ R2) (h2.trans (by rw [<- List.append_assoc]; exact h1.append_right R2))
theorem ZxQ {R : Value -> List It -> Prop} (O' : List It) (hO : SubO O' O) (hR : R (.tuple #[]) O') : retQ P wr [] R .ret fr O := ⟨[], O', rfl, hO, hR⟩
theorem Zni {id d0 d1 d2 l : Nat} {x y g : Operand} {op1 : Op} {ty0 ty1 : TypeId} {p0 p1 : String} {f0 f1 : Array Edge} {ts : Array TypeId} {u v : Value} {R : Bool -> List It -> Prop} (n0 : Nat.ble (d0 + 1) n = true) (n1 : Nat.ble (d1 + 1) n = true) (n2 : Nat.ble (d2 + 1) n = true) (hop : ∀ c, op1 ≠ .defer c)
  (hx : ev fr x = some u) (h1 : Pu P n wr ((d0, u) :: fr) O op1 ty1 v) (hg : ev ((d1, v) :: (d0, u) :: fr) g = some (.func (.yield l) #[] #[])) (hy : ev ((d1, v) :: (d0, u) :: fr) y = some v) (hY : Zc0 P l v wr O R)
  (k : ∀ b O', R b O' -> RLI Fence.wide [] P n wr (⟨some d0, .move x, ty0, p0, f0, none⟩ :: ⟨some d1, op1, ty1, p1, f1, none⟩ :: ⟨some d2, .call ⟨.value g, #[y], ts⟩, ty, pos, af, none⟩ :: rest).toArray rest (Q .normal) ((d2, .bool b) :: (d1, v) :: (d0, u) :: fr) O') :
  W P n wr (.region id (⟨some d0, .move x, ty0, p0, f0, none⟩ :: ⟨some d1, op1, ty1, p1, f1, none⟩ :: ⟨some d2, .call ⟨.value g, #[y], ts⟩, ty, pos, af, none⟩ :: rest).toArray false) Q fr O :=
 Znj (ZbF (.inl rfl) n0 (by intro c h; cases h) (Pu_move hx) (ZbF (.inl rfl) n1 hop h1 (Znn n2 hg hy hY k)))
theorem St.allocFact {a : Act} {w : World} (hs : St n wr fr O a w) (o : Obj) : St n wr fr (.fact (fun k => k = w.heap.size) (fun w' => w'.heap[w.heap.size]? = some o) :: O) a (w.alloc o) := by
 have hB : Bel w.heap.size w (w.alloc o) := (Bel.refl _ _).alloc (Nat.le_refl _) _
 refine ⟨hs.sim, hs.old.trans (hB.mono hs.old.size), hs.own.grow (O' := [_]) hB hs.old.size ⟨fun i hi => ?_, fun i hi b hb => ?_, List.pairwise_singleton _ _⟩⟩
 ·rw [List.mem_singleton.1 hi]
  intro w' ha
  rw [ha _ rfl]
  exact World.alloc_heap_new w o
 ·rw [List.mem_singleton.1 hi] at hb
  obtain rfl : b = w.heap.size := hb
  exact ⟨Nat.le_refl _, by simp⟩
def ZgR (D : Nat) : List Deferred := [{ target := .collected D, args := #[] }]
def ZhA (fn : FuncId) (tm : Array Value) (p : Tmp) (assign body : Code) (D : Nat) : Loop := { state := .ready, pending := none, fn := fn, tmps := tm, params := #[p], assign := assign, body := body, defers := D }
theorem ZpY {gf : FuncId} [Body P gf] {lb : List Value} {g : Operand} {p : Tmp} {assign body : Code} {Q2 : Exit -> Act -> World -> Prop} {a : Act} {w : World} (K : Option Code -> List It -> Prop) (hs : St n wr fr O a w) (hg : ev fr g = some (.func (.func gf) #[] lb.toArray))
  (hit : ∀ fn l D, Zal P gf (.func (.yield l) #[] #[] :: lb) wr (Zbm l (ZhA fn a.tmps p assign body D) :: Zci D :: O) fun _ O' => ∃ jump O2 st, SubO (Zbm l { ZhA fn a.tmps p assign body D with state := st, pending := jump } :: Zci D :: O2) O' /\ st ≠ .busy /\ K jump O2)
  (hk : ∀ jump O2 D w', K jump O2 -> St n wr fr (Zci D :: O2) a w' -> match jump with | none => Q2 .normal (actD (ZgR D) a) w' | some c => c.wp P Q2 (actD (ZgR D) a) w') : (Code.rangeFunc g #[p] assign body).wp P Q2 a w := by
 refine (wpIn_wide (n := 0)).1 (wpIn_rangeFunc fun fn _ => ?_)
 have h1 := hs.allocFact (.deferred (some []))
 have h2 := h1.allocFact (.loop (ZhA fn a.tmps p assign body w.heap.size))
 rw [World.size_alloc] at h2
 have hst : St n wr fr (Zbm (w.heap.size + 1) (ZhA fn a.tmps p assign body w.heap.size) :: Zci w.heap.size :: O) a ((w.alloc (.deferred (some []))).alloc (.loop (ZhA fn a.tmps p assign body w.heap.size))) := h2
 have hen := run_enterLoop_outer (P := P) (w := w) fn a.tmps #[p] assign body
 generalize hW1 : (w.alloc (.deferred (some []))).alloc (.loop (ZhA fn a.tmps p assign body w.heap.size)) = W1 at hst
 rw [show (w.alloc (.deferred (some []))).alloc (.loop { state := .ready, pending := none, fn := fn, tmps := a.tmps, params := #[p], assign := assign, body := body, defers := w.heap.size }) = W1 from hW1] at hen
 refine ⟨w.heap.size + 1, ZgR w.heap.size, W1, { target := .fn (.func gf) lb.toArray, args := #[.func (.yield (w.heap.size + 1)) #[] #[]] }, W1, gf, #[.func (.yield (w.heap.size + 1)) #[] #[]] ++ lb.toArray, W1, hen, ?_, fun _ _ => trivial, ?_, fun hh => (by cases hh), ?_⟩
 ·have hcv : a.eval (.const (.func (.yield (w.heap.size + 1)) #[] #[])) = .func (.yield (w.heap.size + 1)) #[] #[] := rfl
  simp [resolve, hs.sim.ev hg, hcv, Deferred.ofValue]
 ·simp [invoke, Zbv]
 ·refine callsIn_wide.2 ?_
  have hc := hit fn (w.heap.size + 1) w.heap.size _ hst.old hst.own
  rw [show (Value.func (.yield (w.heap.size + 1)) #[] #[] :: lb).toArray = #[.func (.yield (w.heap.size + 1)) #[] #[]] ++ lb.toArray by simp] at hc
  refine hc.mono ?_
  rintro e w3 ⟨v, O', rfl, hB, hH, jump, O2, st, hsub, hne, hK⟩
  have hs3 : St n wr fr (Zbm (w.heap.size + 1) { ZhA fn a.tmps p assign body w.heap.size with state := st, pending := jump } :: Zci w.heap.size :: O2) a w3 := ⟨hs.sim, hB, hH.sub hsub⟩
  have hl := Zbm.at (hs3.own.sat _ List.mem_cons_self)
  have hs4 := ZfY (r' := { ZhA fn a.tmps p assign body w.heap.size with state := .exhausted, pending := jump }) hs3 .here
  have hk2 := hk jump O2 w.heap.size _ hK ⟨hs4.sim, hs4.old, hs4.own.tail⟩
  refine ⟨jump, _, run_endLoop hl hne, ?_⟩
  have e0 : ({ a with defers := ZgR w.heap.size ++ a.defers } : Act) = actD (ZgR w.heap.size) a := by
   have := hs.sim.defers
   simp [actD, this]
  rw [e0]
  cases jump with
  | none => exact hk2
  | some c => exact wpIn_wide.2 hk2
theorem Zkz {f : FuncId} {fn : Func} {c : Code} {args : List Value} {w : World} {R : Ending -> World -> Prop} (hf : P.funcs[f]? = some fn) (hb : fn.body = some c) (hn : fn.ntmps = n) (ha : Nat.ble args.length n = true)
  (h : ∀ a, St n w (ZeZ 0 args) [] a w -> c.wp P (bodyPostM Fence.wide 0 P fn R) a w) : Calls P f args.toArray w R := by
 refine (callsIn_wide (n := 0)).1 (callsIn_of_wp_marks hf hb trivial ?_)
 refine (wpIn_wide (n := 0)).2 (h _ ?_)
 have ha' : args.length <= n := Nat.le_of_ble_eq_true ha
 refine ⟨⟨rfl, by simp; omega, fun t v hv => ?_⟩, Bel.refl _ _, Zat.nil _ _⟩
 have := (Zde args 0 t v hv).2
 simp only [Nat.sub_zero] at this
 have hlt : t < args.length := (List.getElem?_eq_some_iff.1 this).1
 rw [Array.getElem?_append_left (by simpa using hlt)]
 simpa using this
theorem Zal.sub {f : FuncId} {args : List Value} {O' : List It} {R R' : Value -> List It -> Prop} (h : Zal P f args wr O R) (hO : SubO O O') (hR : ∀ v O, R v O -> R' v O) : Zal P f args wr O' R' :=
 fun w hB hH => (h w hB (hH.sub hO)).mono fun _ _ ⟨v, O1, h1, h2, h3, h4⟩ => ⟨v, O1, h1, h2, h3, hR v O1 h4⟩
theorem WI.at {c : Code} {a : Act} {w : World} (h : WI F D P n wr c Q fr O) (hs : St n wr fr O a w) : c.wpIn F 0 P (ZtH D n wr Q) (actD D a) w := h a w hs
theorem Zek {id : Nat} {c : Code} (h : WI F D P n wr c (Zak id Q) fr O) : WI F D P n wr (.block id c) Q fr O := by
 intro a w hs
 refine wpIn_block (wpIn_mono (h a w hs) ?_)
 rintro e a' w' ⟨hd, fr', O', hs', hq⟩
 cases e with
 | exit k =>
  simp only [Exit.inBlock, Zak] at hq ⊢
  split
  ·rename_i hk; rw [if_pos hk] at hq; exact ⟨hd, fr', O', hs', hq⟩
  ·rename_i hk; rw [if_neg hk] at hq; exact ⟨hd, fr', O', hs', hq⟩
 | _ => exact ⟨hd, fr', O', hs', hq⟩
end
end Go.Wk
