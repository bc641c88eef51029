/- Contracts: format.is, around, Kind, Parts. -/
import Derived.Test.YtonjepladadmhaaGreatDoorR27
set_option maxHeartbeats 4000000
set_option linter.unusedVariables false
set_option linter.unusedSimpArgs false
namespace Go.Proofs.YtonjepladadmhaaGreatDoor
open Go Go.RowKit Go.Wk Go.Lib
attribute [local irreducible] W RL Does thenQ blockQ retQ Calls Pu Stp RD Qy Ay DoesIn RW
theorem LibW.up {w w' : World} (h : LibW w) (hb : Bel w.heap.size w w') : LibW w' where
 mxl := by
  obtain ⟨m, hm⟩ := h.mxl
  exact ⟨m, (hb.cell (World.block_lt_of_cell? w _ hm)).trans hm⟩
 syn := by
  obtain ⟨ev, h1, h2⟩ := h.syn
  exact ⟨ev, (hb.cell (World.block_lt_of_cell? w _ h1)).trans h1, h2⟩
theorem isN_spec (s : ByteArray) (w : World) (hL : LibW w) (hs : s.size ≤ 1000000000000) : Does Tryz.prog 178 [.string s] w (fun v O => v = .bool (parseN s.data.toList).isSome ∧ O = []) := by
 have hp := fun w' (hw : Bel w.heap.size w w') => parse_spec s w' (fun w2 hw2 => (hL.up hw).up hw2) hs
 refine Does_of_W Tryz.func178 rfl rfl rfl rfl ?_
 generalize parseN s.data.toList = o at *
 cases o with
 | none =>
  simp only [prV] at hp
  repeat (first | (refine js ?_; (refine callE hp ?_)) | refine walk ?_)
  exact rtA
 | some x =>
  simp only [prV] at hp
  repeat (first | (refine js ?_; (refine callE hp ?_)) | refine walk ?_)
  exact rtA
theorem cutV_len (f p : List UInt8) : (cutV f p).1.length + (cutV f p).2.1.length ≤ f.length := by
 unfold cutV
 split
 ·rename_i a b h
  have := cutAt_len h
  simp only [List.length_nil] at this
  dsimp only
  omega
 ·simp
def arV (l : List UInt8) : Value := .tuple #[.string ⟨(cutV l [37, 115]).1.toArray⟩, .string ⟨(cutV l [37, 115]).2.1.toArray⟩, .bool (aroundF l).isSome]
theorem arB_eq (l : List UInt8) : (aroundF l).isSome = ((cutV l [37, 115]).2.2 && (letterL ((cutV l [37, 115]).1 ++ (cutV l [37, 115]).2.1) && decide (((cutV l [37, 115]).1 ++ (cutV l [37, 115]).2.1).length ≤ 5))) := by
 unfold aroundF cutV
 cases cutAt [37, 115] l [] with
 | none => rfl
 | some ab =>
  obtain ⟨a, b⟩ := ab
  dsimp only
  by_cases h1 : letterL (a ++ b) = true
  ·by_cases h2 : (a ++ b).length ≤ 5
   ·rw [if_pos ⟨h1, h2⟩, h1, decide_eq_true h2]; rfl
   ·rw [if_neg (fun h => h2 h.2), decide_eq_false h2, Bool.and_false, Bool.and_false]; rfl
  ·rw [if_neg (fun h => h1 h.1), show letterL (a ++ b) = false from by simpa using h1, Bool.false_and, Bool.and_false]; rfl
theorem PuFmtB0 {G : Prop} (h : G := by (first | (apply Pu_addS; rfl; rfl; exact hss) | (apply Pu_lssB; rfl; rfl; exact hil) | (apply Pu_leqB; rfl; rfl; exact h5))) : G := h
theorem wkFmtB0 {G G' : Prop} (k : G') (h : Hold G' → G := by intro k9; (first | (apply RL_pu; rfl; exact PuFmtB0) | (refine js ?_; (first | (refine callE hc ?_) | (refine callE (fun w' hw => hix w') ?_))) | refine walk1 ?_); exact k9.out) : G := h ⟨k⟩
theorem around_spec (f : ByteArray) (w : World) (hL : LibW w) (hs : f.size ≤ 1000000000) : Does Tryz.prog 132 [.string f] w (fun v O => v = arV f.data.toList ∧ O = []) := by
 have hc := fun w' (hw : Bel w.heap.size w w') => cut_spec f ⟨#[37, 115]⟩ w' (hL.up hw) (by omega)
 rw [show (⟨#[37, 115]⟩ : ByteArray).data.toList = [37, 115] from rfl] at hc
 have hl := cutV_len f.data.toList [37, 115]
 have hfs : f.data.toList.length = f.size := by simp
 rw [hfs] at hl
 unfold arV
 rw [arB_eq]
 obtain ⟨ab, hab⟩ : ∃ ab, cutV f.data.toList [37, 115] = ab := ⟨_, rfl⟩
 rw [hab] at hc hl ⊢
 obtain ⟨a, b, ok⟩ := ab
 dsimp only at hc hl ⊢
 have hix := fun w' => ixf_spec (⟨a.toArray⟩ ++ ⟨b.toArray⟩) w'
 have hd : ((⟨a.toArray⟩ : ByteArray) ++ ⟨b.toArray⟩).data.toList = a ++ b := by simp
 have hs1 : (⟨a.toArray⟩ : ByteArray).size = a.length := by show a.toArray.size = a.length; simp
 have hs2 : (⟨b.toArray⟩ : ByteArray).size = b.length := by show b.toArray.size = b.length; simp
 have hsz : ((⟨a.toArray⟩ : ByteArray) ++ ⟨b.toArray⟩).size = (a ++ b).length := by rw [ByteArray.size_append, hs1, hs2, List.length_append]
 have h1 := idx_let ((⟨a.toArray⟩ : ByteArray) ++ ⟨b.toArray⟩) ((⟨a.toArray⟩ : ByteArray) ++ ⟨b.toArray⟩).size 0 (by omega)
 rw [List.drop_zero, hd] at h1
 have hil : decide (idxFunc (fun r => notLet (r : Int)) true ((⟨a.toArray⟩ : ByteArray) ++ ⟨b.toArray⟩) < 0) = letterL (a ++ b) := by
  rw [Bool.eq_iff_iff, decide_eq_true_eq]
  exact h1
 have h5 : decide (((((⟨a.toArray⟩ : ByteArray) ++ ⟨b.toArray⟩).size : Nat) : Int) ≤ 5) = decide ((a ++ b).length ≤ 5) := by
  rw [decide_eq_decide]
  omega
 have hss : (⟨a.toArray⟩ : ByteArray).size + (⟨b.toArray⟩ : ByteArray).size ≤ 9223372036854775807 := by omega
 clear h1
 generalize idxFunc (fun r => notLet (r : Int)) true ((⟨a.toArray⟩ : ByteArray) ++ ⟨b.toArray⟩) = i at *
 generalize letterL (a ++ b) = lt at *
 generalize decide ((a ++ b).length ≤ 5) = l5 at *
 refine Does_of_W Tryz.func132 rfl rfl rfl rfl ?_
 cases ok with
 | false =>
  repeat refine wkFmtB0 ?_
  exact ret_3 _ _ _ [] (.tmp rfl) (.tmp rfl) (.tmp rfl) .nil ⟨rfl, rfl⟩
 | true =>
  cases lt with
  | false =>
   repeat refine wkFmtB0 ?_
   exact ret_3 _ _ _ [] (.tmp rfl) (.tmp rfl) (.tmp rfl) .nil ⟨rfl, rfl⟩
  | true =>
   repeat refine wkFmtB0 ?_
   exact ret_3 _ _ _ [] (.tmp rfl) (.tmp rfl) (.tmp rfl) .nil ⟨rfl, rfl⟩
def kindV (ab0 ok ab1 ab2 ar q4 i0 i1 i2 : Bool) : Int := if ab0 then 1 else if ok && (ab1 && ab2) then 2 else if ar then 3 else if q4 then 4 else if i0 || (ok && (i1 && i2)) then 5 else 0
theorem kindF_eq (l : List UInt8) : kindF l = kindV (abbrL l) (cutV l [47]).2.2 (abbrL (cutV l [47]).1) (abbrL (cutV l [47]).2.1) (aroundF l).isSome (decide (l = [37, 122])) (parseN l).isSome (parseN (cutV l [47]).1).isSome (parseN (cutV l [47]).2.1).isSome := by
 unfold kindF kindV cutV
 cases cutAt [47] l [] with
 | none => simp
 | some ab => simp
theorem kind_spec (f : ByteArray) (w : World) (hL : LibW w) (hs : f.size ≤ 1000000000) : Does Tryz.prog 131 [.string f] w (fun v O => v = .int .i64 (kindF f.data.toList) ∧ O = []) := by
 have hc := fun w' (hw : Bel w.heap.size w w') => cut_spec f ⟨#[47]⟩ w' (hL.up hw) (by omega)
 rw [show (⟨#[47]⟩ : ByteArray).data.toList = [47] from rfl] at hc
 have hl := cutV_len f.data.toList [47]
 have hfs : f.data.toList.length = f.size := by simp
 rw [hfs] at hl
 have har := fun w' (hw : Bel w.heap.size w w') => around_spec f w' (hL.up hw) hs
 unfold arV at har
 rw [kindF_eq]
 have hq : decide (f = ⟨#[37, 122]⟩) = decide (f.data.toList = [37, 122]) := by
  rw [decide_eq_decide]
  exact ⟨fun h => by rw [h], fun h => by
   apply ByteArray.ext
   rw [← Array.toArray_toList (xs := f.data), h]⟩
 obtain ⟨ab, hab⟩ : ∃ ab, cutV f.data.toList [47] = ab := ⟨_, rfl⟩
 rw [hab] at hc hl ⊢
 obtain ⟨a, b, ok⟩ := ab
 dsimp only at hc hl ⊢
 have hs1 : (⟨a.toArray⟩ : ByteArray).size = a.length := by show a.toArray.size = a.length; simp
 have hs2 : (⟨b.toArray⟩ : ByteArray).size = b.length := by show b.toArray.size = b.length; simp
 have a0 := fun w' => abbr_spec f (by omega) w'
 have a1 := fun w' => abbr_spec ⟨a.toArray⟩ (by omega) w'
 have a2 := fun w' => abbr_spec ⟨b.toArray⟩ (by omega) w'
 have i0 := fun w' (hw : Bel w.heap.size w w') => isN_spec f w' (hL.up hw) (by omega)
 have i1 := fun w' (hw : Bel w.heap.size w w') => isN_spec ⟨a.toArray⟩ w' (hL.up hw) (by omega)
 have i2 := fun w' (hw : Bel w.heap.size w w') => isN_spec ⟨b.toArray⟩ w' (hL.up hw) (by omega)
 rw [show abbrB f = abbrL f.data.toList from rfl] at a0
 rw [show abbrB ⟨a.toArray⟩ = abbrL a from rfl] at a1
 rw [show abbrB ⟨b.toArray⟩ = abbrL b from rfl] at a2
 rw [show (⟨a.toArray⟩ : ByteArray).data.toList = a from rfl] at i1
 rw [show (⟨b.toArray⟩ : ByteArray).data.toList = b from rfl] at i2
 generalize abbrL f.data.toList = A0 at *
 generalize abbrL a = A1 at *
 generalize abbrL b = A2 at *
 generalize (parseN f.data.toList).isSome = I0 at *
 generalize (parseN a).isSome = I1 at *
 generalize (parseN b).isSome = I2 at *
 generalize (aroundF f.data.toList).isSome = ar at *
 generalize decide (f.data.toList = [37, 122]) = q4 at *
 refine Does_of_W Tryz.func131 rfl rfl rfl rfl ?_
 repeat' (first | (apply RL_pu; rfl; (apply Pu_eqlSB; rfl; rfl; exact hq)) | (refine js ?_; (first | (refine callE hc ?_) | (refine callE har ?_) | (refine callE (fun w' hw => a0 w') ?_) | (refine callE (fun w' hw => a1 w') ?_) | (refine callE (fun w' hw => a2 w') ?_) | (refine callE i0 ?_) | (refine callE i1 ?_) | (refine callE i2 ?_))) | refine walk1 ?_ | refine und ?_ | (refine RL_gsplit rfl rfl rfl (fun hc => ?_) (fun hc => ?_)) | (refine RD_gsplit rfl rfl rfl (fun hc => ?_) (fun hc => ?_)) | (refine W_cond rfl (fun hc => ?_) (fun hc => ?_)))
 all_goals first | (refine ret_1 _ [] (.tmp rfl) .nil ⟨?_, rfl⟩; first | rfl | (simp only [*, Bool.true_and, Bool.false_and, Bool.true_or, Bool.false_or, Bool.not_true, Bool.not_false]; done) | (simp_all [kindV]; done) | (simp_all [kindV]; omega) | (simp_all [kindV]; rw [Bool.eq_iff_iff]; simp; omega)) | (exfalso; simp_all [kindV]; done) | (exfalso; simp_all [kindV]; omega) | (exfalso; omega)
end Go.Proofs.YtonjepladadmhaaGreatDoor
