/- For every input analemmalaw34.MergeSets returns true, and its arguments read behind the call as they did; the card ties the three listed variables to the program's text; no other condition. -/
import Derived.Test.YtfhjfpikngcknaaDoorSetsM
import Derived.Test.YtfhjfpikngcknaaDoorOpn23
import Derived.Test.YtfhjfpikngcknaaDoorWkT
import Derived.Test.YtfhjfpikngcknaaDoorRows
import Derived.Test.YtfhjfpikngcknaaDoorTie
import Derived.Test.YtfhjfpikngcknaaDoorCards
import Derived.SevenTiedAt
namespace Go.Proofs.YtfhjfpikngcknaaDoor
open Go Go.RowKit Go.Wk Go.ChangeShapes Go.WideShapes Go.ChangeAt
theorem laid_outS : laidOutB Tryd.prog = true := by kernel_rfl
theorem own_knobS : ownKnob Tryd.prog.godebug = none := by kernel_rfl

set_option maxRecDepth 100000 in
theorem mergeSets_walk {H : Type} {enc : TypeId × Value → H} (W : World) (base : Nat) (args : List Value) (ds : List (DataW H)) (p : List MemPlace)
    (hval : ∀ (j : Nat) t v, [26, 26, 4][j]? = some t → args[j]? = some v → Value.okWide Tryd.prog W .any base t v)
    (hA : DataW.TrodAll enc Tryd.prog W 0 (fun _ => true) true [26, 26, 4] args ds p) : Does Tryd.prog 4 args W (fun v _ => v = .bool true) := by
  obtain ⟨v0, vs0, d0, ds0, p0, q0, rfl, rfl, rfl, h0, r0⟩ := trodAll_cons hA
  obtain ⟨v1, vs1, d1, ds1, p1, q1, rfl, rfl, rfl, h1, r1⟩ := trodAll_cons r0
  obtain ⟨v2, vs2, d2, ds2, p2, q2, rfl, rfl, rfl, h2, r2⟩ := trodAll_cons r1
  obtain ⟨rfl, rfl, rfl⟩ := trodAll_nil r2
  obtain ⟨As, Az, Al, cs, cz, cl, d, rfl, s1, s2, s3, s4, s5, s6⟩ := open_d23 (hval 0 _ v0 rfl rfl) h0
  obtain ⟨Bs, Bz, Bl, ds, dz, dl, f, rfl, t1, t2, t3, t4, t5, t6⟩ := open_d23 (hval 1 _ v1 rfl rfl) h1
  obtain ⟨c, rfl⟩ := okWide_bool Tryd.underlying4 (hval 2 _ v2 rfl rfl)
  exact (mergeSets_spec As Az Al cs cz cl d Bs Bz Bl ds dz dl f c W s1 s2 s3 s4 s5 s6 t1 t2 t3 t4 t5 t6).mono fun v O h => h.1

theorem mergeSets_met (os : Os) (args : Array Value) : laidMetH Tryd.prog Rows.mergeSetsRow.laid ((laidW Tryd.prog Rows.mergeSetsRow.laid os).forCall (fun _ _ => 0) ⟨#[], args, []⟩).memory :=
  laidMetH_of_parts (laidMet_of_run' 8 (by kernel_rfl) (by kernel_rfl)) (by kernel_rfl)

set_option maxRecDepth 100000 in
theorem mergeSets_lifted (os : Os) (started : os.Started) (H : Type) (enc : TypeId × Value → H) :
    ReturnsInHanded {} Tryd.checked os 4 .any (fun w args => (Rows.mergeSetsSpec.pre enc Tryd.prog Tryd.f4 Rows.mergeSetsRow.domain false w args ∧ laidMetH Tryd.prog Rows.mergeSetsRow.laid w) ∧ sizedMet enc Tryd.prog Tryd.f4 (OpenSpec.ofChange Rows.mergeSetsSpec) false w args)
      (Rows.mergeSetsSpec.post enc Tryd.prog Tryd.f4 false true false false) := by
  refine law_liftedX (C := Tryd.checked) (t := 4) Rows.mergeSetsRow.laid own_knobS started (by kernel_rfl) Tryd.func4
    (ChangeSpec.witness_at (enc := enc) (C := Tryd.checked) (os := os) (X := fun w _ => laidMetH Tryd.prog Rows.mergeSetsRow.laid w) false (laidW Tryd.prog Rows.mergeSetsRow.laid os) #[.agg #[.slice none 0 0, .slice none 0 0, .slice none 0 0], .agg #[.slice none 0 0, .slice none 0 0, .slice none 0 0], .bool false] 8 rfl (by kernel_rfl) (by kernel_rfl) (by kernel_rfl) (by kernel_rfl) (by kernel_rfl) (mergeSets_met os _)) rfl rfl Tryd.underlying4 laid_outS (by kernel_rfl) ?_ ?_
  · intro ds hd
    obtain ⟨d0, ds0, rfl, h0⟩ := len_cons (k := 2) hd
    obtain ⟨d1, ds1, rfl, h1⟩ := len_cons (k := 1) h0
    obtain ⟨d2, ds2, rfl, h2⟩ := len_cons (k := 0) h1
    obtain rfl := List.eq_nil_of_length_eq_zero h2
    rfl
  · intro W base args ds p hval _ hA
    exact mergeSets_walk W base args ds p hval hA

theorem mergeSets_row_holds : Rows.MergeSetsSaid :=
  OpenClaim.holds_of_wide 4 Tryd.f4 rfl rfl rfl rfl rfl rfl rfl ⟨rfl, rfl, rfl, rfl, rfl⟩ rfl rfl rfl rfl rfl (by kernel_rfl) Tryd.func4 (by kernel_rfl)
    (of_decide_eq_true (by kernel_rfl)) (by unfold Func.isWrapper; first | (rw [if_pos (by decide +kernel)]; kernel_rfl) | (rw [if_neg (by decide +kernel)]; exact ⟨rfl, rfl⟩))
    (fun os started H enc _ => mergeSets_lifted os started H enc)

theorem mergeSets_holds : Rows.MergeSetsCardSaid :=
  Claim7.holds_tied_plain_at .later [] [.data, .data, .data] true (true, "659476e8a7c07dfcb40e31c5f2349bb712ecc0686f3756661c4df7bf1d165b19") false
    mergeSets_row_holds (fun _ h => by cases h) (by kernel_rfl) (fun _ h => by cases h) mergeSets_row_tie rfl ⟨rfl, rfl⟩ (by kernel_rfl) rfl
    (fun f fn hf hfn => by
      obtain rfl : f = 4 := Option.some.inj ((show Tryd.prog.funcNamed "analemma/analemmalaw34.MergeSets" = some 4 by kernel_rfl).symm.trans hf) |>.symm
      obtain rfl : fn = Tryd.f4 := (Option.some.inj (Tryd.func4.symm.trans hfn)).symm
      exact ⟨by kernel_rfl, fun j t ht => by
        have h2 : Tryd.f4.params.toList.all (fun t => !Tryd.prog.wantsStandIn t) = true := by kernel_rfl
        have h3 := List.all_eq_true.1 h2 t (by rw [Array.mem_toList_iff]; exact Array.mem_of_getElem? ht)
        have h4 : Tryd.prog.wantsStandIn t = false := by simpa using h3
        exact h4⟩)
    (by kernel_rfl)
end Go.Proofs.YtfhjfpikngcknaaDoor
