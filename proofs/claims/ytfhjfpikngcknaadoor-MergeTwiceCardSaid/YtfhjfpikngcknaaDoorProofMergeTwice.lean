/- For every input analemmalaw34.MergeTwice returns true, and its arguments read behind the call as they did; the card ties the three listed variables to the program's text; no other condition. -/
import Derived.Test.YtfhjfpikngcknaaDoorTwice
import Derived.Test.YtfhjfpikngcknaaDoorOpn23
import Derived.Test.YtfhjfpikngcknaaDoorWkT
import Derived.Test.YtfhjfpikngcknaaDoorRows
import Derived.Test.YtfhjfpikngcknaaDoorTie
import Derived.Test.YtfhjfpikngcknaaDoorCards
import Derived.SevenTiedAt
namespace Go.Proofs.YtfhjfpikngcknaaDoor
open Go Go.RowKit Go.Wk Go.ChangeShapes Go.WideShapes Go.ChangeAt
theorem laid_outT : laidOutB Tryd.prog = true := by kernel_rfl
theorem own_knobT : ownKnob Tryd.prog.godebug = none := by kernel_rfl

set_option maxRecDepth 100000 in
theorem mergeTwice_walk {H : Type} {enc : TypeId × Value → H} (W : World) (base : Nat) (args : List Value) (ds : List (DataW H)) (p : List MemPlace)
    (hval : ∀ (j : Nat) t v, [26, 5][j]? = some t → args[j]? = some v → Value.okWide Tryd.prog W .any base t v)
    (hA : DataW.TrodAll enc Tryd.prog W 0 (fun _ => true) true [26, 5] args ds p) : Does Tryd.prog 3 args W (fun v _ => v = .bool true) := by
  obtain ⟨v0, vs0, d0, ds0, p0, q0, rfl, rfl, rfl, h0, r0⟩ := trodAll_cons hA
  obtain ⟨v1, vs1, d1, ds1, p1, q1, rfl, rfl, rfl, h1, r1⟩ := trodAll_cons r0
  obtain ⟨rfl, rfl, rfl⟩ := trodAll_nil r1
  obtain ⟨As, Az, Al, cs, cz, cl, d, rfl, s1, s2, s3, s4, s5, s6⟩ := open_d23 (hval 0 _ v0 rfl rfl) h0
  obtain ⟨n, rfl, hn⟩ := o23_u8 (hval 1 _ v1 rfl rfl) h1
  rw [inR_u8] at hn
  exact (mergeTwice_spec As Az Al cs cz cl d n hn.1 hn.2 W s1 s2 s3 s4 s5 s6).mono fun v O h => h.1

theorem mergeTwice_met (os : Os) (args : Array Value) : laidMetH Tryd.prog Rows.mergeTwiceRow.laid ((laidW Tryd.prog Rows.mergeTwiceRow.laid os).forCall (fun _ _ => 0) ⟨#[], args, []⟩).memory :=
  laidMetH_of_parts (laidMet_of_run' 8 (by kernel_rfl) (by kernel_rfl)) (by kernel_rfl)

set_option maxRecDepth 100000 in
theorem mergeTwice_lifted (os : Os) (started : os.Started) (H : Type) (enc : TypeId × Value → H) :
    ReturnsInHanded {} Tryd.checked os 3 .any (fun w args => (Rows.mergeTwiceSpec.pre enc Tryd.prog Tryd.f3 Rows.mergeTwiceRow.domain false w args ∧ laidMetH Tryd.prog Rows.mergeTwiceRow.laid w) ∧ sizedMet enc Tryd.prog Tryd.f3 (OpenSpec.ofChange Rows.mergeTwiceSpec) false w args)
      (Rows.mergeTwiceSpec.post enc Tryd.prog Tryd.f3 false true false false) := by
  refine law_liftedX (C := Tryd.checked) (t := 4) Rows.mergeTwiceRow.laid own_knobT started (by kernel_rfl) Tryd.func3
    (ChangeSpec.witness_at (enc := enc) (C := Tryd.checked) (os := os) (X := fun w _ => laidMetH Tryd.prog Rows.mergeTwiceRow.laid w) false (laidW Tryd.prog Rows.mergeTwiceRow.laid os) #[.agg #[.slice none 0 0, .slice none 0 0, .slice none 0 0], .int .u8 0] 8 rfl (by kernel_rfl) (by kernel_rfl) (by kernel_rfl) (by kernel_rfl) (by kernel_rfl) (mergeTwice_met os _)) rfl rfl Tryd.underlying4 laid_outT (by kernel_rfl) ?_ ?_
  · intro ds hd
    obtain ⟨d0, ds0, rfl, h0⟩ := len_cons (k := 1) hd
    obtain ⟨d1, ds1, rfl, h1⟩ := len_cons (k := 0) h0
    obtain rfl := List.eq_nil_of_length_eq_zero h1
    rfl
  · intro W base args ds p hval _ hA
    exact mergeTwice_walk W base args ds p hval hA

theorem mergeTwice_row_holds : Rows.MergeTwiceSaid :=
  OpenClaim.holds_of_wide 3 Tryd.f3 rfl rfl rfl rfl rfl rfl rfl ⟨rfl, rfl, rfl, rfl, rfl⟩ rfl rfl rfl rfl rfl (by kernel_rfl) Tryd.func3 (by kernel_rfl)
    (of_decide_eq_true (by kernel_rfl)) (by unfold Func.isWrapper; first | (rw [if_pos (by decide +kernel)]; kernel_rfl) | (rw [if_neg (by decide +kernel)]; exact ⟨rfl, rfl⟩))
    (fun os started H enc _ => mergeTwice_lifted os started H enc)

theorem mergeTwice_holds : Rows.MergeTwiceCardSaid :=
  Claim7.holds_tied_plain_at .later [] [.data, .data, .data] true (true, "659476e8a7c07dfcb40e31c5f2349bb712ecc0686f3756661c4df7bf1d165b19") false
    mergeTwice_row_holds (fun _ h => by cases h) (by kernel_rfl) (fun _ h => by cases h) mergeTwice_row_tie rfl ⟨rfl, rfl⟩ (by kernel_rfl) rfl
    (fun f fn hf hfn => by
      obtain rfl : f = 3 := Option.some.inj ((show Tryd.prog.funcNamed "analemma/analemmalaw34.MergeTwice" = some 3 by kernel_rfl).symm.trans hf) |>.symm
      obtain rfl : fn = Tryd.f3 := (Option.some.inj (Tryd.func3.symm.trans hfn)).symm
      exact ⟨by kernel_rfl, fun j t ht => by
        have h2 : Tryd.f3.params.toList.all (fun t => !Tryd.prog.wantsStandIn t) = true := by kernel_rfl
        have h3 := List.all_eq_true.1 h2 t (by rw [Array.mem_toList_iff]; exact Array.mem_of_getElem? ht)
        have h4 : Tryd.prog.wantsStandIn t = false := by simpa using h3
        exact h4⟩)
    (by kernel_rfl)
end Go.Proofs.YtfhjfpikngcknaaDoor
