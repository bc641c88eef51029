/- The closed statement analemmalaw25.AcceptMany returns true; the card ties the eleven listed variables to the program's text; no other condition. -/
import Derived.Test.YtbffjibfcgcoeaaGreatDoorQ40
import Derived.Test.YtbffjibfcgcoeaaGreatDoorQ44
import Derived.Test.YtbffjibfcgcoeaaGreatDoorQ45
import Derived.Test.YtbffjibfcgcoeaaGreatDoorQ46
import Derived.Test.YtbffjibfcgcoeaaGreatDoorQ47
import Derived.Test.YtbffjibfcgcoeaaGreatDoorTie
import Derived.Test.YtbffjibfcgcoeaaGreatDoorCards
import Derived.SevenTiedAt
set_option linter.unusedVariables false
set_option linter.unusedSimpArgs false
namespace Go.Proofs.YtbffjibfcgcoeaaGreatDoor
open Go Go.RowKit Go.Wk Go.ChangeShapes Go.WideShapes Go.ChangeAt
theorem own_knobA : ownKnob Tryz.prog.godebug = none := by kernel_rfl
set_option maxRecDepth 100000 in
theorem acceptMany_lifted (os : Os) (started : os.Started) (H : Type) (enc : TypeId × Value → H) :
    ReturnsInHanded {} Tryz.checked os 7 .any (fun w args => (Rows.acceptManySpec.pre enc Tryz.prog Tryz.f7 Rows.acceptManyRow.domain false w args ∧ laidMetH Tryz.prog Rows.acceptManyRow.laid w) ∧ sizedMet enc Tryz.prog Tryz.f7 (OpenSpec.ofChange Rows.acceptManySpec) false w args)
      (Rows.acceptManySpec.post enc Tryz.prog Tryz.f7 false true false false) := by
  refine law_liftedS (C := Tryz.checked) (t := 4) Rows.acceptManyRow.laid own_knobA started (by kernel_rfl) Tryz.func7
    (ChangeSpec.witness_shaped (enc := enc) (C := Tryz.checked) (os := os) (X := fun w _ => laidMetH Tryz.prog Rows.acceptManyRow.laid w) false (accW os) #[] 8 rfl (World.shaped_of_RefB (by kernel_rfl) (by kernel_rfl)) (by kernel_rfl) (by kernel_rfl) (by kernel_rfl) (acc_met os _)) rfl rfl Tryz.underlying4 am2 (by kernel_rfl) ?_ ?_
  · intro ds hd
    obtain rfl := List.eq_nil_of_length_eq_zero hd
    rfl
  · intro W base args ds p hval hL hS hA
    cases args with
    | cons _ _ => cases ds <;> exact hA.elim
    | nil => exact (many25_spec W (lib_of hL hS) (glob_of hL)).mono fun v O h => h.1
theorem am_joined : joinedFacts Tryz.prog 7 Tryz.f7 Rows.acceptManySpec Rows.acceptManyRow = true := by
  unfold joinedFacts
  exact and_t (and_t (and_t (and_t (and_t (and_t (and_t (and_t (and_t (and_t (and_t (and_t (and_t (and_t (and_t (and_t (and_t (and_t (and_t (and_t (and_t (and_t (and_t (and_t (and_t (and_t (and_t (and_t (and_t (and_t (and_t am1 am2) am3) (by kernel_rfl)) am5) (by kernel_rfl)) (by kernel_rfl)) (by kernel_rfl)) (by kernel_rfl)) am10) am11) am12) am13) (by kernel_rfl)) (by kernel_rfl)) (by kernel_rfl)) (by kernel_rfl)) (by kernel_rfl)) (by kernel_rfl)) (by kernel_rfl)) (by kernel_rfl)) (by kernel_rfl)) am23) (by kernel_rfl)) am25) am26) am27) am28) (by kernel_rfl)) (by kernel_rfl)) (by kernel_rfl)) (by kernel_rfl)
theorem acceptMany_row_holds : Rows.AcceptManySaid :=
  OpenClaim.holds_of_wide 7 Tryz.f7 rfl rfl rfl rfl rfl rfl rfl ⟨rfl, rfl, rfl, rfl, rfl⟩ rfl rfl rfl rfl rfl am_fn Tryz.func7 am_joined
    am_inst am_wrap
    (fun os started H enc _ => acceptMany_lifted os started H enc)
theorem acceptMany_holds : Rows.AcceptManyCardSaid :=
  Claim7.holds_tied_plain_at .later [] [.data, .data, .data, .data, .sentinel, .sentinel, .data, .funcs, .funcs, .widerDeep, .pinned] true (true, "7e5bbb587edfad27cf2921bcde22a23cd7182e42b0556482bfc9623c138d73d7") true
    acceptMany_row_holds (fun _ h => by cases h) am_wf (fun _ h => by cases h) acceptMany_row_tie rfl ⟨rfl, rfl⟩ am_main rfl
    (fun f fn hf hfn => by
      obtain rfl : f = 7 := Option.some.inj (am_fn.symm.trans hf) |>.symm
      obtain rfl : fn = Tryz.f7 := (Option.some.inj (Tryz.func7.symm.trans hfn)).symm
      exact ⟨am_looks, fun j t ht => by
        have h2 : Tryz.f7.params.toList.all (fun t => !Tryz.prog.wantsStandIn t) = true := rfl
        have h3 := List.all_eq_true.1 h2 t (by rw [Array.mem_toList_iff]; exact Array.mem_of_getElem? ht)
        have h4 : Tryz.prog.wantsStandIn t = false := by simpa using h3
        exact h4⟩)
    am_goes
end Go.Proofs.YtbffjibfcgcoeaaGreatDoor
