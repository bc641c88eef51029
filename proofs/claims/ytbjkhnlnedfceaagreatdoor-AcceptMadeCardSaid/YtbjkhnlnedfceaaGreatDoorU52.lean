/- For every input analemmalaw25.AcceptMade returns true, and its arguments read behind the call as they did; the card ties the listed variables to the program's text; no other condition. -/
import Derived.Test.YtbjkhnlnedfceaaGreatDoorU42
import Derived.Test.YtbjkhnlnedfceaaGreatDoorU43
import Derived.Test.YtbjkhnlnedfceaaGreatDoorU46
import Derived.Test.YtbjkhnlnedfceaaGreatDoorU47
import Derived.Test.YtbjkhnlnedfceaaGreatDoorU48
import Derived.Test.YtbjkhnlnedfceaaGreatDoorU49
import Derived.Test.YtbjkhnlnedfceaaGreatDoorTie
import Derived.Test.YtbjkhnlnedfceaaGreatDoorCards
import Derived.SevenTiedAt
set_option maxHeartbeats 4000000
set_option linter.unusedVariables false
set_option linter.unusedSimpArgs false
namespace Go.Proofs.YtbjkhnlnedfceaaGreatDoor
open Go Go.RowKit Go.Wk Go.ChangeShapes Go.WideShapes Go.ChangeAt
set_option maxRecDepth 100000 in
theorem acceptMade_walk {H : Type} {enc : TypeId × Value → H} (W : World) (base : Nat) (args : List Value) (ds : List (DataW H)) (p : List MemPlace) (hL : LibW W) (hG : Glob W)
  (hval : ∀ (j : Nat) t v, [25][j]? = some t → args[j]? = some v → Value.okWide Tryz.prog W .any base t v)
  (hA : DataW.TrodAll enc Tryz.prog W 0 (fun _ => true) true [25] args ds p) : Does Tryz.prog 6 args W (fun v _ => v = .bool true) := by
 obtain ⟨v0, vs0, d0, ds0, p0, q0, rfl, rfl, rfl, h0, r0⟩ := trodAll_cons hA
 obtain ⟨rfl, rfl, rfl⟩ := trodAll_nil r0
 obtain ⟨As, Al, cs, c, d, rfl, s1, s2, s3, s4, s5, s6⟩ := open_d25 (hval 0 _ v0 rfl rfl) h0
 exact (acceptMade_spec As Al cs c d W hL hG s1 s2 s3 s4 s5 s6).mono fun v O h => h.1
theorem own_knobA : ownKnob Tryz.prog.godebug = none := by kernel_rfl
set_option maxRecDepth 100000 in
theorem acceptMade_lifted (os : Os) (started : os.Started) (H : Type) (enc : TypeId × Value → H) :
  ReturnsInHanded {} Tryz.checked os 6 .any (fun w args => (Rows.acceptMadeSpec.pre enc Tryz.prog Tryz.f6 Rows.acceptMadeRow.domain false w args ∧ laidMetH Tryz.prog Rows.acceptMadeRow.laid w) ∧ sizedMet enc Tryz.prog Tryz.f6 (OpenSpec.ofChange Rows.acceptMadeSpec) false w args)
   (Rows.acceptMadeSpec.post enc Tryz.prog Tryz.f6 false true false false) := by
 refine law_liftedS (C := Tryz.checked) (t := 4) Rows.acceptMadeRow.laid own_knobA started (by kernel_rfl) Tryz.func6
  (ChangeSpec.witness_shaped (enc := enc) (C := Tryz.checked) (os := os) (X := fun w _ => laidMetH Tryz.prog Rows.acceptMadeRow.laid w) false (accW os) #[.agg #[.slice none 0 0, .int .u8 0, .int .u8 0, .slice none 0 0]] 8 rfl (World.shaped_of_RefB (by kernel_rfl) (by kernel_rfl)) (by kernel_rfl) (by kernel_rfl) (by kernel_rfl) (acc_met os _)) rfl rfl Tryz.underlying4 af2 (by kernel_rfl) ?_ ?_
 ·intro ds hd
  obtain ⟨d0, ds0, rfl, h0⟩ := len_cons (k := 0) hd
  obtain rfl := List.eq_nil_of_length_eq_zero h0
  rfl
 ·intro W base args ds p hval hL hS hA
  exact acceptMade_walk W base args ds p (lib_of hL hS) (glob_of hL) hval hA
theorem af_joined : joinedFacts Tryz.prog 6 Tryz.f6 Rows.acceptMadeSpec Rows.acceptMadeRow = true := by
 unfold joinedFacts
 exact and_t (and_t (and_t (and_t (and_t (and_t (and_t (and_t (and_t (and_t (and_t (and_t (and_t (and_t (and_t (and_t (and_t (and_t (and_t (and_t (and_t (and_t (and_t (and_t (and_t (and_t (and_t (and_t (and_t (and_t (and_t af1 af2) af3) (by kernel_rfl)) af5) (by kernel_rfl)) (by kernel_rfl)) (by kernel_rfl)) (by kernel_rfl)) af10) af11) af12) af13) (by kernel_rfl)) (by kernel_rfl)) (by kernel_rfl)) (by kernel_rfl)) (by kernel_rfl)) (by kernel_rfl)) (by kernel_rfl)) (by kernel_rfl)) (by kernel_rfl)) af23) (by kernel_rfl)) af25) af26) af27) af28) (by kernel_rfl)) (by kernel_rfl)) (by kernel_rfl)) (by kernel_rfl)
theorem acceptMade_row_holds : Rows.AcceptMadeSaid :=
 OpenClaim.holds_of_wide 6 Tryz.f6 rfl rfl rfl rfl rfl rfl rfl ⟨rfl, rfl, rfl, rfl, rfl⟩ rfl rfl rfl rfl rfl af_fn Tryz.func6 af_joined
  af_inst af_wrap
  (fun os started H enc _ => acceptMade_lifted os started H enc)
theorem acceptMade_holds : Rows.AcceptMadeCardSaid :=
 Claim7.holds_tied_plain_at .later [] [.data, .data, .data, .data, .sentinel, .sentinel, .data, .funcs, .funcs, .widerDeep, .pinned] true (true, "0901baf4cbacce30a391e44ab0793e8f249d4ab4fc5eff90f00b414525469979") true
  acceptMade_row_holds (fun _ h => by cases h) af_wf (fun _ h => by cases h) acceptMade_row_tie rfl ⟨rfl, rfl⟩ af_main rfl
  (fun f fn hf hfn => by
   obtain rfl : f = 6 := Option.some.inj (af_fn.symm.trans hf) |>.symm
   obtain rfl : fn = Tryz.f6 := (Option.some.inj (Tryz.func6.symm.trans hfn)).symm
   exact ⟨af_looks, fun j t ht => by
    have h2 : Tryz.f6.params.toList.all (fun t => !Tryz.prog.wantsStandIn t) = true := by kernel_rfl
    have h3 := List.all_eq_true.1 h2 t (by rw [Array.mem_toList_iff]; exact Array.mem_of_getElem? ht)
    have h4 : Tryz.prog.wantsStandIn t = false := by simpa using h3
    exact h4⟩)
  af_goes
end Go.Proofs.YtbjkhnlnedfceaaGreatDoor
