/- For every input analemmalaw26.MeaningRefuses returns true, and its arguments read behind the call as they did; the card ties the listed variables to the program's text; no other condition. -/
import Derived.Test.YtonjepladadmhaaGreatDoorS56
import Derived.Test.YtonjepladadmhaaGreatDoorS41
import Derived.Test.YtonjepladadmhaaGreatDoorS57
import Derived.Test.YtonjepladadmhaaGreatDoorS58
import Derived.Test.YtonjepladadmhaaGreatDoorS59
import Derived.Test.YtonjepladadmhaaGreatDoorS60
import Derived.Test.YtonjepladadmhaaGreatDoorTie
import Derived.Test.YtonjepladadmhaaGreatDoorCards
import Derived.SevenTiedAt
set_option maxHeartbeats 4000000
set_option linter.unusedVariables false
set_option linter.unusedSimpArgs false
namespace Go.Proofs.YtonjepladadmhaaGreatDoor
open Go Go.RowKit Go.Wk Go.ChangeShapes Go.WideShapes Go.ChangeAt
set_option maxRecDepth 100000 in
theorem meaningRefuses_walk {H : Type} {enc : TypeId × Value → H} (W : World) (base : Nat) (args : List Value) (ds : List (DataW H)) (p : List MemPlace) (hL : LibW W) (hG : Glob W) (hM : MeG W)
  (hval : ∀ (j : Nat) t v, [39, 61, 5][j]? = some t → args[j]? = some v → Value.okWide Tryz.prog W .any base t v)
  (hA : DataW.TrodAll enc Tryz.prog W 0 (fun _ => true) true [39, 61, 5] args ds p) : Does Tryz.prog 9 args W (fun v _ => v = .bool true) := by
 obtain ⟨v0, vs0, d0, ds0, p0, q0, rfl, rfl, rfl, h0, r0⟩ := trodAll_cons hA
 obtain ⟨v1, vs1, d1, ds1, p1, q1, rfl, rfl, rfl, h1, r1⟩ := trodAll_cons r0
 obtain ⟨v2, vs2, d2, ds2, p2, q2, rfl, rfl, rfl, h2, r2⟩ := trodAll_cons r1
 obtain ⟨rfl, rfl, rfl⟩ := trodAll_nil r2
 obtain ⟨As, Az, Al, cs, cz, cl, d, rfl, s1, s2, s3, s4, s5, s6⟩ := open_d23 (hval 0 _ v0 rfl rfl) h0
 obtain ⟨x1, rfl, b1⟩ := open_u32 (hval 1 _ v1 rfl rfl) h1
 obtain ⟨x2, rfl, b2⟩ := open_u8 (hval 2 _ v2 rfl rfl) h2
 exact (meaningRefuses_spec As Az Al cs cz cl d x1 x2 W hL hG hM s1 s2 s3 s4 s5 s6 b1 b2).mono fun v O h => h.1
theorem own_knobA : ownKnob Tryz.prog.godebug = none := by kernel_rfl
set_option maxRecDepth 100000 in
theorem meaningRefuses_lifted (os : Os) (started : os.Started) (H : Type) (enc : TypeId × Value → H) :
  ReturnsInHanded {} Tryz.checked os 9 .any (fun w args => (Rows.meaningRefusesSpec.pre enc Tryz.prog Tryz.f9 Rows.meaningRefusesRow.domain false w args ∧ laidMetH Tryz.prog Rows.meaningRefusesRow.laid w) ∧ sizedMet enc Tryz.prog Tryz.f9 (OpenSpec.ofChange Rows.meaningRefusesSpec) false w args)
   (Rows.meaningRefusesSpec.post enc Tryz.prog Tryz.f9 false true false false) := by
 refine law_liftedS (C := Tryz.checked) (t := 4) Rows.meaningRefusesRow.laid own_knobA started (by kernel_rfl) Tryz.func9
  (ChangeSpec.witness_shaped (enc := enc) (C := Tryz.checked) (os := os) (X := fun w _ => laidMetH Tryz.prog Rows.meaningRefusesRow.laid w) false (accW os) #[.agg #[.slice none 0 0, .slice none 0 0, .slice none 0 0], .int .u32 0, .int .u8 0] 8 rfl (World.shaped_of_RefB (by kernel_rfl) (by kernel_rfl)) (by kernel_rfl) (by kernel_rfl) (by kernel_rfl) (acc_met os _)) rfl rfl Tryz.underlying4 af2 (by kernel_rfl) ?_ ?_
 ·intro ds hd
  obtain ⟨d0, ds0, rfl, h0⟩ := len_cons (k := 2) hd
  obtain ⟨d1, ds1, rfl, h1⟩ := len_cons (k := 1) h0
  obtain ⟨d2, ds2, rfl, h2⟩ := len_cons (k := 0) h1
  obtain rfl := List.eq_nil_of_length_eq_zero h2
  rfl
 ·intro W base args ds p hval hL hS hA
  exact meaningRefuses_walk W base args ds p (lib_of hL hS) (glob_of hL) (me_of hL) hval hA
theorem af_joined : joinedFacts Tryz.prog 9 Tryz.f9 Rows.meaningRefusesSpec Rows.meaningRefusesRow = true := by
 unfold joinedFacts
 exact and_t (and_t (and_t (and_t (and_t (and_t (and_t (and_t (and_t (and_t (and_t (and_t (and_t (and_t (and_t (and_t (and_t (and_t (and_t (and_t (and_t (and_t (and_t (and_t (and_t (and_t (and_t (and_t (and_t (and_t (and_t af1 af2) af3) (by kernel_rfl)) af5) (by kernel_rfl)) (by kernel_rfl)) (by kernel_rfl)) (by kernel_rfl)) af10) af11) af12) af13) (by kernel_rfl)) (by kernel_rfl)) (by kernel_rfl)) (by kernel_rfl)) (by kernel_rfl)) (by kernel_rfl)) (by kernel_rfl)) (by kernel_rfl)) (by kernel_rfl)) af23) (by kernel_rfl)) af25) af26) af27) af28) (by kernel_rfl)) (by kernel_rfl)) (by kernel_rfl)) (by kernel_rfl)
theorem meaningRefuses_row_holds : Rows.MeaningRefusesSaid :=
 OpenClaim.holds_of_wide 9 Tryz.f9 rfl rfl rfl rfl rfl rfl rfl ⟨rfl, rfl, rfl, rfl, rfl⟩ rfl rfl rfl rfl rfl af_fn Tryz.func9 af_joined
  af_inst af_wrap
  (fun os started H enc _ => meaningRefuses_lifted os started H enc)
theorem meaningRefuses_holds : Rows.MeaningRefusesCardSaid :=
 Claim7.holds_tied_plain_at .later [] [.data, .data, .data, .data, .sentinel, .sentinel, .data, .funcs, .funcs, .funcs, .pinned] true (true, "7143ea7a04e8564767e755774745d91ecae7f27fc0907a286c1f2d839165fc56") true
  meaningRefuses_row_holds (fun _ h => by cases h) af_wf (fun _ h => by cases h) meaningRefuses_row_tie rfl ⟨rfl, rfl⟩ af_main rfl
  (fun f fn hf hfn => by
   obtain rfl : f = 9 := Option.some.inj (af_fn.symm.trans hf) |>.symm
   obtain rfl : fn = Tryz.f9 := (Option.some.inj (Tryz.func9.symm.trans hfn)).symm
   exact ⟨af_looks, fun j t ht => by
    have h2 : Tryz.f9.params.toList.all (fun t => !Tryz.prog.wantsStandIn t) = true := by kernel_rfl
    have h3 := List.all_eq_true.1 h2 t (by rw [Array.mem_toList_iff]; exact Array.mem_of_getElem? ht)
    have h4 : Tryz.prog.wantsStandIn t = false := by simpa using h3
    exact h4⟩)
  af_goes
end Go.Proofs.YtonjepladadmhaaGreatDoor
