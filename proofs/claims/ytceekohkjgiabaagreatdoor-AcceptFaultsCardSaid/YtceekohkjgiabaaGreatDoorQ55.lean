/- For every input analemmalaw25.AcceptFaults returns true, and its arguments read behind the call as they did; the card ties the eleven listed variables to the program's text; no other condition. -/
import Derived.Test.YtceekohkjgiabaaGreatDoorQ47
import Derived.Test.YtceekohkjgiabaaGreatDoorQ49
import Derived.Test.YtceekohkjgiabaaGreatDoorQ50
import Derived.Test.YtceekohkjgiabaaGreatDoorQ51
import Derived.Test.YtceekohkjgiabaaGreatDoorQ52
import Derived.Test.YtceekohkjgiabaaGreatDoorTie
import Derived.Test.YtceekohkjgiabaaGreatDoorCards
import Derived.SevenTiedAt
set_option maxHeartbeats 4000000
set_option linter.unusedVariables false
set_option linter.unusedSimpArgs false
namespace Go.Proofs.YtceekohkjgiabaaGreatDoor
open Go Go.RowKit Go.Wk Go.ChangeShapes Go.WideShapes Go.ChangeAt
section
variable {H : Type} {enc : TypeId × Value → H} {w : World} {sp : Nat → Bool} {held : Bool}
set_option maxRecDepth 100000 in
theorem open_int {v : Value} {r : Reach} {b0 : Nat} {d : DataW H} {ps : List MemPlace} (hv : Value.okWide Tryz.prog w r b0 3 v) (h : DataW.Trod enc Tryz.prog w 0 sp held 3 v d ps) : ∃ x : Int, v = .int .i64 x := by
 obtain ⟨n, rfl⟩ := okWide_int Tryz.underlying3 hv
 exact ⟨n, rfl⟩
end
set_option maxRecDepth 100000 in
theorem acceptFaults_walk {H : Type} {enc : TypeId × Value → H} (W : World) (base : Nat) (args : List Value) (ds : List (DataW H)) (p : List MemPlace) (hL : LibW W) (hG : Glob W)
  (hval : ∀ (j : Nat) t v, [27, 3][j]? = some t → args[j]? = some v → Value.okWide Tryz.prog W .any base t v)
  (hA : DataW.TrodAll enc Tryz.prog W 0 (fun _ => true) true [27, 3] args ds p) : Does Tryz.prog 3 args W (fun v _ => v = .bool true) := by
 obtain ⟨v0, vs0, d0, ds0, p0, q0, rfl, rfl, rfl, h0, r0⟩ := trodAll_cons hA
 obtain ⟨v1, vs1, d1, ds1, p1, q1, rfl, rfl, rfl, h1, r1⟩ := trodAll_cons r0
 obtain ⟨rfl, rfl, rfl⟩ := trodAll_nil r1
 obtain ⟨Ar, Az, Al, As, cr, cz, cl, cs, a, rfl, ha, hok⟩ := open_source (hval 0 _ v0 rfl rfl) h0
 obtain ⟨f, rfl⟩ := open_int (hval 1 _ v1 rfl rfl) h1
 exact (acceptFaults_spec Ar Az Al As cr cz cl cs a f W hL hG ha hok).mono fun v O h => h.1
theorem own_knobA : ownKnob Tryz.prog.godebug = none := by kernel_rfl
set_option maxRecDepth 100000 in
theorem acceptFaults_lifted (os : Os) (started : os.Started) (H : Type) (enc : TypeId × Value → H) :
  ReturnsInHanded {} Tryz.checked os 3 .any (fun w args => (Rows.acceptFaultsSpec.pre enc Tryz.prog Tryz.f3 Rows.acceptFaultsRow.domain false w args ∧ laidMetH Tryz.prog Rows.acceptFaultsRow.laid w) ∧ sizedMet enc Tryz.prog Tryz.f3 (OpenSpec.ofChange Rows.acceptFaultsSpec) false w args)
   (Rows.acceptFaultsSpec.post enc Tryz.prog Tryz.f3 false true false false) := by
 refine law_liftedS (C := Tryz.checked) (t := 4) Rows.acceptFaultsRow.laid own_knobA started (by kernel_rfl) Tryz.func3
  (ChangeSpec.witness_shaped (enc := enc) (C := Tryz.checked) (os := os) (X := fun w _ => laidMetH Tryz.prog Rows.acceptFaultsRow.laid w) false (accW os) #[.agg #[.slice none 0 0, .slice none 0 0, .slice none 0 0, .slice none 0 0], .int .i64 0] 8 rfl (World.shaped_of_RefB (by kernel_rfl) (by kernel_rfl)) (by kernel_rfl) (by kernel_rfl) (by kernel_rfl) (acc_met os _)) rfl rfl Tryz.underlying4 af2 (by kernel_rfl) ?_ ?_
 ·intro ds hd
  obtain ⟨d0, ds0, rfl, h0⟩ := len_cons (k := 1) hd
  obtain ⟨d1, ds1, rfl, h1⟩ := len_cons (k := 0) h0
  obtain rfl := List.eq_nil_of_length_eq_zero h1
  rfl
 ·intro W base args ds p hval hL hS hA
  exact acceptFaults_walk W base args ds p (lib_of hL hS) (glob_of hL) hval hA
theorem af_joined : joinedFacts Tryz.prog 3 Tryz.f3 Rows.acceptFaultsSpec Rows.acceptFaultsRow = true := by
 unfold joinedFacts
 exact and_t (and_t (and_t (and_t (and_t (and_t (and_t (and_t (and_t (and_t (and_t (and_t (and_t (and_t (and_t (and_t (and_t (and_t (and_t (and_t (and_t (and_t (and_t (and_t (and_t (and_t (and_t (and_t (and_t (and_t (and_t af1 af2) af3) (by kernel_rfl)) af5) (by kernel_rfl)) (by kernel_rfl)) (by kernel_rfl)) (by kernel_rfl)) af10) af11) af12) af13) (by kernel_rfl)) (by kernel_rfl)) (by kernel_rfl)) (by kernel_rfl)) (by kernel_rfl)) (by kernel_rfl)) (by kernel_rfl)) (by kernel_rfl)) (by kernel_rfl)) af23) (by kernel_rfl)) af25) af26) af27) af28) (by kernel_rfl)) (by kernel_rfl)) (by kernel_rfl)) (by kernel_rfl)
theorem acceptFaults_row_holds : Rows.AcceptFaultsSaid :=
 OpenClaim.holds_of_wide 3 Tryz.f3 rfl rfl rfl rfl rfl rfl rfl ⟨rfl, rfl, rfl, rfl, rfl⟩ rfl rfl rfl rfl rfl af_fn Tryz.func3 af_joined
  af_inst af_wrap
  (fun os started H enc _ => acceptFaults_lifted os started H enc)
theorem acceptFaults_holds : Rows.AcceptFaultsCardSaid :=
 Claim7.holds_tied_plain_at .later [] [.data, .data, .data, .data, .sentinel, .sentinel, .data, .funcs, .funcs, .widerDeep, .pinned] true (true, "c8090291b676921ad00555f839ac2cd77d573fc3ccd332e52a7597bb079c677e") true
  acceptFaults_row_holds (fun _ h => by cases h) af_wf (fun _ h => by cases h) acceptFaults_row_tie rfl ⟨rfl, rfl⟩ af_main rfl
  (fun f fn hf hfn => by
   obtain rfl : f = 3 := Option.some.inj (af_fn.symm.trans hf) |>.symm
   obtain rfl : fn = Tryz.f3 := (Option.some.inj (Tryz.func3.symm.trans hfn)).symm
   exact ⟨af_looks, fun j t ht => by
    have h2 : Tryz.f3.params.toList.all (fun t => !Tryz.prog.wantsStandIn t) = true := by kernel_rfl
    have h3 := List.all_eq_true.1 h2 t (by rw [Array.mem_toList_iff]; exact Array.mem_of_getElem? ht)
    have h4 : Tryz.prog.wantsStandIn t = false := by simpa using h3
    exact h4⟩)
  af_goes
end Go.Proofs.YtceekohkjgiabaaGreatDoor
