/- For every input analemmalaw34.MergeMeanings returns true, and its arguments read behind the call as they did; the card ties the listed variables to the program's text; no other condition. -/
import Derived.Test.YtpcpmndldgejiaaGreatDoorV29
import Derived.Test.YtpcpmndldgejiaaGreatDoorV31
import Derived.Test.YtpcpmndldgejiaaGreatDoorTie
import Derived.Test.YtpcpmndldgejiaaGreatDoorCards
import Derived.SevenTiedAt
set_option maxHeartbeats 4000000
set_option linter.unusedVariables false
set_option linter.unusedSimpArgs false
namespace Go.Proofs.YtpcpmndldgejiaaGreatDoor
open Go Go.RowKit Go.Wk Go.ChangeShapes Go.WideShapes Go.ChangeAt
set_option maxRecDepth 100000 in
theorem mergeMeanings_walk {H : Type} {enc : TypeId × Value → H} (W : World) (base : Nat) (args : List Value) (ds : List (DataW H)) (p : List MemPlace) (hL : LibW W) (hG : Glob W) (hM : MeG W)
  (hval : ∀ (j : Nat) t v, [26, 26, 4, 5, 2][j]? = some t → args[j]? = some v → Value.okWide Tryz.prog W .any base t v)
  (hA : DataW.TrodAll enc Tryz.prog W 0 (fun _ => true) true [26, 26, 4, 5, 2] args ds p) : Does Tryz.prog 7 args W (fun v _ => v = .bool true) := by
 obtain ⟨v0, vs0, d0, ds0, p0, q0, rfl, rfl, rfl, h0, r0⟩ := trodAll_cons hA
 obtain ⟨v1, vs1, d1, ds1, p1, q1, rfl, rfl, rfl, h1, r1⟩ := trodAll_cons r0
 obtain ⟨v2, vs2, d2, ds2, p2, q2, rfl, rfl, rfl, h2, r2⟩ := trodAll_cons r1
 obtain ⟨v3, vs3, d3, ds3, p3, q3, rfl, rfl, rfl, h3, r3⟩ := trodAll_cons r2
 obtain ⟨v4, vs4, d4, ds4, p4, q4, rfl, rfl, rfl, h4, r4⟩ := trodAll_cons r3
 obtain ⟨rfl, rfl, rfl⟩ := trodAll_nil r4
 obtain ⟨As, Az, Al, cs, cz, cl, d, rfl, s1, s2, s3, s4, s5, s6⟩ := open_d23 (hval 0 _ v0 rfl rfl) h0
 obtain ⟨Bs, Bz, Bl, ds, dz, dl, f, rfl, y1, y2, y3, y4, y5, y6⟩ := open_d23 (hval 1 _ v1 rfl rfl) h1
 obtain ⟨x2, rfl⟩ := open_bool (hval 2 _ v2 rfl rfl) h2
 obtain ⟨x3, rfl, b3⟩ := open_u8 (hval 3 _ v3 rfl rfl) h3
 obtain ⟨x4, rfl⟩ := open_i64 (hval 4 _ v4 rfl rfl) h4
 exact (mergeMeanings_spec As Az Al cs cz cl d Bs Bz Bl ds dz dl f x2 x3 x4 W hL hG hM s1 s2 s3 s4 s5 s6 y1 y2 y3 y4 y5 y6 b3).mono fun v O h => h.1
theorem own_knobA : ownKnob Tryz.prog.godebug = none := by kernel_rfl
set_option maxRecDepth 100000 in
theorem mergeMeanings_lifted (os : Os) (started : os.Started) (H : Type) (enc : TypeId × Value → H) :
  ReturnsInHanded {} Tryz.checked os 7 .any (fun w args => (Rows.mergeMeaningsSpec.pre enc Tryz.prog Tryz.f7 Rows.mergeMeaningsRow.domain false w args ∧ laidMetH Tryz.prog Rows.mergeMeaningsRow.laid w) ∧ sizedMet enc Tryz.prog Tryz.f7 (OpenSpec.ofChange Rows.mergeMeaningsSpec) false w args)
   (Rows.mergeMeaningsSpec.post enc Tryz.prog Tryz.f7 false true false false) := by
 refine law_liftedS (C := Tryz.checked) (t := 4) Rows.mergeMeaningsRow.laid own_knobA started (by kernel_rfl) Tryz.func7
  (ChangeSpec.witness_shaped (enc := enc) (C := Tryz.checked) (os := os) (X := fun w _ => laidMetH Tryz.prog Rows.mergeMeaningsRow.laid w) false (accW os) #[.agg #[.slice none 0 0, .slice none 0 0, .slice none 0 0], .agg #[.slice none 0 0, .slice none 0 0, .slice none 0 0], .bool false, .int .u8 0, .int .i64 0] 8 rfl (World.shaped_of_RefB (by kernel_rfl) (by kernel_rfl)) (by kernel_rfl) (by kernel_rfl) (by kernel_rfl) (acc_met os _)) rfl rfl Tryz.underlying4 af2 (by kernel_rfl) ?_ ?_
 ·intro ds hd
  obtain ⟨d0, ds0, rfl, h0⟩ := Zbg (k := 4) hd
  obtain ⟨d1, ds1, rfl, h1⟩ := Zbg (k := 3) h0
  obtain ⟨d2, ds2, rfl, h2⟩ := Zbg (k := 2) h1
  obtain ⟨d3, ds3, rfl, h3⟩ := Zbg (k := 1) h2
  obtain ⟨d4, ds4, rfl, h4⟩ := Zbg (k := 0) h3
  obtain rfl := List.eq_nil_of_length_eq_zero h4
  rfl
 ·intro W base args ds p hval hL hS hA
  exact mergeMeanings_walk W base args ds p (lib_of hL hS) (glob_of hL) (me_of hL) hval hA
theorem af_joined : joinedFacts Tryz.prog 7 Tryz.f7 Rows.mergeMeaningsSpec Rows.mergeMeaningsRow = true := by
 unfold joinedFacts
 exact ZbU (ZbU (ZbU (ZbU (ZbU (ZbU (ZbU (ZbU (ZbU (ZbU (ZbU (ZbU (ZbU (ZbU (ZbU (ZbU (ZbU (ZbU (ZbU (ZbU (ZbU (ZbU (ZbU (ZbU (ZbU (ZbU (ZbU (ZbU (ZbU (ZbU (ZbU af1 af2) af3) (by kernel_rfl)) af5) (by kernel_rfl)) (by kernel_rfl)) (by kernel_rfl)) (by kernel_rfl)) af10) af11) af12) af13) (by kernel_rfl)) (by kernel_rfl)) (by kernel_rfl)) (by kernel_rfl)) (by kernel_rfl)) (by kernel_rfl)) (by kernel_rfl)) (by kernel_rfl)) (by kernel_rfl)) af23) (by kernel_rfl)) af25) af26) af27) af28) (by kernel_rfl)) (by kernel_rfl)) (by kernel_rfl)) (by kernel_rfl)
theorem mergeMeanings_row_holds : Rows.MergeMeaningsSaid :=
 OpenClaim.holds_of_wide 7 Tryz.f7 rfl rfl rfl rfl rfl rfl rfl ⟨rfl, rfl, rfl, rfl, rfl⟩ rfl rfl rfl rfl rfl af_fn Tryz.func7 af_joined
  af_inst af_wrap
  (fun os started H enc _ => mergeMeanings_lifted os started H enc)
theorem mergeMeanings_holds : Rows.MergeMeaningsCardSaid :=
 Claim7.holds_tied_plain_at .later [] [.data, .data, .data, .data, .sentinel, .sentinel, .data, .funcs, .funcs, .funcs, .pinned] true (true, "8a5dec105e49d7e495462c86ad0c88b4974a58e2781ed46907fe7fb400c90281") true
  mergeMeanings_row_holds (fun _ h => by cases h) af_wf (fun _ h => by cases h) mergeMeanings_row_tie rfl ⟨rfl, rfl⟩ af_main rfl
  (fun f fn hf hfn => by
   obtain rfl : f = 7 := Option.some.inj (af_fn.symm.trans hf) |>.symm
   obtain rfl : fn = Tryz.f7 := (Option.some.inj (Tryz.func7.symm.trans hfn)).symm
   exact ⟨af_looks, fun j t ht => by
    have h2 : Tryz.f7.params.toList.all (fun t => !Tryz.prog.wantsStandIn t) = true := by kernel_rfl
    have h3 := List.all_eq_true.1 h2 t (by rw [Array.mem_toList_iff]; exact Array.mem_of_getElem? ht)
    have h4 : Tryz.prog.wantsStandIn t = false := by simpa using h3
    exact h4⟩)
  af_goes
end Go.Proofs.YtpcpmndldgejiaaGreatDoor
