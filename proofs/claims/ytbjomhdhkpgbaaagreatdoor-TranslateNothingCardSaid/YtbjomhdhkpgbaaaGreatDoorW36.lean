/- For every input analemmalaw31.TranslateNothing returns true, and its arguments read behind the call as they did; the card ties the listed variables to the program's text; no other condition. -/
import Derived.Test.YtbjomhdhkpgbaaaGreatDoorW35
import Derived.Test.YtbjomhdhkpgbaaaGreatDoorW28
import Derived.Test.YtbjomhdhkpgbaaaGreatDoorTie
import Derived.Test.YtbjomhdhkpgbaaaGreatDoorCards
import Derived.SevenTiedAt
set_option maxHeartbeats 4000000
set_option linter.unusedVariables false
set_option linter.unusedSimpArgs false
namespace Go.Proofs.YtbjomhdhkpgbaaaGreatDoor
open Go Go.RowKit Go.Wk Go.ChangeShapes Go.WideShapes Go.ChangeAt
set_option maxRecDepth 100000 in
theorem ZeD {H : Type} {enc : TypeId × Value -> H} (W : World) (base : Nat) (args : List Value) (ds : List (DataW H)) (p : List MemPlace) (hL : LibW W) (hG : Glob W)
  (hval : ∀ (j : Nat) t v, [26, 4][j]? = some t -> args[j]? = some v -> Value.okWide Tryz.prog W .any base t v)
  (hA : DataW.TrodAll enc Tryz.prog W 0 (fun _ => true) true [26, 4] args ds p) : Does Tryz.prog 4 args W (fun v _ => v = .bool true) := by
 obtain ⟨v0, vs0, d0, ds0, p0, q0, rfl, rfl, rfl, h0, r0⟩ := trodAll_cons hA
 obtain ⟨v1, vs1, d1, ds1, p1, q1, rfl, rfl, rfl, h1, r1⟩ := trodAll_cons r0
 obtain ⟨rfl, rfl, rfl⟩ := trodAll_nil r1
 obtain ⟨As, Az, Al, cs, cz, cl, d, rfl, s1, s2, s3, s4, s5, s6⟩ := ZpV (hval 0 _ v0 rfl rfl) h0
 obtain ⟨x1, rfl⟩ := ZsW (hval 1 _ v1 rfl rfl) h1
 exact (ZeE As Az Al cs cz cl d x1 W hL hG s1 s2 s3 s4 s5 s6).mono fun v O h => h.1
theorem Zig : ownKnob Tryz.prog.godebug = none := by kernel_rfl
set_option maxRecDepth 100000 in
theorem ZdW (os : Os) (started : os.Started) (H : Type) (enc : TypeId × Value -> H) :
  ReturnsInHanded {} Tryz.checked os 4 .any (fun w args => (Rows.translateNothingSpec.pre enc Tryz.prog Tryz.f4 Rows.translateNothingRow.domain false w args /\ laidMetH Tryz.prog Rows.translateNothingRow.laid w) /\ sizedMet enc Tryz.prog Tryz.f4 (OpenSpec.ofChange Rows.translateNothingSpec) false w args)
   (Rows.translateNothingSpec.post enc Tryz.prog Tryz.f4 false true false false) := by
 refine Zit (C := Tryz.checked) (t := 4) Rows.translateNothingRow.laid Zig started (by kernel_rfl) Tryz.func4
  (ChangeSpec.witness_shaped (enc := enc) (C := Tryz.checked) (os := os) (X := fun w _ => laidMetH Tryz.prog Rows.translateNothingRow.laid w) false (accW os) #[.agg #[.slice none 0 0, .slice none 0 0, .slice none 0 0], .bool false] 8 rfl (World.shaped_of_RefB (by kernel_rfl) (by kernel_rfl)) (by kernel_rfl) (by kernel_rfl) (by kernel_rfl) (Zo4 os _)) rfl rfl Tryz.underlying4 af2 (by kernel_rfl) ?_ ?_
 ·intro ds hd
  obtain ⟨d0, ds0, rfl, h0⟩ := ZbI (k := 1) hd
  obtain ⟨d1, ds1, rfl, h1⟩ := ZbI (k := 0) h0
  obtain rfl := List.eq_nil_of_length_eq_zero h1
  rfl
 ·intro W base args ds p hval hL hS hA
  exact ZeD W base args ds p (Ztf hL hS) (Zou hL) hval hA
theorem Zjb : joinedFacts Tryz.prog 4 Tryz.f4 Rows.translateNothingSpec Rows.translateNothingRow = true := by
 unfold joinedFacts
 exact ZaZ (ZaZ (ZaZ (ZaZ (ZaZ (ZaZ (ZaZ (ZaZ (ZaZ (ZaZ (ZaZ (ZaZ (ZaZ (ZaZ (ZaZ (ZaZ (ZaZ (ZaZ (ZaZ (ZaZ (ZaZ (ZaZ (ZaZ (ZaZ (ZaZ (ZaZ (ZaZ (ZaZ (ZaZ (ZaZ (ZaZ af1 af2) af3) (by kernel_rfl)) af5) (by kernel_rfl)) (by kernel_rfl)) (by kernel_rfl)) (by kernel_rfl)) af10) af11) af12) af13) (by kernel_rfl)) (by kernel_rfl)) (by kernel_rfl)) (by kernel_rfl)) (by kernel_rfl)) (by kernel_rfl)) (by kernel_rfl)) (by kernel_rfl)) (by kernel_rfl)) af23) (by kernel_rfl)) af25) af26) af27) af28) (by kernel_rfl)) (by kernel_rfl)) (by kernel_rfl)) (by kernel_rfl)
theorem translateNothing_row_holds : Rows.TranslateNothingSaid :=
 OpenClaim.holds_of_wide 4 Tryz.f4 rfl rfl rfl rfl rfl rfl rfl ⟨rfl, rfl, rfl, rfl, rfl⟩ rfl rfl rfl rfl rfl Zuh Tryz.func4 Zjb
  Zo2 Zo0
  (fun os started H enc _ => ZdW os started H enc)
theorem translateNothing_holds : Rows.TranslateNothingCardSaid :=
 Claim7.holds_tied_plain_at .later [] [.data, .data, .data, .data, .sentinel, .sentinel, .data, .funcs, .funcs, .widerDeep, .pinned] true (true, "3d169eba04c2ae9ab9c5e3713ae2372aebf789426dd2a12541f32d536c18ae94") true
  translateNothing_row_holds (fun _ h => by cases h) ZyD (fun _ h => by cases h) translateNothing_row_tie rfl ⟨rfl, rfl⟩ Zo1 rfl
  (fun f fn hf hfn => by
   obtain rfl : f = 4 := Option.some.inj (Zuh.symm.trans hf) |>.symm
   obtain rfl : fn = Tryz.f4 := (Option.some.inj (Tryz.func4.symm.trans hfn)).symm
   exact ⟨Zln, fun j t ht => by
    have h2 : Tryz.f4.params.toList.all (fun t => !Tryz.prog.wantsStandIn t) = true := by kernel_rfl
    have h3 := List.all_eq_true.1 h2 t (by rw [Array.mem_toList_iff]; exact Array.mem_of_getElem? ht)
    have h4 : Tryz.prog.wantsStandIn t = false := by simpa using h3
    exact h4⟩)
  Zo3
end Go.Proofs.YtbjomhdhkpgbaaaGreatDoor
