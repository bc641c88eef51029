/- For every input analemmalaw31.TranslateRefuses returns true, and its arguments read behind the call as they did; the card ties the listed variables to the program's text; no other condition. -/
import Derived.Test.YtbjomhdhkpgbaaaGreatDoorY34
import Derived.Test.YtbjomhdhkpgbaaaGreatDoorY28
import Derived.Test.YtbjomhdhkpgbaaaGreatDoorTie
import Derived.Test.YtbjomhdhkpgbaaaGreatDoorCards
import Derived.SevenTiedAt
set_option maxHeartbeats 4000000
set_option linter.unusedVariables false
set_option linter.unusedSimpArgs false
namespace Go.Proofs.YtbjomhdhkpgbaaaGreatDoor
open Go Go.RowKit Go.Wk Go.ChangeShapes Go.WideShapes Go.ChangeAt
set_option maxRecDepth 100000 in
theorem ZeD {H : Type} {enc : TypeId × Value -> H} (W : World) (base : Nat) (args : List Value) (ds : List (DataW H)) (p : List MemPlace) (hL : LibW W) (hG : Glob W)
  (hval : ∀ (j : Nat) t v, [26, 61][j]? = some t -> args[j]? = some v -> Value.okWide Tryz.prog W .any base t v)
  (hA : DataW.TrodAll enc Tryz.prog W 0 (fun _ => true) true [26, 61] args ds p) : Does Tryz.prog 5 args W (fun v _ => v = .bool true) := by
 obtain ⟨v0, vs0, d0, ds0, p0, q0, rfl, rfl, rfl, h0, r0⟩ := trodAll_cons hA
 obtain ⟨v1, vs1, d1, ds1, p1, q1, rfl, rfl, rfl, h1, r1⟩ := trodAll_cons r0
 obtain ⟨rfl, rfl, rfl⟩ := trodAll_nil r1
 obtain ⟨As, Az, Al, cs, cz, cl, d, rfl, s1, s2, s3, s4, s5, s6⟩ := Zp4 (hval 0 _ v0 rfl rfl) h0
 obtain ⟨x1, rfl, b1⟩ := Zww (hval 1 _ v1 rfl rfl) h1
 exact (ZeE As Az Al cs cz cl d x1 W hL hG s1 s2 s3 s4 s5 s6 b1).mono fun v O h => h.1
theorem Zii : ownKnob Tryz.prog.godebug = none := by kernel_rfl
set_option maxRecDepth 100000 in
theorem ZdZ (os : Os) (started : os.Started) (H : Type) (enc : TypeId × Value -> H) :
  ReturnsInHanded {} Tryz.checked os 5 .any (fun w args => (Rows.translateRefusesSpec.pre enc Tryz.prog Tryz.f5 Rows.translateRefusesRow.domain false w args /\ laidMetH Tryz.prog Rows.translateRefusesRow.laid w) /\ sizedMet enc Tryz.prog Tryz.f5 (OpenSpec.ofChange Rows.translateRefusesSpec) false w args)
   (Rows.translateRefusesSpec.post enc Tryz.prog Tryz.f5 false true false false) := by
 refine Zix (C := Tryz.checked) (t := 4) Rows.translateRefusesRow.laid Zii started (by kernel_rfl) Tryz.func5
  (ChangeSpec.witness_shaped (enc := enc) (C := Tryz.checked) (os := os) (X := fun w _ => laidMetH Tryz.prog Rows.translateRefusesRow.laid w) false (accW os) #[.agg #[.slice none 0 0, .slice none 0 0, .slice none 0 0], .int .u16 0] 8 rfl (World.shaped_of_RefB (by kernel_rfl) (by kernel_rfl)) (by kernel_rfl) (by kernel_rfl) (by kernel_rfl) (Zo6 os _)) rfl rfl Tryz.underlying4 af2 (by kernel_rfl) ?_ ?_
 ·intro ds hd
  obtain ⟨d0, ds0, rfl, h0⟩ := Zbn (k := 1) hd
  obtain ⟨d1, ds1, rfl, h1⟩ := Zbn (k := 0) h0
  obtain rfl := List.eq_nil_of_length_eq_zero h1
  rfl
 ·intro W base args ds p hval hL hS hA
  exact ZeD W base args ds p (ZtI hL hS) (Zow hL) hval hA
theorem Zjf : joinedFacts Tryz.prog 5 Tryz.f5 Rows.translateRefusesSpec Rows.translateRefusesRow = true := by
 unfold joinedFacts
 exact ZaV (ZaV (ZaV (ZaV (ZaV (ZaV (ZaV (ZaV (ZaV (ZaV (ZaV (ZaV (ZaV (ZaV (ZaV (ZaV (ZaV (ZaV (ZaV (ZaV (ZaV (ZaV (ZaV (ZaV (ZaV (ZaV (ZaV (ZaV (ZaV (ZaV (ZaV af1 af2) af3) (by kernel_rfl)) af5) (by kernel_rfl)) (by kernel_rfl)) (by kernel_rfl)) (by kernel_rfl)) af10) af11) af12) af13) (by kernel_rfl)) (by kernel_rfl)) (by kernel_rfl)) (by kernel_rfl)) (by kernel_rfl)) (by kernel_rfl)) (by kernel_rfl)) (by kernel_rfl)) (by kernel_rfl)) af23) (by kernel_rfl)) af25) af26) af27) af28) (by kernel_rfl)) (by kernel_rfl)) (by kernel_rfl)) (by kernel_rfl)
theorem translateRefuses_row_holds : Rows.TranslateRefusesSaid :=
 OpenClaim.holds_of_wide 5 Tryz.f5 rfl rfl rfl rfl rfl rfl rfl ⟨rfl, rfl, rfl, rfl, rfl⟩ rfl rfl rfl rfl rfl ZuJ Tryz.func5 Zjf
  Zo4 Zo2
  (fun os started H enc _ => ZdZ os started H enc)
theorem translateRefuses_holds : Rows.TranslateRefusesCardSaid :=
 Claim7.holds_tied_plain_at .later [] [.data, .data, .data, .data, .sentinel, .sentinel, .data, .funcs, .funcs, .widerDeep, .pinned] true (true, "3d169eba04c2ae9ab9c5e3713ae2372aebf789426dd2a12541f32d536c18ae94") true
  translateRefuses_row_holds (fun _ h => by cases h) Zzz (fun _ h => by cases h) translateRefuses_row_tie rfl ⟨rfl, rfl⟩ Zo3 rfl
  (fun f fn hf hfn => by
   obtain rfl : f = 5 := Option.some.inj (ZuJ.symm.trans hf) |>.symm
   obtain rfl : fn = Tryz.f5 := (Option.some.inj (Tryz.func5.symm.trans hfn)).symm
   exact ⟨Zlr, fun j t ht => by
    have h2 : Tryz.f5.params.toList.all (fun t => !Tryz.prog.wantsStandIn t) = true := by kernel_rfl
    have h3 := List.all_eq_true.1 h2 t (by rw [Array.mem_toList_iff]; exact Array.mem_of_getElem? ht)
    have h4 : Tryz.prog.wantsStandIn t = false := by simpa using h3
    exact h4⟩)
  Zo5
end Go.Proofs.YtbjomhdhkpgbaaaGreatDoor
