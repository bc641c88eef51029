/- For every input analemmalaw27.WalkParts returns true, and its arguments read behind the call as they did; the card ties the listed variables to the program's text; no other condition. -/
import Derived.Test.YtpcpmndldgejiaaGreatDoorW37
import Derived.Test.YtpcpmndldgejiaaGreatDoorW29
import Derived.Test.YtpcpmndldgejiaaGreatDoorTie
import Derived.Test.YtpcpmndldgejiaaGreatDoorCards
import Derived.SevenTiedAt
set_option maxHeartbeats 4000000
set_option linter.unusedVariables false
set_option linter.unusedSimpArgs false
namespace Go.Proofs.YtpcpmndldgejiaaGreatDoor
open Go Go.RowKit Go.Wk Go.ChangeShapes Go.WideShapes Go.ChangeAt
set_option maxRecDepth 100000 in
theorem ZjZ {H : Type} {enc : TypeId × Value -> H} (W : World) (base : Nat) (args : List Value) (ds : List (DataW H)) (p : List MemPlace) (hL : LibW W) (hG : Glob W)
  (hval : ∀ (j : Nat) t v, [26, 5, 27, 28, 28][j]? = some t -> args[j]? = some v -> Value.okWide Tryz.prog W .any base t v)
  (hA : DataW.TrodAll enc Tryz.prog W 0 (fun _ => true) true [26, 5, 27, 28, 28] args ds p) : Does Tryz.prog 3 args W (fun v _ => v = .bool true) := by
 obtain ⟨v0, vs0, d0, ds0, p0, q0, rfl, rfl, rfl, h0, r0⟩ := trodAll_cons hA
 obtain ⟨v1, vs1, d1, ds1, p1, q1, rfl, rfl, rfl, h1, r1⟩ := trodAll_cons r0
 obtain ⟨v2, vs2, d2, ds2, p2, q2, rfl, rfl, rfl, h2, r2⟩ := trodAll_cons r1
 obtain ⟨v3, vs3, d3, ds3, p3, q3, rfl, rfl, rfl, h3, r3⟩ := trodAll_cons r2
 obtain ⟨v4, vs4, d4, ds4, p4, q4, rfl, rfl, rfl, h4, r4⟩ := trodAll_cons r3
 obtain ⟨rfl, rfl, rfl⟩ := trodAll_nil r4
 obtain ⟨As, Az, Al, cs, cz, cl, d, rfl, s1, s2, s3, s4, s5, s6⟩ := Zie (hval 0 _ v0 rfl rfl) h0
 obtain ⟨x1, rfl, b1⟩ := Zte (hval 1 _ v1 rfl rfl) h1
 obtain ⟨x2, rfl, b2⟩ := Zly (hval 2 _ v2 rfl rfl) h2
 obtain ⟨x3, rfl, b3⟩ := Zid (hval 3 _ v3 rfl rfl) h3
 obtain ⟨x4, rfl, b4⟩ := Zid (hval 4 _ v4 rfl rfl) h4
 exact (Zj0 As Az Al cs cz cl d x1 x2 x3 x4 W hL hG s1 s2 s3 s4 s5 s6 b1 b2 b3 b4).mono fun v O h => h.1
theorem Zdc : ownKnob Tryz.prog.godebug = none := by kernel_rfl
set_option maxRecDepth 100000 in
theorem Zh2 (os : Os) (started : os.Started) (H : Type) (enc : TypeId × Value -> H) :
  ReturnsInHanded {} Tryz.checked os 3 .any (fun w args => (Rows.walkPartsSpec.pre enc Tryz.prog Tryz.f3 Rows.walkPartsRow.domain false w args /\ laidMetH Tryz.prog Rows.walkPartsRow.laid w) /\ sizedMet enc Tryz.prog Tryz.f3 (OpenSpec.ofChange Rows.walkPartsSpec) false w args)
   (Rows.walkPartsSpec.post enc Tryz.prog Tryz.f3 false true false false) := by
 refine Zeh (C := Tryz.checked) (t := 4) Rows.walkPartsRow.laid Zdc started (by kernel_rfl) Tryz.func3
  (ChangeSpec.witness_shaped (enc := enc) (C := Tryz.checked) (os := os) (X := fun w _ => laidMetH Tryz.prog Rows.walkPartsRow.laid w) false (accW os) #[.agg #[.slice none 0 0, .slice none 0 0, .slice none 0 0], .int .u8 0, .int .u64 0, .int .u32 0, .int .u32 0] 8 rfl (World.shaped_of_RefB (by kernel_rfl) (by kernel_rfl)) (by kernel_rfl) (by kernel_rfl) (by kernel_rfl) (Zgk os _)) rfl rfl Tryz.underlying4 af2 (by kernel_rfl) ?_ ?_
 ·intro ds hd
  obtain ⟨d0, ds0, rfl, h0⟩ := ZaS (k := 4) hd
  obtain ⟨d1, ds1, rfl, h1⟩ := ZaS (k := 3) h0
  obtain ⟨d2, ds2, rfl, h2⟩ := ZaS (k := 2) h1
  obtain ⟨d3, ds3, rfl, h3⟩ := ZaS (k := 1) h2
  obtain ⟨d4, ds4, rfl, h4⟩ := ZaS (k := 0) h3
  obtain rfl := List.eq_nil_of_length_eq_zero h4
  rfl
 ·intro W base args ds p hval hL hS hA
  exact ZjZ W base args ds p (Zi0 hL hS) (Zf9 hL) hval hA
theorem Zdp : joinedFacts Tryz.prog 3 Tryz.f3 Rows.walkPartsSpec Rows.walkPartsRow = true := by
 unfold joinedFacts
 exact Zas (Zas (Zas (Zas (Zas (Zas (Zas (Zas (Zas (Zas (Zas (Zas (Zas (Zas (Zas (Zas (Zas (Zas (Zas (Zas (Zas (Zas (Zas (Zas (Zas (Zas (Zas (Zas (Zas (Zas (Zas af1 af2) af3) (by kernel_rfl)) af5) (by kernel_rfl)) (by kernel_rfl)) (by kernel_rfl)) (by kernel_rfl)) af10) af11) af12) af13) (by kernel_rfl)) (by kernel_rfl)) (by kernel_rfl)) (by kernel_rfl)) (by kernel_rfl)) (by kernel_rfl)) (by kernel_rfl)) (by kernel_rfl)) (by kernel_rfl)) af23) (by kernel_rfl)) af25) af26) af27) af28) (by kernel_rfl)) (by kernel_rfl)) (by kernel_rfl)) (by kernel_rfl)
theorem walkParts_row_holds : Rows.WalkPartsSaid :=
 OpenClaim.holds_of_wide 3 Tryz.f3 rfl rfl rfl rfl rfl rfl rfl ⟨rfl, rfl, rfl, rfl, rfl⟩ rfl rfl rfl rfl rfl ZjM Tryz.func3 Zdp
  Zgi Zgg
  (fun os started H enc _ => Zh2 os started H enc)
theorem walkParts_holds : Rows.WalkPartsCardSaid :=
 Claim7.holds_tied_plain_at .later [] [.data, .data, .data, .data, .sentinel, .sentinel, .data, .funcs, .funcs, .pinned] true (true, "8a5dec105e49d7e495462c86ad0c88b4974a58e2781ed46907fe7fb400c90281") true
  walkParts_row_holds (fun _ h => by cases h) Zpr (fun _ h => by cases h) walkParts_row_tie rfl ⟨rfl, rfl⟩ Zgh rfl
  (fun f fn hf hfn => by
   obtain rfl : f = 3 := Option.some.inj (ZjM.symm.trans hf) |>.symm
   obtain rfl : fn = Tryz.f3 := (Option.some.inj (Tryz.func3.symm.trans hfn)).symm
   exact ⟨Zer, fun j t ht => by
    have h2 : Tryz.f3.params.toList.all (fun t => !Tryz.prog.wantsStandIn t) = true := by kernel_rfl
    have h3 := List.all_eq_true.1 h2 t (by rw [Array.mem_toList_iff]; exact Array.mem_of_getElem? ht)
    have h4 : Tryz.prog.wantsStandIn t = false := by simpa using h3
    exact h4⟩)
  Zgj
end Go.Proofs.YtpcpmndldgejiaaGreatDoor
