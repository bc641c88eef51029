/- For every input analemmalaw38.FooterFar returns true, and its arguments read behind the call as they did; the card ties the listed variables to the program's text; no other condition. -/
import Derived.Test.YtdlmhmmhdbbliaaGreatDoorW27
import Derived.Test.YtdlmhmmhdbbliaaGreatDoorW30
import Derived.Test.YtdlmhmmhdbbliaaGreatDoorTie
import Derived.Test.YtdlmhmmhdbbliaaGreatDoorCards
import Derived.SevenTiedAt
set_option maxHeartbeats 4000000
set_option linter.unusedVariables false
set_option linter.unusedSimpArgs false
namespace Go.Proofs.YtdlmhmmhdbbliaaGreatDoor
open Go Go.RowKit Go.Wk Go.ChangeShapes Go.WideShapes Go.ChangeAt
set_option maxRecDepth 100000 in
theorem Zjg {H : Type} {enc : TypeId × Value -> H} (W : World) (base : Nat) (args : List Value) (ds : List (DataW H)) (p : List MemPlace) (hL : LibW W) (hG : Glob W) (hF : FtG W) (hM : MeG W)
  (hval : ∀ (j : Nat) t v, [26, 5, 2][j]? = some t -> args[j]? = some v -> Value.okWide Tryz.prog W .any base t v)
  (hA : DataW.TrodAll enc Tryz.prog W 0 (fun _ => true) true [26, 5, 2] args ds p) : Does Tryz.prog 3 args W (fun v _ => v = .bool true) := by
 obtain ⟨v0, vs0, d0, ds0, p0, q0, rfl, rfl, rfl, h0, r0⟩ := trodAll_cons hA
 obtain ⟨v1, vs1, d1, ds1, p1, q1, rfl, rfl, rfl, h1, r1⟩ := trodAll_cons r0
 obtain ⟨v2, vs2, d2, ds2, p2, q2, rfl, rfl, rfl, h2, r2⟩ := trodAll_cons r1
 obtain ⟨rfl, rfl, rfl⟩ := trodAll_nil r2
 obtain ⟨As, Az, Al, cs, cz, cl, d, rfl, s1, s2, s3, s4, s5, s6⟩ := Zu2 (hval 0 _ v0 rfl rfl) h0
 obtain ⟨x1, rfl, b1⟩ := Zxk (hval 1 _ v1 rfl rfl) h1
 obtain ⟨x2, rfl⟩ := Zu1 (hval 2 _ v2 rfl rfl) h2
 exact (Zjh As Az Al cs cz cl d x1 x2 W hL hG hF hM s1 s2 s3 s4 s5 s6 b1).mono fun v O h => h.1
theorem Zr5 : ownKnob Tryz.prog.godebug = none := by kernel_rfl
set_option maxRecDepth 100000 in
theorem Zho (os : Os) (started : os.Started) (H : Type) (enc : TypeId × Value -> H) :
  ReturnsInHanded {} Tryz.checked os 3 .any (fun w args => (Rows.footerFarSpec.pre enc Tryz.prog Tryz.f3 Rows.footerFarRow.domain false w args /\ laidMetH Tryz.prog Rows.footerFarRow.laid w) /\ sizedMet enc Tryz.prog Tryz.f3 (OpenSpec.ofChange Rows.footerFarSpec) false w args)
   (Rows.footerFarSpec.post enc Tryz.prog Tryz.f3 false true false false) := by
 refine ZnL (C := Tryz.checked) (t := 4) Rows.footerFarRow.laid Zr5 started (by kernel_rfl) Tryz.func3
  (ChangeSpec.witness_shaped (enc := enc) (C := Tryz.checked) (os := os) (X := fun w _ => laidMetH Tryz.prog Rows.footerFarRow.laid w) false (accW os) #[.agg #[.slice none 0 0, .slice none 0 0, .slice none 0 0], .int .u8 0, .int .i64 0] 8 rfl (World.shaped_of_RefB (by kernel_rfl) (by kernel_rfl)) (by kernel_rfl) (by kernel_rfl) (by kernel_rfl) (ZxS os _)) rfl rfl Tryz.underlying4 af2 (by kernel_rfl) ?_ ?_
 ·intro ds hd
  obtain ⟨d0, ds0, rfl, h0⟩ := Zbs (k := 2) hd
  obtain ⟨d1, ds1, rfl, h1⟩ := Zbs (k := 1) h0
  obtain ⟨d2, ds2, rfl, h2⟩ := Zbs (k := 0) h1
  obtain rfl := List.eq_nil_of_length_eq_zero h2
  rfl
 ·intro W base args ds p hval hL hS hA
  exact Zjg W base args ds p (ZyD hL hS) (Zxx hL) (Zzt hL) (Zzp hL) hval hA
theorem Ztp : joinedFacts Tryz.prog 3 Tryz.f3 Rows.footerFarSpec Rows.footerFarRow = true := by
 unfold joinedFacts
 exact ZbO (ZbO (ZbO (ZbO (ZbO (ZbO (ZbO (ZbO (ZbO (ZbO (ZbO (ZbO (ZbO (ZbO (ZbO (ZbO (ZbO (ZbO (ZbO (ZbO (ZbO (ZbO (ZbO (ZbO (ZbO (ZbO (ZbO (ZbO (ZbO (ZbO (ZbO af1 af2) af3) (by kernel_rfl)) af5) (by kernel_rfl)) (by kernel_rfl)) (by kernel_rfl)) (by kernel_rfl)) af10) af11) af12) af13) (by kernel_rfl)) (by kernel_rfl)) (by kernel_rfl)) (by kernel_rfl)) (by kernel_rfl)) (by kernel_rfl)) (by kernel_rfl)) (by kernel_rfl)) (by kernel_rfl)) af23) (by kernel_rfl)) af25) af26) af27) af28) (by kernel_rfl)) (by kernel_rfl)) (by kernel_rfl)) (by kernel_rfl)
theorem footerFar_row_holds : Rows.FooterFarSaid :=
 OpenClaim.holds_of_wide 3 Tryz.f3 rfl rfl rfl rfl rfl rfl rfl ⟨rfl, rfl, rfl, rfl, rfl⟩ rfl rfl rfl rfl rfl ZyU Tryz.func3 Ztp
  ZxQ ZxO
  (fun os started H enc _ => Zho os started H enc)
theorem footerFar_holds : Rows.FooterFarCardSaid :=
 Claim7.holds_tied_plain_at .later [] [.data, .data, .data, .data, .sentinel, .sentinel, .data, .funcs, .funcs, .funcs, .funcs, .pinned] true (true, "7d74553a43dc03c478512c6bea16ce338c67dbe607f783aa2dcb45a14c62eba4") true
  footerFar_row_holds (fun _ h => by cases h) Zzx (fun _ h => by cases h) footerFar_row_tie rfl ⟨rfl, rfl⟩ ZxP rfl
  (fun f fn hf hfn => by
   obtain rfl : f = 3 := Option.some.inj (ZyU.symm.trans hf) |>.symm
   obtain rfl : fn = Tryz.f3 := (Option.some.inj (Tryz.func3.symm.trans hfn)).symm
   exact ⟨ZvI, fun j t ht => by
    have h2 : Tryz.f3.params.toList.all (fun t => !Tryz.prog.wantsStandIn t) = true := by kernel_rfl
    have h3 := List.all_eq_true.1 h2 t (by rw [Array.mem_toList_iff]; exact Array.mem_of_getElem? ht)
    have h4 : Tryz.prog.wantsStandIn t = false := by simpa using h3
    exact h4⟩)
  ZxR
end Go.Proofs.YtdlmhmmhdbbliaaGreatDoor
