/- For every input analemmalaw33.KeepApart returns true, and its arguments read behind the call as they did; no condition. -/
import Derived.Test.YtfhjfpikngcknaaKeepU
import Derived.Test.YtfhjfpikngcknaaOpn25
import Derived.Test.YtfhjfpikngcknaaRows
namespace Go.Proofs.Ytfhjfpikngcknaa
open Go Go.RowKit Go.Wk Go.ChangeShapes Go.WideShapes Go.ChangeAt
theorem laid_out7 : laidOutB Try.prog = true := by kernel_rfl
theorem own_knob7 : ownKnob Try.prog.godebug = none := by kernel_rfl

set_option maxRecDepth 100000 in
theorem keepApart_walk {H : Type} {enc : TypeId × Value → H} (W : World) (base : Nat) (args : List Value) (ds : List (DataW H)) (p : List MemPlace)
    (hval : ∀ (j : Nat) t v, [52][j]? = some t → args[j]? = some v → Value.okWide Try.prog W .any base t v)
    (hA : DataW.TrodAll enc Try.prog W 0 (fun _ => true) true [52] args ds p) : Does Try.prog 6 args W (fun v _ => v = .bool true) := by
  obtain ⟨v0, vs0, d0, ds0, p0, q0, rfl, rfl, rfl, h0, r0⟩ := trodAll_cons hA
  obtain ⟨rfl, rfl, rfl⟩ := trodAll_nil r0
  obtain ⟨As, Al, cs, c, d, rfl, s1, s2, s3, s4, s5, s6⟩ := open_d25 (hval 0 _ v0 rfl rfl) h0
  exact (keepApart_spec As Al cs c d W s1 s2 s3 s4 s5 s6).mono fun v O h => h.1

set_option maxRecDepth 100000 in
theorem keepApart_lifted (os : Os) (started : os.Started) (H : Type) (enc : TypeId × Value → H) :
    ReturnsInHanded {} Try.checked os 6 .any (Rows.keepApartSpec.pre6 enc Try.prog Try.f6 Rows.keepApartRow.domain false) (Rows.keepApartSpec.post enc Try.prog Try.f6 false true false false) := by
  refine law_lifted (C := Try.checked) (t := 4) own_knob7 started (by kernel_rfl) Try.func6
    (ChangeSpec.witness6 (enc := enc) (C := Try.checked) false ⟨#[], #[.agg #[.slice none 0 0, .int .u8 0, .int .u8 0, .slice none 0 0]], []⟩ 8 (by kernel_rfl) (by kernel_rfl) (by kernel_rfl) (by kernel_rfl)) rfl rfl Try.underlying4 laid_out7 (by kernel_rfl) ?_ ?_
  · intro ds hd
    obtain ⟨d0, ds0, rfl, h0⟩ := len_cons (k := 0) hd
    obtain rfl := List.eq_nil_of_length_eq_zero h0
    rfl
  · intro W base args ds p hval hA
    exact keepApart_walk W base args ds p hval hA

theorem keepApart_holds : Rows.KeepApartSaid :=
  OpenClaim.holds_of_wide 6 Try.f6 rfl rfl rfl rfl rfl rfl rfl ⟨rfl, rfl, rfl, rfl, rfl⟩ rfl rfl rfl rfl rfl (by kernel_rfl) Try.func6 (by kernel_rfl)
    (of_decide_eq_true (by kernel_rfl)) (by unfold Func.isWrapper; first | (rw [if_pos (by decide +kernel)]; kernel_rfl) | (rw [if_neg (by decide +kernel)]; exact ⟨rfl, rfl⟩))
    (fun os started H enc _ => keepApart_lifted os started H enc)
end Go.Proofs.Ytfhjfpikngcknaa
