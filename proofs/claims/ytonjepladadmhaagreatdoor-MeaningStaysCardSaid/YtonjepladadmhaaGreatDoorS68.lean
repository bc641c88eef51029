/- Arguments opened: 32-bit numbers. -/
import Derived.Test.YtonjepladadmhaaGreatDoorS41
set_option maxHeartbeats 4000000
set_option linter.unusedVariables false
set_option linter.unusedSimpArgs false
namespace Go.Proofs.YtonjepladadmhaaGreatDoor
open Go Go.RowKit Go.Wk Go.ChangeShapes Go.WideShapes Go.ChangeAt
section
variable {H : Type} {enc : TypeId × Value → H} {w : World} {sp : Nat → Bool} {held : Bool}
set_option maxRecDepth 100000 in
theorem open_i32 {v : Value} {r : Reach} {b0 : Nat} {d : DataW H} {ps : List MemPlace} (hv : Value.okWide Tryz.prog w r b0 21 v) (h : DataW.Trod enc Tryz.prog w 0 sp held 21 v d ps) : ∃ x : Int, v = .int .i32 x ∧ inR .i32 x := by
 obtain ⟨n, rfl⟩ := okWide_int Tryz.underlying21 hv
 obtain ⟨fuel, h⟩ := h
 have h2 : DataW.trod enc Tryz.prog w 0 sp held fuel 21 [.int .i32 n] = some (d, ps) := h
 obtain ⟨x, e, _, b⟩ := DataW.trod_int Tryz.underlying21 h2
 simp only [List.cons.injEq, and_true] at e
 exact ⟨x, e, inR_of b⟩
end
end Go.Proofs.YtonjepladadmhaaGreatDoor
