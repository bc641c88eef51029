/- The package-level variables that accept's code reads. -/
import Derived.Test.YtonjepladadmhaaGreatDoorR08
import Derived.Test.YtonjepladadmhaaGreatDoorR07
set_option maxHeartbeats 4000000
set_option linter.unusedVariables false
set_option linter.unusedSimpArgs false
namespace Go.Proofs.YtonjepladadmhaaGreatDoor
open Go Go.RowKit Go.Wk
def fnV (f : Nat) : Value := .func (.func f) #[] #[]
def kindCells : List Value := [.bool false, .bool true, fnV 288, .bool true, .bool false, fnV 289, .bool true, .bool true, fnV 291, .bool true, .bool true, fnV 293]
def condCells : List Value := [fnV 299, .int .i64 3, fnV 301, .int .i64 12, fnV 302, .int .i64 3, fnV 304, .int .i64 3, fnV 306, .int .i64 14, fnV 307, .int .i64 15]
structure Glob (w : World) : Prop where
 bef : CellsAt w ⟨2, 0, none⟩ (beforeL.map fun n => .int .i64 n)
 kin : CellsAt w ⟨1, 3, none⟩ kindCells
 con : CellsAt w ⟨4, 0, none⟩ condCells
theorem Glob.up {w w' : World} (h : Glob w) (hb : Bel w.heap.size w w') : Glob w' :=
 ⟨h.bef.up hb (Nat.le_refl _), h.kin.up hb (Nat.le_refl _), h.con.up hb (Nat.le_refl _)⟩
end Go.Proofs.YtonjepladadmhaaGreatDoor
