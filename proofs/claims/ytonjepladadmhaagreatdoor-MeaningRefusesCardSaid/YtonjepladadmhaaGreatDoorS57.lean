/- What the rows of layer 25 list, as the contracts want it. -/
import Derived.Test.YtonjepladadmhaaGreatDoorS42
import Derived.Test.YtonjepladadmhaaGreatDoorS20
import Derived.Test.YtonjepladadmhaaGreatDoorS38
import Derived.Test.YtonjepladadmhaaGreatDoorRows
import Derived.LaidSub
set_option maxHeartbeats 4000000
set_option linter.unusedVariables false
set_option linter.unusedSimpArgs false
namespace Go.Proofs.YtonjepladadmhaaGreatDoor
open Go Go.RowKit Go.Wk Go.ChangeShapes Go.WideShapes Go.ChangeAt
def gty (P : Program) (g : Nat) : TypeId := match P.globals[g]? with | some x => x.type | none => 0
def accLaid : List (String × DataW Unit) := Rows.meaningRefusesRow.laid
noncomputable def kinFs : List (String × FuncId) := [(Tryz.f288.name, 288), (Tryz.f289.name, 289), (Tryz.f291.name, 291), (Tryz.f293.name, 293)]
noncomputable def conFs : List (String × FuncId) := [(Tryz.f299.name, 299), (Tryz.f301.name, 301), (Tryz.f302.name, 302), (Tryz.f304.name, 304), (Tryz.f306.name, 306), (Tryz.f307.name, 307)]
theorem kinM : ((accLaid[7]'(by decide)).1, (accLaid[7]'(by decide)).2) ∈ accLaid := List.getElem_mem (by decide)
theorem conM : ((accLaid[8]'(by decide)).1, (accLaid[8]'(by decide)).2) ∈ accLaid := List.getElem_mem (by decide)
theorem befM : ((accLaid[6]'(by decide)).1, (accLaid[6]'(by decide)).2) ∈ accLaid.filter fun x => x.2.handleName?.isNone := List.mem_filter.2 ⟨List.getElem_mem (by decide), by kernel_rfl⟩
theorem synM : ((accLaid[5]'(by decide)).1, (accLaid[5]'(by decide)).2) ∈ accLaid.filter fun x => x.2.handleName?.isNone := List.mem_filter.2 ⟨List.getElem_mem (by decide), by kernel_rfl⟩
theorem kin_of {W : World} (h : laidMetH Tryz.prog accLaid W) : CellsAt W ⟨1, 3, none⟩ kindCells :=
 cells_of_funcs (t := gty Tryz.prog 1) kinFs 8 (laidMetH.funcs h kinM) (by kernel_rfl) (by kernel_rfl) (by kernel_rfl)
theorem con_of {W : World} (h : laidMetH Tryz.prog accLaid W) : CellsAt W ⟨4, 0, none⟩ condCells :=
 cells_of_funcs (t := gty Tryz.prog 4) conFs 8 (laidMetH.funcs h conM) (by kernel_rfl) (by kernel_rfl) (by kernel_rfl)
theorem bef_of {W : World} (h : laidMetH Tryz.prog accLaid W) : CellsAt W ⟨2, 0, none⟩ (beforeL.map fun n => .int .i64 n) :=
 cells_of_laid (t := gty Tryz.prog 2) 8 h befM (by kernel_rfl) (by kernel_rfl) (by kernel_rfl)
noncomputable def meFs : List (String × FuncId) := [(Tryz.f295.name, 295), (Tryz.f296.name, 296), (Tryz.f297.name, 297)]
theorem meM : ((accLaid[9]'(by decide)).1, (accLaid[9]'(by decide)).2) ∈ accLaid := List.getElem_mem (by decide)
theorem me_of {W : World} (h : laidMetH Tryz.prog accLaid W) : MeG W :=
 show CellsAt W ⟨3, 0, none⟩ meCells from cells_of_funcs (t := gty Tryz.prog 3) meFs 8 (laidMetH.funcs h meM) (by kernel_rfl) (by kernel_rfl) (by kernel_rfl)
theorem glob_of {W : World} (h : laidMetH Tryz.prog accLaid W) : Glob W := ⟨bef_of h, kin_of h, con_of h⟩
theorem lib_of {W : World} (h : laidMetH Tryz.prog accLaid W) (hs : W.ShapedOpen Tryz.prog) : LibW W :=
 ⟨cutLay.s1_3 W hs, iface_of_laid (t := gty Tryz.prog 11) (g := puLay_ren.g 0) h synM (by kernel_rfl) (by kernel_rfl) (by kernel_rfl)⟩
noncomputable def accW (os : Os) : World :=
 { World.doorLaid Tryz.prog 400 os with heap := (World.doorLaid Tryz.prog 400 os).heap.modify 9 fun | .cells _ t frozen => .cells (cellsOfD Rows.laid_unicode_utf8_first).toArray t frozen | o => o }
theorem acc_met (os : Os) (args : Array Value) : laidMetH Tryz.prog accLaid ((accW os).forCall (fun _ _ => 0) ⟨#[], args, []⟩).memory :=
 laidMetH_of_parts3 (fuel := 8) (laidMet_of_run' 8 (by kernel_rfl) (by kernel_rfl)) (by kernel_rfl) (by kernel_rfl)
end Go.Proofs.YtonjepladadmhaaGreatDoor
