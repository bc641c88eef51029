/- What the rows of layer 25 list, as the contracts want it. -/
import Derived.Test.YtbffjibfcgcoeaaGreatDoorQ42
import Derived.Test.YtbffjibfcgcoeaaGreatDoorQ23
import Derived.Test.YtbffjibfcgcoeaaGreatDoorRows
import Derived.LaidSub
set_option linter.unusedVariables false
set_option linter.unusedSimpArgs false
namespace Go.Proofs.YtbffjibfcgcoeaaGreatDoor
open Go Go.RowKit Go.Wk Go.ChangeShapes Go.WideShapes Go.ChangeAt
/-- The type of a variable. -/
def gty (P : Program) (g : Nat) : TypeId := match P.globals[g]? with | some x => x.type | none => 0
def accLaid : List (String × DataW Unit) := Rows.acceptManyRow.laid
noncomputable def kinFs : List (String × FuncId) := [(Tryz.f372.name, 372), (Tryz.f373.name, 373), (Tryz.f375.name, 375), (Tryz.f377.name, 377)]
noncomputable def conFs : List (String × FuncId) := [(Tryz.f362.name, 362), (Tryz.f364.name, 364), (Tryz.f365.name, 365), (Tryz.f367.name, 367), (Tryz.f369.name, 369), (Tryz.f370.name, 370)]
theorem kinM : ((accLaid[7]'(by decide)).1, (accLaid[7]'(by decide)).2) ∈ accLaid := List.getElem_mem (by decide)
theorem conM : ((accLaid[8]'(by decide)).1, (accLaid[8]'(by decide)).2) ∈ accLaid := List.getElem_mem (by decide)
theorem befM : ((accLaid[6]'(by decide)).1, (accLaid[6]'(by decide)).2) ∈ accLaid.filter fun x => x.2.handleName?.isNone := List.mem_filter.2 ⟨List.getElem_mem (by decide), by kernel_rfl⟩
theorem varM : ((accLaid[9]'(by decide)).1, (accLaid[9]'(by decide)).2) ∈ accLaid.filter fun x => x.2.handleName?.isNone := List.mem_filter.2 ⟨List.getElem_mem (by decide), by kernel_rfl⟩
theorem synM : ((accLaid[5]'(by decide)).1, (accLaid[5]'(by decide)).2) ∈ accLaid.filter fun x => x.2.handleName?.isNone := List.mem_filter.2 ⟨List.getElem_mem (by decide), by kernel_rfl⟩
theorem kin_of {W : World} (h : laidMetH Tryz.prog accLaid W) : CellsAt W ⟨2, 3, none⟩ kindCells :=
  cells_of_funcs (t := gty Tryz.prog 2) kinFs 8 (laidMetH.funcs h kinM) (by kernel_rfl) (by kernel_rfl) (by kernel_rfl)
theorem con_of {W : World} (h : laidMetH Tryz.prog accLaid W) : CellsAt W ⟨0, 0, none⟩ condCells :=
  cells_of_funcs (t := gty Tryz.prog 0) conFs 8 (laidMetH.funcs h conM) (by kernel_rfl) (by kernel_rfl) (by kernel_rfl)
theorem bef_of {W : World} (h : laidMetH Tryz.prog accLaid W) : CellsAt W ⟨4, 0, none⟩ (beforeL.map fun n => .int .i64 n) :=
  cells_of_laid (t := gty Tryz.prog 4) 8 h befM (by kernel_rfl) (by kernel_rfl) (by kernel_rfl)
theorem var_of {W : World} (h : laidMetH Tryz.prog accLaid W) : CellsAt W ⟨1, 0, none⟩ varCells :=
  cells_of_laid (t := gty Tryz.prog 1) 8 h varM (by kernel_rfl) (by kernel_rfl) (by kernel_rfl)
theorem glob_of {W : World} (h : laidMetH Tryz.prog accLaid W) : Glob W := ⟨bef_of h, kin_of h, con_of h, var_of h⟩
theorem lib_of {W : World} (h : laidMetH Tryz.prog accLaid W) (hs : W.ShapedOpen Tryz.prog) : LibW W :=
  ⟨cutLay.s1_3 W hs, iface_of_laid (t := gty Tryz.prog 5) (g := puLay_ren.g 0) h synM (by kernel_rfl) (by kernel_rfl) (by kernel_rfl)⟩
/-- A world in which the listed variables hold what they are listed with: the door's own run, and Go's own table in its place. -/
noncomputable def accW (os : Os) : World :=
  { World.doorLaid Tryz.prog 400 os with heap := (World.doorLaid Tryz.prog 400 os).heap.modify 7 fun | .cells _ t frozen => .cells (cellsOfD Rows.laid_unicode_utf8_first).toArray t frozen | o => o }
theorem acc_met (os : Os) (args : Array Value) : laidMetH Tryz.prog accLaid ((accW os).forCall (fun _ _ => 0) ⟨#[], args, []⟩).memory :=
  laidMetH_of_parts3 (fuel := 8) (laidMet_of_run' 8 (by kernel_rfl) (by kernel_rfl)) (by kernel_rfl) (by kernel_rfl)
end Go.Proofs.YtbffjibfcgcoeaaGreatDoor
