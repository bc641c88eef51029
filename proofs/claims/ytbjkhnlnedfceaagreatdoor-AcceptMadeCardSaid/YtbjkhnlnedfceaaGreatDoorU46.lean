/- What the rows of layer 25 list, as the contracts want it. -/
import Derived.Test.YtbjkhnlnedfceaaGreatDoorU44
import Derived.Test.YtbjkhnlnedfceaaGreatDoorU19
import Derived.Test.YtbjkhnlnedfceaaGreatDoorRows
import Derived.LaidSub
set_option maxHeartbeats 4000000
set_option linter.unusedVariables false
set_option linter.unusedSimpArgs false
namespace Go.Proofs.YtbjkhnlnedfceaaGreatDoor
open Go Go.RowKit Go.Wk Go.ChangeShapes Go.WideShapes Go.ChangeAt
def gty (P : Program) (g : Nat) : TypeId := match P.globals[g]? with | some x => x.type | none => 0
def accLaid : List (String × DataW Unit) := Rows.acceptMadeRow.laid
noncomputable def kinFs : List (String × FuncId) := [(Tryz.f279.name, 279), (Tryz.f280.name, 280), (Tryz.f282.name, 282), (Tryz.f284.name, 284)]
noncomputable def conFs : List (String × FuncId) := [(Tryz.f269.name, 269), (Tryz.f271.name, 271), (Tryz.f272.name, 272), (Tryz.f274.name, 274), (Tryz.f276.name, 276), (Tryz.f277.name, 277)]
theorem kinM : ((accLaid[7]'(by decide)).1, (accLaid[7]'(by decide)).2) ∈ accLaid := List.getElem_mem (by decide)
theorem conM : ((accLaid[8]'(by decide)).1, (accLaid[8]'(by decide)).2) ∈ accLaid := List.getElem_mem (by decide)
theorem befM : ((accLaid[6]'(by decide)).1, (accLaid[6]'(by decide)).2) ∈ accLaid.filter fun x => x.2.handleName?.isNone := List.mem_filter.2 ⟨List.getElem_mem (by decide), by kernel_rfl⟩
theorem varM : ((accLaid[9]'(by decide)).1, (accLaid[9]'(by decide)).2) ∈ accLaid.filter fun x => x.2.handleName?.isNone := List.mem_filter.2 ⟨List.getElem_mem (by decide), by kernel_rfl⟩
theorem synM : ((accLaid[5]'(by decide)).1, (accLaid[5]'(by decide)).2) ∈ accLaid.filter fun x => x.2.handleName?.isNone := List.mem_filter.2 ⟨List.getElem_mem (by decide), by kernel_rfl⟩
theorem kin_of {W : World} (h : laidMetH Tryz.prog accLaid W) : CellsAt W ⟨2, 3, none⟩ kindCells :=
 cells_of_funcs (t := gty Tryz.prog 2) kinFs 8 (laidMetH.funcs h kinM) (by kernel_rfl) (by kernel_rfl) (by kernel_rfl)
theorem con_of {W : World} (h : laidMetH Tryz.prog accLaid W) : CellsAt W ⟨1, 0, none⟩ condCells :=
 cells_of_funcs (t := gty Tryz.prog 1) conFs 8 (laidMetH.funcs h conM) (by kernel_rfl) (by kernel_rfl) (by kernel_rfl)
theorem bef_of {W : World} (h : laidMetH Tryz.prog accLaid W) : CellsAt W ⟨4, 0, none⟩ (beforeL.map fun n => .int .i64 n) :=
 cells_of_laid (t := gty Tryz.prog 4) 8 h befM (by kernel_rfl) (by kernel_rfl) (by kernel_rfl)
theorem var_of {W : World} (h : laidMetH Tryz.prog accLaid W) : CellsAt W ⟨0, 0, none⟩ varCells :=
 cells_of_laid (t := gty Tryz.prog 0) 8 h varM (by kernel_rfl) (by kernel_rfl) (by kernel_rfl)
theorem glob_of {W : World} (h : laidMetH Tryz.prog accLaid W) : Glob W := ⟨bef_of h, kin_of h, con_of h, var_of h⟩
theorem lib_of {W : World} (h : laidMetH Tryz.prog accLaid W) (hs : W.ShapedOpen Tryz.prog) : LibW W :=
 ⟨cutLay.s1_3 W hs, iface_of_laid (t := gty Tryz.prog 5) (g := puLay_ren.g 0) h synM (by kernel_rfl) (by kernel_rfl) (by kernel_rfl)⟩
noncomputable def accW (os : Os) : World :=
 { World.doorLaid Tryz.prog 400 os with heap := (World.doorLaid Tryz.prog 400 os).heap.modify 7 fun | .cells _ t frozen => .cells (cellsOfD Rows.laid_unicode_utf8_first).toArray t frozen | o => o }
theorem acc_met (os : Os) (args : Array Value) : laidMetH Tryz.prog accLaid ((accW os).forCall (fun _ _ => 0) ⟨#[], args, []⟩).memory :=
 laidMetH_of_parts3 (fuel := 8) (laidMet_of_run' 8 (by kernel_rfl) (by kernel_rfl)) (by kernel_rfl) (by kernel_rfl)
end Go.Proofs.YtbjkhnlnedfceaaGreatDoor
