/- Parts of the proof. -/
import Derived.Test.YtpcpmndldgejiaaGreatDoorV29
import Derived.Test.YtpcpmndldgejiaaGreatDoorV20
import Derived.Test.YtpcpmndldgejiaaGreatDoorV27
import Derived.Test.YtpcpmndldgejiaaGreatDoorRows
import Derived.LaidSub
import Derived.SevenTiedAt
import Derived.JoinedOf
import Derived.KernelRfl
set_option maxHeartbeats 4000000
set_option linter.unusedVariables false
set_option linter.unusedSimpArgs false
namespace Go.Proofs.YtpcpmndldgejiaaGreatDoor
open Go Go.RowKit Go.Wk Go.ChangeShapes Go.WideShapes Go.ChangeAt
def gty (P : Program) (g : Nat) : TypeId := match P.globals[g]? with | some x => x.type | none => 0
def Za9 : List (String × DataW Unit) := Rows.mergeMeaningsRow.laid
noncomputable def kinFs : List (String × FuncId) := [(Tryz.f300.name, 300), (Tryz.f301.name, 301), (Tryz.f303.name, 303), (Tryz.f305.name, 305)]
noncomputable def conFs : List (String × FuncId) := [(Tryz.f290.name, 290), (Tryz.f292.name, 292), (Tryz.f293.name, 293), (Tryz.f295.name, 295), (Tryz.f297.name, 297), (Tryz.f298.name, 298)]
theorem kinM : ((Za9[7]'(by decide)).1, (Za9[7]'(by decide)).2) ∈ Za9 := List.getElem_mem (by decide)
theorem conM : ((Za9[8]'(by decide)).1, (Za9[8]'(by decide)).2) ∈ Za9 := List.getElem_mem (by decide)
theorem befM : ((Za9[6]'(by decide)).1, (Za9[6]'(by decide)).2) ∈ Za9.filter fun x => x.2.handleName?.isNone := List.mem_filter.2 ⟨List.getElem_mem (by decide), by kernel_rfl⟩
theorem synM : ((Za9[5]'(by decide)).1, (Za9[5]'(by decide)).2) ∈ Za9.filter fun x => x.2.handleName?.isNone := List.mem_filter.2 ⟨List.getElem_mem (by decide), by kernel_rfl⟩
theorem kin_of {W : World} (h : laidMetH Tryz.prog Za9 W) : Zap W ⟨4, 3, none⟩ kindCells :=
 Zdt (t := gty Tryz.prog 4) kinFs 8 (laidMetH.funcs h kinM) (by kernel_rfl) (by kernel_rfl) (by kernel_rfl)
theorem con_of {W : World} (h : laidMetH Tryz.prog Za9 W) : Zap W ⟨2, 0, none⟩ condCells :=
 Zdt (t := gty Tryz.prog 2) conFs 8 (laidMetH.funcs h conM) (by kernel_rfl) (by kernel_rfl) (by kernel_rfl)
theorem bef_of {W : World} (h : laidMetH Tryz.prog Za9 W) : Zap W ⟨1, 0, none⟩ (Zbf.map fun n => .int .i64 n) :=
 cells_of_laid (t := gty Tryz.prog 1) 8 h befM (by kernel_rfl) (by kernel_rfl) (by kernel_rfl)
noncomputable def meFs : List (String × FuncId) := [(Tryz.f287.name, 287), (Tryz.f288.name, 288), (Tryz.f289.name, 289)]
theorem meM : ((Za9[9]'(by decide)).1, (Za9[9]'(by decide)).2) ∈ Za9 := List.getElem_mem (by decide)
theorem me_of {W : World} (h : laidMetH Tryz.prog Za9 W) : MeG W :=
 show Zap W ⟨0, 0, none⟩ meCells from Zdt (t := gty Tryz.prog 0) meFs 8 (laidMetH.funcs h meM) (by kernel_rfl) (by kernel_rfl) (by kernel_rfl)
theorem glob_of {W : World} (h : laidMetH Tryz.prog Za9 W) : Glob W := ⟨bef_of h, kin_of h, con_of h⟩
theorem lib_of {W : World} (h : laidMetH Tryz.prog Za9 W) (hs : W.ShapedOpen Tryz.prog) : LibW W :=
 ⟨cutLay.s1_3 W hs, iface_of_laid (t := gty Tryz.prog 10) (g := puLay_ren.g 0) h synM (by kernel_rfl) (by kernel_rfl) (by kernel_rfl)⟩
noncomputable def accW (os : Os) : World :=
 { World.doorLaid Tryz.prog 400 os with heap := (World.doorLaid Tryz.prog 400 os).heap.modify 8 fun | .cells _ t frozen => .cells (cellsOfD Rows.laid_unicode_utf8_first).toArray t frozen | o => o }
theorem acc_met (os : Os) (args : Array Value) : laidMetH Tryz.prog Za9 ((accW os).forCall (fun _ _ => 0) ⟨#[], args, []⟩).memory :=
 laidMetH_of_parts3 (fuel := 8) (laidMet_of_run' 8 (by kernel_rfl) (by kernel_rfl)) (by kernel_rfl) (by kernel_rfl)
theorem ZbU {a b : Bool} (ha : a = true) (hb : b = true) : (a && b) = true := by rw [ha, hb]; rfl
theorem af1 : Rows.mergeMeaningsRow.wf (OpenSpec.ofChange Rows.mergeMeaningsSpec) = true := by kernel_rfl
theorem af2 : laidOutB Tryz.prog = true := by kernel_rfl
theorem af3 : mapsRowed Tryz.prog = true := by kernel_rfl
theorem af5 : namedTie Tryz.prog Rows.mergeMeaningsRow.named Rows.mergeMeaningsSpec.vars = true := by kernel_rfl
theorem af10 : (Rows.mergeMeaningsRow.inPlace == Tryz.prog.inPlace 7) = true := by kernel_rfl
theorem af11 : (Rows.mergeMeaningsRow.unfollowed == Tryz.prog.unfollowed 7) = true := by kernel_rfl
theorem af12 : (Rows.mergeMeaningsRow.recurses == Tryz.prog.recurses 7) = true := by kernel_rfl
theorem af13 : (Rows.mergeMeaningsRow.named == Tryz.prog.varsNamed 7) = true := by kernel_rfl
theorem af23 : (Rows.mergeMeaningsRow.plainKeys == Tryz.prog.plainKeys) = true := by kernel_rfl
theorem af25 : Tryz.prog.stopsHeard = true := by kernel_rfl
theorem af26 : Tryz.prog.mayEnter = true := by kernel_rfl
theorem af27 : (Rows.mergeMeaningsRow.lifted == Tryz.prog.liftsFinal) = true := by kernel_rfl
theorem af28 : (Tryz.prog.make == some Rows.mergeMeaningsRow.make) = true := by kernel_rfl
theorem af_wf : Rows.mergeMeaningsRow.wfByText (OpenSpec.ofChange Rows.mergeMeaningsSpec) = true := by kernel_rfl
theorem af_main : Tryz.prog.mainIs = some (true, "8a5dec105e49d7e495462c86ad0c88b4974a58e2781ed46907fe7fb400c90281".toList) := by kernel_rfl
theorem af_looks : true = Tryz.prog.looks [] := by kernel_rfl
theorem af_goes : false = Rows.mergeMeaningsRow.goesBy Tryz.prog := by kernel_rfl
theorem af_fn : Tryz.prog.funcNamed Rows.mergeMeaningsRow.func = some 7 := by kernel_rfl
theorem af_inst : Tryz.f7.isInstance Tryz.prog Rows.mergeMeaningsRow.origin Rows.mergeMeaningsRow.targs := of_decide_eq_true (by kernel_rfl)
theorem af_wrap : Tryz.f7.isWrapper Tryz.prog Rows.mergeMeaningsRow.wrapper Rows.mergeMeaningsRow.mainSum := by unfold Func.isWrapper; first | (rw [if_pos (by decide +kernel)]; kernel_rfl) | (rw [if_neg (by decide +kernel)]; exact ⟨rfl, rfl⟩)
end Go.Proofs.YtpcpmndldgejiaaGreatDoor
