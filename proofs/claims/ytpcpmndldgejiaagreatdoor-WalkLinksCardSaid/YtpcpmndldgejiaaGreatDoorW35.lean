/- Parts of the proof. -/
import Derived.Test.YtpcpmndldgejiaaGreatDoorW43
import Derived.Test.YtpcpmndldgejiaaGreatDoorRows
import Derived.LaidSub
import Derived.SevenTiedAt
import Derived.JoinedOf
import Derived.KernelRfl
set_option maxHeartbeats 4000000
set_option linter.unusedVariables false
set_option linter.unusedSimpArgs false
namespace Go.Proofs.YtpcpmndldgejiaaGreatDoor
open Go Go.RowKit Go.Wk Go.ChangeShapes Go.WideShapes Go.ChangeAt
def gty (P : Program) (g : Nat) : TypeId := match P.globals[g]? with | some x => x.type | none => 0
def Zal : List (String × DataW Unit) := Rows.walkLinksRow.laid
noncomputable def kinFs : List (String × FuncId) := [(Tryz.f300.name, 300), (Tryz.f301.name, 301), (Tryz.f303.name, 303), (Tryz.f305.name, 305)]
noncomputable def conFs : List (String × FuncId) := [(Tryz.f290.name, 290), (Tryz.f292.name, 292), (Tryz.f293.name, 293), (Tryz.f295.name, 295), (Tryz.f297.name, 297), (Tryz.f298.name, 298)]
theorem kinM : ((Zal[7]'(by decide)).1, (Zal[7]'(by decide)).2) ∈ Zal := List.getElem_mem (by decide)
theorem conM : ((Zal[8]'(by decide)).1, (Zal[8]'(by decide)).2) ∈ Zal := List.getElem_mem (by decide)
theorem befM : ((Zal[6]'(by decide)).1, (Zal[6]'(by decide)).2) ∈ Zal.filter fun x => x.2.handleName?.isNone := List.mem_filter.2 ⟨List.getElem_mem (by decide), by kernel_rfl⟩
theorem synM : ((Zal[5]'(by decide)).1, (Zal[5]'(by decide)).2) ∈ Zal.filter fun x => x.2.handleName?.isNone := List.mem_filter.2 ⟨List.getElem_mem (by decide), by kernel_rfl⟩
theorem Zi4 {W : World} (h : laidMetH Tryz.prog Zal W) : Zao W ⟨4, 3, none⟩ ZeZ :=
 ZaU (t := gty Tryz.prog 4) kinFs 8 (laidMetH.funcs h kinM) (by kernel_rfl) (by kernel_rfl) (by kernel_rfl)
theorem Zjx {W : World} (h : laidMetH Tryz.prog Zal W) : Zao W ⟨2, 0, none⟩ Zdn :=
 ZaU (t := gty Tryz.prog 2) conFs 8 (laidMetH.funcs h conM) (by kernel_rfl) (by kernel_rfl) (by kernel_rfl)
theorem ZjB {W : World} (h : laidMetH Tryz.prog Zal W) : Zao W ⟨1, 0, none⟩ (ZaM.map fun n => .int .i64 n) :=
 ZcW (t := gty Tryz.prog 1) 8 h befM (by kernel_rfl) (by kernel_rfl) (by kernel_rfl)
theorem Zf9 {W : World} (h : laidMetH Tryz.prog Zal W) : Glob W := ⟨ZjB h, Zi4 h, Zjx h⟩
theorem Zi0 {W : World} (h : laidMetH Tryz.prog Zal W) (hs : W.ShapedOpen Tryz.prog) : LibW W :=
 ⟨ZnE.s1_3 W hs, ZcV (t := gty Tryz.prog 10) (g := ZdW.g 0) h synM (by kernel_rfl) (by kernel_rfl) (by kernel_rfl)⟩
noncomputable def accW (os : Os) : World :=
 { World.doorLaid Tryz.prog 400 os with heap := (World.doorLaid Tryz.prog 400 os).heap.modify 8 fun | .cells _ t frozen => .cells (Zik Rows.laid_unicode_utf8_first).toArray t frozen | o => o }
theorem Zgk (os : Os) (args : Array Value) : laidMetH Tryz.prog Zal ((accW os).forCall (fun _ _ => 0) ⟨#[], args, []⟩).memory :=
 laidMetH_of_parts3 (fuel := 8) (laidMet_of_run' 8 (by kernel_rfl) (by kernel_rfl)) (by kernel_rfl) (by kernel_rfl)
open Go
theorem Zas {a b : Bool} (ha : a = true) (hb : b = true) : (a && b) = true := by rw [ha, hb]; rfl
theorem af1 : Rows.walkLinksRow.wf (OpenSpec.ofChange Rows.walkLinksSpec) = true := by kernel_rfl
theorem af2 : laidOutB Tryz.prog = true := by kernel_rfl
theorem af3 : mapsRowed Tryz.prog = true := by kernel_rfl
theorem af5 : namedTie Tryz.prog Rows.walkLinksRow.named Rows.walkLinksSpec.vars = true := by kernel_rfl
theorem af10 : (Rows.walkLinksRow.inPlace == Tryz.prog.inPlace 4) = true := by kernel_rfl
theorem af11 : (Rows.walkLinksRow.unfollowed == Tryz.prog.unfollowed 4) = true := by kernel_rfl
theorem af12 : (Rows.walkLinksRow.recurses == Tryz.prog.recurses 4) = true := by kernel_rfl
theorem af13 : (Rows.walkLinksRow.named == Tryz.prog.varsNamed 4) = true := by kernel_rfl
theorem af23 : (Rows.walkLinksRow.plainKeys == Tryz.prog.plainKeys) = true := by kernel_rfl
theorem af25 : Tryz.prog.stopsHeard = true := by kernel_rfl
theorem af26 : Tryz.prog.mayEnter = true := by kernel_rfl
theorem af27 : (Rows.walkLinksRow.lifted == Tryz.prog.liftsFinal) = true := by kernel_rfl
theorem af28 : (Tryz.prog.make == some Rows.walkLinksRow.make) = true := by kernel_rfl
theorem Zpr : Rows.walkLinksRow.wfByText (OpenSpec.ofChange Rows.walkLinksSpec) = true := by kernel_rfl
theorem Zgh : Tryz.prog.mainIs = some (true, "8a5dec105e49d7e495462c86ad0c88b4974a58e2781ed46907fe7fb400c90281".toList) := by kernel_rfl
theorem Zer : true = Tryz.prog.looks [] := by kernel_rfl
theorem Zgj : false = Rows.walkLinksRow.goesBy Tryz.prog := by kernel_rfl
theorem ZjM : Tryz.prog.funcNamed Rows.walkLinksRow.func = some 4 := by kernel_rfl
theorem Zgi : Tryz.f4.isInstance Tryz.prog Rows.walkLinksRow.origin Rows.walkLinksRow.targs := of_decide_eq_true (by kernel_rfl)
theorem Zgg : Tryz.f4.isWrapper Tryz.prog Rows.walkLinksRow.wrapper Rows.walkLinksRow.mainSum := by unfold Func.isWrapper; first | (rw [if_pos (by decide +kernel)]; kernel_rfl) | (rw [if_neg (by decide +kernel)]; exact ⟨rfl, rfl⟩)
end Go.Proofs.YtpcpmndldgejiaaGreatDoor
