/- Parts of the proof. -/
import Derived.Test.YtbjomhdhkpgbaaaGreatDoorW29
import Derived.Test.YtbjomhdhkpgbaaaGreatDoorW12
import Derived.Test.YtbjomhdhkpgbaaaGreatDoorRows
import Derived.LaidSub
import Derived.SevenTiedAt
import Derived.JoinedOf
import Derived.KernelRfl
set_option maxHeartbeats 4000000
set_option linter.unusedVariables false
set_option linter.unusedSimpArgs false
namespace Go.Proofs.YtbjomhdhkpgbaaaGreatDoor
open Go Go.RowKit Go.Wk Go.ChangeShapes Go.WideShapes Go.ChangeAt
def gty (P : Program) (g : Nat) : TypeId := match P.globals[g]? with | some x => x.type | none => 0
def ZaB : List (String × DataW Unit) := Rows.translateBackRow.laid
noncomputable def kinFs : List (String × FuncId) := [(Tryz.f325.name, 325), (Tryz.f326.name, 326), (Tryz.f328.name, 328), (Tryz.f330.name, 330)]
noncomputable def conFs : List (String × FuncId) := [(Tryz.f315.name, 315), (Tryz.f317.name, 317), (Tryz.f318.name, 318), (Tryz.f320.name, 320), (Tryz.f322.name, 322), (Tryz.f323.name, 323)]
theorem kinM : ((ZaB[7]'(by decide)).1, (ZaB[7]'(by decide)).2) ∈ ZaB := List.getElem_mem (by decide)
theorem conM : ((ZaB[8]'(by decide)).1, (ZaB[8]'(by decide)).2) ∈ ZaB := List.getElem_mem (by decide)
theorem befM : ((ZaB[6]'(by decide)).1, (ZaB[6]'(by decide)).2) ∈ ZaB.filter fun x => x.2.handleName?.isNone := List.mem_filter.2 ⟨List.getElem_mem (by decide), by kernel_rfl⟩
theorem varM : ((ZaB[9]'(by decide)).1, (ZaB[9]'(by decide)).2) ∈ ZaB.filter fun x => x.2.handleName?.isNone := List.mem_filter.2 ⟨List.getElem_mem (by decide), by kernel_rfl⟩
theorem synM : ((ZaB[5]'(by decide)).1, (ZaB[5]'(by decide)).2) ∈ ZaB.filter fun x => x.2.handleName?.isNone := List.mem_filter.2 ⟨List.getElem_mem (by decide), by kernel_rfl⟩
theorem Zto {W : World} (h : laidMetH Tryz.prog ZaB W) : Zam W ⟨4, 3, none⟩ Ziu :=
 ZcF (t := gty Tryz.prog 4) kinFs 8 (laidMetH.funcs h kinM) (by kernel_rfl) (by kernel_rfl) (by kernel_rfl)
theorem ZtU {W : World} (h : laidMetH Tryz.prog ZaB W) : Zam W ⟨2, 0, none⟩ ZeU :=
 ZcF (t := gty Tryz.prog 2) conFs 8 (laidMetH.funcs h conM) (by kernel_rfl) (by kernel_rfl) (by kernel_rfl)
theorem Zt8 {W : World} (h : laidMetH Tryz.prog ZaB W) : Zam W ⟨8, 0, none⟩ (Zbe.map fun n => .int .i64 n) :=
 Zc2 (t := gty Tryz.prog 8) 8 h befM (by kernel_rfl) (by kernel_rfl) (by kernel_rfl)
theorem Zsc {W : World} (h : laidMetH Tryz.prog ZaB W) : Zam W ⟨1, 0, none⟩ ZhD :=
 Zc2 (t := gty Tryz.prog 1) 8 h varM (by kernel_rfl) (by kernel_rfl) (by kernel_rfl)
theorem Zou {W : World} (h : laidMetH Tryz.prog ZaB W) : Glob W := ⟨Zt8 h, Zto h, ZtU h, Zsc h⟩
theorem Ztf {W : World} (h : laidMetH Tryz.prog ZaB W) (hs : W.ShapedOpen Tryz.prog) : LibW W :=
 ⟨ZtT.s1_3 W hs, Zgh (t := gty Tryz.prog 9) (g := Zf7.g 0) h synM (by kernel_rfl) (by kernel_rfl) (by kernel_rfl)⟩
noncomputable def accW (os : Os) : World :=
 { World.doorLaid Tryz.prog 400 os with heap := (World.doorLaid Tryz.prog 400 os).heap.modify 11 fun | .cells _ t frozen => .cells (Zqz Rows.laid_unicode_utf8_first).toArray t frozen | o => o }
theorem Zo4 (os : Os) (args : Array Value) : laidMetH Tryz.prog ZaB ((accW os).forCall (fun _ _ => 0) ⟨#[], args, []⟩).memory :=
 laidMetH_of_parts3 (fuel := 8) (laidMet_of_run' 8 (by kernel_rfl) (by kernel_rfl)) (by kernel_rfl) (by kernel_rfl)
open Go
theorem ZaZ {a b : Bool} (ha : a = true) (hb : b = true) : (a && b) = true := by rw [ha, hb]; rfl
theorem af1 : Rows.translateBackRow.wf (OpenSpec.ofChange Rows.translateBackSpec) = true := by kernel_rfl
theorem af2 : laidOutB Tryz.prog = true := by kernel_rfl
theorem af3 : mapsRowed Tryz.prog = true := by kernel_rfl
theorem af5 : namedTie Tryz.prog Rows.translateBackRow.named Rows.translateBackSpec.vars = true := by kernel_rfl
theorem af10 : (Rows.translateBackRow.inPlace == Tryz.prog.inPlace 3) = true := by kernel_rfl
theorem af11 : (Rows.translateBackRow.unfollowed == Tryz.prog.unfollowed 3) = true := by kernel_rfl
theorem af12 : (Rows.translateBackRow.recurses == Tryz.prog.recurses 3) = true := by kernel_rfl
theorem af13 : (Rows.translateBackRow.named == Tryz.prog.varsNamed 3) = true := by kernel_rfl
theorem af23 : (Rows.translateBackRow.plainKeys == Tryz.prog.plainKeys) = true := by kernel_rfl
theorem af25 : Tryz.prog.stopsHeard = true := by kernel_rfl
theorem af26 : Tryz.prog.mayEnter = true := by kernel_rfl
theorem af27 : (Rows.translateBackRow.lifted == Tryz.prog.liftsFinal) = true := by kernel_rfl
theorem af28 : (Tryz.prog.make == some Rows.translateBackRow.make) = true := by kernel_rfl
theorem ZyD : Rows.translateBackRow.wfByText (OpenSpec.ofChange Rows.translateBackSpec) = true := by kernel_rfl
theorem Zo1 : Tryz.prog.mainIs = some (true, "3d169eba04c2ae9ab9c5e3713ae2372aebf789426dd2a12541f32d536c18ae94".toList) := by kernel_rfl
theorem Zln : true = Tryz.prog.looks [] := by kernel_rfl
theorem Zo3 : false = Rows.translateBackRow.goesBy Tryz.prog := by kernel_rfl
theorem Zuh : Tryz.prog.funcNamed Rows.translateBackRow.func = some 3 := by kernel_rfl
theorem Zo2 : Tryz.f3.isInstance Tryz.prog Rows.translateBackRow.origin Rows.translateBackRow.targs := of_decide_eq_true (by kernel_rfl)
theorem Zo0 : Tryz.f3.isWrapper Tryz.prog Rows.translateBackRow.wrapper Rows.translateBackRow.mainSum := by unfold Func.isWrapper; first | (rw [if_pos (by decide +kernel)]; kernel_rfl) | (rw [if_neg (by decide +kernel)]; exact ⟨rfl, rfl⟩)
end Go.Proofs.YtbjomhdhkpgbaaaGreatDoor
