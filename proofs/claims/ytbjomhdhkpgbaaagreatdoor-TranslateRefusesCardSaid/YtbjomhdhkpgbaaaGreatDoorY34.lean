/- Parts of the proof. -/
import Derived.Test.YtbjomhdhkpgbaaaGreatDoorY84
import Derived.Test.YtbjomhdhkpgbaaaGreatDoorY24
import Derived.Test.YtbjomhdhkpgbaaaGreatDoorY27
import Derived.Test.YtbjomhdhkpgbaaaGreatDoorY06
import Derived.Test.YtbjomhdhkpgbaaaGreatDoorY21
import Derived.Test.YtbjomhdhkpgbaaaGreatDoorY09
import Derived.Test.YtbjomhdhkpgbaaaGreatDoorY11
import Derived.Test.YtbjomhdhkpgbaaaGreatDoorY28
import Derived.Test.YtbjomhdhkpgbaaaGreatDoorY26
import Derived.Test.YtbjomhdhkpgbaaaGreatDoorY07
import Derived.Test.YtbjomhdhkpgbaaaGreatDoorY12
import Derived.Test.YtbjomhdhkpgbaaaGreatDoorRows
import Derived.LaidSub
import Derived.SevenTiedAt
import Derived.JoinedOf
import Derived.KernelRfl
set_option maxHeartbeats 4000000
set_option linter.unusedVariables false
set_option linter.unusedSimpArgs false
namespace Go.Proofs.YtbjomhdhkpgbaaaGreatDoor
open Go Go.RowKit Go.Wk Go.ChangeShapes Go.WideShapes Go.ChangeAt
def gty (P : Program) (g : Nat) : TypeId := match P.globals[g]? with | some x => x.type | none => 0
def ZaB : List (String × DataW Unit) := Rows.translateRefusesRow.laid
noncomputable def kinFs : List (String × FuncId) := [(Tryz.f325.name, 325), (Tryz.f326.name, 326), (Tryz.f328.name, 328), (Tryz.f330.name, 330)]
noncomputable def conFs : List (String × FuncId) := [(Tryz.f315.name, 315), (Tryz.f317.name, 317), (Tryz.f318.name, 318), (Tryz.f320.name, 320), (Tryz.f322.name, 322), (Tryz.f323.name, 323)]
theorem kinM : ((ZaB[7]'(by decide)).1, (ZaB[7]'(by decide)).2) ∈ ZaB := List.getElem_mem (by decide)
theorem conM : ((ZaB[8]'(by decide)).1, (ZaB[8]'(by decide)).2) ∈ ZaB := List.getElem_mem (by decide)
theorem befM : ((ZaB[6]'(by decide)).1, (ZaB[6]'(by decide)).2) ∈ ZaB.filter fun x => x.2.handleName?.isNone := List.mem_filter.2 ⟨List.getElem_mem (by decide), by kernel_rfl⟩
theorem varM : ((ZaB[9]'(by decide)).1, (ZaB[9]'(by decide)).2) ∈ ZaB.filter fun x => x.2.handleName?.isNone := List.mem_filter.2 ⟨List.getElem_mem (by decide), by kernel_rfl⟩
theorem synM : ((ZaB[5]'(by decide)).1, (ZaB[5]'(by decide)).2) ∈ ZaB.filter fun x => x.2.handleName?.isNone := List.mem_filter.2 ⟨List.getElem_mem (by decide), by kernel_rfl⟩
theorem ZtR {W : World} (h : laidMetH Tryz.prog ZaB W) : Zam W ⟨4, 3, none⟩ Ziy :=
 ZcA (t := gty Tryz.prog 4) kinFs 8 (laidMetH.funcs h kinM) (by kernel_rfl) (by kernel_rfl) (by kernel_rfl)
theorem Zum {W : World} (h : laidMetH Tryz.prog ZaB W) : Zam W ⟨2, 0, none⟩ ZeW :=
 ZcA (t := gty Tryz.prog 2) conFs 8 (laidMetH.funcs h conM) (by kernel_rfl) (by kernel_rfl) (by kernel_rfl)
theorem ZuA {W : World} (h : laidMetH Tryz.prog ZaB W) : Zam W ⟨8, 0, none⟩ (Zbd.map fun n => .int .i64 n) :=
 ZcY (t := gty Tryz.prog 8) 8 h befM (by kernel_rfl) (by kernel_rfl) (by kernel_rfl)
theorem Zsy {W : World} (h : laidMetH Tryz.prog ZaB W) : Zam W ⟨1, 0, none⟩ ZhE :=
 ZcY (t := gty Tryz.prog 1) 8 h varM (by kernel_rfl) (by kernel_rfl) (by kernel_rfl)
theorem Zow {W : World} (h : laidMetH Tryz.prog ZaB W) : Glob W := ⟨ZuA h, ZtR h, Zum h, Zsy h⟩
theorem ZtI {W : World} (h : laidMetH Tryz.prog ZaB W) (hs : W.ShapedOpen Tryz.prog) : LibW W :=
 ⟨Zul.s1_3 W hs, Zgi (t := gty Tryz.prog 9) (g := Zf7.g 0) h synM (by kernel_rfl) (by kernel_rfl) (by kernel_rfl)⟩
noncomputable def accW (os : Os) : World :=
 { World.doorLaid Tryz.prog 400 os with heap := (World.doorLaid Tryz.prog 400 os).heap.modify 11 fun | .cells _ t frozen => .cells (ZqK Rows.laid_unicode_utf8_first).toArray t frozen | o => o }
theorem Zo6 (os : Os) (args : Array Value) : laidMetH Tryz.prog ZaB ((accW os).forCall (fun _ _ => 0) ⟨#[], args, []⟩).memory :=
 laidMetH_of_parts3 (fuel := 8) (laidMet_of_run' 8 (by kernel_rfl) (by kernel_rfl)) (by kernel_rfl) (by kernel_rfl)
open Go
theorem ZaV {a b : Bool} (ha : a = true) (hb : b = true) : (a && b) = true := by rw [ha, hb]; rfl
theorem af1 : Rows.translateRefusesRow.wf (OpenSpec.ofChange Rows.translateRefusesSpec) = true := by kernel_rfl
theorem af2 : laidOutB Tryz.prog = true := by kernel_rfl
theorem af3 : mapsRowed Tryz.prog = true := by kernel_rfl
theorem af5 : namedTie Tryz.prog Rows.translateRefusesRow.named Rows.translateRefusesSpec.vars = true := by kernel_rfl
theorem af10 : (Rows.translateRefusesRow.inPlace == Tryz.prog.inPlace 5) = true := by kernel_rfl
theorem af11 : (Rows.translateRefusesRow.unfollowed == Tryz.prog.unfollowed 5) = true := by kernel_rfl
theorem af12 : (Rows.translateRefusesRow.recurses == Tryz.prog.recurses 5) = true := by kernel_rfl
theorem af13 : (Rows.translateRefusesRow.named == Tryz.prog.varsNamed 5) = true := by kernel_rfl
theorem af23 : (Rows.translateRefusesRow.plainKeys == Tryz.prog.plainKeys) = true := by kernel_rfl
theorem af25 : Tryz.prog.stopsHeard = true := by kernel_rfl
theorem af26 : Tryz.prog.mayEnter = true := by kernel_rfl
theorem af27 : (Rows.translateRefusesRow.lifted == Tryz.prog.liftsFinal) = true := by kernel_rfl
theorem af28 : (Tryz.prog.make == some Rows.translateRefusesRow.make) = true := by kernel_rfl
theorem Zzz : Rows.translateRefusesRow.wfByText (OpenSpec.ofChange Rows.translateRefusesSpec) = true := by kernel_rfl
theorem Zo3 : Tryz.prog.mainIs = some (true, "3d169eba04c2ae9ab9c5e3713ae2372aebf789426dd2a12541f32d536c18ae94".toList) := by kernel_rfl
theorem Zlr : true = Tryz.prog.looks [] := by kernel_rfl
theorem Zo5 : false = Rows.translateRefusesRow.goesBy Tryz.prog := by kernel_rfl
theorem ZuJ : Tryz.prog.funcNamed Rows.translateRefusesRow.func = some 5 := by kernel_rfl
theorem Zo4 : Tryz.f5.isInstance Tryz.prog Rows.translateRefusesRow.origin Rows.translateRefusesRow.targs := of_decide_eq_true (by kernel_rfl)
theorem Zo2 : Tryz.f5.isWrapper Tryz.prog Rows.translateRefusesRow.wrapper Rows.translateRefusesRow.mainSum := by unfold Func.isWrapper; first | (rw [if_pos (by decide +kernel)]; kernel_rfl) | (rw [if_neg (by decide +kernel)]; exact ⟨rfl, rfl⟩)
end Go.Proofs.YtbjomhdhkpgbaaaGreatDoor
