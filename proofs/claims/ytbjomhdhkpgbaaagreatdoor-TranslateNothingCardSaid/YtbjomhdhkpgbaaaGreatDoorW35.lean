/- Parts of the proof. -/
import Derived.Test.YtbjomhdhkpgbaaaGreatDoorW85
import Derived.Laws.OwnMore
import Derived.Test.YtbjomhdhkpgbaaaGreatDoorRows
import Derived.LaidSub
import Derived.SevenTiedAt
import Derived.JoinedOf
import Derived.KernelRfl
set_option maxHeartbeats 4000000
set_option linter.unusedVariables false
set_option linter.unusedSimpArgs false
namespace Go.Proofs.YtbjomhdhkpgbaaaGreatDoor
open Go Go.RowKit Go.Wk Go.ChangeShapes Go.WideShapes Go.ChangeAt
section
variable {H : Type} {enc : TypeId × Value -> H} {w : World} {sp : Nat -> Bool} {held : Bool}
set_option maxRecDepth 100000 in
theorem ZsW {v : Value} {r : Reach} {b0 : Nat} {d : DataW H} {ps : List MemPlace} (hv : Value.okWide Tryz.prog w r b0 4 v) (_h : DataW.Trod enc Tryz.prog w 0 sp held 4 v d ps) : ∃ x : Bool, v = .bool x := okWide_bool Tryz.underlying4 hv
end
def gty (P : Program) (g : Nat) : TypeId := match P.globals[g]? with | some x => x.type | none => 0
def ZaB : List (String × DataW Unit) := Rows.translateNothingRow.laid
noncomputable def kinFs : List (String × FuncId) := [(Tryz.f325.name, 325), (Tryz.f326.name, 326), (Tryz.f328.name, 328), (Tryz.f330.name, 330)]
noncomputable def conFs : List (String × FuncId) := [(Tryz.f315.name, 315), (Tryz.f317.name, 317), (Tryz.f318.name, 318), (Tryz.f320.name, 320), (Tryz.f322.name, 322), (Tryz.f323.name, 323)]
theorem kinM : ((ZaB[7]'(by decide)).1, (ZaB[7]'(by decide)).2) ∈ ZaB := List.getElem_mem (by decide)
theorem conM : ((ZaB[8]'(by decide)).1, (ZaB[8]'(by decide)).2) ∈ ZaB := List.getElem_mem (by decide)
theorem befM : ((ZaB[6]'(by decide)).1, (ZaB[6]'(by decide)).2) ∈ ZaB.filter fun x => x.2.handleName?.isNone := List.mem_filter.2 ⟨List.getElem_mem (by decide), by kernel_rfl⟩
theorem varM : ((ZaB[9]'(by decide)).1, (ZaB[9]'(by decide)).2) ∈ ZaB.filter fun x => x.2.handleName?.isNone := List.mem_filter.2 ⟨List.getElem_mem (by decide), by kernel_rfl⟩
theorem synM : ((ZaB[5]'(by decide)).1, (ZaB[5]'(by decide)).2) ∈ ZaB.filter fun x => x.2.handleName?.isNone := List.mem_filter.2 ⟨List.getElem_mem (by decide), by kernel_rfl⟩
theorem Zto {W : World} (h : laidMetH Tryz.prog ZaB W) : Zam W ⟨4, 3, none⟩ Ziu :=
 ZcF (t := gty Tryz.prog 4) kinFs 8 (laidMetH.funcs h kinM) (by kernel_rfl) (by kernel_rfl) (by kernel_rfl)
theorem ZtU {W : World} (h : laidMetH Tryz.prog ZaB W) : Zam W ⟨2, 0, none⟩ ZeU :=
 ZcF (t := gty Tryz.prog 2) conFs 8 (laidMetH.funcs h conM) (by kernel_rfl) (by kernel_rfl) (by kernel_rfl)
theorem Zt8 {W : World} (h : laidMetH Tryz.prog ZaB W) : Zam W ⟨8, 0, none⟩ (Zbe.map fun n => .int .i64 n) :=
 Zc2 (t := gty Tryz.prog 8) 8 h befM (by kernel_rfl) (by kernel_rfl) (by kernel_rfl)
theorem Zsc {W : World} (h : laidMetH Tryz.prog ZaB W) : Zam W ⟨1, 0, none⟩ ZhD :=
 Zc2 (t := gty Tryz.prog 1) 8 h varM (by kernel_rfl) (by kernel_rfl) (by kernel_rfl)
theorem Zou {W : World} (h : laidMetH Tryz.prog ZaB W) : Glob W := ⟨Zt8 h, Zto h, ZtU h, Zsc h⟩
theorem Ztf {W : World} (h : laidMetH Tryz.prog ZaB W) (hs : W.ShapedOpen Tryz.prog) : LibW W :=
 ⟨ZtT.s1_3 W hs, Zgh (t := gty Tryz.prog 9) (g := Zf7.g 0) h synM (by kernel_rfl) (by kernel_rfl) (by kernel_rfl)⟩
noncomputable def accW (os : Os) : World :=
 { World.doorLaid Tryz.prog 400 os with heap := (World.doorLaid Tryz.prog 400 os).heap.modify 11 fun | .cells _ t frozen => .cells (Zqz Rows.laid_unicode_utf8_first).toArray t frozen | o => o }
theorem Zo4 (os : Os) (args : Array Value) : laidMetH Tryz.prog ZaB ((accW os).forCall (fun _ _ => 0) ⟨#[], args, []⟩).memory :=
 laidMetH_of_parts3 (fuel := 8) (laidMet_of_run' 8 (by kernel_rfl) (by kernel_rfl)) (by kernel_rfl) (by kernel_rfl)
open Go
theorem ZaZ {a b : Bool} (ha : a = true) (hb : b = true) : (a && b) = true := by rw [ha, hb]; rfl
theorem af1 : Rows.translateNothingRow.wf (OpenSpec.ofChange Rows.translateNothingSpec) = true := by kernel_rfl
theorem af2 : laidOutB Tryz.prog = true := by kernel_rfl
theorem af3 : mapsRowed Tryz.prog = true := by kernel_rfl
theorem af5 : namedTie Tryz.prog Rows.translateNothingRow.named Rows.translateNothingSpec.vars = true := by kernel_rfl
theorem af10 : (Rows.translateNothingRow.inPlace == Tryz.prog.inPlace 4) = true := by kernel_rfl
theorem af11 : (Rows.translateNothingRow.unfollowed == Tryz.prog.unfollowed 4) = true := by kernel_rfl
theorem af12 : (Rows.translateNothingRow.recurses == Tryz.prog.recurses 4) = true := by kernel_rfl
theorem af13 : (Rows.translateNothingRow.named == Tryz.prog.varsNamed 4) = true := by kernel_rfl
theorem af23 : (Rows.translateNothingRow.plainKeys == Tryz.prog.plainKeys) = true := by kernel_rfl
theorem af25 : Tryz.prog.stopsHeard = true := by kernel_rfl
theorem af26 : Tryz.prog.mayEnter = true := by kernel_rfl
theorem af27 : (Rows.translateNothingRow.lifted == Tryz.prog.liftsFinal) = true := by kernel_rfl
theorem af28 : (Tryz.prog.make == some Rows.translateNothingRow.make) = true := by kernel_rfl
theorem ZyD : Rows.translateNothingRow.wfByText (OpenSpec.ofChange Rows.translateNothingSpec) = true := by kernel_rfl
theorem Zo1 : Tryz.prog.mainIs = some (true, "3d169eba04c2ae9ab9c5e3713ae2372aebf789426dd2a12541f32d536c18ae94".toList) := by kernel_rfl
theorem Zln : true = Tryz.prog.looks [] := by kernel_rfl
theorem Zo3 : false = Rows.translateNothingRow.goesBy Tryz.prog := by kernel_rfl
theorem Zuh : Tryz.prog.funcNamed Rows.translateNothingRow.func = some 4 := by kernel_rfl
theorem Zo2 : Tryz.f4.isInstance Tryz.prog Rows.translateNothingRow.origin Rows.translateNothingRow.targs := of_decide_eq_true (by kernel_rfl)
theorem Zo0 : Tryz.f4.isWrapper Tryz.prog Rows.translateNothingRow.wrapper Rows.translateNothingRow.mainSum := by unfold Func.isWrapper; first | (rw [if_pos (by decide +kernel)]; kernel_rfl) | (rw [if_neg (by decide +kernel)]; exact ⟨rfl, rfl⟩)
end Go.Proofs.YtbjomhdhkpgbaaaGreatDoor
