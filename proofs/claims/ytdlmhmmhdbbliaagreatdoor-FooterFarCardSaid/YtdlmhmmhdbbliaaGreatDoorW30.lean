/- Parts of the proof. -/
import Derived.Test.YtdlmhmmhdbbliaaGreatDoorW28
import Derived.Test.YtdlmhmmhdbbliaaGreatDoorW15
import Derived.Test.YtdlmhmmhdbbliaaGreatDoorW23
import Derived.Test.YtdlmhmmhdbbliaaGreatDoorW07
import Derived.Test.YtdlmhmmhdbbliaaGreatDoorRows
import Derived.LaidSub
import Derived.SevenTiedAt
import Derived.JoinedOf
import Derived.KernelRfl
set_option maxHeartbeats 4000000
set_option linter.unusedVariables false
set_option linter.unusedSimpArgs false
namespace Go.Proofs.YtdlmhmmhdbbliaaGreatDoor
open Go Go.RowKit Go.Wk Go.ChangeShapes Go.WideShapes Go.ChangeAt
def gty (P : Program) (g : Nat) : TypeId := match P.globals[g]? with | some x => x.type | none => 0
def ZaQ : List (String × DataW Unit) := Rows.footerFarRow.laid
noncomputable def kinFs : List (String × FuncId) := [(Tryz.f299.name, 299), (Tryz.f300.name, 300), (Tryz.f302.name, 302), (Tryz.f304.name, 304)]
noncomputable def conFs : List (String × FuncId) := [(Tryz.f306.name, 306), (Tryz.f308.name, 308), (Tryz.f309.name, 309), (Tryz.f311.name, 311), (Tryz.f313.name, 313), (Tryz.f314.name, 314)]
theorem kinM : ((ZaQ[7]'(by decide)).1, (ZaQ[7]'(by decide)).2) ∈ ZaQ := List.getElem_mem (by decide)
theorem conM : ((ZaQ[8]'(by decide)).1, (ZaQ[8]'(by decide)).2) ∈ ZaQ := List.getElem_mem (by decide)
theorem befM : ((ZaQ[6]'(by decide)).1, (ZaQ[6]'(by decide)).2) ∈ ZaQ.filter fun x => x.2.handleName?.isNone := List.mem_filter.2 ⟨List.getElem_mem (by decide), by kernel_rfl⟩
theorem synM : ((ZaQ[5]'(by decide)).1, (ZaQ[5]'(by decide)).2) ∈ ZaQ.filter fun x => x.2.handleName?.isNone := List.mem_filter.2 ⟨List.getElem_mem (by decide), by kernel_rfl⟩
theorem ZyG {W : World} (h : laidMetH Tryz.prog ZaQ W) : Zal W ⟨3, 3, none⟩ Zl9 :=
 Zch (t := gty Tryz.prog 3) kinFs 8 (laidMetH.funcs h kinM) (by kernel_rfl) (by kernel_rfl) (by kernel_rfl)
theorem ZyM {W : World} (h : laidMetH Tryz.prog ZaQ W) : Zal W ⟨6, 0, none⟩ Zga :=
 Zch (t := gty Tryz.prog 6) conFs 8 (laidMetH.funcs h conM) (by kernel_rfl) (by kernel_rfl) (by kernel_rfl)
theorem ZyR {W : World} (h : laidMetH Tryz.prog ZaQ W) : Zal W ⟨0, 0, none⟩ (ZaJ.map fun n => .int .i64 n) :=
 ZkW (t := gty Tryz.prog 0) 8 h befM (by kernel_rfl) (by kernel_rfl) (by kernel_rfl)
noncomputable def ftFs : List (String × FuncId) := [(Tryz.f295.name, 295), (Tryz.f296.name, 296), (Tryz.f297.name, 297), (Tryz.f298.name, 298)]
theorem ftM : ((ZaQ[9]'(by decide)).1, (ZaQ[9]'(by decide)).2) ∈ ZaQ := List.getElem_mem (by decide)
theorem Zzt {W : World} (h : laidMetH Tryz.prog ZaQ W) : FtG W :=
 show Zal W ⟨2, 1, none⟩ ZsJ from Zch (t := gty Tryz.prog 2) ftFs 8 (laidMetH.funcs h ftM) (by kernel_rfl) (by kernel_rfl) (by kernel_rfl)
noncomputable def meFs : List (String × FuncId) := [(Tryz.f287.name, 287), (Tryz.f288.name, 288), (Tryz.f289.name, 289)]
theorem meM : ((ZaQ[10]'(by decide)).1, (ZaQ[10]'(by decide)).2) ∈ ZaQ := List.getElem_mem (by decide)
theorem Zzp {W : World} (h : laidMetH Tryz.prog ZaQ W) : MeG W :=
 show Zal W ⟨1, 0, none⟩ Zsq from Zch (t := gty Tryz.prog 1) meFs 8 (laidMetH.funcs h meM) (by kernel_rfl) (by kernel_rfl) (by kernel_rfl)
theorem Zxx {W : World} (h : laidMetH Tryz.prog ZaQ W) : Glob W := ⟨ZyR h, ZyG h, ZyM h⟩
theorem ZyD {W : World} (h : laidMetH Tryz.prog ZaQ W) (hs : W.ShapedOpen Tryz.prog) : LibW W :=
 ⟨Zwe.s1_3 W hs, ZkI (t := gty Tryz.prog 10) (g := ZhY.g 0) h synM (by kernel_rfl) (by kernel_rfl) (by kernel_rfl)⟩
noncomputable def accW (os : Os) : World :=
 { World.doorLaid Tryz.prog 400 os with heap := (World.doorLaid Tryz.prog 400 os).heap.modify 7 fun | .cells _ t frozen => .cells (ZvE Rows.laid_unicode_utf8_first).toArray t frozen | o => o }
theorem ZxS (os : Os) (args : Array Value) : laidMetH Tryz.prog ZaQ ((accW os).forCall (fun _ _ => 0) ⟨#[], args, []⟩).memory :=
 laidMetH_of_parts3 (fuel := 8) (laidMet_of_run' 8 (by kernel_rfl) (by kernel_rfl)) (by kernel_rfl) (by kernel_rfl)
open Go
theorem ZbO {a b : Bool} (ha : a = true) (hb : b = true) : (a && b) = true := by rw [ha, hb]; rfl
theorem af1 : Rows.footerFarRow.wf (OpenSpec.ofChange Rows.footerFarSpec) = true := by kernel_rfl
theorem af2 : laidOutB Tryz.prog = true := by kernel_rfl
theorem af3 : mapsRowed Tryz.prog = true := by kernel_rfl
theorem af5 : namedTie Tryz.prog Rows.footerFarRow.named Rows.footerFarSpec.vars = true := by kernel_rfl
theorem af10 : (Rows.footerFarRow.inPlace == Tryz.prog.inPlace 3) = true := by kernel_rfl
theorem af11 : (Rows.footerFarRow.unfollowed == Tryz.prog.unfollowed 3) = true := by kernel_rfl
theorem af12 : (Rows.footerFarRow.recurses == Tryz.prog.recurses 3) = true := by kernel_rfl
theorem af13 : (Rows.footerFarRow.named == Tryz.prog.varsNamed 3) = true := by kernel_rfl
theorem af23 : (Rows.footerFarRow.plainKeys == Tryz.prog.plainKeys) = true := by kernel_rfl
theorem af25 : Tryz.prog.stopsHeard = true := by kernel_rfl
theorem af26 : Tryz.prog.mayEnter = true := by kernel_rfl
theorem af27 : (Rows.footerFarRow.lifted == Tryz.prog.liftsFinal) = true := by kernel_rfl
theorem af28 : (Tryz.prog.make == some Rows.footerFarRow.make) = true := by kernel_rfl
theorem Zzx : Rows.footerFarRow.wfByText (OpenSpec.ofChange Rows.footerFarSpec) = true := by kernel_rfl
theorem ZxP : Tryz.prog.mainIs = some (true, "7d74553a43dc03c478512c6bea16ce338c67dbe607f783aa2dcb45a14c62eba4".toList) := by kernel_rfl
theorem ZvI : true = Tryz.prog.looks [] := by kernel_rfl
theorem ZxR : false = Rows.footerFarRow.goesBy Tryz.prog := by kernel_rfl
theorem ZyU : Tryz.prog.funcNamed Rows.footerFarRow.func = some 3 := by kernel_rfl
theorem ZxQ : Tryz.f3.isInstance Tryz.prog Rows.footerFarRow.origin Rows.footerFarRow.targs := of_decide_eq_true (by kernel_rfl)
theorem ZxO : Tryz.f3.isWrapper Tryz.prog Rows.footerFarRow.wrapper Rows.footerFarRow.mainSum := by unfold Func.isWrapper; first | (rw [if_pos (by decide +kernel)]; kernel_rfl) | (rw [if_neg (by decide +kernel)]; exact ⟨rfl, rfl⟩)
end Go.Proofs.YtdlmhmmhdbbliaaGreatDoor
