/- Parts of the proof. -/
import Derived.Test.YtdlmhmmhdbbliaaGreatDoorV44
import Derived.Test.YtdlmhmmhdbbliaaGreatDoorV20
import Derived.Test.YtdlmhmmhdbbliaaGreatDoorV34
import Derived.Test.YtdlmhmmhdbbliaaGreatDoorV08
import Derived.Test.YtdlmhmmhdbbliaaGreatDoorRows
import Derived.LaidSub
set_option maxHeartbeats 4000000
set_option linter.unusedVariables false
set_option linter.unusedSimpArgs false
namespace Go.Proofs.YtdlmhmmhdbbliaaGreatDoor
open Go Go.RowKit Go.Wk Go.ChangeShapes Go.WideShapes Go.ChangeAt
def gty (P:Program)(g:Nat):TypeId:=match P.globals[g]? with|some x=>x.type|none=>0
def ZaJ:List (String × DataW Unit):=Rows.footerSaysRow.laid
noncomputable def kinFs:List (String × FuncId):=[(Tryz.f299.name,299),(Tryz.f300.name,300),(Tryz.f302.name,302),(Tryz.f304.name,304)]
noncomputable def conFs:List (String × FuncId):=[(Tryz.f306.name,306),(Tryz.f308.name,308),(Tryz.f309.name,309),(Tryz.f311.name,311),(Tryz.f313.name,313),(Tryz.f314.name,314)]
theorem kinM:((ZaJ[7]'(by decide)).1,(ZaJ[7]'(by decide)).2)∈ZaJ:=List.getElem_mem (by decide)
theorem conM:((ZaJ[9]'(by decide)).1,(ZaJ[9]'(by decide)).2)∈ZaJ:=List.getElem_mem (by decide)
theorem befM:((ZaJ[6]'(by decide)).1,(ZaJ[6]'(by decide)).2)∈ZaJ.filter fun x=>x.2.handleName?.isNone:=List.mem_filter.2 ⟨List.getElem_mem (by decide),by kernel_rfl⟩
theorem synM:((ZaJ[5]'(by decide)).1,(ZaJ[5]'(by decide)).2)∈ZaJ.filter fun x=>x.2.handleName?.isNone:=List.mem_filter.2 ⟨List.getElem_mem (by decide),by kernel_rfl⟩
theorem ZAx {W:World}(h:laidMetH Tryz.prog ZaJ W):Zal W ⟨3,3,none⟩ ZmL :=
 Zcw (t:=gty Tryz.prog 3) kinFs 8 (laidMetH.funcs h kinM) (by kernel_rfl) (by kernel_rfl) (by kernel_rfl)
theorem ZAI {W:World}(h:laidMetH Tryz.prog ZaJ W):Zal W ⟨6,0,none⟩ ZgA :=
 Zcw (t:=gty Tryz.prog 6) conFs 8 (laidMetH.funcs h conM) (by kernel_rfl) (by kernel_rfl) (by kernel_rfl)
theorem ZAN {W:World}(h:laidMetH Tryz.prog ZaJ W):Zal W ⟨0,0,none⟩ (ZaN.map fun n => .int .i64 n) :=
 ZgD (t:=gty Tryz.prog 0) 8 h befM (by kernel_rfl) (by kernel_rfl) (by kernel_rfl)
noncomputable def ftFs:List (String × FuncId):=[(Tryz.f295.name,295),(Tryz.f296.name,296),(Tryz.f297.name,297),(Tryz.f298.name,298)]
theorem ftM:((ZaJ[10]'(by decide)).1,(ZaJ[10]'(by decide)).2)∈ZaJ:=List.getElem_mem (by decide)
theorem ZBt {W:World}(h:laidMetH Tryz.prog ZaJ W):FtG W :=
 show Zal W ⟨2,1,none⟩ ZtJ from Zcw (t:=gty Tryz.prog 2) ftFs 8 (laidMetH.funcs h ftM) (by kernel_rfl) (by kernel_rfl) (by kernel_rfl)
noncomputable def meFs:List (String × FuncId):=[(Tryz.f287.name,287),(Tryz.f288.name,288),(Tryz.f289.name,289)]
theorem meM:((ZaJ[11]'(by decide)).1,(ZaJ[11]'(by decide)).2)∈ZaJ:=List.getElem_mem (by decide)
theorem ZBp {W:World}(h:laidMetH Tryz.prog ZaJ W):MeG W :=
 show Zal W ⟨1,0,none⟩ Zto from Zcw (t:=gty Tryz.prog 1) meFs 8 (laidMetH.funcs h meM) (by kernel_rfl) (by kernel_rfl) (by kernel_rfl)
theorem Zzi {W:World}(h:laidMetH Tryz.prog ZaJ W):Glob W:=⟨ZAN h,ZAx h,ZAI h⟩
theorem ZAu {W:World}(h:laidMetH Tryz.prog ZaJ W)(hs:W.ShapedOpen Tryz.prog):LibW W :=
 ⟨ZxH.s1_3 W hs,Zlf (t:=gty Tryz.prog 10) (g:=Ziu.g 0) h synM (by kernel_rfl) (by kernel_rfl) (by kernel_rfl)⟩
noncomputable def accW (os:Os):World :=
 { World.doorLaid Tryz.prog 400 os with heap:=(World.doorLaid Tryz.prog 400 os).heap.modify 7 fun | .cells _ t frozen => .cells (Zw4 Rows.laid_unicode_utf8_first).toArray t frozen|o=>o }
theorem ZzF (os:Os)(args:Array Value):laidMetH Tryz.prog ZaJ ((accW os).forCall (fun _ _=>0) ⟨#[],args,[]⟩).memory :=
 laidMetH_of_parts3 (fuel:=8) (laidMet_of_run' 8 (by kernel_rfl) (by kernel_rfl)) (by kernel_rfl) (by kernel_rfl)
end Go.Proofs.YtdlmhmmhdbbliaaGreatDoor
