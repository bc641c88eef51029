/- Parts of the proof. -/
import Derived.Test.YtpipekfmecikmaaGreatDoorW41
import Derived.Test.YtpipekfmecikmaaGreatDoorW14
import Derived.Test.YtpipekfmecikmaaGreatDoorW23
import Derived.Test.YtpipekfmecikmaaGreatDoorRows
import Derived.LaidSub
set_option maxHeartbeats 4000000
set_option linter.unusedVariables false
set_option linter.unusedSimpArgs false
namespace Go.Proofs.YtpipekfmecikmaaGreatDoor
open Go Go.RowKit Go.Wk Go.ChangeShapes Go.WideShapes Go.ChangeAt
def gty (P:Program)(g:Nat):TypeId:=match P.globals[g]? with|some x=>x.type|none=>0
def ZaR:List (String × DataW Unit):=Rows.meaningTellsRow.laid
noncomputable def kinFs:List (String × FuncId):=[(Tryz.f383.name,383),(Tryz.f384.name,384),(Tryz.f386.name,386),(Tryz.f388.name,388)]
noncomputable def conFs:List (String × FuncId):=[(Tryz.f390.name,390),(Tryz.f392.name,392),(Tryz.f393.name,393),(Tryz.f395.name,395),(Tryz.f397.name,397),(Tryz.f398.name,398)]
theorem kinM:((ZaR[7]'(by decide)).1,(ZaR[7]'(by decide)).2)∈ZaR:=List.getElem_mem (by decide)
theorem conM:((ZaR[8]'(by decide)).1,(ZaR[8]'(by decide)).2)∈ZaR:=List.getElem_mem (by decide)
theorem befM:((ZaR[6]'(by decide)).1,(ZaR[6]'(by decide)).2)∈ZaR.filter fun x=>x.2.handleName?.isNone:=List.mem_filter.2 ⟨List.getElem_mem (by decide),by kernel_rfl⟩
theorem synM:((ZaR[5]'(by decide)).1,(ZaR[5]'(by decide)).2)∈ZaR.filter fun x=>x.2.handleName?.isNone:=List.mem_filter.2 ⟨List.getElem_mem (by decide),by kernel_rfl⟩
theorem ZA5 {W:World}(h:laidMetH Tryz.prog ZaR W):Zau W ⟨2,3,none⟩ ZmC :=
 Zdo (t:=gty Tryz.prog 2) kinFs 8 (laidMetH.funcs h kinM) (by kernel_rfl) (by kernel_rfl) (by kernel_rfl)
theorem ZBd {W:World}(h:laidMetH Tryz.prog ZaR W):Zau W ⟨4,0,none⟩ Zf0 :=
 Zdo (t:=gty Tryz.prog 4) conFs 8 (laidMetH.funcs h conM) (by kernel_rfl) (by kernel_rfl) (by kernel_rfl)
theorem ZBj {W:World}(h:laidMetH Tryz.prog ZaR W):Zau W ⟨3,0,none⟩ (ZaY.map fun n => .int .i64 n) :=
 Zlm (t:=gty Tryz.prog 3) 8 h befM (by kernel_rfl) (by kernel_rfl) (by kernel_rfl)
noncomputable def meFs:List (String × FuncId):=[(Tryz.f380.name,380),(Tryz.f381.name,381),(Tryz.f382.name,382)]
theorem meM:((ZaR[9]'(by decide)).1,(ZaR[9]'(by decide)).2)∈ZaR:=List.getElem_mem (by decide)
theorem ZCe {W:World}(h:laidMetH Tryz.prog ZaR W):MeG W :=
 show Zau W ⟨1,0,none⟩ Ztp from Zdo (t:=gty Tryz.prog 1) meFs 8 (laidMetH.funcs h meM) (by kernel_rfl) (by kernel_rfl) (by kernel_rfl)
theorem Zz3 {W:World}(h:laidMetH Tryz.prog ZaR W):Glob W:=⟨ZBj h,ZA5 h,ZBd h⟩
theorem ZAZ {W:World}(h:laidMetH Tryz.prog ZaR W)(a:W.ShapedOpen Tryz.prog):LibW W :=
 ⟨ZxJ.s1_3 W a,Zk8 (t:=gty Tryz.prog 6) (g:=Zh7.g 0) h synM (by kernel_rfl) (by kernel_rfl) (by kernel_rfl)⟩
noncomputable def accW (os:Os):World :=
 { World.doorLaid Tryz.prog 400 os with heap:=(World.doorLaid Tryz.prog 400 os).heap.modify 8 fun | .cells _ t frozen => .cells (Zw3 Rows.laid_unicode_utf8_first).toArray t frozen|o=>o }
theorem ZBs (os:Os)(args:Array Value):(DataW.laidRun Tryz.prog ((accW os).forCall (fun _ _=>0) ⟨#[],args,[]⟩).memory 8 ((ZaR.filter fun x=>x.2.handleName?.isNone).map (·.1))).map (·.1)=some (ZaR.filter fun x=>x.2.handleName?.isNone):=by kernel_rfl
theorem ZBr (os:Os)(args:Array Value):(DataW.laidRun Tryz.prog ((accW os).forCall (fun _ _=>0) ⟨#[],args,[]⟩).memory 8 ((ZaR.filter fun x=>x.2.handleName?.isNone).map (·.1))).map (fun x=>decide x.2.Nodup&&laidRowsB Tryz.prog ((accW os).forCall (fun _ _=>0) ⟨#[],args,[]⟩).memory x.2)=some true:=by kernel_rfl
theorem ZBq (os:Os)(args:Array Value):(ZaR.filter fun x=>x.2.handleName?.isSome&&x.2.funcsIn?.isNone).all (handleAtB Tryz.prog ((accW os).forCall (fun _ _=>0) ⟨#[],args,[]⟩).memory)=true:=by kernel_rfl
theorem ZBp (os:Os)(args:Array Value):funcsRun Tryz.prog ((accW os).forCall (fun _ _=>0) ⟨#[],args,[]⟩).memory 8 ((funcsListed ZaR).map (·.1))=some ((funcsListed ZaR).map (·.2.funcsOut)):=by kernel_rfl
theorem ZAr (os:Os)(args:Array Value):laidMetH Tryz.prog ZaR ((accW os).forCall (fun _ _=>0) ⟨#[],args,[]⟩).memory :=
 laidMetH_of_parts3 (fuel:=8) (laidMet_of_run' 8 (ZBs os args) (ZBr os args)) (ZBq os args) (ZBp os args)
end Go.Proofs.YtpipekfmecikmaaGreatDoor
