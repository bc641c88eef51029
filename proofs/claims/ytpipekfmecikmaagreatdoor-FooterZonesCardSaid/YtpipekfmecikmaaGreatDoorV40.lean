/- Parts of the proof. -/
import Derived.Test.YtpipekfmecikmaaGreatDoorV38
import Derived.Test.YtpipekfmecikmaaGreatDoorV12
import Derived.Test.YtpipekfmecikmaaGreatDoorV13
import Derived.Test.YtpipekfmecikmaaGreatDoorRows
import Derived.LaidSub
set_option maxHeartbeats 4000000
set_option linter.unusedVariables false
set_option linter.unusedSimpArgs false
namespace Go.Proofs.YtpipekfmecikmaaGreatDoor
open Go Go.RowKit Go.Wk Go.ChangeShapes Go.WideShapes Go.ChangeAt
def gty (P:Program)(g:Nat):TypeId:=match P.globals[g]? with|some x=>x.type|none=>0
def ZaV:List (String × DataW Unit):=Rows.footerZonesRow.laid
noncomputable def kinFs:List (String × FuncId):=[(Tryz.f383.name,383),(Tryz.f384.name,384),(Tryz.f386.name,386),(Tryz.f388.name,388)]
noncomputable def conFs:List (String × FuncId):=[(Tryz.f390.name,390),(Tryz.f392.name,392),(Tryz.f393.name,393),(Tryz.f395.name,395),(Tryz.f397.name,397),(Tryz.f398.name,398)]
theorem kinM:((ZaV[7]'(by decide)).1,(ZaV[7]'(by decide)).2)∈ZaV:=List.getElem_mem (by decide)
theorem conM:((ZaV[8]'(by decide)).1,(ZaV[8]'(by decide)).2)∈ZaV:=List.getElem_mem (by decide)
theorem befM:((ZaV[6]'(by decide)).1,(ZaV[6]'(by decide)).2)∈ZaV.filter fun x=>x.2.handleName?.isNone:=List.mem_filter.2 ⟨List.getElem_mem (by decide),by kernel_rfl⟩
theorem synM:((ZaV[5]'(by decide)).1,(ZaV[5]'(by decide)).2)∈ZaV.filter fun x=>x.2.handleName?.isNone:=List.mem_filter.2 ⟨List.getElem_mem (by decide),by kernel_rfl⟩
theorem Zzr {W:World}(h:laidMetH Tryz.prog ZaV W):Zau W ⟨2,3,none⟩ ZlH :=
 Zc6 (t:=gty Tryz.prog 2) kinFs 8 (laidMetH.funcs h kinM) (by kernel_rfl) (by kernel_rfl) (by kernel_rfl)
theorem ZzA {W:World}(h:laidMetH Tryz.prog ZaV W):Zau W ⟨4,0,none⟩ ZfG :=
 Zc6 (t:=gty Tryz.prog 4) conFs 8 (laidMetH.funcs h conM) (by kernel_rfl) (by kernel_rfl) (by kernel_rfl)
theorem ZzD {W:World}(h:laidMetH Tryz.prog ZaV W):Zau W ⟨3,0,none⟩ (Za2.map fun n => .int .i64 n) :=
 ZkE (t:=gty Tryz.prog 3) 8 h befM (by kernel_rfl) (by kernel_rfl) (by kernel_rfl)
noncomputable def ftFs:List (String × FuncId):=[(Tryz.f376.name,376),(Tryz.f377.name,377),(Tryz.f378.name,378),(Tryz.f379.name,379)]
theorem ftM:((ZaV[9]'(by decide)).1,(ZaV[9]'(by decide)).2)∈ZaV:=List.getElem_mem (by decide)
theorem ZAs {W:World}(h:laidMetH Tryz.prog ZaV W):FtG W :=
 show Zau W ⟨0,1,none⟩ Zsu from Zc6 (t:=gty Tryz.prog 0) ftFs 8 (laidMetH.funcs h ftM) (by kernel_rfl) (by kernel_rfl) (by kernel_rfl)
theorem Zym {W:World}(h:laidMetH Tryz.prog ZaV W):Glob W:=⟨ZzD h,Zzr h,ZzA h⟩
theorem Zzl {W:World}(h:laidMetH Tryz.prog ZaV W)(hs:W.ShapedOpen Tryz.prog):LibW W :=
 ⟨Zwg.s1_3 W hs,Zks (t:=gty Tryz.prog 6) (g:=ZhI.g 0) h synM (by kernel_rfl) (by kernel_rfl) (by kernel_rfl)⟩
noncomputable def accW (os:Os):World :=
 { World.doorLaid Tryz.prog 400 os with heap:=(World.doorLaid Tryz.prog 400 os).heap.modify 8 fun | .cells _ t frozen => .cells (ZvC Rows.laid_unicode_utf8_first).toArray t frozen|o=>o }
theorem ZzL (os:Os)(args:Array Value):(DataW.laidRun Tryz.prog ((accW os).forCall (fun _ _=>0) ⟨#[],args,[]⟩).memory 8 ((ZaV.filter fun x=>x.2.handleName?.isNone).map (·.1))).map (·.1)=some (ZaV.filter fun x=>x.2.handleName?.isNone):=by kernel_rfl
theorem ZzK (os:Os)(args:Array Value):(DataW.laidRun Tryz.prog ((accW os).forCall (fun _ _=>0) ⟨#[],args,[]⟩).memory 8 ((ZaV.filter fun x=>x.2.handleName?.isNone).map (·.1))).map (fun x=>decide x.2.Nodup&&laidRowsB Tryz.prog ((accW os).forCall (fun _ _=>0) ⟨#[],args,[]⟩).memory x.2)=some true:=by kernel_rfl
theorem ZzJ (os:Os)(args:Array Value):(ZaV.filter fun x=>x.2.handleName?.isSome&&x.2.funcsIn?.isNone).all (handleAtB Tryz.prog ((accW os).forCall (fun _ _=>0) ⟨#[],args,[]⟩).memory)=true:=by kernel_rfl
theorem ZzI (os:Os)(args:Array Value):funcsRun Tryz.prog ((accW os).forCall (fun _ _=>0) ⟨#[],args,[]⟩).memory 8 ((funcsListed ZaV).map (·.1))=some ((funcsListed ZaV).map (·.2.funcsOut)):=by kernel_rfl
theorem ZyH (os:Os)(args:Array Value):laidMetH Tryz.prog ZaV ((accW os).forCall (fun _ _=>0) ⟨#[],args,[]⟩).memory :=
 laidMetH_of_parts3 (fuel:=8) (laidMet_of_run' 8 (ZzL os args) (ZzK os args)) (ZzJ os args) (ZzI os args)
end Go.Proofs.YtpipekfmecikmaaGreatDoor
