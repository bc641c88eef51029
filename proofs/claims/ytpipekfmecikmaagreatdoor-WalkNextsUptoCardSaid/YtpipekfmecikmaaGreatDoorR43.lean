/- Parts of the proof. -/
import Derived.Test.YtpipekfmecikmaaGreatDoorR42
set_option maxHeartbeats 4000000
set_option linter.all false
namespace Go.Proofs.YtpipekfmecikmaaGreatDoor
open Go Go.RowKit Go.Wk Go.ChangeShapes Go.WideShapes Go.ChangeAt
def gty (P:Program)(g:Nat):TypeId:=match P.globals[g]? with|some x=>x.type|none=>0
def Za5:List (String × DataW Unit):=Rows.walkNextsUptoRow.laid
noncomputable def kinFs:List (String × FuncId):=[(Tryz.f383.name,383),(Tryz.f384.name,384),(Tryz.f386.name,386),(Tryz.f388.name,388)]
noncomputable def conFs:List (String × FuncId):=[(Tryz.f390.name,390),(Tryz.f392.name,392),(Tryz.f393.name,393),(Tryz.f395.name,395),(Tryz.f397.name,397),(Tryz.f398.name,398)]
theorem kinM:((Za5[7]'(by decide)).1,(Za5[7]'(by decide)).2)∈Za5:=List.getElem_mem (by decide)
theorem conM:((Za5[8]'(by decide)).1,(Za5[8]'(by decide)).2)∈Za5:=List.getElem_mem (by decide)
theorem befM:((Za5[6]'(by decide)).1,(Za5[6]'(by decide)).2)∈Za5.filter fun x=>x.2.handleName?.isNone:=List.mem_filter.2 ⟨List.getElem_mem (by decide),by kernel_rfl⟩
theorem synM:((Za5[5]'(by decide)).1,(Za5[5]'(by decide)).2)∈Za5.filter fun x=>x.2.handleName?.isNone:=List.mem_filter.2 ⟨List.getElem_mem (by decide),by kernel_rfl⟩
theorem ZBg {W:World}(h:laidMetH Tryz.prog Za5 W):Zas W ⟨2,3,none⟩ ZmB :=
 Zfk (t:=gty Tryz.prog 2) kinFs 8 (laidMetH.funcs h kinM) (by kernel_rfl) (by kernel_rfl) (by kernel_rfl)
theorem ZBo {W:World}(h:laidMetH Tryz.prog Za5 W):Zas W ⟨4,0,none⟩ Zga :=
 Zfk (t:=gty Tryz.prog 4) conFs 8 (laidMetH.funcs h conM) (by kernel_rfl) (by kernel_rfl) (by kernel_rfl)
theorem ZBt {W:World}(h:laidMetH Tryz.prog Za5 W):Zas W ⟨3,0,none⟩ (Za1.map fun n => .int .i64 n) :=
 Zlf (t:=gty Tryz.prog 3) 8 h befM (by kernel_rfl) (by kernel_rfl) (by kernel_rfl)
theorem ZzX {W:World}(h:laidMetH Tryz.prog Za5 W):Glob W:=⟨ZBt h,ZBg h,ZBo h⟩
theorem ZBa {W:World}(h:laidMetH Tryz.prog Za5 W)(a:W.ShapedOpen Tryz.prog):LibW W :=
 ⟨Zxv.s1_3 W a,ZkY (t:=gty Tryz.prog 6) (g:=Zh3.g 0) h synM (by kernel_rfl) (by kernel_rfl) (by kernel_rfl)⟩
noncomputable def accW (os:Os):World :=
 { World.doorLaid Tryz.prog 400 os with heap:=(World.doorLaid Tryz.prog 400 os).heap.modify 8 fun | .cells _ t frozen => .cells (ZwE Rows.laid_unicode_utf8_first).toArray t frozen|o=>o }
theorem ZBD (os:Os)(args:Array Value):(DataW.laidRun Tryz.prog ((accW os).forCall (fun _ _=>0) ⟨#[],args,[]⟩).memory 8 ((Za5.filter fun x=>x.2.handleName?.isNone).map (·.1))).map (·.1)=some (Za5.filter fun x=>x.2.handleName?.isNone):=by kernel_rfl
theorem ZBC (os:Os)(args:Array Value):(DataW.laidRun Tryz.prog ((accW os).forCall (fun _ _=>0) ⟨#[],args,[]⟩).memory 8 ((Za5.filter fun x=>x.2.handleName?.isNone).map (·.1))).map (fun x=>decide x.2.Nodup&&laidRowsB Tryz.prog ((accW os).forCall (fun _ _=>0) ⟨#[],args,[]⟩).memory x.2)=some true:=by kernel_rfl
theorem ZBB (os:Os)(args:Array Value):(Za5.filter fun x=>x.2.handleName?.isSome&&x.2.funcsIn?.isNone).all (handleAtB Tryz.prog ((accW os).forCall (fun _ _=>0) ⟨#[],args,[]⟩).memory)=true:=by kernel_rfl
theorem ZBA (os:Os)(args:Array Value):funcsRun Tryz.prog ((accW os).forCall (fun _ _=>0) ⟨#[],args,[]⟩).memory 8 ((funcsListed Za5).map (·.1))=some ((funcsListed Za5).map (·.2.funcsOut)):=by kernel_rfl
theorem ZAo (os:Os)(args:Array Value):laidMetH Tryz.prog Za5 ((accW os).forCall (fun _ _=>0) ⟨#[],args,[]⟩).memory :=
 laidMetH_of_parts3 (fuel:=8) (laidMet_of_run' 8 (ZBD os args) (ZBC os args)) (ZBB os args) (ZBA os args)
end Go.Proofs.YtpipekfmecikmaaGreatDoor
