/- Parts of the proof. -/
import Derived.Test.YtpipekfmecikmaaGreatDoorA42
set_option maxHeartbeats 0
set_option linter.all false
namespace Go.Proofs.YtpipekfmecikmaaGreatDoor
open Go Go.RowKit Go.Wk Go.ChangeShapes Go.WideShapes Go.ChangeAt Proofs.Tryz
def gty (P:Program)(g:Nat):TypeId:=match P.globals[g]? with|some x=>x.type|none=>0
def Za7:List (String × DataW Unit):=Rows.walkAllsUptoRow.laid
noncomputable def kinFs:List (String × FuncId):=[(Tryz.f383.name,383),(Tryz.f384.name,384),(Tryz.f386.name,386),(Tryz.f388.name,388)]
noncomputable def conFs:List (String × FuncId):=[(Tryz.f390.name,390),(Tryz.f392.name,392),(Tryz.f393.name,393),(Tryz.f395.name,395),(Tryz.f397.name,397),(Tryz.f398.name,398)]
theorem kinM:((Za7[7]'(by decide)).1,(Za7[7]'(by decide)).2)∈Za7:=List.getElem_mem (by decide)
theorem conM:((Za7[8]'(by decide)).1,(Za7[8]'(by decide)).2)∈Za7:=List.getElem_mem (by decide)
theorem befM:((Za7[6]'(by decide)).1,(Za7[6]'(by decide)).2)∈Za7.filter fun x=>x.2.handleName?.isNone:=List.mem_filter.2 ⟨List.getElem_mem (by decide),by kernel_rfl⟩
theorem synM:((Za7[5]'(by decide)).1,(Za7[5]'(by decide)).2)∈Za7.filter fun x=>x.2.handleName?.isNone:=List.mem_filter.2 ⟨List.getElem_mem (by decide),by kernel_rfl⟩
theorem ZBS {W:World}(h:laidMetH prog Za7 W):Zat W ⟨2,3,none⟩ ZmO :=
 Zfu (t:=gty prog 2) kinFs 8 (laidMetH.funcs h kinM) (by kernel_rfl) (by kernel_rfl) (by kernel_rfl)
theorem ZB0 {W:World}(h:laidMetH prog Za7 W):Zat W ⟨4,0,none⟩ Zgo :=
 Zfu (t:=gty prog 4) conFs 8 (laidMetH.funcs h conM) (by kernel_rfl) (by kernel_rfl) (by kernel_rfl)
theorem ZB5 {W:World}(h:laidMetH prog Za7 W):Zat W ⟨3,0,none⟩ (Za2.map fun n => .int .i64 n) :=
 Zlu (t:=gty prog 3) 8 h befM (by kernel_rfl) (by kernel_rfl) (by kernel_rfl)
theorem ZAC {W:World}(h:laidMetH prog Za7 W):Glob W:=⟨ZB5 h,ZBS h,ZB0 h⟩
theorem ZBM {W:World}(h:laidMetH prog Za7 W)(a:W.ShapedOpen prog):LibW W :=
 ⟨Zx2.s1_3 W a,Zle (t:=gty prog 6) (g:=Zie.g 0) h synM (by kernel_rfl) (by kernel_rfl) (by kernel_rfl)⟩
noncomputable def accW (os:Os):World :=
 { World.doorLaid prog 400 os with heap:=(World.doorLaid prog 400 os).heap.modify 8 fun | .cells _ t frozen => .cells (Zw8 Rows.laid_unicode_utf8_first).toArray t frozen|o=>o }
theorem ZCf (os:Os)(args:Array Value):(DataW.laidRun prog ((accW os).forCall (fun _ _=>0) ⟨#[],args,[]⟩).memory 8 ((Za7.filter fun x=>x.2.handleName?.isNone).map (·.1))).map (·.1)=some (Za7.filter fun x=>x.2.handleName?.isNone):=by kernel_rfl
theorem ZCe (os:Os)(args:Array Value):(DataW.laidRun prog ((accW os).forCall (fun _ _=>0) ⟨#[],args,[]⟩).memory 8 ((Za7.filter fun x=>x.2.handleName?.isNone).map (·.1))).map (fun x=>decide x.2.Nodup&&laidRowsB prog ((accW os).forCall (fun _ _=>0) ⟨#[],args,[]⟩).memory x.2)=some true:=by kernel_rfl
theorem ZCd (os:Os)(args:Array Value):(Za7.filter fun x=>x.2.handleName?.isSome&&x.2.funcsIn?.isNone).all (handleAtB prog ((accW os).forCall (fun _ _=>0) ⟨#[],args,[]⟩).memory)=true:=by kernel_rfl
theorem ZCc (os:Os)(args:Array Value):funcsRun prog ((accW os).forCall (fun _ _=>0) ⟨#[],args,[]⟩).memory 8 ((funcsListed Za7).map (·.1))=some ((funcsListed Za7).map (·.2.funcsOut)):=by kernel_rfl
theorem ZA2 (os:Os)(args:Array Value):laidMetH prog Za7 ((accW os).forCall (fun _ _=>0) ⟨#[],args,[]⟩).memory :=
 laidMetH_of_parts3 (fuel:=8) (laidMet_of_run' 8 (ZCf os args) (ZCe os args)) (ZCd os args) (ZCc os args)
