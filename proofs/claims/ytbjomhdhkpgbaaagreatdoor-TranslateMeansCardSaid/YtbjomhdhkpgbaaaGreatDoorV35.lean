/- Parts of the proof. -/
import Derived.Test.YtbjomhdhkpgbaaaGreatDoorV33
import Derived.Test.YtbjomhdhkpgbaaaGreatDoorV12
import Derived.Test.YtbjomhdhkpgbaaaGreatDoorV27
import Derived.Test.YtbjomhdhkpgbaaaGreatDoorRows
import Derived.LaidSub
import Derived.SevenTiedAt
import Derived.JoinedOf
import Derived.KernelRfl
set_option maxHeartbeats 4000000
set_option linter.unusedVariables false
set_option linter.unusedSimpArgs false
namespace Go.Proofs.YtbjomhdhkpgbaaaGreatDoor
open Go Go.RowKit Go.Wk Go.ChangeShapes Go.WideShapes Go.ChangeAt
def gty (P:Program)(g:Nat):TypeId:=match P.globals[g]? with|some x=>x.type|none=>0
def Za8:List (String × DataW Unit):=Rows.translateMeansRow.laid
noncomputable def kinFs:List (String × FuncId):=[(Tryz.f325.name,325),(Tryz.f326.name,326),(Tryz.f328.name,328),(Tryz.f330.name,330)]
noncomputable def conFs:List (String × FuncId):=[(Tryz.f315.name,315),(Tryz.f317.name,317),(Tryz.f318.name,318),(Tryz.f320.name,320),(Tryz.f322.name,322),(Tryz.f323.name,323)]
theorem kinM:((Za8[7]'(by decide)).1,(Za8[7]'(by decide)).2)∈Za8:=List.getElem_mem (by decide)
theorem conM:((Za8[8]'(by decide)).1,(Za8[8]'(by decide)).2)∈Za8:=List.getElem_mem (by decide)
theorem befM:((Za8[6]'(by decide)).1,(Za8[6]'(by decide)).2)∈Za8.filter fun x=>x.2.handleName?.isNone:=List.mem_filter.2 ⟨List.getElem_mem (by decide),by kernel_rfl⟩
theorem varM:((Za8[9]'(by decide)).1,(Za8[9]'(by decide)).2)∈Za8.filter fun x=>x.2.handleName?.isNone:=List.mem_filter.2 ⟨List.getElem_mem (by decide),by kernel_rfl⟩
theorem synM:((Za8[5]'(by decide)).1,(Za8[5]'(by decide)).2)∈Za8.filter fun x=>x.2.handleName?.isNone:=List.mem_filter.2 ⟨List.getElem_mem (by decide),by kernel_rfl⟩
theorem ZCt {W:World}(h:laidMetH Tryz.prog Za8 W):Zam W ⟨4,3,none⟩ ZnI :=
 Zd1 (t:=gty Tryz.prog 4) kinFs 8 (laidMetH.funcs h kinM) (by kernel_rfl) (by kernel_rfl) (by kernel_rfl)
theorem ZCy {W:World}(h:laidMetH Tryz.prog Za8 W):Zam W ⟨2,0,none⟩ Zg2 :=
 Zd1 (t:=gty Tryz.prog 2) conFs 8 (laidMetH.funcs h conM) (by kernel_rfl) (by kernel_rfl) (by kernel_rfl)
theorem ZCC {W:World}(h:laidMetH Tryz.prog Za8 W):Zam W ⟨8,0,none⟩ (Zbr.map fun n => .int .i64 n) :=
 Zg5 (t:=gty Tryz.prog 8) 8 h befM (by kernel_rfl) (by kernel_rfl) (by kernel_rfl)
theorem ZBZ {W:World}(h:laidMetH Tryz.prog Za8 W):Zam W ⟨1,0,none⟩ Zlx :=
 Zg5 (t:=gty Tryz.prog 1) 8 h varM (by kernel_rfl) (by kernel_rfl) (by kernel_rfl)
noncomputable def meFs:List (String × FuncId):=[(Tryz.f307.name,307),(Tryz.f308.name,308),(Tryz.f309.name,309)]
theorem meM:((Za8[10]'(by decide)).1,(Za8[10]'(by decide)).2)∈Za8:=List.getElem_mem (by decide)
theorem ZDd {W:World}(h:laidMetH Tryz.prog Za8 W):MeG W :=
 show Zam W ⟨0,0,none⟩ Zu1 from Zd1 (t:=gty Tryz.prog 0) meFs 8 (laidMetH.funcs h meM) (by kernel_rfl) (by kernel_rfl) (by kernel_rfl)
theorem ZA9 {W:World}(h:laidMetH Tryz.prog Za8 W):Glob W:=⟨ZCC h,ZCt h,ZCy h,ZBZ h⟩
theorem ZCq {W:World}(h:laidMetH Tryz.prog Za8 W)(hs:W.ShapedOpen Tryz.prog):LibW W :=
 ⟨ZzD.s1_3 W hs,ZlX (t:=gty Tryz.prog 9) (g:=ZiY.g 0) h synM (by kernel_rfl) (by kernel_rfl) (by kernel_rfl)⟩
noncomputable def accW (os:Os):World :=
 { World.doorLaid Tryz.prog 400 os with heap:=(World.doorLaid Tryz.prog 400 os).heap.modify 11 fun | .cells _ t frozen => .cells (ZyU Rows.laid_unicode_utf8_first).toArray t frozen|o=>o }
theorem ZBx (os:Os)(args:Array Value):laidMetH Tryz.prog Za8 ((accW os).forCall (fun _ _=>0) ⟨#[],args,[]⟩).memory :=
 laidMetH_of_parts3 (fuel:=8) (laidMet_of_run' 8 (by kernel_rfl) (by kernel_rfl)) (by kernel_rfl) (by kernel_rfl)
open Go
theorem Zcg {a b:Bool}(ha:a=true)(hb:b=true):(a&&b)=true:=by rw[ha,hb];rfl
theorem af1:Rows.translateMeansRow.wf (OpenSpec.ofChange Rows.translateMeansSpec)=true:=by kernel_rfl
theorem af2:laidOutB Tryz.prog=true:=by kernel_rfl
theorem af3:mapsRowed Tryz.prog=true:=by kernel_rfl
theorem af5:namedTie Tryz.prog Rows.translateMeansRow.named Rows.translateMeansSpec.vars=true:=by kernel_rfl
theorem af10:(Rows.translateMeansRow.inPlace==Tryz.prog.inPlace 7)=true:=by kernel_rfl
theorem af11:(Rows.translateMeansRow.unfollowed==Tryz.prog.unfollowed 7)=true:=by kernel_rfl
theorem af12:(Rows.translateMeansRow.recurses==Tryz.prog.recurses 7)=true:=by kernel_rfl
theorem af13:(Rows.translateMeansRow.named==Tryz.prog.varsNamed 7)=true:=by kernel_rfl
theorem af23:(Rows.translateMeansRow.plainKeys==Tryz.prog.plainKeys)=true:=by kernel_rfl
theorem af25:Tryz.prog.stopsHeard=true:=by kernel_rfl
theorem af26:Tryz.prog.mayEnter=true:=by kernel_rfl
theorem af27:(Rows.translateMeansRow.lifted==Tryz.prog.liftsFinal)=true:=by kernel_rfl
theorem af28:(Tryz.prog.make==some Rows.translateMeansRow.make)=true:=by kernel_rfl
theorem ZDj:Rows.translateMeansRow.wfByText (OpenSpec.ofChange Rows.translateMeansSpec)=true:=by kernel_rfl
theorem ZBu:Tryz.prog.mainIs=some (true, "3d169eba04c2ae9ab9c5e3713ae2372aebf789426dd2a12541f32d536c18ae94".toList):=by kernel_rfl
theorem Zy0:true=Tryz.prog.looks []:=by kernel_rfl
theorem ZBw:false=Rows.translateMeansRow.goesBy Tryz.prog:=by kernel_rfl
theorem ZCF:Tryz.prog.funcNamed Rows.translateMeansRow.func=some 7:=by kernel_rfl
theorem ZBv:Tryz.f7.isInstance Tryz.prog Rows.translateMeansRow.origin Rows.translateMeansRow.targs:=of_decide_eq_true (by kernel_rfl)
theorem ZBt:Tryz.f7.isWrapper Tryz.prog Rows.translateMeansRow.wrapper Rows.translateMeansRow.mainSum:=by unfold Func.isWrapper;first|(rw[if_pos (by decide +kernel)];kernel_rfl)|(rw[if_neg (by decide +kernel)];exact⟨rfl,rfl⟩)
end Go.Proofs.YtbjomhdhkpgbaaaGreatDoor
