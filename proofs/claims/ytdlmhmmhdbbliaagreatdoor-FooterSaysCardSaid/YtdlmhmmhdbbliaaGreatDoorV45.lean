/- Parts of the proof. -/
import Derived.Test.YtdlmhmmhdbbliaaGreatDoorV46
import Derived.Test.YtdlmhmmhdbbliaaGreatDoorV41
set_option maxHeartbeats 4000000
set_option linter.unusedVariables false
set_option linter.unusedSimpArgs false
namespace Go.Proofs.YtdlmhmmhdbbliaaGreatDoor
open Go Go.RowKit Go.Wk Go.ChangeShapes Go.WideShapes Go.ChangeAt
theorem powM:((ZaJ[2]'(by decide)).1,(ZaJ[2]'(by decide)).2)∈ZaJ.filter fun x=>x.2.handleName?.isNone:=List.mem_filter.2 ⟨List.getElem_mem (by decide),by kernel_rfl⟩
theorem ZAl {W:World}(h:laidMetH Tryz.prog ZaJ W):PowT W:=by
 obtain⟨ps,hl,_⟩:=ZeR h
 obtain⟨g2,t2,cs,fu,p,h1,h2,h3,h4⟩:=Zdu hl powM
 obtain rfl:=Option.some.inj ((show Tryz.prog.globalNamed "internal/strconv.uint64pow10" = some 5 by kernel_rfl).symm.trans h1)
 obtain rfl:=Option.some.inj ((show(Tryz.prog.globals[5]?).map (·.type)=some (gty Tryz.prog 5) by kernel_rfl).symm.trans h2)
 rw[show(ZaJ[2]'(by decide)).2=Lib.tabData .u64 Lib.pow10Tab by kernel_rfl]at h4
 have h5:=Lib.cells_of_tab (n:=20) (e:=216) (by kernel_rfl) (by kernel_rfl) (by kernel_rfl) (by kernel_rfl) h4
 show World.var? _ _ _=_
 rw [show "internal/strconv.uint64pow10" = (ZaJ[2]'(by decide)).1 by kernel_rfl,h3,<- h5]
theorem uniM:((ZaJ[8]'(by decide)).1,(ZaJ[8]'(by decide)).2)∈ZaJ.filter fun x=>x.2.handleName?.isNone:=List.mem_filter.2 ⟨List.getElem_mem (by decide),by kernel_rfl⟩
theorem ZAa {W:World}(h:laidMetH Tryz.prog ZaJ W):UnG W :=
 ZgD (t:=gty Tryz.prog 4) 8 h uniM (by kernel_rfl) (by kernel_rfl) (by kernel_rfl)
end Go.Proofs.YtdlmhmmhdbbliaaGreatDoor
