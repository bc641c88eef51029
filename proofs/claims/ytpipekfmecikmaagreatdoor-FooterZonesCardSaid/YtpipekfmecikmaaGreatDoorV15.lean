/- Parts of the proof. -/
import Derived.Test.YtpipekfmecikmaaGreatDoorV13
import Derived.Test.YtpipekfmecikmaaGreatDoorV01
import Derived.Test.YtpipekfmecikmaaGreatDoorV06
import Derived.Test.YtpipekfmecikmaaGreatDoorV08
import Derived.Test.YtpipekfmecikmaaGreatDoorV04
import Derived.Test.YtpipekfmecikmaaGreatDoorV05
import Derived.Laws.Strings2
import Derived.Test.YtpipekfmecikmaaGreatDoorV11
import Derived.Shelf.SlSortCmp.NoneTotal
import Derived.Shelf.Lay
import Derived.Sort.Grow
import Derived.Deep.Draws
import Derived.Deep.RegionHeld3
import Derived.Test.YtpipekfmecikmaaGreatDoorV09
set_option maxHeartbeats 4000000
set_option linter.unusedVariables false
set_option linter.unusedSimpArgs false
namespace Go.Wk
open Go Go.RowKit
theorem ZqO (y m:Int):ZaP y m 1+365<=ZaP (y+1) m 1:=by
 unfold ZaP ZbI
 split <;> omega
theorem ZqP (y m:Int)(k:Nat):ZaP y m 1+365*k<=ZaP (y+k) m 1:=by
 induction k with
 | zero=>simp
 | succ k ih =>
  have:=ZqO (y+k) m
  rw[show y+((k+1:Nat):Int)=y+k+1 by omega]
  omega
theorem Zjy (y:Int):∀ (m:Nat),m<=11->jan1 y<=ZaP y ((m:Int)+1) 1/\ZaP y ((m:Int)+1) 1<=jan1 y+31*m
 | 0,_=>by rw[Zjn];simp
 | m+1,h=>by
  have ih:=Zjy y m (by omega)
  have h1:=Zjx y (m+1) (by omega) (by omega)
  have h2:=Zc4 y ((m+1:Nat):Int)
  rw[h1]
  rw[show((m+1:Nat):Int)=(m:Int)+1 by omega]at *
  omega
theorem ZsF (y m:Int)(h0:1<=m)(h1:m<=12):jan1 y<=ZaP y m 1/\ZaP y m 1<=jan1 y+341:=by
 have h:=Zjy y (m - 1).toNat (by omega)
 rw[show(((m - 1).toNat:Nat):Int)+1=m by omega]at h
 omega
theorem Zr2 {y m:Int}{d:DDay}(h:(onD y m d).2=0):1<=m/\m<=12/\ZaP y m 1 - 6<=(onD y m d).1/\(onD y m d).1<=ZaP y m 1+36:=by
 unfold onD at h ⊢
 by_cases h1:ZaN y m 1=false
 ·rw[if_pos h1]at h;simp at h
 rw[if_neg h1]at h ⊢
 by_cases h2:Za8 d=false
 ·rw[if_pos h2]at h;simp at h
 rw[if_neg h2]at h ⊢
 by_cases h3:lenM y m<d.day
 ·rw[if_pos h3]at h;simp at h
 rw[if_neg h3]
 have hl:=Zc4 y m
 have hm:1<=m/\m<=12:=by
  simp only[ZaN,Bool.not_eq_false,Bool.and_eq_true,decide_eq_true_eq]at h1
  have h4:=h1.2
  unfold lenM at h4
  by_cases hb:m<1\/12<m
  ·rw[if_pos hb]at h4;omega
  ·omega
 have hd:Za8 d=true:=by simpa using h2
 refine⟨hm.1,hm.2,?_⟩
 simp only[Za8,dayK,Zp4,Bool.and_eq_true,Bool.or_eq_false_iff,Bool.not_eq_true',decide_eq_true_eq,decide_eq_false_iff_not]at hd
 simp only[ZaN,Bool.not_eq_false,Bool.and_eq_true,decide_eq_true_eq]at h1
 obtain⟨⟨k1,k2⟩,hk⟩:=hd
 have hdd:d.kind≠2->1<=d.day:=by
  intro h5
  have e1:(!decide (d.kind=2))=true:=by simpa using h5
  obtain⟨⟨⟨⟨⟨_,_⟩,_⟩,h7⟩,h8⟩,_⟩:=hk
  rw[e1]at h7
  simp at h7
  omega
 unfold ZeV Za1 Zbp
 dsimp only
 split
 ·omega
 ·split
  ·omega
  ·split <;> omega
theorem ZbO {least:Int}{r:DRule}{i y:Int}{e:Zad}(h:onR least r i y=some e):e.year=y/\e.rule=i/\max r.from_ (-2000000000)<=y/\y<=2000000000/\-604799<=r.at_.sec/\r.at_.sec<=604799/\(onD y r.month r.day).2=0/\e.nominal=86400*(onD y r.month r.day).1+(r.at_.sec+(if r.at_.base=1 then max least (-10800) else 0)):=by
 unfold onR at h
 split at h
 ·cases h
 rename_i h1
 split at h
 ·cases h
 rename_i h2
 cases h
 have hc:ZaH r.at_=true:=by
  cases hc:ZaH r.at_
  ·exact absurd (.inr (.inr hc)) h1
  ·rfl
 simp only[ZaH,Bool.and_eq_true,decide_eq_true_eq]at hc
 have hl:¬ lastY r<y:=fun h=>h1 (.inr (.inl h))
 have hl2:lastY r<=2000000000:=by unfold lastY;split <;> omega
 refine⟨rfl,rfl,?_,by omega,hc.1.1.1,hc.1.1.2,Decidable.not_not.1 h2,?_⟩
 ·have:¬ y<max r.from_ (-2000000000):=fun h=>h1 (.inl h)
  omega
 ·dsimp only
  omega
theorem ZoT {least:Int}(hl:least<=0){r:DRule}{i y:Int}{e:Zad}(h:onR least r i y=some e):jan1 y*86400 - 1700000<=e.nominal/\e.nominal<=jan1 (y+1)*86400+1700000:=by
 obtain⟨_,_,_,_,h3,h4,h5,h6⟩:=ZbO h
 obtain⟨m1,m2,d1,d2⟩:=Zr2 h5
 have hj:=ZsF y r.month m1 m2
 have hs:=Zdk y
 have hz:=ZeA y
 have hm : -10800<=(if r.at_.base=1 then max least (-10800) else 0)/\(if r.at_.base=1 then max least (-10800) else 0)<=0:=by split <;> omega
 generalize (if r.at_.base=1 then max least (-10800) else 0)=mx at *
 generalize (onD y r.month r.day).1=D at *
 omega
theorem Zke {least:Int}{r:DRule}{i i' y y':Int}{e e':Zad}(h:onR least r i y=some e)(h':onR least r i' y'=some e')(hy:y<y'):e.nominal<e'.nominal:=by
 obtain⟨_,_,_,_,h3,h4,h5,h6⟩:=ZbO h
 obtain⟨_,_,_,_,g3,g4,g5,g6⟩:=ZbO h'
 obtain⟨m1,m2,d1,d2⟩:=Zr2 h5
 obtain⟨n1,n2,e1,e2⟩:=Zr2 g5
 have hk:=ZqP y r.month (y' - y).toNat
 rw[show y+((y' - y).toNat:Int)=y' by omega]at hk
 rw[h6,g6]
 generalize r.at_.sec+(if r.at_.base=1 then max least (-10800) else 0)=s at *
 generalize (onD y r.month r.day).1=D at *
 generalize (onD y' r.month r.day).1=D' at *
 omega
theorem Zc8 {y y':Int}(h:jan1 y*86400 - 2100000<jan1 (y'+1)*86400+2100000):y<=y'+1:=by
 by_cases hc:y<=y'+1
 ·exact hc
 ·have:=ZbQ (y'+1) (y - (y'+1)).toNat
  rw[show y'+1+((y - (y'+1)).toNat:Int)=y by omega]at this
  omega
theorem ZfU {t:Int}(h0 : -40000000000000000<=t)(h1:t<=40000000000000000):jan1 (ZaC t)*86400<=t/\t<jan1 (ZaC t+1)*86400:=by
 have h:=Zep (t / 86400)
 have hb : -2000000000<=ZbD (t / 86400)/\ZbD (t / 86400)<=2000000000:=by
  unfold jan1 at h
  omega
 have e:ZaC t=ZbD (t / 86400):=by unfold ZaC;omega
 rw[e]
 omega
theorem Zyh (y m:Int)(h0:1<=m)(h1:m<=12):28<=lenM y m:=by
 unfold lenM
 rw[if_neg (by omega)]
 split
 ·split <;> omega
 ·split <;> omega
end Go.Wk
namespace Go.Proofs.YtpipekfmecikmaaGreatDoor
open Go Go.RowKit Go.Wk
theorem Zsw:∀ (l:List DRule) (m:Int),l.foldl (fun m r=>min m r.save) m<=m/\(∀ r∈l,l.foldl (fun m r=>min m r.save) m<=r.save)/\(l.foldl (fun m r=>min m r.save) m=m\/∃ r∈l,l.foldl (fun m r=>min m r.save) m=r.save)
 | [],m=>⟨Int.le_refl _,(fun r h=>by cases h),.inl rfl⟩
 | a::l,m=>by
  obtain⟨h1,h2,h3⟩:=Zsw l (min m a.save)
  rw[List.foldl_cons]
  refine⟨by omega,fun r hr=>?_,?_⟩
  ·rcases List.mem_cons.1 hr with rfl|hr
   ·omega
   ·exact h2 r hr
  ·rcases h3 with h3|⟨r,h4,h5⟩
   ·by_cases hm:m<=a.save
    ·exact .inl (by omega)
    ·exact .inr ⟨a,List.mem_cons_self,by omega⟩
   ·exact .inr ⟨r,List.mem_cons_of_mem _ h4,h5⟩
theorem ZnI {α:Type}{l:List α}{k:Nat}{d:α}(h:k<l.length):∃ e,l[k]?=some e/\l.getD k d=e:=⟨l[k],List.getElem?_eq_getElem h,by rw[List.getD_eq_getElem?_getD,List.getElem?_eq_getElem h];rfl⟩
attribute [local irreducible] W RL Does Zat Zaj retQ Calls Pu Stp RD Qy Ay Zak
end Go.Proofs.YtpipekfmecikmaaGreatDoor
namespace Go.Proofs.YtpipekfmecikmaaGreatDoor
open Go Go.RowKit Go.Wk Go.ChangeShapes Go.WideShapes Go.ChangeAt
section
variable {H:Type}{enc:TypeId × Value->H}{w:World}{sp:Nat->Bool}{held:Bool}
def _root_.Go.Wk.DDay.ok (d:DDay):Prop:=inR .i64 d.kind/\inR .i64 d.week/\inR .i64 d.day
def _root_.Go.Wk.DClock.ok (d:DClock):Prop:=inR .i64 d.sec/\inR .i64 d.base
def _root_.Go.Wk.DRule.ok (d:DRule):Prop:=d.name.size<=maxLen/\inR .i64 d.from_/\inR .i64 d.to/\inR .i64 d.month/\DDay.ok d.day/\DClock.ok d.at_/\inR .i64 d.save/\d.letter.size<=maxLen
def _root_.Go.Wk.DUntil.ok (d:DUntil):Prop:=inR .i64 d.year/\inR .i64 d.month/\DDay.ok d.day/\DClock.ok d.at_
def _root_.Go.Wk.DEra.ok (d:DEra):Prop:=inR .i64 d.off/\inR .i64 d.kind/\inR .i64 d.save/\d.set.size<=maxLen/\d.format.size<=maxLen/\DUntil.ok d.til
def _root_.Go.Wk.DLink.ok (d:DLink):Prop:=d.target.size<=maxLen/\d.name.size<=maxLen
theorem ZrK {n:Nat}{cs:List Value}{y:DataW H × List MemPlace}(h:DataW.trod enc Tryz.prog w 0 sp held n 64 cs=some y):∃ d:DDay,cs=d.enc/\d.ok:=by
 obtain⟨hl,hf⟩:=ZcY Tryz.underlying64 h
 rw[show Tryz.prog.cellsOf 64=3 from by kernel_rfl]at hl
 have c3:Tryz.prog.cellsOf 3=1:=by kernel_rfl
 obtain⟨a0,cs0,rfl,hl0⟩:=Zav hl
 obtain⟨a1,cs1,rfl,hl1⟩:=Zav hl0
 obtain⟨a2,cs2,rfl,hl2⟩:=Zav hl1
 obtain rfl:=List.eq_nil_of_length_eq_zero hl2
 obtain⟨n0,y0,h0⟩:=hf 0 3 0 1 rfl c3
 obtain⟨x0,e0,_,b0⟩:=DataW.trod_int Tryz.underlying3 h0
 injection e0 with e0 _
 subst e0
 obtain⟨n1,y1,h1⟩:=hf 1 3 1 1 rfl c3
 obtain⟨x1,e1,_,b1⟩:=DataW.trod_int Tryz.underlying3 h1
 injection e1 with e1 _
 subst e1
 obtain⟨n2,y2,h2⟩:=hf 2 3 2 1 rfl c3
 obtain⟨x2,e2,_,b2⟩:=DataW.trod_int Tryz.underlying3 h2
 injection e2 with e2 _
 subst e2
 exact⟨⟨x0,x1,x2⟩,rfl,ZcX b0,ZcX b1,ZcX b2⟩
theorem Zln {n:Nat}{cs:List Value}{y:DataW H × List MemPlace}(h:DataW.trod enc Tryz.prog w 0 sp held n 66 cs=some y):∃ d:DClock,cs=d.enc/\d.ok:=by
 obtain⟨hl,hf⟩:=ZcY Tryz.underlying66 h
 rw[show Tryz.prog.cellsOf 66=2 from by kernel_rfl]at hl
 have c2:Tryz.prog.cellsOf 2=1:=by kernel_rfl
 have c3:Tryz.prog.cellsOf 3=1:=by kernel_rfl
 obtain⟨a0,cs0,rfl,hl0⟩:=Zav hl
 obtain⟨a1,cs1,rfl,hl1⟩:=Zav hl0
 obtain rfl:=List.eq_nil_of_length_eq_zero hl1
 obtain⟨n0,y0,h0⟩:=hf 0 2 0 1 rfl c2
 obtain⟨x0,e0,_,b0⟩:=DataW.trod_int Tryz.underlying2 h0
 injection e0 with e0 _
 subst e0
 obtain⟨n1,y1,h1⟩:=hf 1 3 1 1 rfl c3
 obtain⟨x1,e1,_,b1⟩:=DataW.trod_int Tryz.underlying3 h1
 injection e1 with e1 _
 subst e1
 exact⟨⟨x0,x1⟩,rfl,ZcX b0,ZcX b1⟩
theorem ZuV {n:Nat}{cs:List Value}{y:DataW H × List MemPlace}(h:DataW.trod enc Tryz.prog w 0 sp held n 68 cs=some y):∃ d:DRule,cs=d.enc/\d.ok:=by
 obtain⟨hl,hf⟩:=ZcY Tryz.underlying68 h
 rw[show Tryz.prog.cellsOf 68=11 from by kernel_rfl]at hl
 have c2:Tryz.prog.cellsOf 2=1:=by kernel_rfl
 have c3:Tryz.prog.cellsOf 3=1:=by kernel_rfl
 have c9:Tryz.prog.cellsOf 9=1:=by kernel_rfl
 have c64:Tryz.prog.cellsOf 64=3:=by kernel_rfl
 have c66:Tryz.prog.cellsOf 66=2:=by kernel_rfl
 obtain⟨a0,cs0,rfl,hl0⟩:=Zav hl
 obtain⟨a1,cs1,rfl,hl1⟩:=Zav hl0
 obtain⟨a2,cs2,rfl,hl2⟩:=Zav hl1
 obtain⟨a3,cs3,rfl,hl3⟩:=Zav hl2
 obtain⟨a4,cs4,rfl,hl4⟩:=Zav hl3
 obtain⟨a5,cs5,rfl,hl5⟩:=Zav hl4
 obtain⟨a6,cs6,rfl,hl6⟩:=Zav hl5
 obtain⟨a7,cs7,rfl,hl7⟩:=Zav hl6
 obtain⟨a8,cs8,rfl,hl8⟩:=Zav hl7
 obtain⟨a9,cs9,rfl,hl9⟩:=Zav hl8
 obtain⟨a10,cs10,rfl,hl10⟩:=Zav hl9
 obtain rfl:=List.eq_nil_of_length_eq_zero hl10
 obtain⟨n0,y0,h0⟩:=hf 0 9 0 1 rfl c9
 obtain⟨x0,e0,_,b0⟩:=DataW.trod_string Tryz.underlying9 h0
 injection e0 with e0 _
 subst e0
 obtain⟨n1,y1,h1⟩:=hf 1 3 1 1 rfl c3
 obtain⟨x1,e1,_,b1⟩:=DataW.trod_int Tryz.underlying3 h1
 injection e1 with e1 _
 subst e1
 obtain⟨n2,y2,h2⟩:=hf 2 3 2 1 rfl c3
 obtain⟨x2,e2,_,b2⟩:=DataW.trod_int Tryz.underlying3 h2
 injection e2 with e2 _
 subst e2
 obtain⟨n3,y3,h3⟩:=hf 3 3 3 1 rfl c3
 obtain⟨x3,e3,_,b3⟩:=DataW.trod_int Tryz.underlying3 h3
 injection e3 with e3 _
 subst e3
 obtain⟨n4,y4,h4⟩:=hf 4 64 4 3 rfl c64
 obtain⟨x4,e4,b4⟩:=ZrK h4
 simp only[DDay.enc,List.cons.injEq,and_true]at e4
 obtain⟨rfl,rfl,rfl⟩:=e4
 obtain⟨n5,y5,h5⟩:=hf 5 66 7 2 rfl c66
 obtain⟨x5,e5,b5⟩:=Zln h5
 simp only[DClock.enc,List.cons.injEq,and_true]at e5
 obtain⟨rfl,rfl⟩:=e5
 obtain⟨n6,y6,h6⟩:=hf 6 2 9 1 rfl c2
 obtain⟨x6,e6,_,b6⟩:=DataW.trod_int Tryz.underlying2 h6
 injection e6 with e6 _
 subst e6
 obtain⟨n7,y7,h7⟩:=hf 7 9 10 1 rfl c9
 obtain⟨x7,e7,_,b7⟩:=DataW.trod_string Tryz.underlying9 h7
 injection e7 with e7 _
 subst e7
 exact⟨⟨x0,x1,x2,x3,x4,x5,x6,x7⟩,rfl,b0,ZcX b1,ZcX b2,ZcX b3,b4,b5,ZcX b6,b7⟩
theorem ZrJ {n:Nat}{cs:List Value}{y:DataW H × List MemPlace}(h:DataW.trod enc Tryz.prog w 0 sp held n 73 cs=some y):∃ d:DUntil,cs=d.enc/\d.ok:=by
 obtain⟨hl,hf⟩:=ZcY Tryz.underlying73 h
 rw[show Tryz.prog.cellsOf 73=8 from by kernel_rfl]at hl
 have c3:Tryz.prog.cellsOf 3=1:=by kernel_rfl
 have c4:Tryz.prog.cellsOf 4=1:=by kernel_rfl
 have c64:Tryz.prog.cellsOf 64=3:=by kernel_rfl
 have c66:Tryz.prog.cellsOf 66=2:=by kernel_rfl
 obtain⟨a0,cs0,rfl,hl0⟩:=Zav hl
 obtain⟨a1,cs1,rfl,hl1⟩:=Zav hl0
 obtain⟨a2,cs2,rfl,hl2⟩:=Zav hl1
 obtain⟨a3,cs3,rfl,hl3⟩:=Zav hl2
 obtain⟨a4,cs4,rfl,hl4⟩:=Zav hl3
 obtain⟨a5,cs5,rfl,hl5⟩:=Zav hl4
 obtain⟨a6,cs6,rfl,hl6⟩:=Zav hl5
 obtain⟨a7,cs7,rfl,hl7⟩:=Zav hl6
 obtain rfl:=List.eq_nil_of_length_eq_zero hl7
 obtain⟨n0,y0,h0⟩:=hf 0 4 0 1 rfl c4
 obtain⟨x0,e0,_⟩:=DataW.trod_bool Tryz.underlying4 h0
 injection e0 with e0 _
 subst e0
 obtain⟨n1,y1,h1⟩:=hf 1 3 1 1 rfl c3
 obtain⟨x1,e1,_,b1⟩:=DataW.trod_int Tryz.underlying3 h1
 injection e1 with e1 _
 subst e1
 obtain⟨n2,y2,h2⟩:=hf 2 3 2 1 rfl c3
 obtain⟨x2,e2,_,b2⟩:=DataW.trod_int Tryz.underlying3 h2
 injection e2 with e2 _
 subst e2
 obtain⟨n3,y3,h3⟩:=hf 3 64 3 3 rfl c64
 obtain⟨x3,e3,b3⟩:=ZrK h3
 simp only[DDay.enc,List.cons.injEq,and_true]at e3
 obtain⟨rfl,rfl,rfl⟩:=e3
 obtain⟨n4,y4,h4⟩:=hf 4 66 6 2 rfl c66
 obtain⟨x4,e4,b4⟩:=Zln h4
 simp only[DClock.enc,List.cons.injEq,and_true]at e4
 obtain⟨rfl,rfl⟩:=e4
 exact⟨⟨x0,x1,x2,x3,x4⟩,rfl,ZcX b1,ZcX b2,b3,b4⟩
theorem Zx4 {n:Nat}{cs:List Value}{y:DataW H × List MemPlace}(h:DataW.trod enc Tryz.prog w 0 sp held n 75 cs=some y):∃ d:DEra,cs=d.enc/\d.ok:=by
 obtain⟨hl,hf⟩:=ZcY Tryz.underlying75 h
 rw[show Tryz.prog.cellsOf 75=13 from by kernel_rfl]at hl
 have c2:Tryz.prog.cellsOf 2=1:=by kernel_rfl
 have c3:Tryz.prog.cellsOf 3=1:=by kernel_rfl
 have c9:Tryz.prog.cellsOf 9=1:=by kernel_rfl
 have c73:Tryz.prog.cellsOf 73=8:=by kernel_rfl
 obtain⟨a0,cs0,rfl,hl0⟩:=Zav hl
 obtain⟨a1,cs1,rfl,hl1⟩:=Zav hl0
 obtain⟨a2,cs2,rfl,hl2⟩:=Zav hl1
 obtain⟨a3,cs3,rfl,hl3⟩:=Zav hl2
 obtain⟨a4,cs4,rfl,hl4⟩:=Zav hl3
 obtain⟨a5,cs5,rfl,hl5⟩:=Zav hl4
 obtain⟨a6,cs6,rfl,hl6⟩:=Zav hl5
 obtain⟨a7,cs7,rfl,hl7⟩:=Zav hl6
 obtain⟨a8,cs8,rfl,hl8⟩:=Zav hl7
 obtain⟨a9,cs9,rfl,hl9⟩:=Zav hl8
 obtain⟨a10,cs10,rfl,hl10⟩:=Zav hl9
 obtain⟨a11,cs11,rfl,hl11⟩:=Zav hl10
 obtain⟨a12,cs12,rfl,hl12⟩:=Zav hl11
 obtain rfl:=List.eq_nil_of_length_eq_zero hl12
 obtain⟨n0,y0,h0⟩:=hf 0 2 0 1 rfl c2
 obtain⟨x0,e0,_,b0⟩:=DataW.trod_int Tryz.underlying2 h0
 injection e0 with e0 _
 subst e0
 obtain⟨n1,y1,h1⟩:=hf 1 3 1 1 rfl c3
 obtain⟨x1,e1,_,b1⟩:=DataW.trod_int Tryz.underlying3 h1
 injection e1 with e1 _
 subst e1
 obtain⟨n2,y2,h2⟩:=hf 2 2 2 1 rfl c2
 obtain⟨x2,e2,_,b2⟩:=DataW.trod_int Tryz.underlying2 h2
 injection e2 with e2 _
 subst e2
 obtain⟨n3,y3,h3⟩:=hf 3 9 3 1 rfl c9
 obtain⟨x3,e3,_,b3⟩:=DataW.trod_string Tryz.underlying9 h3
 injection e3 with e3 _
 subst e3
 obtain⟨n4,y4,h4⟩:=hf 4 9 4 1 rfl c9
 obtain⟨x4,e4,_,b4⟩:=DataW.trod_string Tryz.underlying9 h4
 injection e4 with e4 _
 subst e4
 obtain⟨n5,y5,h5⟩:=hf 5 73 5 8 rfl c73
 obtain⟨x5,e5,b5⟩:=ZrJ h5
 simp only[DUntil.enc,List.cons.injEq,and_true]at e5
 obtain⟨rfl,rfl,rfl,rfl,rfl,rfl,rfl,rfl⟩:=e5
 exact⟨⟨x0,x1,x2,x3,x4,x5⟩,rfl,ZcX b0,ZcX b1,ZcX b2,b3,b4,b5⟩
theorem ZuW {n:Nat}{cs:List Value}{y:DataW H × List MemPlace}(h:DataW.trod enc Tryz.prog w 0 sp held n 77 cs=some y):∃ d:DLink,cs=d.enc/\d.ok:=by
 obtain⟨hl,hf⟩:=ZcY Tryz.underlying77 h
 rw[show Tryz.prog.cellsOf 77=2 from by kernel_rfl]at hl
 have c9:Tryz.prog.cellsOf 9=1:=by kernel_rfl
 obtain⟨a0,cs0,rfl,hl0⟩:=Zav hl
 obtain⟨a1,cs1,rfl,hl1⟩:=Zav hl0
 obtain rfl:=List.eq_nil_of_length_eq_zero hl1
 obtain⟨n0,y0,h0⟩:=hf 0 9 0 1 rfl c9
 obtain⟨x0,e0,_,b0⟩:=DataW.trod_string Tryz.underlying9 h0
 injection e0 with e0 _
 subst e0
 obtain⟨n1,y1,h1⟩:=hf 1 9 1 1 rfl c9
 obtain⟨x1,e1,_,b1⟩:=DataW.trod_string Tryz.underlying9 h1
 injection e1 with e1 _
 subst e1
 exact⟨⟨x0,x1⟩,rfl,b0,b1⟩
end
end Go.Proofs.YtpipekfmecikmaaGreatDoor
namespace Go.Wk
open Go Go.RowKit
section
variable {P:Program}{n:Nat}{wr:World}{fr:Fr}{O:List It}{ty:TypeId}
end
end Go.Wk
namespace Go.Proofs.YtpipekfmecikmaaGreatDoor
open Go Go.RowKit Go.Wk
attribute [local irreducible] W RL Does Zat Zaj retQ Calls Pu Stp RD Qy Ay Zak
end Go.Proofs.YtpipekfmecikmaaGreatDoor
namespace Go.Wk
open Go Go.RowKit
end Go.Wk
namespace Go.Proofs.YtpipekfmecikmaaGreatDoor
open Go Go.RowKit Go.Wk
end Go.Proofs.YtpipekfmecikmaaGreatDoor
set_option maxHeartbeats 2000000
namespace Go.Wk
open Go Go.RowKit
structure ZcK (s:DSource):Prop where
 nr:s.rules.length<=1000000
 nz:s.zones.length<=1000000
 nl:s.links.length<=1000000
 ns:s.shifts.length<=1000000
 rs:∀ r∈s.rules,r.name.size<=1000000000/\r.letter.size<=1000000000
 zs:∀ z∈s.zones,z.name.size<=1000000000/\z.eras.length<=1000000/\∀ e∈z.eras,e.set.size<=1000000000/\e.format.size<=1000000000
 ls:∀ l∈s.links,l.target.size<=1000000000/\l.name.size<=1000000000
def plV (p:Zaq):Value := .agg (Zaq.enc p).toArray
def ptV:Option (Zaq × Int)->Value
 | none => .tuple #[plV ⟨0,0,0⟩,.int .i64 0]
 | some (p,e) => .tuple #[plV p,.int .i64 e]
end Go.Wk
namespace Go.Proofs.YtpipekfmecikmaaGreatDoor
open Go Go.RowKit Go.Wk
attribute [local irreducible] W RL Does Zat Zaj retQ Calls Pu Stp RD Qy Ay Zak
theorem ZqA (Ar Az Al As:Option Addr)(cr cz cl cs:Nat)(a:DSource)(b1:Nat)(mk:List (ByteArray × Value))(w:World)(hA:Zar w Ar Az Al As cr cz cl cs a)(hS:ZcK a)(h1:MpAt w b1 mk)(hk:IxM mk fun x=>ZaO x a.zones 0) :
  Does Tryz.prog 232 [srcV Ar Az Al As cr cz cl cs a,.map (some b1)] w (fun v O=>v=ptV (Za5 a a.zones 0)/\O=[]):=by
 have hn:=hS.nz
 obtain⟨res,hres⟩:∃ res,Za5 a a.zones 0=res:=⟨_,rfl⟩
 rw[hres]
 refine Zaa Tryz.func232 rfl rfl rfl rfl ?_
 repeat (first|(refine js ?_;(refine bx ?_;intro bk))|refine walk ?_)
 refine Zai [(1,.map (some b1)),(4,.pointer (some ⟨bk,0,none⟩)),(10,.slice Az a.zones.length cz),(11,.int .i64 a.zones.length)] [.blk bk [.int .i64 0,.int .i64 0,.int .i64 0] 138] (fun k:Nat=>[(12,.int .i64 k)]) (fun _=>[]) (fun k=>k<=a.zones.length/\Za5 a (a.zones.drop k) k=res) (fun k=>a.zones.length - k) 0 SFA SOA ⟨Nat.zero_le _,hres⟩ ?_
 rintro k ⟨hkl,hi⟩
 obtain⟨b4,hb4⟩:∃ b4,bk=b4:=⟨_,rfl⟩
 rw[hb4]at *
 clear hb4 bk
 repeat (first|(refine js ?_;(refine bx ?_;intro bk))|refine walk ?_)
 refine Zaf rfl (fun hc=>?_) (fun hc=>?_)
 ·simp only[decide_eq_true_eq,Int.ofNat_lt]at hc
  obtain⟨hna,cs1,⟨Ae,ce,_,rfl⟩,hca⟩:=hA.z k _ (List.getElem?_eq_getElem hc)
  have hmem:=List.getElem_mem hc
  rw[Zag hc,Za5]at hi
  generalize a.zones[k]=z at *
  have hsz:=(hS.zs z hmem).1
  obtain⟨j,hj⟩:=Zjq 0 hmem
  obtain⟨hv0,_⟩:=hk.some hj
  have hzn:=fun w'=>ZkW z.name (by omega) w'
  rw[hj]at hi
  generalize ZeS z.name=zb at *
  cases zb with
  | false =>
   rw[if_pos rfl]at hi
   subst hi
   repeat (first|(apply RL_pu;rfl;exact PuI)|(refine js ?_;(first|(refine Zab (fun w' hw=>hzn w') ?_)|(refine bx ?_;intro bk)))|refine walk1 ?_)
   exact rtC
  | true =>
   rw[if_neg (by decide)]at hi
   repeat (first|(apply RL_pu;rfl;(first|exact PuI|(apply Zmr;rfl;rfl;exact h1;exact hv0)))|(refine js ?_;(first|(refine Zab (fun w' hw=>hzn w') ?_)|(refine bx ?_;intro bk)))|refine walk1 ?_)
   refine Zaf rfl (fun h2=>?_) (fun h2=>?_)
   ·simp only[Bool.not_eq_true',decide_eq_false_iff_not]at h2
    rw[if_pos (fun e=>h2 (by simp only[Option.some.injEq]at e;omega))]at hi
    subst hi
    repeat (first|(refine js ?_;(refine bx ?_;intro bk))|refine walk ?_)
    exact rtC
   ·simp only[Bool.not_eq_false',decide_eq_true_eq]at h2
    rw[if_neg (fun e=>e (by congr 1;omega))]at hi
    repeat (first|(refine js ?_;(refine bx ?_;intro bk))|refine walk ?_)
    exact⟨k+1,OA,⟨OA,hi⟩,SFA,SOA⟩
 ·simp only[decide_eq_false_iff_not,Int.ofNat_lt]at hc
  rw[List.drop_eq_nil_of_le (by omega),Za5]at hi
  subst hi
  repeat (first|(refine js ?_;(refine bx ?_;intro bk))|refine walk ?_)
  exact rtC
theorem IxM.any {m:List (ByteArray × Value)}{f:ByteArray->Option Nat}(h:IxM m f)(x:ByteArray):∃ n:Int,(mget m x).getD (.int .i64 0) = .int .i64 n/\(mget m x).isSome=(f x).isSome:=by
 rw[h x]
 cases f x with
 | none=>exact⟨0,rfl,rfl⟩
 | some i=>exact⟨i,rfl,rfl⟩
theorem Zd0 (s:DSource):∀ (l:List DZone) (i:Nat) (p:Zaq) (e:Int),Za5 s l i=some (p,e)->e≠0
 | [],_,_,_,h=>by cases h
 | z::l,i,p,e,h=>by
  simp only[Za5]at h
  split at h
  ·simp only[Option.some.injEq,Prod.mk.injEq]at h;omega
  ·split at h
   ·simp only[Option.some.injEq,Prod.mk.injEq]at h;omega
   ·exact Zd0 s l _ p e h
theorem Zc1 {G G':Prop}(k:G')(h:Hold G'->G:=by intro k9;(first|refine walk ?_|(refine jn ?_;(try intro F);(first|(refine stA ?_)|(apply Zac;exact PuA));refine fin ?_));exact k9.out):G:=h ⟨k⟩
theorem Zua {G:Prop}(h:G:=by(apply Zal;rfl;rfl;exact hne')):G:=h
theorem Zt9 {G:Prop}(h:G:=by(first|exact PuI|(apply Zco;rfl;rfl;(focus repeat' constructor);exact hv1;exact hc1)|(apply Zco;rfl;rfl;(focus repeat' constructor);exact hv2;exact hc2)|(apply Zco;rfl;rfl;(focus repeat' constructor);exact hv3;exact hc3)|(apply Zgq;rfl;rfl;(focus repeat' constructor);exact hv4))):G:=h
theorem ZmN {G G':Prop}(k:G')(h:Hold G'->G:=by intro k9;(first|(apply RL_pu;rfl;exact Zt9)|(apply RD_Q;rfl;rfl;decide +kernel;rfl;rfl;exact QyLnkB2)|refine walk1 ?_|(refine jg ?_;(try intro F);(first|(refine Zab (fun w' hw=>hzn w') ?_)|(refine stA ?_));first|refine⟨_,EndsA,QFLnkB2,?_⟩|refine fin ?_)|(refine jn ?_;(try intro F);(first|(refine stA ?_)|(apply Zac;first|exact Zt9|exact PuA));first|refine⟨_,EndsA,QFLnkB2,?_⟩|refine fin ?_));exact k9.out):G:=h ⟨k⟩
theorem ZqC (Ar Az Al As:Option Addr)(cr cz cl cs:Nat)(a:DSource)(w:World)(hA:Zar w Ar Az Al As cr cz cl cs a)(hS:ZcK a) :
  Does Tryz.prog 181 [srcV Ar Az Al As cr cz cl cs a] w (fun v O=>v=ptV (ZcV a)/\O=[]):=by
 have hnz:=hS.nz
 have hnl:=hS.nl
 have hnm:=fun bm mk w' (h0:Zar w' Ar Az Al As cr cz cl cs a)=>ZqA Ar Az Al As cr cz cl cs a bm mk w' h0 hS
 refine Zaa Tryz.func181 rfl rfl rfl rfl ?_
 repeat (first|refine ZuI ?_|(refine jn ?_;(try intro F);(first|(refine bx ?_;intro bk)|(refine stA ?_)|(apply Zac;exact PuA));refine fin ?_)|(apply RD_W;rfl;intro bk))
 rename_i b1
 obtain⟨b2,hb2⟩:∃ b2,bk=b2:=⟨_,rfl⟩
 rw[hb2]
 clear hb2 bk
 repeat (first|refine walk ?_|(refine jg ?_;(try intro F);(first|(apply Zae (h:=fun w' hw _=>Znz Ar Az Al As cr cz cl cs a w' (hA.up hw) hnz);rfl;rintro v O' ⟨bm,mk,rfl,rfl,hk,hkd,hkl⟩)|(apply Zae (h:=fun w' hw _=>Zkm Ar Az Al As cr cz cl cs a w' (hA.up hw) hnl);rfl;rintro v O' ⟨bl,ml,rfl,rfl,hl,hld,hll⟩)|(refine bx ?_;intro bk)|(refine stA ?_));refine fin ?_)|(refine jn ?_;(try intro F);(first|(refine bx ?_;intro bk)|(refine stA ?_)|(apply Zac;exact PuA));refine fin ?_)|(apply RD_W;rfl;intro bk))
 have hnm2:=fun w' hw hO=>hnm bm mk w' (Zar.up hA hw) hO hk
 unfold ZcV
 cases hzf:Za5 a a.zones 0 with
 | some pe =>
  obtain⟨pl,e⟩:=pe
  rw[hzf]at hnm2
  have hne:=Zd0 a a.zones 0 pl e hzf
  have hne':(!decide (e=0))=true:=by rw[decide_eq_false hne];rfl
  repeat (first|(apply RL_pu;rfl;exact Zua)|(apply RD_Q;rfl;rfl;decide +kernel;rfl;rfl;exact QyLnkB1)|refine walk1 ?_|(refine jg ?_;(try intro F);(first|(refine ZaM (fun w' hw hO=>hnm2 w' hw (hO.of (A := .mp bm mk) (by repeat' constructor))) ?_)|(refine bx ?_;intro bk)|(refine stA ?_));first|refine⟨_,EndsA,QFLnkB1,?_⟩|refine fin ?_)|(refine jn ?_;(try intro F);(first|(refine bx ?_;intro bk)|(refine stA ?_)|(apply Zac;first|exact Zua|exact PuA));first|refine⟨_,EndsA,QFLnkB1,?_⟩|refine fin ?_)|(apply RD_W;rfl;intro bk))
  exact rtC
 | none =>
 rw[hzf]at hnm2
 rw[Option.none_or]
 obtain⟨res,hres⟩:∃ res,(Zbf a a.links 0).or (Zbe a a.links 0)=res:=⟨_,rfl⟩
 rw[hres]
 repeat (first|refine walk ?_|(refine jg ?_;(try intro F);(first|(refine ZaM (fun w' hw hO=>hnm2 w' hw (hO.of (A := .mp bm mk) (by repeat' constructor))) ?_)|(refine bx ?_;intro bk)|(refine stA ?_));refine fin ?_)|(refine jn ?_;(try intro F);(first|(refine bx ?_;intro bk)|(refine stA ?_)|(apply Zac;exact PuA));refine fin ?_)|(apply RD_W;rfl;intro bk))
 refine Zai [(1,.pointer (some ⟨b1,0,none⟩)),(2,.pointer (some ⟨b2,0,none⟩)),(4,.map (some bm)),(5,.map (some bl)),(36,.slice Al a.links.length cl),(37,.int .i64 a.links.length)] [.mp bl ml,.mp bm mk,.blk b2 [.int .i64 0,.int .i64 0,.int .i64 0] 138,.blk b1 [.slice Ar a.rules.length cr,.slice Az a.zones.length cz,.slice Al a.links.length cl,.slice As a.shifts.length cs] 27]
  (fun k:Nat=>[(38,.int .i64 k)]) (fun _=>[]) (fun k=>k<=a.links.length/\(Zbf a (a.links.drop k) k).or (Zbe a a.links 0)=res) (fun k=>a.links.length - k) 0 SFA SOA ⟨Nat.zero_le _,hres⟩ ?_
 rintro k ⟨hkl',hi⟩
 repeat (first|refine Zc1 ?_|(refine jn ?_;(try intro F);(refine bx ?_;intro bk);refine fin ?_)|(apply RD_W;rfl;intro bk))
 refine Zaf rfl (fun hc=>?_) (fun hc=>?_)
 ·simp only[decide_eq_true_eq,Int.ofNat_lt]at hc
  obtain⟨hna,hca⟩:=hA.l.rd k _ (List.getElem?_eq_getElem hc)
  have hmem:=List.getElem_mem hc
  rw[Zag hc,Zbf]at hi
  generalize a.links[k]=lk at *
  have hsz:=(hS.ls lk hmem).2
  obtain⟨n1,hv1,hc1⟩:=hk.any lk.name
  obtain⟨n2,hv2,hc2⟩:=hk.any lk.target
  obtain⟨n3,hv3,hc3⟩:=hl.any lk.target
  obtain⟨j,hj⟩:=Zjr 0 hmem
  have hv4:=(hl.some hj).1
  rw[hj]at hi
  generalize (ZaO lk.name a.zones 0).isSome=c1 at *
  rw[<- Option.not_isSome,<- Option.not_isSome]at hi
  generalize (ZaO lk.target a.zones 0).isSome=c2 at *
  generalize (ZaR lk.target a.links 0).isSome=c3 at *
  have hzn:=fun w'=>ZkW lk.name (by omega) w'
  generalize ZeS lk.name=zb at *
  cases zb with
  | false =>
   rw[if_pos rfl]at hi
   subst hi
   repeat (first|refine ZmN ?_|(refine jg ?_;(try intro F);(refine bx ?_;intro bk);first|refine⟨_,EndsA,QFLnkB2,?_⟩|refine fin ?_)|(refine jn ?_;(try intro F);(refine bx ?_;intro bk);first|refine⟨_,EndsA,QFLnkB2,?_⟩|refine fin ?_)|(apply RD_W;rfl;intro bk))
   exact rtC
  | true =>
   rw[if_neg (by decide)]at hi
   cases c1 with
   | true =>
    rw[if_pos (.inl rfl)]at hi
    subst hi
    repeat (first|refine ZmN ?_|(refine jg ?_;(try intro F);(refine bx ?_;intro bk);first|refine⟨_,EndsA,QFLnkB2,?_⟩|refine fin ?_)|(refine jn ?_;(try intro F);(refine bx ?_;intro bk);first|refine⟨_,EndsA,QFLnkB2,?_⟩|refine fin ?_)|(apply RD_W;rfl;intro bk))
    exact rtC
   | false =>
    repeat (first|refine ZmN ?_|(refine jg ?_;(try intro F);(refine bx ?_;intro bk);first|refine⟨_,EndsA,QFLnkB2,?_⟩|refine fin ?_)|(refine jn ?_;(try intro F);(refine bx ?_;intro bk);first|refine⟨_,EndsA,QFLnkB2,?_⟩|refine fin ?_)|(apply RD_W;rfl;intro bk))
    refine Zaf rfl (fun h2=>?_) (fun h2=>?_)
    ·simp only[Bool.not_eq_true',decide_eq_false_iff_not]at h2
     rw[if_pos (.inr fun e=>h2 (by simp only[Option.some.injEq]at e;omega))]at hi
     subst hi
     repeat (first|refine Zc1 ?_|(refine jn ?_;(try intro F);(refine bx ?_;intro bk);refine fin ?_)|(apply RD_W;rfl;intro bk))
     exact rtC
    ·simp only[Bool.not_eq_false',decide_eq_true_eq]at h2
     rw[if_neg (by rintro(e|e);cases e;exact e (by congr 1;omega))]at hi
     by_cases hcc:c2=false/\c3=false
     ·obtain⟨rfl,rfl⟩:=hcc
      rw[if_pos ⟨rfl,rfl⟩]at hi
      subst hi
      repeat (first|refine Zc1 ?_|(refine jn ?_;(try intro F);(refine bx ?_;intro bk);refine fin ?_)|(apply RD_W;rfl;intro bk))
      exact rtC
     ·rw[if_neg (by simpa using hcc)]at hi
      cases c2 with
      | true =>
       repeat (first|refine Zc1 ?_|(refine jn ?_;(try intro F);(refine bx ?_;intro bk);refine fin ?_)|(apply RD_W;rfl;intro bk))
       exact⟨k+1,OA,⟨OA,hi⟩,SFA,SOA⟩
      | false =>
       cases c3 with
       | false=>exact absurd ⟨rfl,rfl⟩ hcc
       | true =>
        repeat (first|refine Zc1 ?_|(refine jn ?_;(try intro F);(refine bx ?_;intro bk);refine fin ?_)|(apply RD_W;rfl;intro bk))
        exact⟨k+1,OA,⟨OA,hi⟩,SFA,SOA⟩
 ·simp only[decide_eq_false_iff_not,Int.ofNat_lt]at hc
  rw[List.drop_eq_nil_of_le (by omega),Zbf,Option.none_or]at hi
  repeat (first|refine Zc1 ?_|(refine jn ?_;(try intro F);(refine bx ?_;intro bk);refine fin ?_)|(apply RD_W;rfl;intro bk))
  clear hc hkl' hres
  refine Zai [(1,.pointer (some ⟨b1,0,none⟩)),(2,.pointer (some ⟨b2,0,none⟩)),(4,.map (some bm)),(5,.map (some bl)),(93,.slice Al a.links.length cl),(94,.int .i64 a.links.length)] [.mp bl ml,.mp bm mk,.blk b2 [.int .i64 0,.int .i64 0,.int .i64 0] 138,.blk b1 [.slice Ar a.rules.length cr,.slice Az a.zones.length cz,.slice Al a.links.length cl,.slice As a.shifts.length cs] 27]
   (fun k:Nat=>[(95,.int .i64 k)]) (fun _=>[]) (fun k=>k<=a.links.length/\Zbe a (a.links.drop k) k=res) (fun k=>a.links.length - k) 0 SFA SOA ⟨Nat.zero_le _,hi⟩ ?_
  clear hi
  rintro k ⟨hkl',hi⟩
  repeat (first|refine Zc1 ?_|(refine jn ?_;(try intro F);(refine bx ?_;intro bk);refine fin ?_)|(apply RD_W;rfl;intro bk))
  refine Zaf rfl (fun hc=>?_) (fun hc=>?_)
  ·simp only[decide_eq_true_eq,Int.ofNat_lt]at hc
   obtain⟨hna,hca⟩:=hA.l.rd k _ (List.getElem?_eq_getElem hc)
   rw[Zag hc,Zbe]at hi
   generalize a.links[k]=lk at *
   have hfo:=fun w' h0 h1 h2=>ZnK Ar Az Al As cr cz cl cs a bm bl mk ml lk.name w' h0 h1 h2 hk hl hld hll
   generalize ZbR a (a.links.length+1) [] lk.name=fo at *
   obtain⟨fi,fe⟩:=fo
   dsimp only at hfo hi
   repeat (first|(apply RL_pu;rfl;exact PuI)|(apply RD_Q;rfl;rfl;decide +kernel;rfl;rfl;exact QyI)|refine walk1 ?_|(refine jg ?_;(try intro F);(first|(refine ZaM (fun w' hw hO=>hfo w' (hA.up hw) (hO.of (A := .mp bm mk) (by repeat' constructor)) (hO.of (A := .mp bl ml) (by repeat' constructor))) ?_)|(refine bx ?_;intro bk)|(refine stA ?_));first|refine⟨_,EndsA,QFI,?_⟩|refine fin ?_)|(refine jn ?_;(try intro F);(first|(refine bx ?_;intro bk)|(refine stA ?_)|(apply Zac;first|exact PuI|exact PuA));first|refine⟨_,EndsA,QFI,?_⟩|refine fin ?_)|(apply RD_W;rfl;intro bk))
   refine Zaf rfl (fun h2=>?_) (fun h2=>?_)
   ·simp only[decide_eq_true_eq]at h2
    subst h2
    rw[if_pos rfl]at hi
    subst hi
    repeat (first|refine Zc1 ?_|(refine jn ?_;(try intro F);(refine bx ?_;intro bk);refine fin ?_)|(apply RD_W;rfl;intro bk))
    exact rtC
   ·simp only[decide_eq_false_iff_not]at h2
    rw[if_neg h2]at hi
    repeat (first|refine Zc1 ?_|(refine jn ?_;(try intro F);(refine bx ?_;intro bk);refine fin ?_)|(apply RD_W;rfl;intro bk))
    exact⟨k+1,OA,⟨OA,hi⟩,SFA,SOA⟩
  ·simp only[decide_eq_false_iff_not,Int.ofNat_lt]at hc
   rw[List.drop_eq_nil_of_le (by omega),Zbe]at hi
   subst hi
   repeat (first|refine Zc1 ?_|(refine jn ?_;(try intro F);(refine bx ?_;intro bk);refine fin ?_)|(apply RD_W;rfl;intro bk))
   exact rtC
open Go Go.RowKit Go.Wk Go.Lib
attribute [local irreducible] RW
structure LtG where
 k:Nat
 A:Option Addr
 c:Nat
 m:Nat
 ys:List Value
theorem Zul {G:Prop}(h:G:=by(first|(apply Zap;rfl;rfl;omega;omega;(intro w' _ hO;exact(ZaD (hO.of (A := .row (.slice A1 L.length c1) 9 1 L.length (L.flatMap ZaU)) (by repeat' constructor)) hg1).1))|(apply ZbW;rfl;(focus repeat' constructor);exact hg1))):G:=h
theorem Zuk {G:Prop}(h:G:=by(apply Zcc;rfl;rfl;exact hb)):G:=h
theorem Zuj {G:Prop}(h:G:=by(apply Zal;rfl;rfl;exact hb)):G:=h
theorem ZnN (e:DEra)(A:Option Addr)(c:Nat)(l:List DRule)(w:World)(hL:LibW w)(hA:RdSl w A c DRule.enc 11 l)(ho:I64 e.off)(hs:I64 e.save)(hr:∀ r∈l,I64 r.save)(hn:l.length<=1000000)(hfs:e.format.size<=1000000000)(hlt:∀ r∈l,r.letter.size<=1000000000) :
  Does Tryz.prog 240 [.agg e.enc.toArray,.slice A l.length c] w (fun v O=>v = .int .i64 (Zek e l)/\O=[]):=by
 have hk:=fun w' (hw:Bel w.heap.size w w')=>ZhV e.format w' (hL.up hw) hfs
 have hx:=fun w' (hw:Bel w.heap.size w w')=>ZnP e A c l w' (hA.up hw) ho hs hr hn
 have hab:=fun(x:ByteArray) (hx:x.size<=1000000000) w' (hw:Bel w.heap.size w w')=>Zgb e.format x 0 0 w' (hL.up hw) hfs hx ⟨by decide,by decide⟩ ⟨by decide,by decide⟩
 unfold Zek
 dsimp only
 obtain⟨L,hLt⟩:∃ L:List ByteArray,(if e.kind=2 then l.map (·.letter) else [ByteArray.empty])=L:=⟨_,rfl⟩
 have hLe:(if e.kind=2 then l.map (fun r=>r.letter.data.toList) else [[]])=L.map (·.data.toList):=by
  rw[<- hLt]
  split
  ·rw[List.map_map];rfl
  ·rfl
 have hLs:∀ x∈L,x.size<=1000000000:=by
  rw[<- hLt]
  intro x hx
  split at hx
  ·obtain⟨r,hr,rfl⟩:=List.mem_map.1 hx;exact hlt r hr
  ·simp only[List.mem_singleton]at hx;subst hx;decide
 have hLn:L.length<=1000001:=by
  rw[<- hLt]
  split
  ·rw[List.length_map];omega
  ·decide
 rw[hLe]
 obtain⟨off,kind,save,set,format,til⟩:=e
 dsimp only at ho hs hk hx hab hfs hLt ⊢
 generalize Za6 format.data.toList=K at *
 obtain⟨xv,hxv⟩:∃ xv,ZdH ⟨off,kind,save,set,format,til⟩ l=xv:=⟨_,rfl⟩
 rw[hxv]at hx ⊢
 obtain⟨xt,xe⟩:=xv
 simp only[xpV,DEra.enc]at hx hab ⊢
 refine Zaa Tryz.func240 rfl rfl rfl rfl ?_
 repeat (first|(refine js ?_;(refine bx ?_;intro bk))|refine ZmR ?_)
 rename_i b2
 obtain⟨b1,hb1⟩:∃ b1,bk=b1:=⟨_,rfl⟩
 rw[hb1]
 clear hb1 bk
 refine ZyK (fun fr' O'=>∃ A1 c1,Sub [(2,.pointer (some ⟨b2,0,none⟩)),(1,.slice A l.length c),(5,.slice A1 L.length c1)] fr'/\SubO [.row (.slice A1 L.length c1) 9 1 L.length (L.flatMap ZaU),.blk b2 [.int .i64 off,.int .i64 kind,.int .i64 save,.string set,.string format,.bool til.is,.int .i64 til.year,.int .i64 til.month,.int .i64 til.day.kind,.int .i64 til.day.week,.int .i64 til.day.day,.int .i64 til.at_.sec,.int .i64 til.at_.base] 75] O') ?_ ?_
 ·refine Zaf rfl (fun h=>?_) (fun h=>?_)
  ·rw[if_pos (of_decide_eq_true h)]at hLt
   subst hLt
   repeat (first|(refine js ?_;(refine bx ?_;intro bk))|refine walk ?_)
   refine ZdN 9 1 ?_
   refine Zai [(2,.pointer (some ⟨b2,0,none⟩)),(1,.slice A l.length c),(19,.slice A l.length c),(20,.int .i64 l.length)] [.blk b2 [.int .i64 off,.int .i64 kind,.int .i64 save,.string set,.string format,.bool til.is,.int .i64 til.year,.int .i64 til.month,.int .i64 til.day.kind,.int .i64 til.day.week,.int .i64 til.day.day,.int .i64 til.at_.sec,.int .i64 til.at_.base] 75] (fun g:LtG=>[(5,.slice g.A g.m g.c),(21,.int .i64 g.k)]) (fun g=>[.row (.slice g.A g.m g.c) 9 1 g.m g.ys])
    (fun g=>g.k<=l.length/\g.m=g.k/\g.ys=((l.take g.k).map (·.letter)).flatMap ZaU) (fun g=>l.length - g.k) ⟨0,none,0,0,[]⟩ SFA SOA ⟨Nat.zero_le _,rfl,rfl⟩ ?_
   rintro⟨k,A1,c1,m,ys⟩ ⟨hkl,hm,hy⟩
   dsimp only at hkl hm hy ⊢
   repeat (first|(refine js ?_;(refine bx ?_;intro bk))|refine walk ?_)
   refine Zaf rfl (fun hc=>?_) (fun hc=>?_)
   ·simp only[decide_eq_true_eq,Int.ofNat_lt]at hc
    obtain⟨hna,hca⟩:=hA.rd k _ (List.getElem?_eq_getElem hc)
    have htk:=List.take_append_getElem hc
    generalize l[k]=r at *
    repeat (first|(apply RL_pu;rfl;exact PuI)|(refine js ?_;(first|(apply ZaT;rfl;rfl;(intro A' c';(focus repeat' constructor));(intro w' _ hO;exact Zcu (hO.of (by repeat' constructor)));rfl;rfl;(simp only[maxLen];omega);omega;intro A' c' hc1 hc2 hc3)|(refine bx ?_;intro bk)))|refine walk1 ?_)
    exact⟨⟨k+1,A',c',m+1,ys++[.string r.letter]⟩,OA,⟨OA,OA,by dsimp only;rw[hy,<- htk];simp[ZaU]⟩,SFA,SOA⟩
   ·obtain rfl:k=l.length:=by simp only[decide_eq_false_iff_not,Int.ofNat_lt]at hc;omega
    rw[List.take_length]at hy
    subst hm hy
    repeat (first|(refine js ?_;(refine bx ?_;intro bk))|refine walk ?_)
    rw[List.length_map]
    exact⟨A1,c1,SFA,SOA⟩
  ·rw[if_neg (of_decide_eq_false h)]at hLt
   subst hLt
   refine Zs3 (b:=b1) (m:=1) 1 (by repeat' constructor) rfl (by decide) ?_
   repeat (first|(refine js ?_;(refine bx ?_;intro bk))|refine walk ?_)
   exact⟨some ⟨b1,0,none⟩,1,SFA,SOA⟩
 rintro fr' O' ⟨A1,c1,hf,hO⟩
 refine ZcO hf hO ?_
 clear hf hO fr' O' hLt hLe b1
 by_cases k0:K=0
 ·subst k0
  rw[if_pos rfl]
  repeat (first|(refine js ?_;(first|(refine Zab hk ?_)|(refine bx ?_;intro bk)))|refine walk ?_)
  exact rtA
 have e0:decide (K=0)=false:=decide_eq_false k0
 rw[if_neg k0]
 by_cases k3:K=3
 ·subst k3
  rw[if_pos rfl]
  obtain⟨res,hres⟩:∃ res,ZbB format.data.toList (L.map (·.data.toList))=res:=⟨_,rfl⟩
  rw[hres]
  repeat (first|(refine js ?_;(first|(refine Zab hk ?_)|(refine bx ?_;intro bk)))|refine walk ?_)
  refine Zai [(2,.pointer (some ⟨b2,0,none⟩)),(39,.slice A1 L.length c1),(40,.int .i64 L.length)] [.row (.slice A1 L.length c1) 9 1 L.length (L.flatMap ZaU),.blk b2 [.int .i64 off,.int .i64 kind,.int .i64 save,.string set,.string format,.bool til.is,.int .i64 til.year,.int .i64 til.month,.int .i64 til.day.kind,.int .i64 til.day.week,.int .i64 til.day.day,.int .i64 til.at_.sec,.int .i64 til.at_.base] 75] (fun k:Nat=>[(41,.int .i64 k)]) (fun _=>[]) (fun k=>k<=L.length/\ZbB format.data.toList ((L.drop k).map (·.data.toList))=res) (fun k=>L.length - k) 0 SFA SOA ⟨Nat.zero_le _,hres⟩ ?_
  rintro k ⟨hkl,hi⟩
  repeat (first|(refine js ?_;(refine bx ?_;intro bk))|refine walk ?_)
  refine Zaf rfl (fun hc=>?_) (fun hc=>?_)
  ·simp only[decide_eq_true_eq,Int.ofNat_lt]at hc
   have hg1:(L.flatMap ZaU)[k*1]?=some (.string L[k]):=by
    have:=Zao (enc:=ZaU) (fun _=>rfl) L k _ 0 (.string L[k]) (List.getElem?_eq_getElem hc) rfl
    simpa using this
   rw[Zag hc,List.map_cons,ZbB]at hi
   have hxs:=hLs _ (List.getElem_mem hc)
   generalize L[k]=x at *
   have ha:=hab x hxs
   generalize ZeW format.data.toList 0 0 x.data.toList=av at *
   obtain⟨at_,ae⟩:=av
   dsimp only at ha hi
   by_cases hz:ae=0
   ·subst hz
    rw[if_pos rfl]at hi
    repeat (first|(apply RL_pu;rfl;exact Zul)|(refine js ?_;(first|(refine Zab ha ?_)|(refine bx ?_;intro bk)))|refine walk1 ?_)
    exact⟨k+1,OA,⟨OA,hi⟩,SFA,SOA⟩
   ·rw[if_neg hz]at hi
    subst hi
    have hb:(!decide (ae=0))=true:=by rw[decide_eq_false hz];rfl
    repeat (first|(apply RL_pu;rfl;(first|exact Zul|(apply Zal;rfl;rfl;exact hb)))|(refine js ?_;(first|(refine Zab ha ?_)|(refine bx ?_;intro bk)))|refine walk1 ?_)
    exact rtA
  ·simp only[decide_eq_false_iff_not,Int.ofNat_lt]at hc
   rw[List.drop_eq_nil_of_le (by omega)]at hi
   subst hi
   repeat (first|(refine js ?_;(refine bx ?_;intro bk))|refine walk ?_)
   exact rtA
 have e3:decide (K=3)=false:=decide_eq_false k3
 rw[if_neg k3]
 by_cases k45:K=4\/K=5
 ·rw[if_pos k45]
  by_cases hxe:xe=0
  ·subst hxe
   rcases k45 with rfl|rfl
   ·rw[if_neg (by rintro(h|⟨h,_⟩);exact h rfl;omega)]
    repeat (first|refine und ?_|(refine js ?_;(first|(refine Zab hk ?_)|(refine Zab hx ?_)|(refine bx ?_;intro bk)))|refine walk ?_)
    exact rtA
   ·by_cases hxt:xt=format.data.toList
    ·have hb:(!decide ((⟨xt.toArray⟩:ByteArray)=format))=false:=by rw[decide_eq_true (by rw[hxt])];rfl
     rw[if_neg (by rintro(h|⟨_,h⟩);exact h rfl;exact h hxt)]
     repeat (first|refine und ?_|(apply RL_pu;rfl;exact Zuk)|(refine js ?_;(first|(refine Zab hk ?_)|(refine Zab hx ?_)|(refine bx ?_;intro bk)))|refine walk1 ?_)
     exact rtA
    ·have hb:(!decide ((⟨xt.toArray⟩:ByteArray)=format))=true:=by rw[decide_eq_false (fun h=>hxt (by rw[<- h]))];rfl
     rw[if_pos (.inr ⟨rfl,hxt⟩)]
     repeat (first|refine und ?_|(apply RL_pu;rfl;exact Zuk)|(refine js ?_;(first|(refine Zab hk ?_)|(refine Zab hx ?_)|(refine bx ?_;intro bk)))|refine walk1 ?_)
     exact rtA
  ·have hb:(!decide (xe=0))=true:=by rw[decide_eq_false hxe];rfl
   rw[if_pos (.inl hxe)]
   rcases k45 with rfl|rfl
   ·repeat (first|refine und ?_|(apply RL_pu;rfl;exact Zuj)|(refine js ?_;(first|(refine Zab hk ?_)|(refine Zab hx ?_)|(refine bx ?_;intro bk)))|refine walk1 ?_)
    exact rtA
   ·repeat (first|refine und ?_|(apply RL_pu;rfl;exact Zuj)|(refine js ?_;(first|(refine Zab hk ?_)|(refine Zab hx ?_)|(refine bx ?_;intro bk)))|refine walk1 ?_)
    exact rtA
 rw[if_neg k45]
 have e4:decide (K=4)=false:=decide_eq_false (fun h=>k45 (.inl h))
 have e5:decide (K=5)=false:=decide_eq_false (fun h=>k45 (.inr h))
 repeat (first|(apply RL_pu;rfl;(first|(apply Zan;rfl;rfl;exact e0)|(apply Zan;rfl;rfl;exact e3)|(apply Zan;rfl;rfl;exact e4)|(apply Zan;rfl;rfl;exact e5)))|(refine js ?_;(first|(refine Zab hk ?_)|(refine bx ?_;intro bk)))|refine walk1 ?_)
 exact rtA
end Go.Proofs.YtpipekfmecikmaaGreatDoor
namespace Go.Proofs.YtpipekfmecikmaaGreatDoor
open Go.Shelf Go.RowKit Go.Lib Go.Sort
def Zm0:Ren where
 f:=fun|6=>274|15=>290|14=>289|28=>311|29=>312|20=>303|21=>304|22=>305|23=>306|24=>307|25=>308|26=>309|27=>310|46=>326|47=>327|48=>328|49=>329|50=>330|57=>338|n=>n
 t:=fun|22=>252|24=>91|25=>148|3=>3|39=>308|0=>0|53=>324|55=>286|4=>4|46=>318|45=>317|50=>129|5=>5|9=>9|66=>336|70=>340|76=>354|77=>355|n=>n
 g:=fun n=>n
theorem Zrv:SlLaysF0.n6 Tryz.prog Zm0 where
 mixed:=by kernel_rfl
 f6:=⟨Tryz.f274.name,by decide,Tryz.func274.trans (congrArg some (by kernel_rfl))⟩
 f14:=⟨Tryz.f289.name,by decide,Tryz.func289.trans (congrArg some (by kernel_rfl))⟩
 f20:=⟨Tryz.f303.name,by decide,Tryz.func303.trans (congrArg some (by kernel_rfl))⟩
 f21:=⟨Tryz.f304.name,by decide,Tryz.func304.trans (congrArg some (by kernel_rfl))⟩
 f22:=⟨Tryz.f305.name,by decide,Tryz.func305.trans (congrArg some (by kernel_rfl))⟩
 f23:=⟨Tryz.f306.name,by decide,Tryz.func306.trans (congrArg some (by kernel_rfl))⟩
 f24:=⟨Tryz.f307.name,by decide,Tryz.func307.trans (congrArg some (by kernel_rfl))⟩
 f25:=⟨Tryz.f308.name,by decide,Tryz.func308.trans (congrArg some (by kernel_rfl))⟩
 f26:=⟨Tryz.f309.name,by decide,Tryz.func309.trans (congrArg some (by kernel_rfl))⟩
 f27:=⟨Tryz.f310.name,by decide,Tryz.func310.trans (congrArg some (by kernel_rfl))⟩
 f46:=⟨Tryz.f326.name,by decide,Tryz.func326.trans (congrArg some (by kernel_rfl))⟩
 f49:=⟨Tryz.f329.name,by decide,Tryz.func329.trans (congrArg some (by kernel_rfl))⟩
 f50:=⟨Tryz.f330.name,by decide,Tryz.func330.trans (congrArg some (by kernel_rfl))⟩
 f57:=⟨Tryz.f338.name,by decide,Tryz.func338.trans (congrArg some (by kernel_rfl))⟩
 f15:=Tryz.func290.trans (congrArg some (by kernel_rfl))
 f28:=Tryz.func311.trans (congrArg some (by kernel_rfl))
 f29:=Tryz.func312.trans (congrArg some (by kernel_rfl))
 f47:=Tryz.func327.trans (congrArg some (by kernel_rfl))
 f48:=Tryz.func328.trans (congrArg some (by kernel_rfl))
 t0:=Tryz.underlying0
 a0:=Tryz.isAgg0
 z0:=Tryz.sizeOf0
 v0:=Tryz.zeroValue0
 t3:=Tryz.underlying3
 a3:=Tryz.isAgg3
 z3:=Tryz.sizeOf3
 v3:=Tryz.zeroValue3
 t4:=Tryz.underlying4
 a4:=Tryz.isAgg4
 z4:=Tryz.sizeOf4
 v4:=Tryz.zeroValue4
 t5:=Tryz.underlying5
 a5:=Tryz.isAgg5
 z5:=Tryz.sizeOf5
 v5:=Tryz.zeroValue5
 t9:=Tryz.underlying9
 a9:=Tryz.isAgg9
 z9:=Tryz.sizeOf9
 v9:=Tryz.zeroValue9
 t22:=Tryz.underlying252
 a22:=Tryz.isAgg252
 z22:=Tryz.sizeOf252
 v22:=Tryz.zeroValue252
 t25:=Tryz.underlying148
 a25:=Tryz.isAgg148
 z25:=Tryz.sizeOf148
 v25:=Tryz.zeroValue148
 t39:=Tryz.underlying308
 a39:=Tryz.isAgg308
 z39:=Tryz.sizeOf308
 v39:=Tryz.zeroValue308
 t45:=Tryz.underlying317
 a45:=Tryz.isAgg317
 z45:=Tryz.sizeOf317
 v45:=Tryz.zeroValue317
 t46:=Tryz.underlying318
 a46:=Tryz.isAgg318
 z46:=Tryz.sizeOf318
 v46:=Tryz.zeroValue318
 t50:=Tryz.underlying129
 a50:=Tryz.isAgg129
 z50:=Tryz.sizeOf129
 v50:=Tryz.zeroValue129
 t53:=Tryz.underlying324
 a53:=Tryz.isAgg324
 z53:=Tryz.sizeOf324
 v53:=Tryz.zeroValue324
 t55:=Tryz.underlying286
 a55:=Tryz.isAgg286
 z55:=Tryz.sizeOf286
 v55:=Tryz.zeroValue286
 t66:=Tryz.underlying336
 a66:=Tryz.isAgg336
 z66:=Tryz.sizeOf336
 v66:=Tryz.zeroValue336
 t70:=Tryz.underlying340
 a70:=Tryz.isAgg340
 z70:=Tryz.sizeOf340
 v70:=Tryz.zeroValue340
 t76:=Tryz.underlying354
 a76:=Tryz.isAgg354
 z76:=Tryz.sizeOf354
 v76:=Tryz.zeroValue354
 t77:=Tryz.underlying355
 a77:=Tryz.isAgg355
 z77:=Tryz.sizeOf355
 v77:=Tryz.zeroValue355
open Go Go.Shelf Go.Lib Go.RowKit Go.Sort Go.Wk
set_option maxHeartbeats 4000000
theorem Zyu (a b:Int)(w:World):Calls Tryz.prog 123 #[.int .i64 a,.int .i64 b] w fun e w'=>e = .returned (.int .i64 (cmpI a b))/\w'=w:=by
 go_enter Tryz.func123,Tryz.ntmps123
 go_wp2
 all_goals go_ret
 all_goals (unfold cmpI;repeat' split)
 all_goals first|exact⟨rfl,rfl⟩|(exfalso;omega)
theorem ZzB (a b:Int)(w:World):Calls Tryz.prog 124 #[.int .i64 a,.int .i64 b] w fun e w'=>e = .returned (.int .i64 (cmpI a b))/\w'=w:=by
 go_enter Tryz.func124,Tryz.ntmps124
 go_wp2
 all_goals go_ret
 all_goals (unfold cmpI;repeat' split)
 all_goals first|exact⟨rfl,rfl⟩|(exfalso;omega)
theorem or_l (x y z:Int)(b:Nat)(w:World)(h0:w.cell? ⟨b,0,none⟩=some (.int .i64 x))(h1:w.cell? ⟨b,1,none⟩=some (.int .i64 y))(h2:w.cell? ⟨b,2,none⟩=some (.int .i64 z)) :
  Calls Tryz.prog 122 #[.slice (some ⟨b,0,none⟩) 3 3] w fun e w'=>e = .returned (.int .i64 (ZbC [x,y,z]))/\w'=w:=by
 go_enter Tryz.func122,Tryz.ntmps122
 go_wp2
 refine wp_loop_rounds 4 ?_
 rw[rounds_succ]
 by_cases hx:x=0
 ·subst hx
  go_wp2
  rw[rounds_succ]
  by_cases hy:y=0
  ·subst hy
   go_wp2
   rw[rounds_succ]
   by_cases hz:z=0
   ·subst hz
    go_wp2
    rw[rounds_succ]
    go_wp2
    go_ret
    exact⟨rfl,rfl⟩
   ·go_wp2
    go_ret
    exact⟨by simp[ZbC,hz],rfl⟩
  ·go_wp2
   go_ret
   exact⟨by simp[ZbC,hy],rfl⟩
 ·go_wp2
  go_ret
  exact⟨by simp[ZbC,hx],rfl⟩
attribute [local irreducible] cmpI ZbC
theorem Zqy (a b:Zad)(w:World):Calls Tryz.prog 84 #[.agg (Zad.enc a).toArray,.agg (Zad.enc b).toArray] w fun e w'=>e = .returned (.int .i64 (ordE a b))/\∃ q os',w'=grow (w.drewN q) os':=by
 rw[ZrZ]
 obtain⟨y,r,n⟩:=a
 obtain⟨y2,r2,n2⟩:=b
 dsimp only
 have h1:=Zyu
 have h2:=ZzB
 have h3:=or_l
 simp only[Zad.enc]
 go_enter Tryz.func84,Tryz.ntmps84
 go_wp2_with fail
 go_region_held3 (fun W=>W.cell? ⟨w.heap.size,0,none⟩=some (.int .i64 y)/\W.cell? ⟨w.heap.size,1,none⟩=some (.int .i64 r)/\W.cell? ⟨w.heap.size,2,none⟩=some (.int .i64 n)/\W.cell? ⟨w.heap.size+1,0,none⟩=some (.int .i64 y2)/\W.cell? ⟨w.heap.size+1,1,none⟩=some (.int .i64 r2)/\W.cell? ⟨w.heap.size+1,2,none⟩=some (.int .i64 n2)) (go_keep)
  (first
   | (go_at_call 123;refine(h1 _ _ _).mono ?_;rintro e w' ⟨rfl,rfl⟩)
   | (go_at_call 124;refine(h2 _ _ _).mono ?_;rintro e w' ⟨rfl,rfl⟩)
   | (go_at_call 122;refine(h3 (cmpI n n2) (cmpI r r2) (cmpI y y2) _ _ (by go_simp) (by go_simp) (by go_simp)).mono ?_;rintro e w' ⟨rfl,rfl⟩))
 all_goals (try go_wp2)
 all_goals go_ret
 all_goals exact⟨rfl,1,_,by rw[alloc_eq_grow,alloc_eq_grow,alloc_eq_grow,grow_grow,grow_grow];rfl⟩
end Go.Proofs.YtpipekfmecikmaaGreatDoor
