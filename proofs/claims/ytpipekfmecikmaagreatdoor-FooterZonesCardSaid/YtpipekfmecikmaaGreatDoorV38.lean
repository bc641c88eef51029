/- Parts of the proof. -/
import Derived.Test.YtpipekfmecikmaaGreatDoorV05
import Derived.Test.YtpipekfmecikmaaGreatDoorV15
import Derived.Test.YtpipekfmecikmaaGreatDoorV37
import Derived.Test.YtpipekfmecikmaaGreatDoorV04
import Derived.LaidHandle
import Derived.LaidLaws
import Derived.LaidSub
import Derived.Stop.Joined
import Derived.LaidMore
import Derived.OpenShut
import Derived.ChangeArms
import Derived.Handed
set_option maxHeartbeats 4000000
set_option linter.unusedVariables false
set_option linter.unusedSimpArgs false
namespace Go.Proofs.YtpipekfmecikmaaGreatDoor
open Go Go.RowKit Go.Wk
attribute [local irreducible] W RL Does Zat Zaj retQ Calls Pu Stp RD Qy Ay
def ZcN (b:ByteArray):Bool:=decide (100<(b.size:Int))
theorem Zsc (s:ByteArray)(w:World):Does Tryz.prog 31 [.string s] w (fun v O=>v = .bool (ZcN s)/\O=[]):=by
 refine Zaa Tryz.func31 rfl rfl rfl rfl ?_
 repeat (first|refine walk ?_)
 exact rtA
def Znt (r:DRule):Bool := !(ZcN r.name)&&!(ZcN r.letter)
def Znu (e:DEra):Bool := !(ZcN e.set)&&!(ZcN e.format)
def ZhK (z:DZone):Bool := !(ZcN z.name)&&decide (z.eras.length<=65)&&z.eras.all Znu
def Zf5 (l:DLink):Bool := !(ZcN l.target)&&!(ZcN l.name)
def fewB (s:DSource):Bool:=decide (s.rules.length<=60)&&decide (s.zones.length<=20)&&decide (s.links.length<=60)&&decide (s.shifts.length<=60) &&
 (s.rules.all Znt&&(s.zones.all ZhK&&(s.links.all Zf5&&s.shifts.all fun x => !(ZcN x))))
theorem ZxU {G:Prop}(h:G:=by(first|(apply Pu_indexAddr;rfl;rfl;omega;omega;exact hn)|(apply Pu_loadO1' (h:=hcell);rfl;rfl))):G:=h
theorem ZiY {G G':Prop}(k:G')(h:Hold G'->G:=by intro k9;(first|(apply RL_pu;rfl;exact ZxU)|(refine js ?_;(refine Zab (fun w' _=>call _ w') ?_))|refine walk1 ?_);exact k9.out):G:=h ⟨k⟩
theorem Zvu (Ar Az Al As:Option Addr)(cr cz cl cs:Nat)(s:DSource)(w:World)(h:Zar w Ar Az Al As cr cz cl cs s) :
  Does Tryz.prog 7 [.agg #[.slice Ar s.rules.length cr,.slice Az s.zones.length cz,.slice Al s.links.length cl,.slice As s.shifts.length cs]] w (fun v O=>v = .bool (fewB s)/\O=[]):=by
 have call:∀ (x:ByteArray) (w':World),Does Tryz.prog 31 [.string x] w' (fun v O=>v = .bool (ZcN x)/\O=[]):=Zsc
 generalize hres:fewB s=res
 refine Zaa Tryz.func7 rfl rfl rfl rfl ?_
 repeat (first|(refine js ?_;(refine bx ?_;intro bk))|refine walk ?_)
 apply Zam;rfl;rfl;rfl
 ·intro h1
  repeat (first|(refine js ?_;(refine bx ?_;intro bk))|refine walk ?_)
  exact ret_1 _ [] (.tmp rfl) .nil ⟨by simp[<- hres,fewB];simp at h1;omega,rfl⟩
 intro h1
 repeat (first|(refine js ?_;(refine bx ?_;intro bk))|refine walk ?_)
 apply Zam;rfl;rfl;rfl
 ·intro h2
  repeat (first|(refine js ?_;(refine bx ?_;intro bk))|refine walk ?_)
  exact ret_1 _ [] (.tmp rfl) .nil ⟨by simp[<- hres,fewB];simp at h2;omega,rfl⟩
 intro h2
 repeat (first|(refine js ?_;(refine bx ?_;intro bk))|refine walk ?_)
 apply Zam;rfl;rfl;rfl
 ·intro h3
  repeat (first|(refine js ?_;(refine bx ?_;intro bk))|refine walk ?_)
  exact ret_1 _ [] (.tmp rfl) .nil ⟨by simp[<- hres,fewB];simp at h3;omega,rfl⟩
 intro h3
 repeat (first|(refine js ?_;(refine bx ?_;intro bk))|refine walk ?_)
 refine Zaf rfl (fun h4=>?_) (fun h4=>?_)
 ·repeat (first|(refine js ?_;(refine bx ?_;intro bk))|refine walk ?_)
  exact ret_1 _ [] (.tmp rfl) .nil ⟨by simp[<- hres,fewB];simp at h4;omega,rfl⟩
 simp only[decide_eq_false_iff_not,Int.not_lt]at h1 h2 h3 h4
 have e1:res=(s.rules.all Znt&&(s.zones.all ZhK&&(s.links.all Zf5&&s.shifts.all fun x => !(ZcN x)))):=by
  rw[<- hres,fewB,decide_eq_true (by omega),decide_eq_true (by omega),decide_eq_true (by omega),decide_eq_true (by omega)];simp
 clear hres
 repeat (first|(refine js ?_;(refine bx ?_;intro bk))|refine walk ?_)
 refine Zai [(1,_),(2,_)] _ (fun k:Nat=>[(3,.int .i64 k)]) (fun _=>[]) (fun k=>k<=s.rules.length/\res=((s.rules.drop k).all Znt&&(s.zones.all ZhK&&(s.links.all Zf5&&s.shifts.all fun x => !(ZcN x))))) (fun k=>s.rules.length - k) 0 ⟨rfl,rfl,rfl,trivial⟩ (.refl _) ⟨by omega,e1⟩ ?_
 rintro k ⟨hk,hi⟩
 repeat (first|(refine js ?_;(refine bx ?_;intro bk))|refine walk ?_)
 refine Zaf rfl (fun hc=>?_) (fun hc=>?_)
 ·simp only[decide_eq_true_eq,Int.ofNat_lt]at hc
  have hr:=List.getElem?_eq_getElem hc
  obtain⟨hn,hcell⟩:=h.r.rd k _ hr
  rw[List.drop_eq_getElem_cons hc]at hi
  generalize s.rules[k]=r at *
  repeat (first|refine ZiY ?_|(refine js ?_;(refine bx ?_;intro bk)))
  apply Zam;rfl;rfl;rfl
  ·intro h5
   repeat (first|(refine js ?_;(refine bx ?_;intro bk))|refine walk ?_)
   exact ret_1 _ [] (.tmp rfl) .nil ⟨by rw[hi];simp[Znt,h5],rfl⟩
  intro h5
  repeat (first|refine ZiY ?_|(refine js ?_;(refine bx ?_;intro bk)))
  refine Zaf rfl (fun h6=>?_) (fun h6=>?_)
  ·repeat (first|(refine js ?_;(refine bx ?_;intro bk))|refine walk ?_)
   exact ret_1 _ [] (.tmp rfl) .nil ⟨by rw[hi];simp[Znt,h6],rfl⟩
  repeat (first|(refine js ?_;(refine bx ?_;intro bk))|refine walk ?_)
  exact⟨k+1,by omega,⟨by omega,by rw[hi];simp[Znt,h5,h6]⟩,⟨rfl,rfl,rfl,trivial⟩,.refl _⟩
 simp only[decide_eq_false_iff_not,Int.ofNat_lt]at hc
 have e2:res=(s.zones.all ZhK&&(s.links.all Zf5&&s.shifts.all fun x => !(ZcN x))):=by
  rw[hi,List.drop_eq_nil_of_le (by omega)];simp
 clear hi e1 hc hk
 repeat (first|(refine js ?_;(refine bx ?_;intro bk))|refine walk ?_)
 refine Zai [(1,_),(2,_)] _ (fun k:Nat=>[(4,.int .i64 k)]) (fun _=>[]) (fun k=>k<=s.zones.length/\res=((s.zones.drop k).all ZhK&&(s.links.all Zf5&&s.shifts.all fun x => !(ZcN x)))) (fun k=>s.zones.length - k) 0 ⟨rfl,rfl,rfl,trivial⟩ (.refl _) ⟨by omega,e2⟩ ?_
 rintro k ⟨hk,hi⟩
 repeat (first|(refine js ?_;(refine bx ?_;intro bk))|refine walk ?_)
 refine Zaf rfl (fun hc=>?_) (fun hc=>?_)
 ·simp only[decide_eq_true_eq,Int.ofNat_lt]at hc
  have hr:=List.getElem?_eq_getElem hc
  obtain⟨hn,zc,⟨Ae,ce,he,rfl⟩,hcell⟩:=h.z k _ hr
  rw[List.drop_eq_getElem_cons hc]at hi
  generalize s.zones[k]=z at *
  have hle:=he.le
  have hcap:=he.cap
  unfold maxLen at hcap
  repeat (first|(apply RL_pu;rfl;(first|(apply Pu_indexAddr;rfl;rfl;omega;omega;exact hn)|(apply Pu_loadON (h:=hcell);rfl;rfl)))|(refine js ?_;(first|(refine Zab (fun w' _=>call _ w') ?_)|(refine bx ?_;intro bk)))|refine walk1 ?_)
  apply Zam;rfl;rfl;rfl
  ·intro h5
   repeat (first|(refine js ?_;(refine bx ?_;intro bk))|refine walk ?_)
   exact ret_1 _ [] (.tmp rfl) .nil ⟨by rw[hi];simp[ZhK,h5],rfl⟩
  intro h5
  repeat (first|(refine js ?_;(refine bx ?_;intro bk))|refine walk ?_)
  refine Zaf rfl (fun h6=>?_) (fun h6=>?_)
  ·repeat (first|(refine js ?_;(refine bx ?_;intro bk))|refine walk ?_)
   simp only[decide_eq_true_eq]at h6
   exact ret_1 _ [] (.tmp rfl) .nil ⟨by rw[hi];simp[ZhK];intro _ h7;omega,rfl⟩
  simp only[decide_eq_false_iff_not]at h6
  have e3:res=(z.eras.all Znu&&((s.zones.drop (k+1)).all ZhK&&(s.links.all Zf5&&s.shifts.all fun x => !(ZcN x)))):=by
   rw[hi,List.all_cons,ZhK,h5,decide_eq_true (by omega)];simp[Bool.and_assoc]
  repeat (first|(refine js ?_;(refine bx ?_;intro bk))|refine walk ?_)
  refine Zai [(1,_),(2,_),(4,_),(5,_)] _ (fun j:Nat=>[(6,.int .i64 j)]) (fun _=>[]) (fun j=>j<=z.eras.length/\res=((z.eras.drop j).all Znu&&((s.zones.drop (k+1)).all ZhK&&(s.links.all Zf5&&s.shifts.all fun x => !(ZcN x))))) (fun j=>z.eras.length - j) 0 ⟨rfl,rfl,rfl,rfl,rfl,trivial⟩ (.refl _) ⟨by omega,e3⟩ ?_
  rintro j ⟨hj,hi2⟩
  repeat (first|(refine js ?_;(refine bx ?_;intro bk))|refine walk ?_)
  refine Zaf rfl (fun hc2=>?_) (fun hc2=>?_)
  ·simp only[decide_eq_true_eq,Int.ofNat_lt]at hc2
   have hr2:=List.getElem?_eq_getElem hc2
   obtain⟨hn,hcell⟩:=he.rd j _ hr2
   rw[List.drop_eq_getElem_cons hc2]at hi2
   generalize z.eras[j]=r at *
   repeat (first|refine ZiY ?_|(refine js ?_;(refine bx ?_;intro bk)))
   apply Zam;rfl;rfl;rfl
   ·intro h5
    repeat (first|(refine js ?_;(refine bx ?_;intro bk))|refine walk ?_)
    exact ret_1 _ [] (.tmp rfl) .nil ⟨by rw[hi2];simp[Znu,h5],rfl⟩
   intro h5
   repeat (first|refine ZiY ?_|(refine js ?_;(refine bx ?_;intro bk)))
   refine Zaf rfl (fun h6=>?_) (fun h6=>?_)
   ·repeat (first|(refine js ?_;(refine bx ?_;intro bk))|refine walk ?_)
    exact ret_1 _ [] (.tmp rfl) .nil ⟨by rw[hi2];simp[Znu,h6],rfl⟩
   repeat (first|(refine js ?_;(refine bx ?_;intro bk))|refine walk ?_)
   exact⟨j+1,by omega,⟨by omega,by rw[hi2];simp[Znu,h5,h6]⟩,⟨rfl,rfl,rfl,rfl,rfl,trivial⟩,.refl _⟩
  simp only[decide_eq_false_iff_not,Int.ofNat_lt]at hc2
  repeat (first|(refine js ?_;(refine bx ?_;intro bk))|refine walk ?_)
  exact⟨k+1,by omega,⟨by omega,by rw[hi2,List.drop_eq_nil_of_le (by omega)];simp⟩,SFA,SOA⟩
 simp only[decide_eq_false_iff_not,Int.ofNat_lt]at hc
 have e3:res=(s.links.all Zf5&&s.shifts.all fun x => !(ZcN x)):=by
  rw[hi,List.drop_eq_nil_of_le (by omega)];simp
 clear hi e2 hc hk
 repeat (first|(refine js ?_;(refine bx ?_;intro bk))|refine walk ?_)
 refine Zai [(1,_),(2,_)] _ (fun k:Nat=>[(7,.int .i64 k)]) (fun _=>[]) (fun k=>k<=s.links.length/\res=((s.links.drop k).all Zf5&&s.shifts.all fun x => !(ZcN x))) (fun k=>s.links.length - k) 0 ⟨rfl,rfl,rfl,trivial⟩ (.refl _) ⟨by omega,e3⟩ ?_
 rintro k ⟨hk,hi⟩
 repeat (first|(refine js ?_;(refine bx ?_;intro bk))|refine walk ?_)
 refine Zaf rfl (fun hc=>?_) (fun hc=>?_)
 ·simp only[decide_eq_true_eq,Int.ofNat_lt]at hc
  have hr:=List.getElem?_eq_getElem hc
  obtain⟨hn,hcell⟩:=h.l.rd k _ hr
  rw[List.drop_eq_getElem_cons hc]at hi
  generalize s.links[k]=r at *
  repeat (first|refine ZiY ?_|(refine js ?_;(refine bx ?_;intro bk)))
  apply Zam;rfl;rfl;rfl
  ·intro h5
   repeat (first|(refine js ?_;(refine bx ?_;intro bk))|refine walk ?_)
   exact ret_1 _ [] (.tmp rfl) .nil ⟨by rw[hi];simp[Zf5,h5],rfl⟩
  intro h5
  repeat (first|refine ZiY ?_|(refine js ?_;(refine bx ?_;intro bk)))
  refine Zaf rfl (fun h6=>?_) (fun h6=>?_)
  ·repeat (first|(refine js ?_;(refine bx ?_;intro bk))|refine walk ?_)
   exact ret_1 _ [] (.tmp rfl) .nil ⟨by rw[hi];simp[Zf5,h6],rfl⟩
  repeat (first|(refine js ?_;(refine bx ?_;intro bk))|refine walk ?_)
  exact⟨k+1,by omega,⟨by omega,by rw[hi];simp[Zf5,h5,h6]⟩,⟨rfl,rfl,rfl,trivial⟩,.refl _⟩
 simp only[decide_eq_false_iff_not,Int.ofNat_lt]at hc
 have e4:res=s.shifts.all fun x => !(ZcN x):=by
  rw[hi,List.drop_eq_nil_of_le (by omega)];simp
 clear hi e3 hc hk
 repeat (first|(refine js ?_;(refine bx ?_;intro bk))|refine walk ?_)
 refine Zai [(1,_),(2,_)] _ (fun k:Nat=>[(8,.int .i64 k)]) (fun _=>[]) (fun k=>k<=s.shifts.length/\res=(s.shifts.drop k).all fun x => !(ZcN x)) (fun k=>s.shifts.length - k) 0 ⟨rfl,rfl,rfl,trivial⟩ (.refl _) ⟨by omega,e4⟩ ?_
 rintro k ⟨hk,hi⟩
 repeat (first|(refine js ?_;(refine bx ?_;intro bk))|refine walk ?_)
 refine Zaf rfl (fun hc=>?_) (fun hc=>?_)
 ·simp only[decide_eq_true_eq,Int.ofNat_lt]at hc
  have hr:=List.getElem?_eq_getElem hc
  obtain⟨hn,hcell⟩:=h.s.rd k _ hr
  rw[List.drop_eq_getElem_cons hc]at hi
  generalize s.shifts[k]=r at *
  repeat (first|(apply RL_pu;rfl;(first|exact ZxU|(apply Pu_loadO1 (h:=hcell 0 _ rfl);rfl)))|(refine js ?_;(first|(refine Zab (fun w' _=>call _ w') ?_)|(refine bx ?_;intro bk)))|refine walk1 ?_)
  refine Zaf rfl (fun h6=>?_) (fun h6=>?_)
  ·repeat (first|(refine js ?_;(refine bx ?_;intro bk))|refine walk ?_)
   exact ret_1 _ [] (.tmp rfl) .nil ⟨by rw[hi];simp[h6],rfl⟩
  repeat (first|(refine js ?_;(refine bx ?_;intro bk))|refine walk ?_)
  exact⟨k+1,by omega,⟨by omega,by rw[hi];simp[h6]⟩,⟨rfl,rfl,rfl,trivial⟩,.refl _⟩
 simp only[decide_eq_false_iff_not,Int.ofNat_lt]at hc
 repeat (first|(refine js ?_;(refine bx ?_;intro bk))|refine walk ?_)
 exact ret_1 _ [] (.tmp rfl) .nil ⟨by rw[hi,List.drop_eq_nil_of_le (by omega)];simp,rfl⟩
end Go.Proofs.YtpipekfmecikmaaGreatDoor
namespace Go.Proofs.YtpipekfmecikmaaGreatDoor
open Go Go.RowKit Go.Wk Go.ChangeShapes Go.WideShapes Go.ChangeAt
section
variable {H:Type}{enc:TypeId × Value->H}{w:World}{sp:Nat->Bool}{held:Bool}
def _root_.Go.Wk.DZone.ok (z:DZone):Prop:=z.name.size<=maxLen/\∀ e∈z.eras,e.ok
def _root_.Go.Wk.DSource.ok (s:DSource):Prop:=(∀ r∈s.rules,r.ok)/\(∀ z∈s.zones,z.ok)/\(∀ l∈s.links,l.ok)/\∀ x∈s.shifts,x.size<=maxLen
theorem Zv0 {n:Nat}{cs:List Value}{y:DataW H × List MemPlace}(h:DataW.trod enc Tryz.prog w 0 sp held n 9 cs=some y):∃ d:ByteArray,cs=ZaU d/\d.size<=maxLen:=by
 obtain⟨x,e,_,b⟩:=DataW.trod_string Tryz.underlying9 h
 exact⟨x,e,b⟩
theorem ZuU {n:Nat}{cs:List Value}{y:DataW H × List MemPlace}(h:DataW.trod enc Tryz.prog w 0 sp held n 71 cs=some y):∃ z:DZone,ZjS w z cs/\z.ok:=by
 obtain⟨hl,hf⟩:=ZcY Tryz.underlying71 h
 rw[show Tryz.prog.cellsOf 71=2 from by kernel_rfl]at hl
 obtain⟨a0,cs0,rfl,hl0⟩:=Zav hl
 obtain⟨a1,cs1,rfl,hl1⟩:=Zav hl0
 obtain rfl:=List.eq_nil_of_length_eq_zero hl1
 obtain⟨n0,y0,h0⟩:=hf 0 9 0 1 rfl (by kernel_rfl)
 obtain⟨n1,y1,h1⟩:=hf 1 69 1 1 rfl (by kernel_rfl)
 obtain⟨x0,e0,b0⟩:=Zv0 h0
 simp only[List.drop,List.take,ZaU,List.cons.injEq,and_true]at e0
 subst e0
 obtain⟨A,l,c,rfl,h2,h3⟩:=ZgW Tryz.underlying69 DEra.enc DEra.ok (sz:=13) (by kernel_rfl) (fun n cs y h=>Zx4 h) h1
 exact⟨⟨x0,l⟩,⟨A,c,h2,rfl⟩,b0,h3⟩
set_option maxRecDepth 100000 in
theorem Znr {v:Value}{r:Reach}{b0:Nat}{d:DataW H}{ps:List MemPlace}(hv:Value.okWide Tryz.prog w r b0 27 v)(h:DataW.Trod enc Tryz.prog w 0 sp held 27 v d ps) :
  ∃ Ar Az Al As cr cz cl cs s,v=srcV Ar Az Al As cr cz cl cs s/\Zar w Ar Az Al As cr cz cl cs s/\s.ok:=by
 obtain⟨vs,rfl,hsz⟩:=okWide_struct Tryz.underlying27 hv
 obtain⟨fuel,h⟩:=h
 obtain⟨hl,hf⟩:=ZcY Tryz.underlying27 h
 rw[show Tryz.prog.cellsOf 27=4 from by kernel_rfl]at hl
 obtain⟨vs⟩:=vs
 simp only[Value.cells]at hl hf
 obtain⟨a0,cs0,rfl,hl0⟩:=Zav hl
 obtain⟨a1,cs1,rfl,hl1⟩:=Zav hl0
 obtain⟨a2,cs2,rfl,hl2⟩:=Zav hl1
 obtain⟨a3,cs3,rfl,hl3⟩:=Zav hl2
 obtain rfl:=List.eq_nil_of_length_eq_zero hl3
 obtain⟨n0,y0,h0⟩:=hf 0 22 0 1 rfl (by kernel_rfl)
 obtain⟨n1,y1,h1⟩:=hf 1 23 1 1 rfl (by kernel_rfl)
 obtain⟨n2,y2,h2⟩:=hf 2 24 2 1 rfl (by kernel_rfl)
 obtain⟨n3,y3,h3⟩:=hf 3 25 3 1 rfl (by kernel_rfl)
 obtain⟨Ar,lr,cr,rfl,r1,r2⟩:=ZgW Tryz.underlying22 DRule.enc DRule.ok (sz:=11) (by kernel_rfl) (fun n cs y h=>ZuV h) h0
 obtain⟨Az,lz,cz,rfl,z1,z2,z3⟩:=ZoL Tryz.underlying23 (fun(z:DZone) cs=>ZjS w z cs/\z.ok) (fun n cs y h=>ZuU h) h1
 obtain⟨Al,ll,cl,rfl,l1,l2⟩:=ZgW Tryz.underlying24 DLink.enc DLink.ok (sz:=2) (by kernel_rfl) (fun n cs y h=>ZuW h) h2
 obtain⟨As,ls,cs,rfl,s1,s2⟩:=ZgW Tryz.underlying25 ZaU (fun d=>d.size<=maxLen) (sz:=1) (by kernel_rfl) (fun n cs y h=>Zv0 h) h3
 rw[show Tryz.prog.cellsOf 71=2 from by kernel_rfl]at z3
 refine⟨Ar,Az,Al,As,cr,cz,cl,cs,⟨lr,lz,ll,ls⟩,rfl,⟨r1,z1,z2,fun k z hk=>?_,l1,s1⟩,r2,fun z hz=>?_,l2,s2⟩
 ·obtain⟨h4,cs',⟨h5,_⟩,h6⟩:=z3 k z hk
  exact⟨h4,cs',h5,h6⟩
 ·obtain⟨k,hk⟩:=List.getElem?_of_mem hz
  obtain⟨_,_,⟨_,h5⟩,_⟩:=z3 k z hk
  exact h5
end
open Go Go.RowKit Go.Wk
attribute [local irreducible] W RL Does Zat Zaj retQ Calls Pu Stp RD Qy Ay Zak
theorem ZhR {s:ByteArray}(h:(!ZcN s)=true):s.size<=1000000000:=by
 unfold ZcN at h
 simp only[Bool.not_eq_true',decide_eq_false_iff_not]at h
 omega
theorem ZlV {a:DSource}(h:fewB a=true):ZcK a:=by
 unfold fewB at h
 simp only[Bool.and_eq_true,decide_eq_true_eq,List.all_eq_true]at h
 obtain⟨⟨⟨⟨h1,h2⟩,h3⟩,h4⟩,h5,h6,h7,h8⟩:=h
 refine⟨by omega,by omega,by omega,by omega,fun r hr=>?_,fun z hz=>?_,fun l hl=>?_⟩
 ·have:=h5 r hr
  unfold Znt at this
  rw[Bool.and_eq_true]at this
  exact⟨ZhR this.1,ZhR this.2⟩
 ·have:=h6 z hz
  unfold ZhK at this
  simp only[Bool.and_eq_true,decide_eq_true_eq,List.all_eq_true]at this
  obtain⟨⟨k1,k2⟩,k3⟩:=this
  refine⟨ZhR k1,by omega,fun e he=>?_⟩
  have:=k3 e he
  unfold Znu at this
  rw[Bool.and_eq_true]at this
  exact⟨ZhR this.1,ZhR this.2⟩
 ·have:=h7 l hl
  unfold Zf5 at this
  rw[Bool.and_eq_true]at this
  exact⟨ZhR this.1,ZhR this.2⟩
theorem Zsx {w:World}{Ar Az Al As:Option Addr}{cr cz cl cs:Nat}{a:DSource}(hL:LibW w)(hG:Glob w)(hA:Zar w Ar Az Al As cr cz cl cs a)(hok:a.ok)(h:fewB a=true):Zb7 w Ar Az Al As cr cz cl cs a where
 L:=hL
 G:=hG
 A:=hA
 S:=ZlV h
 V:=fun r hr=>Zkr.1 (hok.1 r hr).2.2.2.2.2.2.1
 Z:=fun z hz e he=>⟨Zkr.1 ((hok.2.1 z hz).2 e he).1,Zkr.1 ((hok.2.1 z hz).2 e he).2.2.1,Zkr.1 ((hok.2.1 z hz).2 e he).2.1,(((ZlV h).zs z hz).2.2 e he).2⟩
theorem ZgT (Ar Az Al As:Option Addr)(cr cz cl cs:Nat)(a:DSource)(zone:Int)(w:World)(hL:LibW w)(hG:Glob w)(hF:FtG w)(hA:Zar w Ar Az Al As cr cz cl cs a)(hok:a.ok) :
  Does Tryz.prog 3 [srcV Ar Az Al As cr cz cl cs a,.int .i64 zone] w (fun v O=>v = .bool true/\O=[]):=by
 have hfw:=fun w' (hw:Bel w.heap.size w w')=>Zvu Ar Az Al As cr cz cl cs a w' (hA.up hw)
 have hwk:=fun w' (hw:Bel w.heap.size w w')=>ZkZ w' (hL.up hw) (hG.up hw) (hF.up hw)
 have hle:=hA.r.le
 have hcp:=hA.r.cap
 simp only[maxLen]at hcp
 obtain⟨b,hb⟩:∃ b,fewB a=b:=⟨_,rfl⟩
 rw[hb]at hfw
 cases b with
 | false =>
  refine Zaa Tryz.func3 rfl rfl rfl rfl ?_
  repeat (first|refine und ?_|(refine js ?_;(first|(refine Zab hfw ?_)|(refine Zab hwk ?_)|(refine bx ?_;intro bk)))|refine walk ?_)
  exact rtA
 | true =>
  have hAc:=Zsx hL hG hA hok hb
  have h1:=fun w' (hw:Bel w.heap.size w w')=>Zzj Ar Az Al As cr cz cl cs a zone w' (hAc.up hw) (hF.up hw)
  have h2:=fun w' (hw:Bel w.heap.size w w')=>ZrQ Ar Az Al As cr cz cl cs a zone w' (hAc.up hw)
  have h3:=fun w' (hw:Bel w.heap.size w w')=>ZuG Ar Az Al As cr cz cl cs a zone w' (hAc.up hw)
  have h4:=fun w' (hw:Bel w.heap.size w w')=>Zng Ar Az Al As cr cz cl cs a zone w' (hAc.up hw)
  clear hb hAc
  generalize ofR a zone=x1 at *
  generalize yrD a zone=x2 at *
  obtain⟨⟨p1,p2,p3,p4,⟨p5,p6,p7,p8,p9⟩,⟨q1,q2,q3,q4,q5⟩⟩,e1⟩:=x1
  obtain⟨y,e2⟩:=x2
  simp only[Zbx.enc]at h1 h2
  refine Zaa Tryz.func3 rfl rfl rfl rfl ?_
  by_cases h10:10<a.rules.length
  ·have b1:decide ((10:Int)<(a.rules.length:Int))=true:=decide_eq_true (by omega)
   repeat (first|refine und ?_|(apply RL_pu;rfl;(apply Zaw;rfl;rfl;exact b1))|(refine js ?_;(first|(refine Zab hfw ?_)|(refine Zab hwk ?_)|(refine bx ?_;intro bk)))|refine walk1 ?_)
   exact rtA
  ·have b1:decide ((10:Int)<(a.rules.length:Int))=false:=decide_eq_false (by omega)
   repeat (first|refine und ?_|(apply RL_pu;rfl;(first|(apply Zok (i:=(⟨p1,p2,p3,p4,⟨p5,p6,p7,p8,p9⟩,⟨q1,q2,q3,q4,q5⟩⟩:Zbx)) (j:=⟨p1,p2,p3,p4,⟨p5,p6,p7,p8,p9⟩,⟨q1,q2,q3,q4,q5⟩⟩) (enc:=Zbx.enc);rfl;rfl;exact decide_eq_true rfl)|(apply Zan;rfl;rfl;exact decide_eq_true rfl)|(apply Zaw;rfl;rfl;exact b1)))|(refine js ?_;(first|(refine Zab hfw ?_)|(refine Zab h1 ?_)|(refine Zab h2 ?_)|(refine Zab h3 ?_)|(refine Zab h4 ?_)|(refine Zab hwk ?_)|(refine bx ?_;intro bk)))|refine walk1 ?_)
   exact rtA
end Go.Proofs.YtpipekfmecikmaaGreatDoor
namespace Go.Proofs.YtpipekfmecikmaaGreatDoor
open Go Go.RowKit Go.Wk Go.ChangeShapes Go.WideShapes Go.ChangeAt
section
variable {H:Type}{enc:TypeId × Value->H}{w:World}{sp:Nat->Bool}{held:Bool}
set_option maxRecDepth 100000 in
theorem Zu5 {v:Value}{r:Reach}{b0:Nat}{d:DataW H}{ps:List MemPlace}(hv:Value.okWide Tryz.prog w r b0 3 v)(_:DataW.Trod enc Tryz.prog w 0 sp held 3 v d ps):∃ x:Int,v = .int .i64 x:=by
 obtain⟨n,rfl⟩:=okWide_int Tryz.underlying3 hv
 exact⟨n,rfl⟩
end
end Go.Proofs.YtpipekfmecikmaaGreatDoor
namespace Go.Wk
open Go Go.RowKit Go.ChangeShapes Go.WideShapes Go.ChangeAt
section
variable {H:Type}{enc:TypeId × Value->H}
def ZvC:DataW Unit->List Value
 | .agg l=>l.map fun | .lit (.int k n) => .int k n|_=>undef
 | .lit (.int k n)=>[.int k n]
 | _=>[]
end
def Zx1 (P:Program)(tb:List (String × FuncId))(tok:List UInt8):Option FuncId :=
 if tok=[] then none else (tb.find? fun x=>x.1.toUTF8.data.toList==tok&&P.funcNamed x.1==some x.2).map (·.2)
section
variable {H:Type}
def Zh2 (P:Program)(tok:H->Option FuncId):Nat->TypeId->DataW H->Nat->Option Value
 | 0,_,_,_=>none
 | f+1,t,d,j =>
  match P.underlying t,d with
  | some .bool,.lit (.bool b)=>if j=0 then some (.bool b) else none
  | some (.int k),.lit (.int _ n)=>if j=0 then some (.int k n) else none
  | some .string,.lit (.string l)=>if j=0 then some (.string ⟨l.toArray⟩) else none
  | some (.func ..),.nil=>if j=0 then some .nilFunc else none
  | some (.func ..),.held x=>if j=0 then (tok x).map fun g => .func (.func g) #[] #[] else none
  | some (.array n e),.agg ds=>if j / P.cellsOf e<n then (match ds[j / P.cellsOf e]? with|some d'=>Zh2 P tok f e d' (j % P.cellsOf e)|none=>none) else none
  | some (.struct fs),.agg ds =>
   match (List.range fs.size).find? fun i=>match fs[i]? with|some x=>decide (x.offset<=j)&&decide (j<x.offset+P.cellsOf x.type)|none=>false with
   | some i=>(match fs[i]?,ds[i]? with|some x,some d'=>Zh2 P tok f x.type d' (j - x.offset)|_,_=>none)
   | none=>none
  | _,_=>none
end
theorem ZmU {P:Program}{tb:List (String × FuncId)}{l:List UInt8}{g:FuncId}{t:TypeId}{v:Value}(h:Zx1 P tb l=some g)(hv:funcToken P (t,v)=l):v = .func (.func g) #[] #[]:=by
 unfold Zx1 at h
 cases l with
 | nil=>rw[if_pos rfl]at h;cases h
 | cons b r =>
  obtain⟨f,fn,rfl,h1,h2,h3⟩:=funcToken_tells hv
  rw[if_neg (by simp)]at h
  cases hx:tb.find? (fun x=>x.1.toUTF8.data.toList==b::r&&P.funcNamed x.1==some x.2) with
  | none=>rw[hx]at h;cases h
  | some x =>
   rw[hx]at h
   have hp:=List.find?_some hx
   simp only[Bool.and_eq_true,beq_iff_eq]at hp
   have hs:x.1=fn.name:=by
    have:x.1.toUTF8=fn.name.toUTF8:=by
     apply ByteArray.ext
     apply Array.ext'
     rw[hp.1,h3]
    exact String.toByteArray_inj.1 this
   rw[hs,h2]at hp
   have:=hp.2
   simp only[Option.map_some,Option.some.injEq]at h this
   rw[this,h]
theorem Zls {cs:List Value}{o c j:Nat}{v:Value}(h:((cs.drop o).take c)[j]?=some v):cs[o+j]?=some v:=by
 rw[List.getElem?_take]at h
 split at h
 ·rwa[List.getElem?_drop]at h
 ·cases h
theorem Zh1 {H:Type}{enc:TypeId × Value->H}{tok:H->Option FuncId}{P:Program}{w:World}{base:Nat}{sp:Nat->Bool}{held:Bool}(htok:∀ t v g,tok (enc (t,v))=some g->v = .func (.func g) #[] #[]):∀ (f:Nat) (t:TypeId) (d:DataW H) (j:Nat) (v:Value) (fuel:Nat) (cs:List Value) (p:List MemPlace),Zh2 P tok f t d j=some v ->
  DataW.trod enc P w base sp held fuel t cs=some (d,p)->cs[j]?=some v
 | 0,_,_,_,_,_,_,_,h,_=>by cases h
 | f+1,t,d,j,v,fuel,cs,p,h,ht=>by
  unfold Zh2 at h
  split at h
  ·rename_i hu
   obtain⟨b',rfl,hx⟩:=DataW.trod_bool hu ht
   simp only[Prod.mk.injEq,DataW.lit.injEq,Lit.bool.injEq]at hx
   split at h
   ·rename_i hj
    subst hj
    simp only[Option.some.injEq]at h
    rw[<- h,hx.1];rfl
   ·cases h
  ·rename_i hu
   obtain⟨n',rfl,hx,_⟩:=DataW.trod_int hu ht
   simp only[Prod.mk.injEq,DataW.lit.injEq,Lit.int.injEq]at hx
   split at h
   ·rename_i hj
    subst hj
    simp only[Option.some.injEq]at h
    rw[<- h,hx.1.2];rfl
   ·cases h
  ·rename_i hu
   obtain⟨s,rfl,hx,_⟩:=DataW.trod_string hu ht
   simp only[Prod.mk.injEq,DataW.lit.injEq,Lit.string.injEq]at hx
   split at h
   ·rename_i hj
    subst hj
    simp only[Option.some.injEq]at h
    rw[<- h,hx.1];simp
   ·cases h
  ·rename_i hu
   split at h
   ·rename_i hj
    subst hj
    cases fuel with
    | zero=>simp[DataW.trod]at ht
    | succ n =>
     unfold DataW.trod at ht
     rw[hu]at ht
     simp only[Option.some.injEq]at h
     subst h
     split at ht <;> simp_all
   ·cases h
  ·rename_i hu
   split at h
   ·rename_i hj
    subst hj
    cases fuel with
    | zero=>simp[DataW.trod]at ht
    | succ n =>
     unfold DataW.trod at ht
     rw[hu]at ht
     rename_i x0
     cases hk:tok x0 with
     | none=>rw[hk]at h;cases h
     | some g =>
      rw[hk]at h
      simp only[Option.map_some,Option.some.injEq]at h
      subst h
      split at ht <;> first|(exfalso;simp_all;done)|skip
      all_goals (split at ht <;> first|(exfalso;simp_all;done)|skip)
      all_goals simp only[Option.some.injEq,Prod.mk.injEq,DataW.held.injEq]at ht
      all_goals (rw[<- ht.1]at hk;rw[htok _ _ _ hk];rfl)
   ·cases h
  ·rename_i n e ds hu
   obtain⟨xs,m,rfl,hx,hlen,hn,hel⟩:=DataW.trod_array hu ht
   simp only[Prod.mk.injEq,DataW.agg.injEq]at hx
   split at h
   ·rename_i hj
    split at h
    ·rename_i d' hd
     rw[hx.1,List.getElem?_map]at hd
     cases hy:xs[j / P.cellsOf e]? with
     | none=>rw[hy]at hd;cases hd
     | some y =>
      rw[hy]at hd
      simp only[Option.map_some,Option.some.injEq]at hd
      have h1:=hel _ hj
      rw[hy]at h1
      have h2:=Zh1 htok f e d' _ v m _ y.2 h (by rw[h1,<- hd])
      have h3:=Zls h2
      rwa[Nat.mul_comm,Nat.div_add_mod]at h3
    ·cases h
   ·cases h
  ·rename_i fs ds hu
   obtain⟨xs,m,rfl,hx,hlen,hn,hel⟩:=DataW.trod_struct hu ht
   simp only[Prod.mk.injEq,DataW.agg.injEq]at hx
   split at h
   ·rename_i i hi
    split at h
    ·rename_i x d' hf hd
     rw[hx.1,List.getElem?_map]at hd
     cases hy:xs[i]? with
     | none=>rw[hy]at hd;cases hd
     | some y =>
      rw[hy]at hd
      simp only[Option.map_some,Option.some.injEq]at hd
      have h1:=hel i x hf
      rw[hy]at h1
      have h2:=Zh1 htok f x.type d' _ v m _ y.2 h (by rw[h1,<- hd])
      have h3:=Zls h2
      have hp:=List.find?_some hi
      rw[hf]at hp
      simp only[Bool.and_eq_true,decide_eq_true_eq]at hp
      rwa[show x.offset+(j - x.offset)=j by omega]at h3
    ·cases h
   ·cases h
  ·cases h
theorem ZfH {H:Type}{enc:TypeId × Value->H}{tok:H->Option FuncId}{P:Program}{w:World}{base:Nat}{sp:Nat->Bool}{held:Bool}(htok:∀ t v g,tok (enc (t,v))=some g->v = .func (.func g) #[] #[]){n:String}{d:DataW H}{g:Nat}{t:TypeId}{cells:List Value}{s:Nat}{cs:Array Value}{fu:Nat}{p:List MemPlace}(fuel:Nat)
  (h1:P.globalNamed n=some g) (h3:w.var? P n=some cs) (h4:DataW.trod enc P w base sp held fu t cs.toList=some (d,p)) (hc:(List.range cells.length).map (fun j=>Zh2 P tok fuel t d (s+j))=cells.map some):Zau w ⟨g,s,none⟩ cells:=by
 intro j v hj
 have hjl:=(List.getElem?_eq_some_iff.1 hj).1
 have h5:=congrArg (fun l=>l[j]?) hc
 simp only[List.getElem?_map,List.getElem?_range hjl,Option.map_some,hj]at h5
 simp only[Option.some.injEq]at h5
 have h6:=Zh1 htok fuel t _ _ v _ _ _ h5 h4
 rw[ZbV]
 have h7:=World.var?_cell h1 h3 (s+j)
 rw[h7]
 simpa using h6
theorem Zc6 {P:Program}{w:World}{n:String}{d:DataW Unit}{g:Nat}{t:TypeId}{cells:List Value}{s:Nat}(tb:List (String × FuncId))(fuel:Nat)(h:funcsAt P w n d)(hg:P.globalNamed n=some g)(ht:(P.globals[g]?).map (·.type)=some t)
  (hc:(List.range cells.length).map (fun j=>Zh2 P (Zx1 P tb) fuel t d.funcsOut (s+j))=cells.map some):Zau w ⟨g,s,none⟩ cells:=by
 obtain⟨g',t',cs,fu,p,h1,h2,h3,h4⟩:=h
 obtain rfl:=Option.some.inj (hg.symm.trans h1)
 obtain rfl:=Option.some.inj (ht.symm.trans h2)
 exact ZfH (fun _ _ _ hk=>ZmU hk rfl) fuel h1 h3 h4 hc
theorem Zei {P:Program}{w:World}:∀ {l:List (String × DataW Unit)} {ps:List MemPlace},DataW.LaidVars P w l ps->∀ {n:String} {d:DataW Unit},(n,d)∈l ->
  ∃ g t cs fuel p,P.globalNamed n=some g/\(P.globals[g]?).map (·.type)=some t/\w.var? P n=some cs/\DataW.trod (fun _=>()) P w 0 (fun _=>true) false fuel t cs.toList=some (d,p)
 | [],_,_,_,_,h=>by cases h
 | (n0,d0)::l,ps,hl,n,d,h=>by
  obtain⟨g,t,cs,fuel,p,q,h1,h2,h3,h4,h5,_⟩:=hl
  rcases List.mem_cons.1 h with he|h
  ·obtain⟨rfl,rfl⟩:=Prod.mk.inj he
   exact⟨g,t,cs,fuel,p,h1,h2,h3,h4⟩
  ·exact Zei h5 h
theorem ZgE {P:Program}{l:List (String × DataW Unit)}{w:World}(h:laidMetH P l w):laidMet P (l.filter fun x=>x.2.handleName?.isNone) w:=by
 unfold laidMetH at h
 generalize hfl:(l.filter fun x=>x.2.handleName?.isSome)=fl at h
 cases fl with
 | nil =>
  have e:(l.filter fun x=>x.2.handleName?.isNone)=l:=by
   rw[List.filter_eq_self]
   intro x hx
   have:=(List.filter_eq_nil_iff.1 hfl) x hx
   cases hn:x.2.handleName? with
   | none=>rfl
   | some s=>rw[hn]at this;exact absurd rfl this
  rw[e]
  exact h
 | cons a ys=>exact h.1
theorem ZkE {P:Program}{w:World}{l:List (String × DataW Unit)}{n:String}{d:DataW Unit}{g:Nat}{t:TypeId}{cells:List Value}(fuel:Nat)(h:laidMetH P l w)(hm:(n,d)∈l.filter fun x=>x.2.handleName?.isNone)(hg:P.globalNamed n=some g)(ht:(P.globals[g]?).map (·.type)=some t)
  (hc:(List.range cells.length).map (fun j=>Zh2 P (fun _:Unit=>none) fuel t d (0+j))=cells.map some):Zau w ⟨g,0,none⟩ cells:=by
 obtain⟨ps,hl,_⟩:=ZgE h
 obtain⟨g',t',cs,fu,p,h1,h2,h3,h4⟩:=Zei hl hm
 obtain rfl:=Option.some.inj (hg.symm.trans h1)
 obtain rfl:=Option.some.inj (ht.symm.trans h2)
 exact ZfH (fun _ _ _ hk=>by cases hk) fuel h1 h3 h4 hc
def Zzv:TypeDesc->Bool | .interface _=>true|_=>false
theorem Zks {P:Program}{w:World}{l:List (String × DataW Unit)}{n:String}{d:DataW Unit}{g:Nat}{t:TypeId}(h:laidMetH P l w)(hm:(n,d)∈l.filter fun x=>x.2.handleName?.isNone)(hg:P.globalNamed n=some g)(ht:(P.globals[g]?).map (·.type)=some t)
  (hi:(P.underlying t).map Zzv=some true):∃ ev,w.cell? ⟨g,0,none⟩=some ev/\(ev = .nilIface\/∃ te pe,ev = .iface te pe):=by
 obtain⟨ps,hl,_⟩:=ZgE h
 obtain⟨g',t',cs,fu,p,h1,h2,h3,h4⟩:=Zei hl hm
 obtain rfl:=Option.some.inj (hg.symm.trans h1)
 obtain rfl:=Option.some.inj (ht.symm.trans h2)
 have h7:=World.var?_cell h1 h3 0
 obtain⟨ms,hu⟩:∃ ms,P.underlying t=some (.interface ms):=by
  cases hd:P.underlying t with
  | none=>rw[hd]at hi;cases hi
  | some td=>cases td <;> first|exact⟨_,rfl⟩|(rw[hd]at hi;simp[Zzv]at hi)
 cases fu with
 | zero=>simp[DataW.trod]at h4
 | succ f =>
  unfold DataW.trod at h4
  rw[hu]at h4
  split at h4 <;> first|(exfalso;simp_all;done)|skip
  ·rename_i hc
   exact⟨.nilIface,by rw[h7,<- Array.getElem?_toList,hc];rfl,.inl rfl⟩
  ·rename_i hc
   exact⟨_,by rw[h7,<- Array.getElem?_toList,hc];rfl,.inr ⟨_,_,rfl⟩⟩
section
variable {H:Type}{enc:TypeId × Value->H}
theorem ZnC {C:Checked}{os:Os}{f:FuncId}{fn:Func}{s:ChangeSpec}{conds:List PathCond}{t:TypeId}(laid:List (String × DataW Unit))(own:ownKnob C.prog.godebug=none)(started:os.Started)(noInit:C.prog.inits.idxOf? f=none)(hfn:C.prog.funcs[f]?=some fn)
  (witness:∃ (w:World) (tape:Tape) (i:Input),w.os=os/\(w.forCall tape i).Shaped C.prog/\i.vars=[]/\Input.okWide C.prog (w.forCall tape i) .any w.heap.size f i /\
   ((s.pre enc C.prog fn conds false (w.forCall tape i).memory i.args/\laidMetH C.prog laid (w.forCall tape i).memory)/\sizedMet enc C.prog fn (OpenSpec.ofChange s) false (w.forCall tape i).memory i.args)/\({}:Assume).holds C.prog (lone (Frame.enter C.prog f i.args .normal) [] (w.forCall tape i)))
  (hvars:s.vars=[]) (hres:fn.resultTypes = #[t]) (ht:C.prog.underlying t=some .bool) (hl:laidOutB C.prog=true)
  (hr:fn.params.toList.all (fun t=>C.prog.readableRec t&&decide (t<C.prog.types.size))=true) (hspec:∀ ds:List (DataW H),ds.length=fn.params.toList.length->s.fn H ds={ results:=[.lit (.bool true)],args:=ds })
  (walk:∀ (W:World) (base:Nat) (args:List Value) (ds:List (DataW H)) (p:List MemPlace),(∀ (j:Nat) t v,fn.params.toList[j]?=some t->args[j]?=some v->Value.okWide C.prog W .any base t v)->laidMetH C.prog laid W->W.ShapedOpen C.prog ->
   DataW.TrodAll enc C.prog W 0 (fun _=>true) true fn.params.toList args ds p->Does C.prog f args W (fun v _=>v = .bool true)) :
  ReturnsInHanded {} C os f .any (fun w args=>(s.pre enc C.prog fn conds false w args/\laidMetH C.prog laid w)/\sizedMet enc C.prog fn (OpenSpec.ofChange s) false w args) (s.post enc C.prog fn false true false false):=by
 have hr':∀ t∈fn.params.toList,C.prog.readableRec t=true/\t<C.prog.types.size:=fun t ht=>by
  have:=List.all_eq_true.1 hr t ht
  simpa using this
 refine returnsInHanded_of_calls own started noInit witness ?_
 intro w tape i _ hsh _ hok hpre hholds
 obtain⟨_,_,_,fn',hfn',_,_,_,_,hval⟩:=hok
 have e:fn'=fn:=Option.some.inj (hfn'.symm.trans hfn)
 subst e
 obtain⟨⟨⟨ds,gs,before,hw,hc⟩,hx⟩,hz⟩:=hpre
 have hw':=DataW.Whole.of_heap (w':=w.forCall tape i) (by rfl) hw
 obtain⟨p,q,hA,_⟩:=id hw'
 have hd:=walk (w.forCall tape i) w.heap.size i.args.toList ds p (fun j t v h1 h2=>hval j t v (by simpa using h1) (by simpa using h2)) (laidMetH.of_heap (by rfl) hx) hsh hA
 unfold Does at hd
 rw[Array.toArray_toList]at hd
 refine hd.mono ?_
 rintro e W' ⟨v,O,rfl,hb,_,rfl⟩
 exact ChangeSpec.post_blind (Zve hvars hres ht hl hr' hspec hw' hb.toBelow)
end
end Go.Wk
