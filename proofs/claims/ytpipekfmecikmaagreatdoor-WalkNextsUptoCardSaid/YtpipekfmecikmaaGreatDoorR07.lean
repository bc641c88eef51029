/- Parts of the proof. -/
import Derived.Test.YtpipekfmecikmaaGreatDoorR06
import Derived.Laws.Strings2
import Derived.LoopN
set_option maxHeartbeats 4000000
set_option linter.all false
namespace Go.Proofs.YtpipekfmecikmaaGreatDoor
open Go Go.RowKit Go.Wk
attribute [local irreducible] W RL Does Zaq Zai retQ Calls Pu Stp RD Qy Ay Zaj
theorem ZoQ (x k:Int)(hx : -1000000000000000000<=x/\x<=1000000000000000000)(b:0<=k/\k<=6)(w:World):Does Tryz.prog 387 [.int .i64 x,.int .i64 k] w (fun v O=>v = .int .i64 (Zbs x k)/\O=[]):=by
 have c:=Zpt x
 refine Zaa Tryz.func387 rfl rfl rfl rfl ?_
 unfold Zbs
 repeat' (first|(apply RL_pu;rfl;exact PuDayf0)|(refine js ?_;(refine Zac (fun w' _=>Zjk x (by omega) w') ?_))|refine walk1 ?_|(refine Zaf rfl (fun a=>?_) (fun a=>?_)))
 all_goals exact clo1
theorem ZiN (x k:Int)(hx : -1000000000000000000<=x/\x<=1000000000000000000)(b:0<=k/\k<=6)(w:World):Does Tryz.prog 385 [.int .i64 x,.int .i64 k] w (fun v O=>v = .int .i64 (ZaW x k)/\O=[]):=by
 have c:=Zpt x
 refine Zaa Tryz.func385 rfl rfl rfl rfl ?_
 unfold ZaW
 repeat' (first|(apply RL_pu;rfl;exact PuDayf0)|(refine js ?_;(refine Zac (fun w' _=>Zjk x (by omega) w') ?_))|refine walk1 ?_|(refine Zaf rfl (fun a=>?_) (fun a=>?_)))
 all_goals exact clo1
def ZmA (k:Int):FuncId:=if k=1 then 383 else if k=2 then 384 else if k=3 then 386 else 388
theorem Zrr (p q:Int)(d:DDay)(i : -100000000000000000<=p/\p<=100000000000000000)(j : -100000000000000000<=q/\q<=100000000000000000)(g:1<=d.kind/\d.kind<=4)(b:0<=d.week/\d.week<=6)(f:0<=d.day/\d.day<=31)(w:World) :
  Does Tryz.prog (ZmA d.kind) [.int .i64 p,.int .i64 q,.agg (DDay.enc d).toArray] w (fun v O=>v = .int .i64 (Zd3 p q d)/\O=[]):=by
 obtain⟨k,wk,dd⟩:=d
 simp only at g b f ⊢
 have e:k=1\/k=2\/k=3\/k=4:=by omega
 rcases e with rfl|rfl|rfl|rfl
 ·rw[show Zd3 p q ⟨1,wk,dd⟩=p+dd - 1 by simp[Zd3]]
  show Does _ 383 [.int .i64 p,.int .i64 q,.agg #[.int .i64 1,.int .i64 wk,.int .i64 dd]] w _
  refine Zaa Tryz.func383 rfl rfl rfl rfl ?_
  repeat' (first|(apply RL_pu;rfl;exact PuDayf0)|(refine js ?_;(refine bx ?_;intro c))|refine walk1 ?_|(refine Zaf rfl (fun a=>?_) (fun a=>?_)))
  all_goals exact clo1
 ·rw[show Zd3 p q ⟨2,wk,dd⟩=ZaW q wk by simp[Zd3]]
  show Does _ 384 [.int .i64 p,.int .i64 q,.agg #[.int .i64 2,.int .i64 wk,.int .i64 dd]] w _
  refine Zaa Tryz.func384 rfl rfl rfl rfl ?_
  repeat' (first|(apply RL_pu;rfl;exact PuDayf0)|(refine js ?_;(first|(refine Zac (fun w' _=>ZiN q wk (by omega) b w') ?_)|(refine bx ?_;intro c)))|refine walk1 ?_|(refine Zaf rfl (fun a=>?_) (fun a=>?_)))
  all_goals exact clo1
 ·rw[show Zd3 p q ⟨3,wk,dd⟩=Zbs (p+dd - 1) wk by simp[Zd3]]
  show Does _ 386 [.int .i64 p,.int .i64 q,.agg #[.int .i64 3,.int .i64 wk,.int .i64 dd]] w _
  refine Zaa Tryz.func386 rfl rfl rfl rfl ?_
  repeat' (first|(apply RL_pu;rfl;exact PuDayf0)|(refine js ?_;(first|(refine Zac (fun w' _=>ZoQ (p+dd - 1) wk (by omega) b w') ?_)|(refine bx ?_;intro c)))|refine walk1 ?_|(refine Zaf rfl (fun a=>?_) (fun a=>?_)))
  all_goals exact clo1
 ·rw[show Zd3 p q ⟨4,wk,dd⟩=ZaW (p+dd - 1) wk by simp[Zd3]]
  show Does _ 388 [.int .i64 p,.int .i64 q,.agg #[.int .i64 4,.int .i64 wk,.int .i64 dd]] w _
  refine Zaa Tryz.func388 rfl rfl rfl rfl ?_
  repeat' (first|(apply RL_pu;rfl;exact PuDayf0)|(refine js ?_;(first|(refine Zac (fun w' _=>ZiN (p+dd - 1) wk (by omega) b w') ?_)|(refine bx ?_;intro c)))|refine walk1 ?_|(refine Zaf rfl (fun a=>?_) (fun a=>?_)))
  all_goals exact clo1
theorem Zxo {w:World}(e:Glob w)(k:Int)(b:1<=k/\k<=4):Zas w ((⟨2,0,none⟩:Addr).add (k.toNat*3)) [.bool (ZqN k),.bool (dayK k),fnV (ZmA k)]:=by
 intro j v a
 have b:=e.kin ((k.toNat - 1)*3+j) v
 have d:k=1\/k=2\/k=3\/k=4:=by omega
 have f:j<3:=(List.getElem?_eq_some_iff.1 a).1
 have c:j=0\/j=1\/j=2:=by omega
 rcases d with rfl|rfl|rfl|rfl <;> rcases c with rfl|rfl|rfl <;> exact b a
theorem ZiH (d:DDay)(w:World)(g:Glob w):Does Tryz.prog 72 [.agg (DDay.enc d).toArray] w (fun v O=>v = .int .i64 (if ZbB d then 0 else 2)/\O=[]):=by
 obtain⟨k,wk,dd⟩:=d
 by_cases c:1<=k/\k<=4
 ·have b:=Zxo g k c
  have e:ZbB ⟨k,wk,dd⟩ = !((!decide (wk=0)&&!ZqN k)||decide (wk<0)||decide (6<wk)||(dayK k==decide (dd=0))||decide (dd<0)||decide (31<dd)):=by simp[ZbB,c.1,c.2]
  rw[e]
  generalize ZqN k=b1 at *
  generalize dayK k=b2 at *
  show Does _ _ [.agg #[.int .i64 k,.int .i64 wk,.int .i64 dd]] w _
  refine Zaa Tryz.func72 rfl rfl rfl rfl ?_
  repeat' (first|(apply RL_pu;rfl;(first|exact PuDayf0|(apply Zbv;rfl;rfl;omega;omega)|(apply Pu_loadON;rfl;exact b;rfl)))|(refine js ?_;(refine bx ?_;intro f))|refine walk1 ?_|refine und ?_|(refine Zar rfl rfl rfl (fun a=>?_) (fun a=>?_))|(refine Za8 rfl rfl rfl (fun a=>?_) (fun a=>?_))|(refine Zaf rfl (fun a=>?_) (fun a=>?_)))
  all_goals exact clo1
 ·have e:ZbB ⟨k,wk,dd⟩=false:=by
   simp only[ZbB]
   have:(decide (1<=k)&&decide (k<=4))=false:=by simp;omega
   rw[this];rfl
  rw[e]
  show Does _ _ [.agg #[.int .i64 k,.int .i64 wk,.int .i64 dd]] w _
  refine Zaa Tryz.func72 rfl rfl rfl rfl ?_
  repeat' (first|(refine js ?_;(refine bx ?_;intro f))|refine walk ?_|refine und ?_|(refine Zar rfl rfl rfl (fun a=>?_) (fun a=>?_))|(refine Za8 rfl rfl rfl (fun a=>?_) (fun a=>?_))|(refine Zaf rfl (fun a=>?_) (fun a=>?_)))
  all_goals exact clo1
theorem Zd6 (d:DClock)(w:World):Does Tryz.prog 73 [.agg (DClock.enc d).toArray] w (fun v O=>v = .int .i64 (if ZaK d then 0 else 2)/\O=[]):=by
 obtain⟨k,wk⟩:=d
 show Does _ _ [.agg #[.int .i64 k,.int .i64 wk]] w _
 refine Zaa Tryz.func73 rfl rfl rfl rfl ?_
 repeat' (first|(refine js ?_;(refine bx ?_;intro b))|refine walk ?_|refine und ?_|(refine Zar rfl rfl rfl (fun a=>?_) (fun a=>?_))|(refine Za8 rfl rfl rfl (fun a=>?_) (fun a=>?_))|(refine Zaf rfl (fun a=>?_) (fun a=>?_)))
 all_goals first|(refine ret_1 _ [] (.tmp rfl) .nil ⟨?_,rfl⟩;first|rfl|(simp only[*,Bool.true_and,Bool.false_and,Bool.true_or,Bool.false_or,Bool.not_true,Bool.not_false];done)|(simp_all [ZaK];done)|(simp_all [ZaK];omega)|(simp_all [ZaK];rw[Bool.eq_iff_iff];simp;omega))|(exfalso;simp_all [ZaK];done)|(exfalso;simp_all [ZaK];omega)|(exfalso;omega)
theorem ZeO {d:DDay}(h:ZbB d=true):(1<=d.kind/\d.kind<=4)/\(0<=d.week/\d.week<=6)/\0<=d.day/\d.day<=31:=by
 simp only[ZbB,Bool.and_eq_true,Bool.not_eq_true',Bool.or_eq_false_iff,decide_eq_true_eq,decide_eq_false_iff_not]at h
 omega
theorem Zk7 {y m d:Int}(h:Zbf y m d=true) : -1000000000000<=ZaV y m d/\ZaV y m d<=1000000000000:=by
 obtain⟨b,c,e⟩:=ZdK h
 unfold ZaV ZbW
 have a:=ZbX
 split
 ·have:=a (m+12 - 3).toNat
  omega
 ·have:=a (m - 3).toNat
  omega
theorem Zpg {G:Prop}(h:G:=by(first|exact PuDayf0|(apply Zbv;rfl;rfl;omega;omega)|(apply Pu_loadO1';rfl;exact hcell;rfl))):G:=h
theorem Zut {G:Prop}(h:G:=by first|(apply Qy_y;rfl;exact Zpg)|exact QyA):G:=h
theorem ZAD {G:Prop}(h:G:=by repeat (first|exact QF.nil|(apply QF.mk;rfl;rfl;decide +kernel;exact Zut))):G:=h
theorem Zoi (y m:Int)(d:DDay)(w:World)(j:Glob w):Does Tryz.prog 120 [.int .i64 y,.int .i64 m,.agg (DDay.enc d).toArray] w (fun v O=>v = .tuple #[.int .i64 (onD y m d).1,.int .i64 (onD y m d).2]/\O=[]):=by
 have z:=ZeG y m
 have b:=fun w' a=>ZiH d w' (Glob.up (w':=w') j a)
 by_cases hok:Zbf y m 1=true
 ·have x:=Zk7 hok
  by_cases g:ZbB d=true
  ·obtain⟨s,t,u⟩:=ZeO g
   have hcell:=Zxo j d.kind s
   have p:=fun w'=>Zrr (ZaV y m 1) (ZaV y m 1+lenM y m - 1) d (by omega) (by omega) s t u w'
   haveI:Body Tryz.prog (ZmA d.kind):=by
    unfold ZmA
    split
    ·infer_instance
    ·split
     ·infer_instance
     ·split <;> infer_instance
   have e:onD y m d=if lenM y m<d.day then (0,4) else (Zd3 (ZaV y m 1) (ZaV y m 1+lenM y m - 1) d,0):=by simp[onD,hok,g]
   rw[e]
   clear e
   have c:=Zf7 y m 1
   rw[if_pos hok,if_pos hok]at c
   rw[g]at b
   generalize Zd3 (ZaV y m 1) (ZaV y m 1+lenM y m - 1) d=res at *
   obtain⟨k,wk,dd⟩:=d
   simp only at *
   generalize ZmA k=kf at *
   show Does _ _ [.int .i64 y,.int .i64 m,.agg #[.int .i64 k,.int .i64 wk,.int .i64 dd]] w _
   refine Zaa Tryz.func120 rfl rfl rfl rfl ?_
   repeat' (first|(apply RL_pu;rfl;exact Zpg)|(refine js ?_;(first|(apply Zav (f:=kf) (us:=[]) (cs:=[]) (vs:=[.int .i64 (ZaV y m 1),.int .i64 (ZaV y m 1+lenM y m - 1),.agg #[.int .i64 k,.int .i64 wk,.int .i64 dd]]) (h:=fun w' a _=>p w');rfl;rfl;rintro v O' ⟨rfl,rfl⟩)|(refine Zac (fun w' a=>c w' (j.up a)) ?_)|(refine Zac b ?_)|(refine Zac (fun w' a=>ZbO y m w') ?_)|(refine bx ?_;intro q)))|(apply RD_Q;rfl;rfl;decide +kernel;rfl;rfl;exact Zut)|refine walk1 ?_|(refine RD_G0w ?_;intro F;(first|(apply Zav (f:=kf) (us:=[]) (cs:=[]) (vs:=[.int .i64 (ZaV y m 1),.int .i64 (ZaV y m 1+lenM y m - 1),.agg #[.int .i64 k,.int .i64 wk,.int .i64 dd]]) (h:=fun w' a _=>p w');rfl;rfl;rintro v O' ⟨rfl,rfl⟩)|(refine Zac (fun w' a=>c w' (j.up a)) ?_)|(refine Zac b ?_)|(refine Zac (fun w' a=>ZbO y m w') ?_));refine⟨_,EndsA,SubO.right _ _,?_⟩)|(refine RD_Lw ?_;intro F;(first|(apply Zav (f:=kf) (us:=[]) (cs:=[]) (vs:=[.int .i64 (ZaV y m 1),.int .i64 (ZaV y m 1+lenM y m - 1),.agg #[.int .i64 k,.int .i64 wk,.int .i64 dd]]) (h:=fun w' a _=>p w');rfl;rfl;rintro v O' ⟨rfl,rfl⟩)|(refine Zac (fun w' a=>c w' (j.up a)) ?_)|(refine Zac b ?_)|(refine Zac (fun w' a=>ZbO y m w') ?_)|(refine bx ?_;intro q)|(apply Zam;first|exact Zpg|exact PuA));refine⟨_,EndsA,ZAD,?_⟩)|(refine Zaf rfl (fun g=>?_) (fun g=>?_)))
   ·have r:=g
    rw[if_pos (of_decide_eq_true r)]
    exact rtB
   ·have r:=g
    rw[if_neg (of_decide_eq_false r)]
    exact rtB
  ·have e:onD y m d=(0,2):=by simp[onD,hok,g]
   rw[e]
   have c:=Zf7 y m 1
   rw[if_pos hok,if_pos hok]at c
   rw[Bool.not_eq_true]at g
   rw[g]at b
   obtain⟨k,wk,dd⟩:=d
   show Does _ _ [.int .i64 y,.int .i64 m,.agg #[.int .i64 k,.int .i64 wk,.int .i64 dd]] w _
   refine Zaa Tryz.func120 rfl rfl rfl rfl ?_
   repeat' (first|(refine js ?_;(first|(refine Zac (fun w' a=>c w' (j.up a)) ?_)|(refine Zac b ?_)|(refine bx ?_;intro q)))|refine walk ?_|(refine RD_G0w ?_;intro F;(first|(refine Zac (fun w' a=>c w' (j.up a)) ?_)|(refine Zac b ?_));refine⟨_,EndsA,SubO.right _ _,?_⟩)|(refine RD_Lw ?_;intro F;(first|(refine Zac (fun w' a=>c w' (j.up a)) ?_)|(refine Zac b ?_)|(refine bx ?_;intro q)|(apply Zam;exact PuA));refine⟨_,EndsA,QFA,?_⟩)|(refine Zaf rfl (fun g=>?_) (fun g=>?_)))
   all_goals exact clo2
 ·have e:onD y m d=(0,3):=by simp[onD,hok]
  rw[e]
  have c:=Zf7 y m 1
  rw[if_neg hok,if_neg hok]at c
  refine Zaa Tryz.func120 rfl rfl rfl rfl ?_
  repeat' (first|(refine js ?_;(first|(refine Zac (fun w' a=>c w' (j.up a)) ?_)|(refine bx ?_;intro q)))|refine walk ?_|(refine RD_G0w ?_;intro F;(refine Zac (fun w' a=>c w' (j.up a)) ?_);refine⟨_,EndsA,SubO.right _ _,?_⟩)|(refine RD_Lw ?_;intro F;(first|(refine Zac (fun w' a=>c w' (j.up a)) ?_)|(refine bx ?_;intro q)|(apply Zam;exact PuA));refine⟨_,EndsA,QFA,?_⟩)|(refine Zaf rfl (fun g=>?_) (fun g=>?_)))
  all_goals exact clo2
theorem Zpf {G:Prop}(h:G:=by(apply Pu_rem;rfl;rfl;decide)):G:=h
theorem Zus {G:Prop}(h:G:=by first|(apply Qy_y;rfl;exact Zpf)|exact QyA):G:=h
theorem ZAC {G:Prop}(h:G:=by repeat (first|exact QF.nil|(apply QF.mk;rfl;rfl;decide +kernel;exact Zus))):G:=h
theorem ZoX (a b m:Int)(d:DDay)(w:World)(p:Glob w):Does Tryz.prog 394 [.int .i64 a,.int .i64 b,.int .i64 m,.agg (DDay.enc d).toArray] w (fun v O=>v = .bool (Zb9 a b m d)/\O=[]):=by
 have e:=fun w' f=>ZiH d w' (Glob.up (w':=w') p f)
 unfold Zb9
 generalize ZbB d=c at *
 obtain⟨k,wk,dd⟩:=d
 simp only at *
 show Does _ _ [.int .i64 a,.int .i64 b,.int .i64 m,.agg #[.int .i64 k,.int .i64 wk,.int .i64 dd]] w _
 refine Zaa Tryz.func394 rfl rfl rfl rfl ?_
 repeat' (first|(apply RL_pu;rfl;exact Zpf)|(refine js ?_;(first|(refine Zac e ?_)|(refine Zac (fun w' f=>ZbO 1 m w') ?_)|(refine Zac (fun w' f=>ZbO (a.tmod 400) m w') ?_)|(refine bx ?_;intro j)))|(apply RD_Q;rfl;rfl;decide +kernel;rfl;rfl;exact Zus)|refine walk1 ?_|(refine RD_G0w ?_;intro F;(first|(refine Zac e ?_)|(refine Zac (fun w' f=>ZbO 1 m w') ?_)|(refine Zac (fun w' f=>ZbO (a.tmod 400) m w') ?_));refine⟨_,EndsA,SubO.right _ _,?_⟩)|(refine RD_Lw ?_;intro F;(first|(refine Zac e ?_)|(refine Zac (fun w' f=>ZbO 1 m w') ?_)|(refine Zac (fun w' f=>ZbO (a.tmod 400) m w') ?_)|(refine bx ?_;intro j)|(apply Zam;first|exact Zpf|exact PuA));refine⟨_,EndsA,ZAC,?_⟩)|refine und ?_|(refine Zar rfl rfl rfl (fun g=>?_) (fun g=>?_))|(refine Za8 rfl rfl rfl (fun g=>?_) (fun g=>?_))|(refine Zaf rfl (fun g=>?_) (fun g=>?_)))
 all_goals exact clo1
end Go.Proofs.YtpipekfmecikmaaGreatDoor
namespace Go.Wk
open Go Go.RowKit
def kArr (p:Nat->Nat):List Value:=(List.range 256).map fun i => .int .u8 (p i)
theorem Zdf (p:Nat->Nat):(kArr p).length=256:=by simp[kArr]
theorem Zwl {p:Nat->Nat}{j:Nat}(a:j<256):(kArr p)[j]?=some (.int .u8 (p j)):=by simp[kArr,a]
theorem Zwk (p:Nat->Nat)(j v:Nat):(kArr p).set j (.int .u8 v)=kArr fun i=>if i=j then v else p i:=by
 apply List.ext_getElem
 ·simp[kArr]
 ·intro i a b
  simp only[kArr,List.getElem_set,List.getElem_map,List.getElem_range]
  by_cases h:j=i
  ·subst h;simp
  ·have:i≠j:=fun e=>h e.symm
   simp[h,this]
theorem ZdH {p q:Nat->Nat}(h:∀ i,i<256->p i=q i):kArr p=kArr q:=by
 unfold kArr
 apply List.map_congr_left
 intro i a
 rw[h i (List.mem_range.1 a)]
theorem ZpV (p:Nat->Nat):(kArr p).all Value.oneCell'=true:=by simp[kArr,Value.oneCell']
attribute [irreducible] kArr
theorem Zti:∀ (vs:List Value) (a cs:List Value),cs.length=vs.length->lay (a++cs) a.length vs=a++vs
 | [],a,cs,h=>by
  have:cs=[]:=List.eq_nil_of_length_eq_zero h
  rw[this];rfl
 | v::r,a,[],h=>by simp at h
 | v::r,a,c::cs,h=>by
  rw[lay,List.set_append_right _ _ (Nat.le_refl _),Nat.sub_self,List.set_cons_zero]
  have:=Zti r (a++[v]) cs (by simpa using h)
  rw[List.append_assoc,List.length_append]at this
  simpa using this
section
variable {P:Program}{n:Nat}{wr:World}{fr:Fr}{O:List It}{ty:TypeId}{pos:String}{af:Array Edge}
theorem ZrV {t sz b:Nat}{x:Operand}{cs:List Value}{c:TypeId}{R:List It}[Ty P t sz true](e:ev fr x=some (.pointer (some ⟨b,0,none⟩)))(d:Pick (.blk b cs c) O R)(a:cs.length=sz):Pu P n wr fr O (.load t x) ty (.agg cs.toArray) :=
 Znv e d (by simp[List.take_of_length_le (Nat.le_of_eq a)]) a
theorem ZgV {t:TypeId}{x z:Operand}{s:ByteArray}{c:IntKind}{j:Int}[hS:StringT P t](f:ev fr x=some (.string s))(g:ev fr z=some (.int c j))(i:0<=j)(d:j<=s.size) :
  Pu P n wr fr O (.slice t x none (some z) none) ty (.string (s.extract 0 j.toNat)):=fun a w b _ _ _ _=>by
 have h:(Instr.slice t (.string s) none (some (.int c j)) none).run P w = .ok (.string (s.extract 0 j.toNat)) w:=by
  have e:0<=j/\j<=(s.size:Int):=⟨by omega,d⟩
  simp[Instr.slice,Instr.sliceBounds,Instr.sliceBound,asIntOf,run_underlying hS.h,e]
 simp[execOp,b.sim.ev f,b.sim.ev g,Instr.sliceAt,run_underlying hS.h,h]
theorem ZgU {t:TypeId}{x y:Operand}{s:ByteArray}{k:IntKind}{i:Int}[hS:StringT P t](f:ev fr x=some (.string s))(g:ev fr y=some (.int k i))(c:0<=i)(d:i<=s.size) :
  Pu P n wr fr O (.slice t x (some y) none none) ty (.string (s.extract i.toNat s.size)):=fun a w b _ _ _ _=>by
 have h:(Instr.slice t (.string s) (some (.int k i)) none none).run P w = .ok (.string (s.extract i.toNat s.size)) w:=by
  have e:0<=i/\i<=(s.size:Int):=⟨c,d⟩
  simp[Instr.slice,Instr.sliceBounds,Instr.sliceBound,asIntOf,run_underlying hS.h,e]
 simp[execOp,b.sim.ev f,b.sim.ev g,Instr.sliceAt,run_underlying hS.h,h]
theorem Za2 {t:TypeId}{x a:Operand}{s:ByteArray}{h:IntKind}{i:Int}{c:UInt8}[hS:StringT P t](g:ev fr x=some (.string s))(f:ev fr a=some (.int h i))(b:0<=i)(d:i<s.size)(e:s.data.toList.getD i.toNat 0=c):Pu P n wr fr O (.index t x a) ty (.int .u8 c.toNat):=by
 subst e
 exact Znw g f b d
theorem ZgP {t b j v:Nat}{c:TypeId}{x y:Operand}{p:Nat->Nat}{O':List It}{a:Option Tmp}{g:Option (Nat × Bool)}{Kp:Value->List It->Prop}[Ty P t 1 false](d:ev fr x=some (.pointer (some ((⟨b,0,none⟩:Addr).add (j*1)))))(f:ev fr y=some (.int .u8 v))
  (e:Upd O (.blk b (kArr p) c) (.blk b (kArr fun i=>if i=j then v else p i) c) O') (h:j<256) (k:Kp undef O'):Stp P n wr fr O ⟨a,.store t x y,ty,pos,af,g⟩ Kp:=by
 rw[Zce,Nat.zero_add,Nat.mul_one]at d
 exact ZgQ (sz:=1) (v := .int .u8 v) (vs:=[.int .u8 v]) (j:=j) d f e rfl rfl rfl (by rw[Nat.ble_eq,Zdf];omega) (Zwk p j v) k
theorem Zhl {t b sz:Nat}{c:TypeId}{x y:Operand}{cs vs:List Value}{O':List It}{a:Option Tmp}{g:Option (Nat × Bool)}{Kp:Value->List It->Prop}[Ty P t sz true](h:ev fr x=some (.pointer (some ⟨b,0,none⟩)))(i:ev fr y=some (.agg vs.toArray))
  (f:Upd O (.blk b cs c) (.blk b vs c) O') (e:vs.length=sz) (j:cs.length=sz) (d:vs.all Value.oneCell'=true) (k:Kp undef O'):Stp P n wr fr O ⟨a,.store t x y,ty,pos,af,g⟩ Kp :=
 ZgQ (v := .agg vs.toArray) (vs:=vs) h i f rfl e d (by rw[Nat.ble_eq];omega) (Zti vs [] cs (by omega)) k
end
theorem Zaz.cells {base b:Nat}{cs:List Value}{t:TypeId}{O R:List It}{w:World}(h:Zaz base O w)(c:Pick (.blk b cs t) O R):Zas w ⟨b,0,none⟩ cs:=fun j v a=>by
 rw[Zce,ZcJ (h.sat _ (c.perm.mem_iff.2 List.mem_cons_self)),Nat.zero_add,a]
theorem ZvK:∀ a∈[0,1,2,4,8,16],∀ s:Fin 256,IntKind.u8.wrap ((BitVec.ofInt IntKind.u8.bits ((a:Nat):Int) &&& BitVec.ofInt IntKind.u8.bits ((s.val:Nat):Int)).toNat:Nat)=((a &&& s.val:Nat):Int):=by decide +kernel
theorem Znf (c:Nat):ZbR c∈[0,1,2,4,8,16]:=by
 unfold ZbR
 repeat' split
 all_goals decide
end Go.Wk
namespace Go.Proofs.YtpipekfmecikmaaGreatDoor
open Go Go.RowKit Go.Wk
attribute [local irreducible] W RL Does Zaq Zai retQ Calls Pu Stp RD Qy Ay Zaj
instance zeroKinds:ZeroT Tryz.prog 279 (kArr fun _=>0):=⟨by kernel_rfl⟩
def k1 (k i:Nat):Nat:=if (65<=i/\i<65+k)\/(97<=i/\i<97+k) then 1 else 0
def k2 (k i:Nat):Nat:=if 48<=i/\i<48+k then 2 else k1 26 i
theorem Zi7 {G:Prop}(h:G:=by(apply Zbv;rfl;rfl;omega;omega)):G:=h
theorem Zok (w:World):Does Tryz.prog 264 [] w (fun v O=>v = .agg (kArr ZbR).toArray/\O=[]):=by
 refine Zaa Tryz.func264 rfl rfl rfl rfl ?_
 repeat (first|(refine js ?_;(refine bx ?_;intro c))|refine ZlH ?_)
 rename_i d
 have m:kArr (k1 0)=kArr fun _=>0:=ZdH fun i _=>if_neg (by omega)
 rw[<- m]
 refine ZbY (fun fr' O'=>Go.Wk.Sub [(0,.pointer (some ⟨d,0,none⟩)),(1,.pointer (some ⟨c,0,none⟩))] fr'/\SubO [.blk c (kArr (k1 26)) 279,.blk d (kArr (k1 0)) 279] O') ?_ ?_
 ·apply W_block
  refine Zah [(0,.pointer (some ⟨d,0,none⟩)),(1,.pointer (some ⟨c,0,none⟩))] [.blk d (kArr (k1 0)) 279] (fun k:Nat=>[(4,.int .i64 k)]) (fun k=>[.blk c (kArr (k1 k)) 279]) (fun k=>k<=26) (fun k=>26 - k) 0 SFA SOA (Nat.zero_le _) ?_
  intro k r
  repeat (first|(apply RL_pu;rfl;exact Zi7)|(refine js ?_;(refine bx ?_;intro c))|refine walk1 ?_)
  refine Zaf rfl (fun h=>?_) (fun h=>?_)
  ·have g:=of_decide_eq_true h
   repeat (first|(apply RL_pu;rfl;exact Zi7)|(refine js ?_;(first|(apply ZgP;rfl;rfl;(focus repeat' constructor);omega)|(refine bx ?_;intro c)))|refine walk1 ?_)
   rw[ZdH (p:=fun i=>if i=(97+(k:Int)).toNat then 1 else if i=(65+(k:Int)).toNat then 1 else k1 k i) (q:=k1 (k+1)) (fun i j=>by
    unfold k1
    repeat' split
    all_goals omega)]
   exact⟨k+1,OA,OA,SFA,SOA⟩
  ·have g:=of_decide_eq_false h
   obtain rfl:k=26:=by omega
   repeat (first|(refine js ?_;(refine bx ?_;intro c))|refine walk ?_)
   exact⟨rfl,SFA,SOA⟩
 rintro fr' O' ⟨f,e⟩
 apply thenQ_n
 refine Zcz f e ?_
 clear f e fr' O'
 rw[show kArr (k1 26)=kArr (k2 0) from ZdH fun i _=>(if_neg (by omega)).symm]
 repeat (first|(refine js ?_;(refine bx ?_;intro c))|refine ZlH ?_)
 refine ZbY (fun fr' O'=>Go.Wk.Sub [(0,.pointer (some ⟨d,0,none⟩)),(1,.pointer (some ⟨c,0,none⟩))] fr'/\SubO [.blk c (kArr (k2 10)) 279,.blk d (kArr (k1 0)) 279] O') ?_ ?_
 ·apply W_block
  refine Zah [(0,.pointer (some ⟨d,0,none⟩)),(1,.pointer (some ⟨c,0,none⟩))] [.blk d (kArr (k1 0)) 279] (fun k:Nat=>[(14,.int .i64 k)]) (fun k=>[.blk c (kArr (k2 k)) 279]) (fun k=>k<=10) (fun k=>10 - k) 0 SFA SOA (Nat.zero_le _) ?_
  intro k r
  repeat (first|(apply RL_pu;rfl;exact Zi7)|(refine js ?_;(refine bx ?_;intro c))|refine walk1 ?_)
  refine Zaf rfl (fun h=>?_) (fun h=>?_)
  ·have g:=of_decide_eq_true h
   repeat (first|(apply RL_pu;rfl;exact Zi7)|(refine js ?_;(first|(apply ZgP;rfl;rfl;(focus repeat' constructor);omega)|(refine bx ?_;intro c)))|refine walk1 ?_)
   rw[ZdH (p:=fun i=>if i=(48+(k:Int)).toNat then 2 else k2 k i) (q:=k2 (k+1)) (fun i j=>by
    unfold k2
    repeat' split
    all_goals omega)]
   exact⟨k+1,OA,OA,SFA,SOA⟩
  ·have g:=of_decide_eq_false h
   obtain rfl:k=10:=by omega
   repeat (first|(refine js ?_;(refine bx ?_;intro c))|refine walk ?_)
   exact⟨rfl,SFA,SOA⟩
 rintro fr' O' ⟨f,e⟩
 apply thenQ_n
 refine Zcz f e ?_
 clear f e fr' O'
 repeat (first|(apply RL_pu;rfl;(first|exact Zi7|(apply ZrV;rfl;(focus repeat' constructor);exact Zdf _)))|(refine js ?_;(first|(apply ZgP;rfl;rfl;(focus repeat' constructor);omega)|(apply Zhl;rfl;rfl;(focus repeat' constructor);exact Zdf _;exact Zdf _;exact ZpV _)|(refine bx ?_;intro c)))|refine walk1 ?_)
 refine ret_1 _ [] (.cellB rfl (by repeat' constructor) (List.take_of_length_le (Nat.le_of_eq (Zdf _))) (Zdf _)) .nil ⟨?_,rfl⟩
 rw[ZdH (q:=ZbR) (fun i j=>by
    unfold ZbR k2 k1
    repeat' split
    all_goals omega)]
theorem Zky {G G':Prop}(k:G')(h:Hold G'->G:=by intro k9;(first|refine walk ?_|(refine jn ?_;(try intro F);(apply Zam;exact PuA);refine fin ?_));exact k9.out):G:=h ⟨k⟩
theorem Zvi {G:Prop}(h:G:=by(apply Pu_loadO1;rfl;first|exact h1 0 _ rfl|exact h2 0 _ rfl|exact h4 0 _ rfl)):G:=h
theorem Zpd {G:Prop}(h:G:=by(first|(apply Za2 (c:=c);rfl;rfl;omega;omega;exact hcd)|(apply Zbv;rfl;rfl;omega;omega)|(apply Pu_loadO1';rfl;exact h3;exact hcell)|(apply Pu_loadO1;rfl;exact h4 0 _ rfl)|(apply ZAJ;rfl;rfl))):G:=h
theorem ZAz {G:Prop}(h:G:=by first|(apply Qy_y;rfl;exact Zpd)|exact QyA):G:=h
theorem Zwb (s:ByteArray)(a b m H I x y:Nat)(T:(s.size:Int)<=9223372036854775807)(N:m<256)(w:World)(h1:Zas w ⟨H,0,none⟩ [.int .i64 a])(h2:Zas w ⟨I,0,none⟩ [.int .i64 b])(h3:Zas w ⟨x,0,none⟩ (kArr ZbR))(h4:Zas w ⟨y,0,none⟩ [.int .u8 m]) :
  Does Tryz.prog 265 [.string s,.pointer (some ⟨H,0,none⟩),.pointer (some ⟨I,0,none⟩),.pointer (some ⟨x,0,none⟩),.pointer (some ⟨y,0,none⟩)] w (fun v O=>v = .bool (Zb1 a b m s.data.toList)/\O=[]):=by
 have e:s.data.toList.length=s.size:=rfl
 have J:∀ j,s.data.toList.getD j 0=(s.data.toList[j]?).getD 0:=fun j=>by rw[List.getD_eq_getElem?_getD]
 refine Zaa Tryz.func265 rfl rfl rfl rfl ?_
 rw[Zb1,e]
 obtain⟨l,u⟩:∃ l,l=s.data.toList:=⟨_,rfl⟩
 rw[<- u]at e J ⊢
 repeat' (first|(apply RL_pu;rfl;exact Zvi)|(apply RD_Q;rfl;rfl;decide +kernel;rfl;rfl;exact QyName2)|refine walk1 ?_|(refine RD_Lw ?_;intro F;(apply Zam;first|exact Zvi|exact PuA);refine⟨_,EndsA,QFName2,?_⟩)|refine und ?_|(refine Zar rfl rfl rfl (fun f=>?_) (fun f=>?_))|(refine Za8 rfl rfl rfl (fun f=>?_) (fun f=>?_))|(refine Zaf rfl (fun f=>?_) (fun f=>?_)))
 ·have h:=of_decide_eq_true f
  exact ret_1 _ [] (.tmp rfl) .nil ⟨by rw[decide_eq_false (show ¬ a<=s.size by omega)];rfl,rfl⟩
 ·have h:=of_decide_eq_true f
  exact ret_1 _ [] (.tmp rfl) .nil ⟨by rw[decide_eq_false (show ¬ s.size<=b by omega),Bool.and_false];rfl,rfl⟩
 rename_i z
 have Q:=of_decide_eq_false z
 have R:=of_decide_eq_false f
 rw[decide_eq_true (show a<=s.size by omega),decide_eq_true (show s.size<=b by omega),Bool.true_and,Bool.true_and]
 refine Zah [(0,.string s),(3,.pointer (some ⟨x,0,none⟩)),(4,.pointer (some ⟨y,0,none⟩)),(19,.int .i64 s.size)] [] (fun k:Nat=>[(20,.int .i64 k)]) (fun _=>[]) (fun k=>k<=s.size/\ZbK m (l.take k)=true) (fun k=>s.size - k) 0 SFA .nil ⟨Nat.zero_le _,rfl⟩ ?_
 rintro k ⟨S,hok⟩
 repeat refine Zky ?_
 refine Zaf rfl (fun h=>?_) (fun h=>?_)
 ·have M:=of_decide_eq_true h
  have g:k<l.length:=by omega
  have L:l.getD k 0=l[k]:=by rw[J,List.getElem?_eq_getElem g];rfl
  have t:=UInt8.toNat_lt (l.getD k 0)
  have hcell:=Zwl (p:=ZbR) t
  have D:=ZvK (ZbR (l.getD k 0).toNat) (Znf _) ⟨m,N⟩
  have d:ZbK m (l.take (k+1))=(ZbK m (l.take k)&&!decide (ZbR (l.getD k 0).toNat &&& m=0)):=by
   rw[ZbK,List.take_succ_eq_append_getElem g,List.all_append,L]
   simp[ZbK]
  have r:ZbK m l=(ZbK m (l.take (k+1))&&ZbK m (l.drop (k+1))):=by
   rw[ZbK,ZbK,ZbK,<- List.all_append,List.take_append_drop]
  rw[hok,Bool.true_and]at d
  obtain⟨c,hcd⟩:∃ c,s.data.toList.getD k 0=c:=⟨_,rfl⟩
  rw[u,hcd]at t hcell D
  rw[u]at d
  rw[hcd,<- u]at d
  rw[<- Nat.mul_one c.toNat]at hcell
  rw[show ZbR (c.toNat*1)=ZbR c.toNat by rw[Nat.mul_one]]at hcell
  simp only at D
  repeat (first|(apply RL_pu;rfl;exact Zpd)|(apply RD_Q;rfl;rfl;decide +kernel;rfl;rfl;exact ZAz)|refine walk1 ?_|(refine jn ?_;(try intro F);(apply Zam;first|exact Zpd|exact PuA);first|refine⟨_,EndsA,QFName3,?_⟩|refine fin ?_))
  rw[D]
  refine Zaf rfl (fun E=>?_) (fun E=>?_)
  ·have K:=of_decide_eq_true E
   have q:ZbR c.toNat &&& m=0:=by omega
   rw[r,d,decide_eq_true q]
   repeat refine Zky ?_
   exact rtA
  ·have K:=of_decide_eq_false E
   have q:¬ ZbR c.toNat &&& m=0:=by omega
   rw[decide_eq_false q]at d
   repeat refine Zky ?_
   exact⟨k+1,OA,⟨OA,d⟩,SFA,.nil⟩
 ·have h1:=of_decide_eq_false h
  obtain rfl:k=s.size:=by omega
  rw[<- e,List.take_length]at hok
  repeat refine Zky ?_
  exact ret_1 _ [] (.tmp rfl) .nil ⟨by rw[hok],rfl⟩
def ofV (b1 b2 b3 b4:Nat):Value := .func (.func 265) #[] #[.pointer (some ⟨b1,0,none⟩),.pointer (some ⟨b2,0,none⟩),.pointer (some ⟨b3,0,none⟩),.pointer (some ⟨b4,0,none⟩)]
def ofO (a b m b1 b2 b3 b4:Nat):List It:=[.blk b1 [.int .i64 a] 3,.blk b2 [.int .i64 b] 3,.blk b3 (kArr ZbR) 279,.blk b4 [.int .u8 m] 5]
theorem ZfW (a b m:Nat)(w:World):Does Tryz.prog 215 [.int .i64 a,.int .i64 b,.int .u8 m] w (fun v O=>∃ c d e f,v=ofV c d e f/\O=ofO a b m c d e f):=by
 refine Zaa Tryz.func215 rfl rfl rfl rfl ?_
 repeat (first|(refine js ?_;(first|(refine Zac (fun w' _=>Zok w') ?_)|(apply Zhl;rfl;rfl;(focus repeat' constructor);exact Zdf _;exact Zdf _;exact ZpV _)|(refine bx ?_;intro g)))|refine walk ?_)
 exact ret_1 _ _ (.tmp rfl) SOA ⟨_,_,_,_,rfl,rfl⟩
theorem ZkN {base:Nat}{s:ByteArray}{a b m c d e f:Nat}{O:List It}{w:World}(k:(s.size:Int)<=9223372036854775807)(j:m<256)(g:Zaz base O w)(i:SubO (ofO a b m c d e f) O) :
  Does Tryz.prog 265 ([]++[.string s]++[.pointer (some ⟨c,0,none⟩),.pointer (some ⟨d,0,none⟩),.pointer (some ⟨e,0,none⟩),.pointer (some ⟨f,0,none⟩)]) w (fun v O=>v = .bool (Zb1 a b m s.data.toList)/\O=[]):=by
 have h:=g.sub i
 unfold ofO at h
 exact Zwb s a b m c d e f k j w (h.cells (by repeat' constructor)) (h.cells (by repeat' constructor)) (h.cells (by repeat' constructor)) (h.cells (by repeat' constructor))
theorem Zoq (s:ByteArray)(j:(s.size:Int)<=9223372036854775807)(w:World):Does Tryz.prog 399 [.string s] w (fun v O=>v = .bool (ZeF s)/\O=[]):=by
 refine Zaa Tryz.func399 rfl rfl rfl rfl ?_
 repeat (first|(refine js ?_;(first|(apply Zad (h:=fun w' _ _=>ZfW 1 4 1 w');rfl;rintro v O' ⟨c,d,e,g,rfl,rfl⟩)|(apply Zav (f:=265) (us:=[]) (vs:=[.string s]) (cs:=[.pointer (some ⟨c,0,none⟩),.pointer (some ⟨d,0,none⟩),.pointer (some ⟨e,0,none⟩),.pointer (some ⟨g,0,none⟩)]) (h:=fun w' _ i=>ZkN (a:=1) (b:=4) (m:=1) j (by decide) i (by exact .refl _));rfl;rfl;rintro v O' ⟨rfl,rfl⟩)))|refine walk ?_)
 exact rtA
theorem Zgi (s:ByteArray)(j:(s.size:Int)<=9223372036854775807)(w:World):Does Tryz.prog 150 [.string s] w (fun v O=>v = .bool (Zhq s)/\O=[]):=by
 refine Zaa Tryz.func150 rfl rfl rfl rfl ?_
 repeat (first|(refine js ?_;(first|(apply Zad (h:=fun w' _ _=>ZfW 3 6 1 w');rfl;rintro v O' ⟨c,d,e,g,rfl,rfl⟩)|(apply Zav (f:=265) (us:=[]) (vs:=[.string s]) (cs:=[.pointer (some ⟨c,0,none⟩),.pointer (some ⟨d,0,none⟩),.pointer (some ⟨e,0,none⟩),.pointer (some ⟨g,0,none⟩)]) (h:=fun w' _ i=>ZkN (a:=3) (b:=6) (m:=1) j (by decide) i (by exact .refl _));rfl;rfl;rintro v O' ⟨rfl,rfl⟩)))|refine walk ?_)
 exact rtA
end Go.Proofs.YtpipekfmecikmaaGreatDoor
namespace Go.Wk
open Go Go.RowKit
theorem ZgC {a b m:Nat}{s:ByteArray}(h:Zb1 a b m s.data.toList=true):(a:Int)<=s.size/\(s.size:Int)<=b:=by
 simp only[Zb1,Bool.and_eq_true,decide_eq_true_eq]at h
 have:s.data.toList.length=s.size:=rfl
 omega
theorem ext1 (s:ByteArray):(s.extract 0 1).data.toList=s.data.toList.take 1:=by
 rw[ByteArray.data_extract];simp
end Go.Wk
namespace Go.Proofs.YtpipekfmecikmaaGreatDoor
open Go Go.RowKit Go.Wk
attribute [local irreducible] W RL Does Zaq Zai retQ Calls Pu Stp RD Qy Ay Zaj Zb1
theorem ZpQ {base:Nat}{s:ByteArray}{a b m c d e f:Nat}{O:List It}{w:World}(n:(s.size:Int)<=9223372036854775807)(l:m<256)(j:Zaz base O w)(k:SubO (ofO a b m c d e f) O) :
  Does Tryz.prog 265 ([]++[.string s]++[.pointer (some ⟨c,0,none⟩),.pointer (some ⟨d,0,none⟩),.pointer (some ⟨e,0,none⟩),.pointer (some ⟨f,0,none⟩)]) w (fun v O=>∃ x,Zb1 a b m s.data.toList=x/\v = .bool x/\O=[]) :=
 (ZkN n l j k).monoO fun v O ⟨g,i⟩=>⟨O,⟨_,rfl,g,i⟩,fun _ _ h=>h⟩
theorem Zlu {G:Prop}(h:G:=by(apply ZgV;rfl;rfl;decide;exact hsz)):G:=h
theorem Zql {G:Prop}(h:G:=by first|(apply Qy_y;rfl;exact Zlu)|exact QyA):G:=h
theorem ZwU {G:Prop}(h:G:=by repeat (first|exact QF.nil|(apply QF.mk;rfl;rfl;decide +kernel;exact Zql))):G:=h
theorem ZvU (s:ByteArray)(x:(s.size:Int)<=9223372036854775807)(w:World):Does Tryz.prog 175 [.string s] w (fun v O=>v = .bool (setB s)/\O=[]):=by
 have t:((s.extract 0 1).size:Int)<=9223372036854775807:=by rw[ByteArray.size_extract];omega
 refine Zaa Tryz.func175 rfl rfl rfl rfl ?_
 repeat (first|refine walk ?_|(refine jn ?_;(try intro F);(first|(apply Zad (h:=fun w' _ _=>ZfW 1 30 15 w');rfl;rintro v O' ⟨d,g,j,p,rfl,rfl⟩)|(apply Zav (f:=265) (us:=[]) (vs:=[.string (s)]) (cs:=[.pointer (some ⟨d,0,none⟩),.pointer (some ⟨g,0,none⟩),.pointer (some ⟨j,0,none⟩),.pointer (some ⟨p,0,none⟩)]) (h:=fun w' _ q=>ZpQ (a:=1) (b:=30) (m:=15) x (by decide) q SOA);rfl;rfl;rintro v O' ⟨y,c,rfl,rfl⟩)|(apply Zam;exact PuA));refine fin ?_))
 refine Za8 rfl rfl rfl (fun r=>?_) (fun r=>?_)
 ·subst r
  have hsz:=(ZgC c).1
  have e:setB s=Zb1 1 1 1 (s.extract 0 1).data.toList:=by rw[setB,c,ext1];rfl
  rw[e]
  repeat (first|(apply RL_pu;rfl;exact Zlu)|(apply RD_Q;rfl;rfl;decide +kernel;rfl;rfl;exact Zql)|refine walk1 ?_|(refine jn ?_;(try intro F);(first|(apply Zad (h:=fun w' _ _=>ZfW 1 1 1 w');rfl;rintro v O' ⟨d,g,j,p,rfl,rfl⟩)|(apply Zav (f:=265) (us:=[]) (vs:=[.string (s.extract 0 1)]) (cs:=[.pointer (some ⟨d,0,none⟩),.pointer (some ⟨g,0,none⟩),.pointer (some ⟨j,0,none⟩),.pointer (some ⟨p,0,none⟩)]) (h:=fun w' _ q=>ZpQ (a:=1) (b:=1) (m:=1) t (by decide) q SOA);rfl;rfl;rintro v O' ⟨z,u,rfl,rfl⟩)|(apply Zam;first|exact Zlu|exact PuA));first|refine⟨_,EndsA,ZwU,?_⟩|refine fin ?_))
  exact ret_1 _ [] (.tmp rfl) .nil ⟨by rw[u],rfl⟩
 ·subst r
  have e:setB s=false:=by rw[setB,c];rfl
  rw[e]
  repeat (first|refine walk ?_|(refine jn ?_;(try intro F);(apply Zam;exact PuA);refine fin ?_))
  exact rtA
end Go.Proofs.YtpipekfmecikmaaGreatDoor
namespace Go.Wk
open Go Go.RowKit
def Zc2 (r:DRule)(least:Int):Nat->Bool
 | 0=>ZbE r.from_&&(ZbE r.to||decide (r.to=1048576))
 | 1=>decide (r.from_<=r.to)
 | 2=>Zb9 r.from_ r.to r.month r.day
 | 3=>Zee r.at_ least
 | 4=>decide (-10800<=r.save)&&decide (r.save<=10800)
 | _=>decide (r.letter=ByteArray.empty)||ZeF r.letter
theorem Zhy {P:Program}{n:Nat}{wr:World}{fr:Fr}{O:List It}{ty t t':TypeId}{x y:Operand}{i j m:Int}(b:ev fr x=some (.int .i64 i))(c:ev fr y=some (.int .i64 j))(a:IntKind.i64.wrap (i+j)=m):Pu P n wr fr O (.binOp .add t x y t') ty (.int .i64 m):=a▸Zls b c
end Go.Wk
namespace Go.Proofs.YtpipekfmecikmaaGreatDoor
open Go Go.RowKit Go.Wk
attribute [local irreducible] W RL Does Zaq Zai retQ Calls Pu Stp RD Qy Ay Zaj Zb1
theorem Zh8 (y:Int)(w:World):Does Tryz.prog 391 [.int .i64 y] w (fun v O=>v = .bool (ZbE y)/\O=[]):=by
 refine Zaa Tryz.func391 rfl rfl rfl rfl ?_
 repeat' (first|refine walk ?_|refine und ?_|(refine Zar rfl rfl rfl (fun a=>?_) (fun a=>?_))|(refine Za8 rfl rfl rfl (fun a=>?_) (fun a=>?_))|(refine Zaf rfl (fun a=>?_) (fun a=>?_)))
 all_goals first|(refine ret_1 _ [] (.tmp rfl) .nil ⟨?_,rfl⟩;first|rfl|(simp only[*,Bool.true_and,Bool.false_and,Bool.true_or,Bool.false_or,Bool.not_true,Bool.not_false];done)|(simp_all [ZbE];done)|(simp_all [ZbE];omega)|(simp_all [ZbE];rw[Bool.eq_iff_iff];simp;omega))|(exfalso;simp_all [ZbE];done)|(exfalso;simp_all [ZbE];omega)|(exfalso;omega)
theorem ZqR (c:DClock)(least:Int)(r : -9223372036854775808<=least/\least<=0)(w:World):Does Tryz.prog 396 [.agg (DClock.enc c).toArray,.int .i64 least] w (fun v O=>v = .bool (Zee c least)/\O=[]):=by
 by_cases a:ZaK c=true
 ·have q : -604799<=c.sec/\c.sec<=604799:=by
   simp only[ZaK,Bool.and_eq_true,decide_eq_true_eq]at a
   omega
  obtain⟨m,g⟩:∃ m,IntKind.i64.wrap (c.sec+least)=m:=⟨_,rfl⟩
  have f:(decide (-86400<=m)&&decide (m<=172800))=(decide (-86400<=c.sec+least)&&decide (c.sec+least<=172800)):=by
   have p:IntKind.i64.wrap (c.sec+least)=if c.sec+least < -9223372036854775808 then c.sec+least+18446744073709551616 else c.sec+least:=by
    rw[IntKind.wrap_i64]
    repeat' split
    all_goals omega
   rw[p]at g
   rw[Bool.eq_iff_iff]
   simp only[Bool.and_eq_true,decide_eq_true_eq]
   split at g <;> omega
  have i:Zee c least=(ZaK c&&(if c.base=1 then (decide (-86400<=m)&&decide (m<=172800)) else (decide (-86400<=c.sec)&&decide (c.sec<=172800)))):=by
   unfold Zee
   dsimp only
   congr 1
   by_cases e:c.base=1
   ·rw[if_pos e,if_pos e,f]
   ·rw[if_neg e,if_neg e]
  rw[i]
  clear i f
  have d:=Zd6 c
  rw[a]at d ⊢
  obtain⟨s,b⟩:=c
  simp only at *
  show Does _ _ [.agg #[.int .i64 s,.int .i64 b],.int .i64 least] w _
  refine Zaa Tryz.func396 rfl rfl rfl rfl ?_
  repeat' (first|(apply RL_pu;rfl;(apply Zhy;rfl;rfl;exact g))|(refine js ?_;(first|(refine Zac (fun w' _=>d w') ?_)|(refine bx ?_;intro j)))|refine walk1 ?_|refine und ?_|(refine Zar rfl rfl rfl (fun a=>?_) (fun a=>?_))|(refine Za8 rfl rfl rfl (fun a=>?_) (fun a=>?_))|(refine Zaf rfl (fun a=>?_) (fun a=>?_)))
  all_goals exact clo1
 ·unfold Zee
  have d:=Zd6 c
  rw[Bool.not_eq_true]at a
  rw[a]at d ⊢
  obtain⟨s,b⟩:=c
  simp only at *
  show Does _ _ [.agg #[.int .i64 s,.int .i64 b],.int .i64 least] w _
  refine Zaa Tryz.func396 rfl rfl rfl rfl ?_
  repeat' (first|(refine js ?_;(first|(refine Zac (fun w' _=>d w') ?_)|(refine bx ?_;intro j)))|refine walk ?_|refine und ?_|(refine Zar rfl rfl rfl (fun a=>?_) (fun a=>?_))|(refine Za8 rfl rfl rfl (fun a=>?_) (fun a=>?_))|(refine Zaf rfl (fun a=>?_) (fun a=>?_)))
  all_goals exact clo1
theorem ZrL (r:DRule)(least:Int)(w:World):Does Tryz.prog 390 [.agg (DRule.enc r).toArray,.int .i64 least] w (fun v O=>v = .bool (Zc2 r least 0)/\O=[]):=by
 unfold Zc2
 have e:=Zh8 r.from_
 have f:=Zh8 r.to
 generalize ZbE r.from_=x1 at *
 generalize ZbE r.to=x2 at *
 obtain⟨i,fr,to,g,⟨c,d,dd⟩,⟨cs,b⟩,sv,le⟩:=r
 simp only at *
 show Does _ _ [.agg #[.string i,.int .i64 fr,.int .i64 to,.int .i64 g,.int .i64 c,.int .i64 d,.int .i64 dd,.int .i64 cs,.int .i64 b,.int .i64 sv,.string le],.int .i64 least] w _
 refine Zaa Tryz.func390 rfl rfl rfl rfl ?_
 repeat' (first|(refine js ?_;(first|(refine Zac (fun w' _=>e w') ?_)|(refine Zac (fun w' _=>f w') ?_)|(refine bx ?_;intro j)))|refine walk ?_|refine und ?_|(refine Zar rfl rfl rfl (fun a=>?_) (fun a=>?_))|(refine Za8 rfl rfl rfl (fun a=>?_) (fun a=>?_))|(refine Zaf rfl (fun a=>?_) (fun a=>?_)))
 all_goals exact clo1
theorem ZrK (r:DRule)(least:Int)(w:World):Does Tryz.prog 392 [.agg (DRule.enc r).toArray,.int .i64 least] w (fun v O=>v = .bool (Zc2 r least 1)/\O=[]):=by
 unfold Zc2
 obtain⟨f,fr,g,e,⟨b,c,dd⟩,⟨cs,a⟩,sv,le⟩:=r
 simp only at *
 show Does _ _ [.agg #[.string f,.int .i64 fr,.int .i64 g,.int .i64 e,.int .i64 b,.int .i64 c,.int .i64 dd,.int .i64 cs,.int .i64 a,.int .i64 sv,.string le],.int .i64 least] w _
 refine Zaa Tryz.func392 rfl rfl rfl rfl ?_
 repeat' (first|(refine js ?_;(refine bx ?_;intro i))|refine walk ?_|(refine Zaf rfl (fun d=>?_) (fun d=>?_)))
 all_goals exact clo1
theorem ZrJ (r:DRule)(least:Int)(w:World)(e:Glob w):Does Tryz.prog 393 [.agg (DRule.enc r).toArray,.int .i64 least] w (fun v O=>v = .bool (Zc2 r least 2)/\O=[]):=by
 unfold Zc2
 have d:=fun w' g=>ZoX r.from_ r.to r.month r.day w' (Glob.up (w':=w') e g)
 generalize Zb9 r.from_ r.to r.month r.day=x1 at *
 obtain⟨j,fr,to,i,⟨b,c,dd⟩,⟨cs,a⟩,sv,le⟩:=r
 simp only at *
 show Does _ _ [.agg #[.string j,.int .i64 fr,.int .i64 to,.int .i64 i,.int .i64 b,.int .i64 c,.int .i64 dd,.int .i64 cs,.int .i64 a,.int .i64 sv,.string le],.int .i64 least] w _
 refine Zaa Tryz.func393 rfl rfl rfl rfl ?_
 repeat' (first|(refine js ?_;(first|(refine Zac d ?_)|(refine bx ?_;intro m)))|refine walk ?_|(refine Zaf rfl (fun f=>?_) (fun f=>?_)))
 all_goals exact clo1
theorem ZrI (r:DRule)(least:Int)(f : -9223372036854775808<=least/\least<=0)(w:World):Does Tryz.prog 395 [.agg (DRule.enc r).toArray,.int .i64 least] w (fun v O=>v = .bool (Zc2 r least 3)/\O=[]):=by
 unfold Zc2
 have d:=ZqR r.at_ least f
 generalize Zee r.at_ least=x1 at *
 obtain⟨i,fr,j,g,⟨b,c,dd⟩,⟨cs,a⟩,sv,le⟩:=r
 simp only at *
 show Does _ _ [.agg #[.string i,.int .i64 fr,.int .i64 j,.int .i64 g,.int .i64 b,.int .i64 c,.int .i64 dd,.int .i64 cs,.int .i64 a,.int .i64 sv,.string le],.int .i64 least] w _
 refine Zaa Tryz.func395 rfl rfl rfl rfl ?_
 repeat' (first|(refine js ?_;(first|(refine Zac (fun w' p=>d w') ?_)|(refine bx ?_;intro m)))|refine walk ?_|(refine Zaf rfl (fun e=>?_) (fun e=>?_)))
 all_goals exact clo1
theorem ZrH (r:DRule)(least:Int)(w:World):Does Tryz.prog 397 [.agg (DRule.enc r).toArray,.int .i64 least] w (fun v O=>v = .bool (Zc2 r least 4)/\O=[]):=by
 unfold Zc2
 obtain⟨f,fr,g,e,⟨c,d,dd⟩,⟨cs,b⟩,sv,le⟩:=r
 simp only at *
 show Does _ _ [.agg #[.string f,.int .i64 fr,.int .i64 g,.int .i64 e,.int .i64 c,.int .i64 d,.int .i64 dd,.int .i64 cs,.int .i64 b,.int .i64 sv,.string le],.int .i64 least] w _
 refine Zaa Tryz.func397 rfl rfl rfl rfl ?_
 repeat' (first|(refine js ?_;(refine bx ?_;intro i))|refine walk ?_|refine und ?_|(refine Zar rfl rfl rfl (fun a=>?_) (fun a=>?_))|(refine Za8 rfl rfl rfl (fun a=>?_) (fun a=>?_))|(refine Zaf rfl (fun a=>?_) (fun a=>?_)))
 all_goals exact clo1
theorem ZrG (r:DRule)(least:Int)(f:(r.letter.size:Int)<=9223372036854775807)(w:World):Does Tryz.prog 398 [.agg (DRule.enc r).toArray,.int .i64 least] w (fun v O=>v = .bool (Zc2 r least 5)/\O=[]):=by
 unfold Zc2
 rw[show ByteArray.empty=⟨#[]⟩ from rfl]
 have e:=Zoq r.letter f
 generalize ZeF r.letter=x1 at *
 obtain⟨i,fr,j,g,⟨c,d,dd⟩,⟨cs,b⟩,sv,le⟩:=r
 simp only at *
 show Does _ _ [.agg #[.string i,.int .i64 fr,.int .i64 j,.int .i64 g,.int .i64 c,.int .i64 d,.int .i64 dd,.int .i64 cs,.int .i64 b,.int .i64 sv,.string le],.int .i64 least] w _
 refine Zaa Tryz.func398 rfl rfl rfl rfl ?_
 repeat' (first|(refine js ?_;(first|(refine Zac (fun w' p=>e w') ?_)|(refine bx ?_;intro m)))|refine walk ?_|refine und ?_|(refine Zar rfl rfl rfl (fun a=>?_) (fun a=>?_))|(refine Za8 rfl rfl rfl (fun a=>?_) (fun a=>?_))|(refine Zaf rfl (fun a=>?_) (fun a=>?_)))
 all_goals exact clo1
theorem ZjC (r:DRule)(w:World):Does Tryz.prog 273 [.agg (DRule.enc r).toArray] w (fun v O=>v = .bool (Zg9 r)/\O=[]):=by
 unfold Zg9
 obtain⟨f,fr,g,e,⟨c,d,dd⟩,⟨cs,b⟩,sv,le⟩:=r
 simp only at *
 show Does _ _ [.agg #[.string f,.int .i64 fr,.int .i64 g,.int .i64 e,.int .i64 c,.int .i64 d,.int .i64 dd,.int .i64 cs,.int .i64 b,.int .i64 sv,.string le]] w _
 refine Zaa Tryz.func273 rfl rfl rfl rfl ?_
 repeat' (first|(apply RL_pu;rfl;(apply Pu_rem;rfl;rfl;decide))|(refine js ?_;(refine bx ?_;intro i))|refine walk1 ?_|refine und ?_|(refine Zar rfl rfl rfl (fun a=>?_) (fun a=>?_))|(refine Za8 rfl rfl rfl (fun a=>?_) (fun a=>?_))|(refine Zaf rfl (fun a=>?_) (fun a=>?_)))
 all_goals exact clo1
theorem ZcP (A:Option Addr)(c:Nat)(l:List DRule)(w:World)(f:RdSl w A c DRule.enc 11 l):Does Tryz.prog 121 [.slice A l.length c] w (fun v O=>v = .int .i64 (Zae l)/\O=[]):=by
 have q:=f.le
 have i:=f.cap
 unfold maxLen at i
 generalize hres:Zae l=res
 unfold Zae at hres
 refine Zaa Tryz.func121 rfl rfl rfl rfl ?_
 repeat (first|(refine js ?_;(refine bx ?_;intro e))|refine walk ?_)
 refine Zah [(6,_),(7,_)] [] (fun g:Nat × Int=>[(3,.int .i64 g.2),(8,.int .i64 g.1)]) (fun _=>[]) (fun g=>g.1<=l.length/\(l.drop g.1).foldl (fun m r=>min m r.save) g.2=res) (fun g=>l.length - g.1) (0,0) SFA SOA ⟨Nat.zero_le _,hres⟩ ?_
 rintro⟨k,m⟩ ⟨hk,hi⟩
 dsimp only at hk hi ⊢
 repeat (first|(refine js ?_;(refine bx ?_;intro e))|refine walk ?_)
 refine Zaf rfl (fun h=>?_) (fun h=>?_)
 ·have d:k<l.length:=by simpa using h
  obtain⟨hna,hca⟩:=f.rd k _ (List.getElem?_eq_getElem d)
  rw[Zag d]at hi
  generalize l[k]=r at *
  obtain⟨y,fr,z,x,⟨t,u,dd⟩,⟨cs,s⟩,sv,le⟩:=r
  simp only[DRule.enc,List.foldl_cons]at hca hi
  repeat (first|(apply RL_pu;rfl;(first|exact PuI|(apply ZfB;rfl;rfl)))|(refine js ?_;(refine bx ?_;intro e))|refine walk1 ?_)
  rw[show(if sv<m then sv else m)=min m sv by split <;> omega]
  exact⟨(k+1,min m sv),OA,⟨OA,hi⟩,SFA,.nil⟩
 ·have j:k=l.length:=by
   have:=of_decide_eq_false h
   omega
  subst j
  rw[List.drop_length]at hi
  repeat (first|(refine js ?_;(refine bx ?_;intro e))|refine walk ?_)
  exact ret_1 _ [] (.tmp rfl) .nil ⟨by rw[<- hi];rfl,rfl⟩
theorem ZjH (A:Option Addr)(c:Nat)(l:List DRule)(w:World)(q:RdSl w A c DRule.enc 11 l):Does Tryz.prog 179 [.slice A l.length c] w (fun v O=>v = .tuple #[.int .i64 (ZbV l).1,.bool (ZbV l).2]/\O=[]):=by
 have x:=q.le
 have s:=q.cap
 unfold maxLen at s
 generalize hres:ZbV l=res
 unfold ZbV at hres
 refine Zaa Tryz.func179 rfl rfl rfl rfl ?_
 repeat (first|(refine js ?_;(refine bx ?_;intro f))|refine walk ?_)
 refine Zah [(7,_),(8,_)] [] (fun g:Nat × Int=>[(4,.int .i64 g.2),(9,.int .i64 g.1)]) (fun _=>[]) (fun g=>g.1<=l.length/\Zci (l.drop g.1) g.2=res) (fun g=>l.length - g.1) (0,0) SFA SOA ⟨Nat.zero_le _,hres⟩ ?_
 rintro⟨k,m⟩ ⟨hk,hi⟩
 dsimp only at hk hi ⊢
 repeat (first|(refine js ?_;(refine bx ?_;intro f))|refine walk ?_)
 refine Zaf rfl (fun h=>?_) (fun h=>?_)
 ·have i:k<l.length:=by simpa using h
  obtain⟨hna,hca⟩:=q.rd k _ (List.getElem?_eq_getElem i)
  rw[Zag i,Zci]at hi
  generalize l[k]=r at *
  obtain⟨D,fr,E,C,⟨z,B,dd⟩,⟨cs,y⟩,sv,le⟩:=r
  simp only[DRule.enc]at hca hi
  repeat (first|(apply RL_pu;rfl;exact PuI)|(refine js ?_;(refine bx ?_;intro f))|refine walk1 ?_)
  refine Zaf rfl (fun j=>?_) (fun j=>?_)
  ·rw[if_pos (of_decide_eq_true j)]at hi
   repeat (first|(refine js ?_;(refine bx ?_;intro f))|refine walk ?_)
   exact⟨(k+1,m),OA,⟨OA,hi⟩,SFA,.nil⟩
  rw[if_neg (of_decide_eq_false j)]at hi
  repeat' (first|(refine js ?_;(refine bx ?_;intro f))|refine walk ?_|refine und ?_|(refine Zar rfl rfl rfl (fun d=>?_) (fun d=>?_))|(refine Za8 rfl rfl rfl (fun d=>?_) (fun d=>?_))|(refine Zaf rfl (fun d=>?_) (fun d=>?_)))
  ·rename_i u
   simp only[Bool.not_eq_true',decide_eq_false_iff_not]at u d
   rw[if_pos ⟨u,d⟩]at hi
   exact ret_2 _ _ [] (.tmp rfl) (.tmp rfl) .nil ⟨by rw[<- hi],rfl⟩
  ·simp only[Bool.not_eq_false',decide_eq_true_eq]at d
   rw[if_neg (fun e=>e.2 d)]at hi
   exact⟨(k+1,sv),OA,⟨OA,hi⟩,SFA,.nil⟩
  ·simp only[Bool.not_eq_false',decide_eq_true_eq]at d
   rw[if_neg (fun e=>e.1 d)]at hi
   exact⟨(k+1,sv),OA,⟨OA,hi⟩,SFA,.nil⟩
 ·have t:k=l.length:=by
   have:=of_decide_eq_false h
   omega
  subst t
  rw[List.drop_length,Zci]at hi
  repeat (first|(refine js ?_;(refine bx ?_;intro f))|refine walk ?_)
  exact ret_2 _ _ [] (.tmp rfl) (.tmp rfl) .nil ⟨by rw[<- hi],rfl⟩
end Go.Proofs.YtpipekfmecikmaaGreatDoor
namespace Go.Wk
open Go Go.RowKit
section
variable {P:Program}{n:Nat}{wr:World}{fr:Fr}{O:List It}{Q:Exit->Fr->List It->Prop}
def RW (P:Program)(n:Nat)(wr:World)(c:Code)(Q:Exit->Fr->List It->Prop):Nat->Fr->List It->Prop
 | 0,_,_=>False
 | k+1,fr,O=>W P n wr c (Zaq (RW P n wr c Q k) Q) fr O
theorem Znp {c:Code}:∀ (k:Nat) (fr:Fr) (O:List It),RW P n wr c Q k fr O->∀ a w,St n wr fr O a w->Code.rounds P c (lift n wr Q) k a w
 | 0,_,_,h,_,_,_=>h
 | k+1,fr,O,h,a,w,hs=>by
  rw[rounds_succ]
  refine wp_mono (h a w hs) ?_
  rintro e f w' ⟨fr',O',b,d⟩
  cases e with
  | normal=>exact Znp k fr' O' d f w' b
  | _=>exact⟨fr',O',b,d⟩
theorem Zqh {c:Code}(k:Nat)(h:RW P n wr c Q k fr O):W P n wr (.loop c) Q fr O:=fun a w b=>wp_loop_rounds k (Znp k fr O h a w b)
theorem Zec {c:Code}{k:Nat}(h:W P n wr c (Zaq (RW P n wr c Q k) Q) fr O):RW P n wr c Q (k+1) fr O:=h
theorem Does.monoH {f:FuncId}{args:List Value}{w:World}{R R':Value->List It->Prop}(h:Does P f args w R)(i:∀ v O base w',R v O->Zaz base O w'->∃ O',R' v O'/\Zaz base O' w'):Does P f args w R' :=
 Calls.mono h fun _ _ ⟨v,O,a,b,c,d⟩=>by
  obtain⟨O',e,g⟩:=i v O _ _ d c
  exact⟨v,O',a,b,g,e⟩
end
section
variable {P:Program}{n:Nat}{wr:World}{fr:Fr}{O:List It}{ty:TypeId}
theorem Znx {t len e sz:Nat}{x g:Operand}{z:IntKind}{i:Int}{cs vs:List Value}[hA:ArrT P t len e sz true](v:ev fr x=some (.agg cs.toArray))(q:ev fr g=some (.int z i))(m:0<=i)(o:i<len)(u:(cs.drop (i.toNat*sz)).take sz=vs) :
  Pu P n wr fr O (.index t x g) ty (.agg vs.toArray):=fun a w d _ _ _ _=>by
 have h:=hA.h
 unfold Zkg at h
 split at h
 ·rename_i j l s
  split at h
  ·rename_i b k f
   simp only[Option.some.injEq,Prod.mk.injEq]at h
   obtain⟨rfl,rfl,rfl,rfl⟩:=h
   obtain⟨y,dd,c,r,p,_⟩:=Ty.parts f
   have:Ty P l b true:=⟨f⟩
   subst u
   simp only[execOp,d.sim.ev v,d.sim.ev q,Instr.index,asIntOf,Sem.run_bind,Sem.run_pure,Result.andThen_ok,run_underlying s,m,o,and_self,if_true,part,Zev,Zdy]
   simp[List.take_drop]
  ·cases h
 ·cases h
end
end Go.Wk
namespace Go.Proofs.YtpipekfmecikmaaGreatDoor
open Go Go.RowKit Go.Wk
attribute [local irreducible] W RL Does Zaq Zai retQ Calls Pu Stp RD Qy Ay Zaj Zb1
theorem Ziy {α:Type}(p:α->Bool):∀ (l:List α) (k:Nat),decide (0<=Zb2 p l k)=l.any p
 | [],k=>rfl
 | x::l,k=>by
  rw[Zb2,List.any_cons]
  by_cases h:p x=true
  ·rw[if_pos h,h];simp
  ·rw[if_neg h,Ziy p l (k+1)]
   simp[h]
theorem ZeP (A:Option Addr)(c:Nat)(l:List DRule)(f:FuncId)[Body Tryz.prog f](us cs:List Value)(p:DRule->Bool)(w:World)(d:RdSl w A c DRule.enc 11 l)
  (e:∀ r w',Bel w.heap.size w w'->Does Tryz.prog f (us++[.agg (DRule.enc r).toArray]++cs) w' (fun v O=>v = .bool (p r)/\O=[])) :
  Does Tryz.prog 228 [.slice A l.length c,.func (.func f) us.toArray cs.toArray] w (fun v O=>v = .bool (l.any p)/\O=[]):=by
 have h:=fun w' (a:Bel w.heap.size w w')=>Zfj A c l f us cs p w' (d.up a) fun r g b=>e r g (a.trans (b.mono a.size))
 rw[<- Ziy p l 0]
 generalize Zb2 p l 0=k at *
 refine Zaa Tryz.func228 rfl rfl rfl rfl ?_
 repeat (first|(refine js ?_;(refine Zac h ?_))|refine walk ?_)
 exact rtA
theorem ZtU (r:DRule)(w:World):Does Tryz.prog 226 [.agg (DRule.enc r).toArray] w (fun v O=>v = .bool (decide (r.save=0))/\O=[]):=by
 obtain⟨f,fr,g,e,⟨b,c,dd⟩,⟨cs,a⟩,sv,le⟩:=r
 show Does _ _ [.agg #[.string f,.int .i64 fr,.int .i64 g,.int .i64 e,.int .i64 b,.int .i64 c,.int .i64 dd,.int .i64 cs,.int .i64 a,.int .i64 sv,.string le]] w _
 refine Zaa Tryz.func226 rfl rfl rfl rfl ?_
 repeat' (first|(refine js ?_;(refine bx ?_;intro i))|refine walk ?_|(refine Zaf rfl (fun d=>?_) (fun d=>?_)))
 all_goals exact clo1
theorem Zrq (r:DRule)(w:World):Does Tryz.prog 272 [.agg (DRule.enc r).toArray] w (fun v O=>v = .bool (!decide (r.to=1048576))/\O=[]):=by
 obtain⟨f,fr,to,e,⟨b,c,dd⟩,⟨cs,a⟩,sv,le⟩:=r
 show Does _ _ [.agg #[.string f,.int .i64 fr,.int .i64 to,.int .i64 e,.int .i64 b,.int .i64 c,.int .i64 dd,.int .i64 cs,.int .i64 a,.int .i64 sv,.string le]] w _
 refine Zaa Tryz.func272 rfl rfl rfl rfl ?_
 repeat' (first|(refine js ?_;(refine bx ?_;intro g))|refine walk ?_|(refine Zaf rfl (fun d=>?_) (fun d=>?_)))
 all_goals exact clo1
theorem ZtT (r:DRule)(ad:Addr)(m:Int)(w:World)(h:w.cell? ad=some (.int .i64 m)):Does Tryz.prog 227 [.agg (DRule.enc r).toArray,.pointer (some ad)] w (fun v O=>v = .bool (!decide (r.save=0)&&!decide (r.save=m))/\O=[]):=by
 obtain⟨f,fr,g,e,⟨c,d,dd⟩,⟨cs,b⟩,sv,le⟩:=r
 show Does _ _ [.agg #[.string f,.int .i64 fr,.int .i64 g,.int .i64 e,.int .i64 c,.int .i64 d,.int .i64 dd,.int .i64 cs,.int .i64 b,.int .i64 sv,.string le],.pointer (some ad)] w _
 refine Zaa Tryz.func227 rfl rfl rfl rfl ?_
 repeat' (first|(apply RL_pu;rfl;(apply Pu_loadO1;rfl;exact h))|(refine js ?_;(refine bx ?_;intro i))|refine walk1 ?_|refine und ?_|(refine Zar rfl rfl rfl (fun a=>?_) (fun a=>?_))|(refine Za8 rfl rfl rfl (fun a=>?_) (fun a=>?_))|(refine Zaf rfl (fun a=>?_) (fun a=>?_)))
 all_goals exact clo1
end Go.Proofs.YtpipekfmecikmaaGreatDoor
