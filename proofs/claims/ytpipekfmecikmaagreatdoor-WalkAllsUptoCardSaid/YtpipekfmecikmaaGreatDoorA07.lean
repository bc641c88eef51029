/- Parts of the proof. -/
import Derived.Test.YtpipekfmecikmaaGreatDoorA06
import Derived.Laws.Strings2
import Derived.LoopN
set_option maxHeartbeats 0
set_option linter.all false
namespace Go.Proofs.YtpipekfmecikmaaGreatDoor
open Go Go.RowKit Go.Wk Tryz
attribute [local irreducible] W RL Does Zaq Zai retQ Calls Pu Stp RD Qy Ay Zaj
theorem Zo2 (x k:Int)(hx : -1000000000000000000<=x/\x<=1000000000000000000)(b:0<=k/\k<=6)(w:World):Does prog 387 [.int .i64 x,.int .i64 k] w (fun v O=>v = .int .i64 (Zbx x k)/\O=[]):=by
 have c:=ZpF x
 refine Zaa func387 rfl rfl rfl rfl ?_
 unfold Zbx
 repeat' (first|(apply RL_pu;rfl;exact PuDayf0)|(refine js ?_;(refine Zab (fun w' _=>Zjv x (by omega) w') ?_))|refine walk1 ?_|(refine Zaf rfl (fun a=>?_) (fun a=>?_)))
 all_goals exact clo1
theorem ZiZ (x k:Int)(hx : -1000000000000000000<=x/\x<=1000000000000000000)(b:0<=k/\k<=6)(w:World):Does prog 385 [.int .i64 x,.int .i64 k] w (fun v O=>v = .int .i64 (ZaX x k)/\O=[]):=by
 have c:=ZpF x
 refine Zaa func385 rfl rfl rfl rfl ?_
 unfold ZaX
 repeat' (first|(apply RL_pu;rfl;exact PuDayf0)|(refine js ?_;(refine Zab (fun w' _=>Zjv x (by omega) w') ?_))|refine walk1 ?_|(refine Zaf rfl (fun a=>?_) (fun a=>?_)))
 all_goals exact clo1
def ZmN (k:Int):FuncId:=if k=1 then 383 else if k=2 then 384 else if k=3 then 386 else 388
theorem ZrI (p q:Int)(d:DDay)(i : -100000000000000000<=p/\p<=100000000000000000)(j : -100000000000000000<=q/\q<=100000000000000000)(g:1<=d.kind/\d.kind<=4)(b:0<=d.week/\d.week<=6)(f:0<=d.day/\d.day<=31)(w:World) :
  Does prog (ZmN d.kind) [.int .i64 p,.int .i64 q,.agg (DDay.enc d).toArray] w (fun v O=>v = .int .i64 (Zd8 p q d)/\O=[]):=by
 obtain⟨k,wk,dd⟩:=d
 simp only at g b f ⊢
 have e:k=1\/k=2\/k=3\/k=4:=by omega
 rcases e with rfl|rfl|rfl|rfl
 ·rw[show Zd8 p q ⟨1,wk,dd⟩=p+dd - 1 by simp[Zd8]]
  show Does _ 383 [.int .i64 p,.int .i64 q,.agg #[.int .i64 1,.int .i64 wk,.int .i64 dd]] w _
  refine Zaa func383 rfl rfl rfl rfl ?_
  repeat' (first|(apply RL_pu;rfl;exact PuDayf0)|(refine js ?_;(refine bx ?_;intro c))|refine walk1 ?_|(refine Zaf rfl (fun a=>?_) (fun a=>?_)))
  all_goals exact clo1
 ·rw[show Zd8 p q ⟨2,wk,dd⟩=ZaX q wk by simp[Zd8]]
  show Does _ 384 [.int .i64 p,.int .i64 q,.agg #[.int .i64 2,.int .i64 wk,.int .i64 dd]] w _
  refine Zaa func384 rfl rfl rfl rfl ?_
  repeat' (first|(apply RL_pu;rfl;exact PuDayf0)|(refine js ?_;(first|(refine Zab (fun w' _=>ZiZ q wk (by omega) b w') ?_)|(refine bx ?_;intro c)))|refine walk1 ?_|(refine Zaf rfl (fun a=>?_) (fun a=>?_)))
  all_goals exact clo1
 ·rw[show Zd8 p q ⟨3,wk,dd⟩=Zbx (p+dd - 1) wk by simp[Zd8]]
  show Does _ 386 [.int .i64 p,.int .i64 q,.agg #[.int .i64 3,.int .i64 wk,.int .i64 dd]] w _
  refine Zaa func386 rfl rfl rfl rfl ?_
  repeat' (first|(apply RL_pu;rfl;exact PuDayf0)|(refine js ?_;(first|(refine Zab (fun w' _=>Zo2 (p+dd - 1) wk (by omega) b w') ?_)|(refine bx ?_;intro c)))|refine walk1 ?_|(refine Zaf rfl (fun a=>?_) (fun a=>?_)))
  all_goals exact clo1
 ·rw[show Zd8 p q ⟨4,wk,dd⟩=ZaX (p+dd - 1) wk by simp[Zd8]]
  show Does _ 388 [.int .i64 p,.int .i64 q,.agg #[.int .i64 4,.int .i64 wk,.int .i64 dd]] w _
  refine Zaa func388 rfl rfl rfl rfl ?_
  repeat' (first|(apply RL_pu;rfl;exact PuDayf0)|(refine js ?_;(first|(refine Zab (fun w' _=>ZiZ (p+dd - 1) wk (by omega) b w') ?_)|(refine bx ?_;intro c)))|refine walk1 ?_|(refine Zaf rfl (fun a=>?_) (fun a=>?_)))
  all_goals exact clo1
theorem ZxV {w:World}(e:Glob w)(k:Int)(b:1<=k/\k<=4):Zat w ((⟨2,0,none⟩:Addr).add (k.toNat*3)) [.bool (Zq2 k),.bool (dayK k),fnV (ZmN k)]:=by
 intro j v a
 have b:=e.kin ((k.toNat - 1)*3+j) v
 have d:k=1\/k=2\/k=3\/k=4:=by omega
 have f:j<3:=(List.getElem?_eq_some_iff.1 a).1
 have c:j=0\/j=1\/j=2:=by omega
 rcases d with rfl|rfl|rfl|rfl <;> rcases c with rfl|rfl|rfl <;> exact b a
theorem ZiT (d:DDay)(w:World)(g:Glob w):Does prog 72 [.agg (DDay.enc d).toArray] w (fun v O=>v = .int .i64 (if ZbH d then 0 else 2)/\O=[]):=by
 obtain⟨k,wk,dd⟩:=d
 by_cases c:1<=k/\k<=4
 ·have b:=ZxV g k c
  have e:ZbH ⟨k,wk,dd⟩ = !((!decide (wk=0)&&!Zq2 k)||decide (wk<0)||decide (6<wk)||(dayK k==decide (dd=0))||decide (dd<0)||decide (31<dd)):=by simp[ZbH,c.1,c.2]
  rw[e]
  generalize Zq2 k=b1 at *
  generalize dayK k=b2 at *
  show Does _ _ [.agg #[.int .i64 k,.int .i64 wk,.int .i64 dd]] w _
  refine Zaa func72 rfl rfl rfl rfl ?_
  repeat' (first|(apply RL_pu;rfl;(first|exact PuDayf0|(apply Zbz;rfl;rfl;omega;omega)|(apply Pu_loadON;rfl;exact b;rfl)))|(refine js ?_;(refine bx ?_;intro f))|refine walk1 ?_|refine und ?_|(refine Zas rfl rfl rfl (fun a=>?_) (fun a=>?_))|(refine Zba rfl rfl rfl (fun a=>?_) (fun a=>?_))|(refine Zaf rfl (fun a=>?_) (fun a=>?_)))
  all_goals exact clo1
 ·have e:ZbH ⟨k,wk,dd⟩=false:=by
   simp only[ZbH]
   have:(decide (1<=k)&&decide (k<=4))=false:=by simp;omega
   rw[this];rfl
  rw[e]
  show Does _ _ [.agg #[.int .i64 k,.int .i64 wk,.int .i64 dd]] w _
  refine Zaa func72 rfl rfl rfl rfl ?_
  repeat' (first|(refine js ?_;(refine bx ?_;intro f))|refine walk ?_|refine und ?_|(refine Zas rfl rfl rfl (fun a=>?_) (fun a=>?_))|(refine Zba rfl rfl rfl (fun a=>?_) (fun a=>?_))|(refine Zaf rfl (fun a=>?_) (fun a=>?_)))
  all_goals exact clo1
theorem Zeb (d:DClock)(w:World):Does prog 73 [.agg (DClock.enc d).toArray] w (fun v O=>v = .int .i64 (if ZaL d then 0 else 2)/\O=[]):=by
 obtain⟨k,wk⟩:=d
 show Does _ _ [.agg #[.int .i64 k,.int .i64 wk]] w _
 refine Zaa func73 rfl rfl rfl rfl ?_
 repeat' (first|(refine js ?_;(refine bx ?_;intro b))|refine walk ?_|refine und ?_|(refine Zas rfl rfl rfl (fun a=>?_) (fun a=>?_))|(refine Zba rfl rfl rfl (fun a=>?_) (fun a=>?_))|(refine Zaf rfl (fun a=>?_) (fun a=>?_)))
 all_goals first|(refine ret_1 _ [] (.tmp rfl) .nil ⟨?_,rfl⟩;first|rfl|(simp only[*,Bool.true_and,Bool.false_and,Bool.true_or,Bool.false_or,Bool.not_true,Bool.not_false];done)|(simp_all [ZaL];done)|(simp_all [ZaL];omega)|(simp_all [ZaL];rw[Bool.eq_iff_iff];simp;omega))|(exfalso;simp_all [ZaL];done)|(exfalso;simp_all [ZaL];omega)|(exfalso;omega)
theorem ZeY {d:DDay}(h:ZbH d=true):(1<=d.kind/\d.kind<=4)/\(0<=d.week/\d.week<=6)/\0<=d.day/\d.day<=31:=by
 simp only[ZbH,Bool.and_eq_true,Bool.not_eq_true',Bool.or_eq_false_iff,decide_eq_true_eq,decide_eq_false_iff_not]at h
 omega
theorem Zlm {y m d:Int}(h:Zbh y m d=true) : -1000000000000<=ZaW y m d/\ZaW y m d<=1000000000000:=by
 obtain⟨b,c,e⟩:=ZdQ h
 unfold ZaW Zb2
 have a:=Zb3
 split
 ·have:=a (m+12 - 3).toNat
  omega
 ·have:=a (m - 3).toNat
  omega
theorem Zpt {G:Prop}(h:G:=by(first|exact PuDayf0|(apply Zbz;rfl;rfl;omega;omega)|(apply Pu_loadO1';rfl;exact hcell;rfl))):G:=h
theorem ZuS {G:Prop}(h:G:=by first|(apply Qy_y;rfl;exact Zpt)|exact QyA):G:=h
theorem ZBh {G:Prop}(h:G:=by repeat (first|exact QF.nil|(apply QF.mk;rfl;rfl;decide +kernel;exact ZuS))):G:=h
theorem Zou (y m:Int)(d:DDay)(w:World)(j:Glob w):Does prog 120 [.int .i64 y,.int .i64 m,.agg (DDay.enc d).toArray] w (fun v O=>v = .tuple #[.int .i64 (onD y m d).1,.int .i64 (onD y m d).2]/\O=[]):=by
 have z:=ZeO y m
 have b:=fun w' a=>ZiT d w' (Glob.up (w':=w') j a)
 by_cases hok:Zbh y m 1=true
 ·have x:=Zlm hok
  by_cases g:ZbH d=true
  ·obtain⟨s,t,u⟩:=ZeY g
   have hcell:=ZxV j d.kind s
   have p:=fun w'=>ZrI (ZaW y m 1) (ZaW y m 1+lenM y m - 1) d (by omega) (by omega) s t u w'
   haveI:Body prog (ZmN d.kind):=by
    unfold ZmN
    split
    ·infer_instance
    ·split
     ·infer_instance
     ·split <;> infer_instance
   have e:onD y m d=if lenM y m<d.day then (0,4) else (Zd8 (ZaW y m 1) (ZaW y m 1+lenM y m - 1) d,0):=by simp[onD,hok,g]
   rw[e]
   clear e
   have c:=Zgl y m 1
   rw[if_pos hok,if_pos hok]at c
   rw[g]at b
   generalize Zd8 (ZaW y m 1) (ZaW y m 1+lenM y m - 1) d=res at *
   obtain⟨k,wk,dd⟩:=d
   simp only at *
   generalize ZmN k=kf at *
   show Does _ _ [.int .i64 y,.int .i64 m,.agg #[.int .i64 k,.int .i64 wk,.int .i64 dd]] w _
   refine Zaa func120 rfl rfl rfl rfl ?_
   repeat' (first|(apply RL_pu;rfl;exact Zpt)|(refine js ?_;(first|(apply Zax (f:=kf) (us:=[]) (cs:=[]) (vs:=[.int .i64 (ZaW y m 1),.int .i64 (ZaW y m 1+lenM y m - 1),.agg #[.int .i64 k,.int .i64 wk,.int .i64 dd]]) (h:=fun w' a _=>p w');rfl;rfl;rintro v O' ⟨rfl,rfl⟩)|(refine Zab (fun w' a=>c w' (j.up a)) ?_)|(refine Zab b ?_)|(refine Zab (fun w' a=>ZbT y m w') ?_)|(refine bx ?_;intro q)))|(apply RD_Q;rfl;rfl;decide +kernel;rfl;rfl;exact ZuS)|refine walk1 ?_|(refine RD_G0w ?_;intro F;(first|(apply Zax (f:=kf) (us:=[]) (cs:=[]) (vs:=[.int .i64 (ZaW y m 1),.int .i64 (ZaW y m 1+lenM y m - 1),.agg #[.int .i64 k,.int .i64 wk,.int .i64 dd]]) (h:=fun w' a _=>p w');rfl;rfl;rintro v O' ⟨rfl,rfl⟩)|(refine Zab (fun w' a=>c w' (j.up a)) ?_)|(refine Zab b ?_)|(refine Zab (fun w' a=>ZbT y m w') ?_));refine⟨_,EndsA,SubO.right _ _,?_⟩)|(refine RD_Lw ?_;intro F;(first|(apply Zax (f:=kf) (us:=[]) (cs:=[]) (vs:=[.int .i64 (ZaW y m 1),.int .i64 (ZaW y m 1+lenM y m - 1),.agg #[.int .i64 k,.int .i64 wk,.int .i64 dd]]) (h:=fun w' a _=>p w');rfl;rfl;rintro v O' ⟨rfl,rfl⟩)|(refine Zab (fun w' a=>c w' (j.up a)) ?_)|(refine Zab b ?_)|(refine Zab (fun w' a=>ZbT y m w') ?_)|(refine bx ?_;intro q)|(apply Zan;first|exact Zpt|exact PuA));refine⟨_,EndsA,ZBh,?_⟩)|(refine Zaf rfl (fun g=>?_) (fun g=>?_)))
   ·have r:=g
    rw[if_pos (of_decide_eq_true r)]
    exact rtB
   ·have r:=g
    rw[if_neg (of_decide_eq_false r)]
    exact rtB
  ·have e:onD y m d=(0,2):=by simp[onD,hok,g]
   rw[e]
   have c:=Zgl y m 1
   rw[if_pos hok,if_pos hok]at c
   rw[Bool.not_eq_true]at g
   rw[g]at b
   obtain⟨k,wk,dd⟩:=d
   show Does _ _ [.int .i64 y,.int .i64 m,.agg #[.int .i64 k,.int .i64 wk,.int .i64 dd]] w _
   refine Zaa func120 rfl rfl rfl rfl ?_
   repeat' (first|(refine js ?_;(first|(refine Zab (fun w' a=>c w' (j.up a)) ?_)|(refine Zab b ?_)|(refine bx ?_;intro q)))|refine walk ?_|(refine RD_G0w ?_;intro F;(first|(refine Zab (fun w' a=>c w' (j.up a)) ?_)|(refine Zab b ?_));refine⟨_,EndsA,SubO.right _ _,?_⟩)|(refine RD_Lw ?_;intro F;(first|(refine Zab (fun w' a=>c w' (j.up a)) ?_)|(refine Zab b ?_)|(refine bx ?_;intro q)|(apply Zan;exact PuA));refine⟨_,EndsA,QFA,?_⟩)|(refine Zaf rfl (fun g=>?_) (fun g=>?_)))
   all_goals exact clo2
 ·have e:onD y m d=(0,3):=by simp[onD,hok]
  rw[e]
  have c:=Zgl y m 1
  rw[if_neg hok,if_neg hok]at c
  refine Zaa func120 rfl rfl rfl rfl ?_
  repeat' (first|(refine js ?_;(first|(refine Zab (fun w' a=>c w' (j.up a)) ?_)|(refine bx ?_;intro q)))|refine walk ?_|(refine RD_G0w ?_;intro F;(refine Zab (fun w' a=>c w' (j.up a)) ?_);refine⟨_,EndsA,SubO.right _ _,?_⟩)|(refine RD_Lw ?_;intro F;(first|(refine Zab (fun w' a=>c w' (j.up a)) ?_)|(refine bx ?_;intro q)|(apply Zan;exact PuA));refine⟨_,EndsA,QFA,?_⟩)|(refine Zaf rfl (fun g=>?_) (fun g=>?_)))
  all_goals exact clo2
theorem Zps {G:Prop}(h:G:=by(apply Pu_rem;rfl;rfl;decide)):G:=h
theorem ZuR {G:Prop}(h:G:=by first|(apply Qy_y;rfl;exact Zps)|exact QyA):G:=h
theorem ZBg {G:Prop}(h:G:=by repeat (first|exact QF.nil|(apply QF.mk;rfl;rfl;decide +kernel;exact ZuR))):G:=h
theorem Zo9 (a b m:Int)(d:DDay)(w:World)(p:Glob w):Does prog 394 [.int .i64 a,.int .i64 b,.int .i64 m,.agg (DDay.enc d).toArray] w (fun v O=>v = .bool (Zcf a b m d)/\O=[]):=by
 have e:=fun w' f=>ZiT d w' (Glob.up (w':=w') p f)
 unfold Zcf
 generalize ZbH d=c at *
 obtain⟨k,wk,dd⟩:=d
 simp only at *
 show Does _ _ [.int .i64 a,.int .i64 b,.int .i64 m,.agg #[.int .i64 k,.int .i64 wk,.int .i64 dd]] w _
 refine Zaa func394 rfl rfl rfl rfl ?_
 repeat' (first|(apply RL_pu;rfl;exact Zps)|(refine js ?_;(first|(refine Zab e ?_)|(refine Zab (fun w' f=>ZbT 1 m w') ?_)|(refine Zab (fun w' f=>ZbT (a.tmod 400) m w') ?_)|(refine bx ?_;intro j)))|(apply RD_Q;rfl;rfl;decide +kernel;rfl;rfl;exact ZuR)|refine walk1 ?_|(refine RD_G0w ?_;intro F;(first|(refine Zab e ?_)|(refine Zab (fun w' f=>ZbT 1 m w') ?_)|(refine Zab (fun w' f=>ZbT (a.tmod 400) m w') ?_));refine⟨_,EndsA,SubO.right _ _,?_⟩)|(refine RD_Lw ?_;intro F;(first|(refine Zab e ?_)|(refine Zab (fun w' f=>ZbT 1 m w') ?_)|(refine Zab (fun w' f=>ZbT (a.tmod 400) m w') ?_)|(refine bx ?_;intro j)|(apply Zan;first|exact Zps|exact PuA));refine⟨_,EndsA,ZBg,?_⟩)|refine und ?_|(refine Zas rfl rfl rfl (fun g=>?_) (fun g=>?_))|(refine Zba rfl rfl rfl (fun g=>?_) (fun g=>?_))|(refine Zaf rfl (fun g=>?_) (fun g=>?_)))
 all_goals exact clo1
end Go.Proofs.YtpipekfmecikmaaGreatDoor
namespace Go.Wk
open Go Go.RowKit
def kArr (p:Nat->Nat):List Value:=(List.range 256).map fun i => .int .u8 (p i)
theorem Zdn (p:Nat->Nat):(kArr p).length=256:=by simp[kArr]
theorem ZwQ {p:Nat->Nat}{j:Nat}(a:j<256):(kArr p)[j]?=some (.int .u8 (p j)):=by simp[kArr,a]
theorem ZwP (p:Nat->Nat)(j v:Nat):(kArr p).set j (.int .u8 v)=kArr fun i=>if i=j then v else p i:=by
 apply List.ext_getElem
 ·simp[kArr]
 ·intro i a b
  simp only[kArr,List.getElem_set,List.getElem_map,List.getElem_range]
  by_cases h:j=i
  ·subst h;simp
  ·have:i≠j:=fun e=>h e.symm
   simp[h,this]
theorem ZdN {p q:Nat->Nat}(h:∀ i,i<256->p i=q i):kArr p=kArr q:=by
 unfold kArr
 apply List.map_congr_left
 intro i a
 rw[h i (List.mem_range.1 a)]
theorem Zp9 (p:Nat->Nat):(kArr p).all Value.oneCell'=true:=by simp[kArr,Value.oneCell']
attribute [irreducible] kArr
theorem ZtF:∀ (vs:List Value) (a cs:List Value),cs.length=vs.length->lay (a++cs) a.length vs=a++vs
 | [],a,cs,h=>by
  have:cs=[]:=List.eq_nil_of_length_eq_zero h
  rw[this];rfl
 | v::r,a,[],h=>by simp at h
 | v::r,a,c::cs,h=>by
  rw[lay,List.set_append_right _ _ (Nat.le_refl _),Nat.sub_self,List.set_cons_zero]
  have:=ZtF r (a++[v]) cs (by simpa using h)
  rw[List.append_assoc,List.length_append]at this
  simpa using this
section
variable {P:Program}{n:Nat}{wr:World}{fr:Fr}{O:List It}{ty:TypeId}{pos:String}{af:Array Edge}
theorem Zse {t sz b:Nat}{x:Operand}{cs:List Value}{c:TypeId}{R:List It}[Ty P t sz true](e:ev fr x=some (.pointer (some ⟨b,0,none⟩)))(d:Pick (.blk b cs c) O R)(a:cs.length=sz):Pu P n wr fr O (.load t x) ty (.agg cs.toArray) :=
 ZnI e d (by simp[List.take_of_length_le (Nat.le_of_eq a)]) a
theorem Zg6 {t:TypeId}{x z:Operand}{s:ByteArray}{c:IntKind}{j:Int}[hS:StringT P t](f:ev fr x=some (.string s))(g:ev fr z=some (.int c j))(i:0<=j)(d:j<=s.size) :
  Pu P n wr fr O (.slice t x none (some z) none) ty (.string (s.extract 0 j.toNat)):=fun a w b _ _ _ _=>by
 have h:(Instr.slice t (.string s) none (some (.int c j)) none).run P w = .ok (.string (s.extract 0 j.toNat)) w:=by
  have e:0<=j/\j<=(s.size:Int):=⟨by omega,d⟩
  simp[Instr.slice,Instr.sliceBounds,Instr.sliceBound,asIntOf,run_underlying hS.h,e]
 simp[execOp,b.sim.ev f,b.sim.ev g,Instr.sliceAt,run_underlying hS.h,h]
theorem Zg5 {t:TypeId}{x y:Operand}{s:ByteArray}{k:IntKind}{i:Int}[hS:StringT P t](f:ev fr x=some (.string s))(g:ev fr y=some (.int k i))(c:0<=i)(d:i<=s.size) :
  Pu P n wr fr O (.slice t x (some y) none none) ty (.string (s.extract i.toNat s.size)):=fun a w b _ _ _ _=>by
 have h:(Instr.slice t (.string s) (some (.int k i)) none none).run P w = .ok (.string (s.extract i.toNat s.size)) w:=by
  have e:0<=i/\i<=(s.size:Int):=⟨c,d⟩
  simp[Instr.slice,Instr.sliceBounds,Instr.sliceBound,asIntOf,run_underlying hS.h,e]
 simp[execOp,b.sim.ev f,b.sim.ev g,Instr.sliceAt,run_underlying hS.h,h]
theorem Za3 {t:TypeId}{x a:Operand}{s:ByteArray}{h:IntKind}{i:Int}{c:UInt8}[hS:StringT P t](g:ev fr x=some (.string s))(f:ev fr a=some (.int h i))(b:0<=i)(d:i<s.size)(e:s.data.toList.getD i.toNat 0=c):Pu P n wr fr O (.index t x a) ty (.int .u8 c.toNat):=by
 subst e
 exact ZnJ g f b d
theorem Zg1 {t b j v:Nat}{c:TypeId}{x y:Operand}{p:Nat->Nat}{O':List It}{a:Option Tmp}{g:Option (Nat × Bool)}{Kp:Value->List It->Prop}[Ty P t 1 false](d:ev fr x=some (.pointer (some ((⟨b,0,none⟩:Addr).add (j*1)))))(f:ev fr y=some (.int .u8 v))
  (e:Upd O (.blk b (kArr p) c) (.blk b (kArr fun i=>if i=j then v else p i) c) O') (h:j<256) (k:Kp undef O'):Stp P n wr fr O ⟨a,.store t x y,ty,pos,af,g⟩ Kp:=by
 rw[Zcl,Nat.zero_add,Nat.mul_one]at d
 exact Zg2 (sz:=1) (v := .int .u8 v) (vs:=[.int .u8 v]) (j:=j) d f e rfl rfl rfl (by rw[Nat.ble_eq,Zdn];omega) (ZwP p j v) k
theorem Zhx {t b sz:Nat}{c:TypeId}{x y:Operand}{cs vs:List Value}{O':List It}{a:Option Tmp}{g:Option (Nat × Bool)}{Kp:Value->List It->Prop}[Ty P t sz true](h:ev fr x=some (.pointer (some ⟨b,0,none⟩)))(i:ev fr y=some (.agg vs.toArray))
  (f:Upd O (.blk b cs c) (.blk b vs c) O') (e:vs.length=sz) (j:cs.length=sz) (d:vs.all Value.oneCell'=true) (k:Kp undef O'):Stp P n wr fr O ⟨a,.store t x y,ty,pos,af,g⟩ Kp :=
 Zg2 (v := .agg vs.toArray) (vs:=vs) h i f rfl e d (by rw[Nat.ble_eq];omega) (ZtF vs [] cs (by omega)) k
end
theorem Zaz.cells {base b:Nat}{cs:List Value}{t:TypeId}{O R:List It}{w:World}(h:Zaz base O w)(c:Pick (.blk b cs t) O R):Zat w ⟨b,0,none⟩ cs:=fun j v a=>by
 rw[Zcl,ZcR (h.sat _ (c.perm.mem_iff.2 List.mem_cons_self)),Nat.zero_add,a]
theorem Zwf:∀ a∈[0,1,2,4,8,16],∀ s:Fin 256,IntKind.u8.wrap ((BitVec.ofInt IntKind.u8.bits ((a:Nat):Int) &&& BitVec.ofInt IntKind.u8.bits ((s.val:Nat):Int)).toNat:Nat)=((a &&& s.val:Nat):Int):=by decide +kernel
theorem Znr (c:Nat):ZbX c∈[0,1,2,4,8,16]:=by
 unfold ZbX
 repeat' split
 all_goals decide
end Go.Wk
namespace Go.Proofs.YtpipekfmecikmaaGreatDoor
open Go Go.RowKit Go.Wk Tryz
attribute [local irreducible] W RL Does Zaq Zai retQ Calls Pu Stp RD Qy Ay Zaj
instance zeroKinds:ZeroT prog 279 (kArr fun _=>0):=⟨by kernel_rfl⟩
def k1 (k i:Nat):Nat:=if (65<=i/\i<65+k)\/(97<=i/\i<97+k) then 1 else 0
def k2 (k i:Nat):Nat:=if 48<=i/\i<48+k then 2 else k1 26 i
theorem Zjj {G:Prop}(h:G:=by(apply Zbz;rfl;rfl;omega;omega)):G:=h
theorem Zow (w:World):Does prog 264 [] w (fun v O=>v = .agg (kArr ZbX).toArray/\O=[]):=by
 refine Zaa func264 rfl rfl rfl rfl ?_
 repeat (first|(refine js ?_;(refine bx ?_;intro c))|refine ZlY ?_)
 rename_i d
 have m:kArr (k1 0)=kArr fun _=>0:=ZdN fun i _=>if_neg (by omega)
 rw[<- m]
 refine Zb4 (fun fr' O'=>Go.Wk.Sub [(0,.pointer (some ⟨d,0,none⟩)),(1,.pointer (some ⟨c,0,none⟩))] fr'/\SubO [.blk c (kArr (k1 26)) 279,.blk d (kArr (k1 0)) 279] O') ?_ ?_
 ·apply W_block
  refine Zah [(0,.pointer (some ⟨d,0,none⟩)),(1,.pointer (some ⟨c,0,none⟩))] [.blk d (kArr (k1 0)) 279] (fun k:Nat=>[(4,.int .i64 k)]) (fun k=>[.blk c (kArr (k1 k)) 279]) (fun k=>k<=26) (fun k=>26 - k) 0 SFA SOA (Nat.zero_le _) ?_
  intro k r
  repeat (first|(apply RL_pu;rfl;exact Zjj)|(refine js ?_;(refine bx ?_;intro c))|refine walk1 ?_)
  refine Zaf rfl (fun h=>?_) (fun h=>?_)
  ·have g:=of_decide_eq_true h
   repeat (first|(apply RL_pu;rfl;exact Zjj)|(refine js ?_;(first|(apply Zg1;rfl;rfl;(focus repeat' constructor);omega)|(refine bx ?_;intro c)))|refine walk1 ?_)
   rw[ZdN (p:=fun i=>if i=(97+(k:Int)).toNat then 1 else if i=(65+(k:Int)).toNat then 1 else k1 k i) (q:=k1 (k+1)) (fun i j=>by
    unfold k1
    repeat' split
    all_goals omega)]
   exact⟨k+1,OA,OA,SFA,SOA⟩
  ·have g:=of_decide_eq_false h
   obtain rfl:k=26:=by omega
   repeat (first|(refine js ?_;(refine bx ?_;intro c))|refine walk ?_)
   exact⟨rfl,SFA,SOA⟩
 rintro fr' O' ⟨f,e⟩
 apply thenQ_n
 refine ZcG f e ?_
 clear f e fr' O'
 rw[show kArr (k1 26)=kArr (k2 0) from ZdN fun i _=>(if_neg (by omega)).symm]
 repeat (first|(refine js ?_;(refine bx ?_;intro c))|refine ZlY ?_)
 refine Zb4 (fun fr' O'=>Go.Wk.Sub [(0,.pointer (some ⟨d,0,none⟩)),(1,.pointer (some ⟨c,0,none⟩))] fr'/\SubO [.blk c (kArr (k2 10)) 279,.blk d (kArr (k1 0)) 279] O') ?_ ?_
 ·apply W_block
  refine Zah [(0,.pointer (some ⟨d,0,none⟩)),(1,.pointer (some ⟨c,0,none⟩))] [.blk d (kArr (k1 0)) 279] (fun k:Nat=>[(14,.int .i64 k)]) (fun k=>[.blk c (kArr (k2 k)) 279]) (fun k=>k<=10) (fun k=>10 - k) 0 SFA SOA (Nat.zero_le _) ?_
  intro k r
  repeat (first|(apply RL_pu;rfl;exact Zjj)|(refine js ?_;(refine bx ?_;intro c))|refine walk1 ?_)
  refine Zaf rfl (fun h=>?_) (fun h=>?_)
  ·have g:=of_decide_eq_true h
   repeat (first|(apply RL_pu;rfl;exact Zjj)|(refine js ?_;(first|(apply Zg1;rfl;rfl;(focus repeat' constructor);omega)|(refine bx ?_;intro c)))|refine walk1 ?_)
   rw[ZdN (p:=fun i=>if i=(48+(k:Int)).toNat then 2 else k2 k i) (q:=k2 (k+1)) (fun i j=>by
    unfold k2
    repeat' split
    all_goals omega)]
   exact⟨k+1,OA,OA,SFA,SOA⟩
  ·have g:=of_decide_eq_false h
   obtain rfl:k=10:=by omega
   repeat (first|(refine js ?_;(refine bx ?_;intro c))|refine walk ?_)
   exact⟨rfl,SFA,SOA⟩
 rintro fr' O' ⟨f,e⟩
 apply thenQ_n
 refine ZcG f e ?_
 clear f e fr' O'
 repeat (first|(apply RL_pu;rfl;(first|exact Zjj|(apply Zse;rfl;(focus repeat' constructor);exact Zdn _)))|(refine js ?_;(first|(apply Zg1;rfl;rfl;(focus repeat' constructor);omega)|(apply Zhx;rfl;rfl;(focus repeat' constructor);exact Zdn _;exact Zdn _;exact Zp9 _)|(refine bx ?_;intro c)))|refine walk1 ?_)
 refine ret_1 _ [] (.cellB rfl cS_ (List.take_of_length_le (Nat.le_of_eq (Zdn _))) (Zdn _)) .nil ⟨?_,rfl⟩
 rw[ZdN (q:=ZbX) (fun i j=>by
    unfold ZbX k2 k1
    repeat' split
    all_goals omega)]
theorem ZkK {G G':Prop}(k:G')(h:Hold G'->G:=by intro k9;(first|refine walk ?_|(refine jn ?_;(try intro F);(apply Zan;exact PuA);refine fin ?_));exact k9.out):G:=h ⟨k⟩
theorem ZvM {G:Prop}(h:G:=by(apply Pu_loadO1;rfl;first|exact h1 0 _ rfl|exact h2 0 _ rfl|exact h4 0 _ rfl)):G:=h
theorem Zpq {G:Prop}(h:G:=by(first|(apply Za3 (c:=c);rfl;rfl;omega;omega;exact hcd)|(apply Zbz;rfl;rfl;omega;omega)|(apply Pu_loadO1';rfl;exact h3;exact hcell)|(apply Pu_loadO1;rfl;exact h4 0 _ rfl)|(apply ZBm;rfl;rfl))):G:=h
theorem ZBd {G:Prop}(h:G:=by first|(apply Qy_y;rfl;exact Zpq)|exact QyA):G:=h
theorem ZwF (s:ByteArray)(a b m H I x y:Nat)(T:(s.size:Int)<=9223372036854775807)(N:m<256)(w:World)(h1:Zat w ⟨H,0,none⟩ [.int .i64 a])(h2:Zat w ⟨I,0,none⟩ [.int .i64 b])(h3:Zat w ⟨x,0,none⟩ (kArr ZbX))(h4:Zat w ⟨y,0,none⟩ [.int .u8 m]) :
  Does prog 265 [.string s,.pointer (some ⟨H,0,none⟩),.pointer (some ⟨I,0,none⟩),.pointer (some ⟨x,0,none⟩),.pointer (some ⟨y,0,none⟩)] w (fun v O=>v = .bool (Zb7 a b m s.data.toList)/\O=[]):=by
 have e:s.data.toList.length=s.size:=rfl
 have J:∀ j,s.data.toList.getD j 0=(s.data.toList[j]?).getD 0:=fun j=>by rw[List.getD_eq_getElem?_getD]
 refine Zaa func265 rfl rfl rfl rfl ?_
 rw[Zb7,e]
 obtain⟨l,u⟩:∃ l,l=s.data.toList:=⟨_,rfl⟩
 rw[<- u]at e J ⊢
 repeat' (first|(apply RL_pu;rfl;exact ZvM)|(apply RD_Q;rfl;rfl;decide +kernel;rfl;rfl;exact QyName2)|refine walk1 ?_|(refine RD_Lw ?_;intro F;(apply Zan;first|exact ZvM|exact PuA);refine⟨_,EndsA,QFName2,?_⟩)|refine und ?_|(refine Zas rfl rfl rfl (fun f=>?_) (fun f=>?_))|(refine Zba rfl rfl rfl (fun f=>?_) (fun f=>?_))|(refine Zaf rfl (fun f=>?_) (fun f=>?_)))
 ·have h:=of_decide_eq_true f
  exact ret_1 _ [] (.tmp rfl) .nil ⟨by rw[dF_ (show ¬ a<=s.size by omega)];rfl,rfl⟩
 ·have h:=of_decide_eq_true f
  exact ret_1 _ [] (.tmp rfl) .nil ⟨by rw[dF_ (show ¬ s.size<=b by omega),Bool.and_false];rfl,rfl⟩
 rename_i z
 have Q:=of_decide_eq_false z
 have R:=of_decide_eq_false f
 rw[dT_ (show a<=s.size by omega),dT_ (show s.size<=b by omega),Bool.true_and,Bool.true_and]
 refine Zah [(0,.string s),(3,.pointer (some ⟨x,0,none⟩)),(4,.pointer (some ⟨y,0,none⟩)),(19,.int .i64 s.size)] [] (fun k:Nat=>[(20,.int .i64 k)]) (fun _=>[]) (fun k=>k<=s.size/\ZbO m (l.take k)=true) (fun k=>s.size - k) 0 SFA .nil ⟨Nat.zero_le _,rfl⟩ ?_
 rintro k ⟨S,hok⟩
 repeat refine ZkK ?_
 refine Zaf rfl (fun h=>?_) (fun h=>?_)
 ·have M:=of_decide_eq_true h
  have g:k<l.length:=by omega
  have L:l.getD k 0=l[k]:=by rw[J,List.getElem?_eq_getElem g];rfl
  have t:=UInt8.toNat_lt (l.getD k 0)
  have hcell:=ZwQ (p:=ZbX) t
  have D:=Zwf (ZbX (l.getD k 0).toNat) (Znr _) ⟨m,N⟩
  have d:ZbO m (l.take (k+1))=(ZbO m (l.take k)&&!decide (ZbX (l.getD k 0).toNat &&& m=0)):=by
   rw[ZbO,List.take_succ_eq_append_getElem g,List.all_append,L]
   simp[ZbO]
  have r:ZbO m l=(ZbO m (l.take (k+1))&&ZbO m (l.drop (k+1))):=by
   rw[ZbO,ZbO,ZbO,<- List.all_append,List.take_append_drop]
  rw[hok,Bool.true_and]at d
  obtain⟨c,hcd⟩:∃ c,s.data.toList.getD k 0=c:=⟨_,rfl⟩
  rw[u,hcd]at t hcell D
  rw[u]at d
  rw[hcd,<- u]at d
  rw[<- Nat.mul_one c.toNat]at hcell
  rw[show ZbX (c.toNat*1)=ZbX c.toNat by rw[Nat.mul_one]]at hcell
  simp only at D
  repeat (first|(apply RL_pu;rfl;exact Zpq)|(apply RD_Q;rfl;rfl;decide +kernel;rfl;rfl;exact ZBd)|refine walk1 ?_|(refine jn ?_;(try intro F);(apply Zan;first|exact Zpq|exact PuA);first|refine⟨_,EndsA,QFName3,?_⟩|refine fin ?_))
  rw[D]
  refine Zaf rfl (fun E=>?_) (fun E=>?_)
  ·have K:=of_decide_eq_true E
   have q:ZbX c.toNat &&& m=0:=by omega
   rw[r,d,dT_ q]
   repeat refine ZkK ?_
   exact rtA
  ·have K:=of_decide_eq_false E
   have q:¬ ZbX c.toNat &&& m=0:=by omega
   rw[dF_ q]at d
   repeat refine ZkK ?_
   exact⟨k+1,OA,⟨OA,d⟩,SFA,.nil⟩
 ·have h1:=of_decide_eq_false h
  obtain rfl:k=s.size:=by omega
  rw[<- e,List.take_length]at hok
  repeat refine ZkK ?_
  exact ret_1 _ [] (.tmp rfl) .nil ⟨by rw[hok],rfl⟩
def ofV (b1 b2 b3 b4:Nat):Value := .func (.func 265) #[] #[.pointer (some ⟨b1,0,none⟩),.pointer (some ⟨b2,0,none⟩),.pointer (some ⟨b3,0,none⟩),.pointer (some ⟨b4,0,none⟩)]
def ofO (a b m b1 b2 b3 b4:Nat):List It:=[.blk b1 [.int .i64 a] 3,.blk b2 [.int .i64 b] 3,.blk b3 (kArr ZbX) 279,.blk b4 [.int .u8 m] 5]
theorem Zgb (a b m:Nat)(w:World):Does prog 215 [.int .i64 a,.int .i64 b,.int .u8 m] w (fun v O=>∃ c d e f,v=ofV c d e f/\O=ofO a b m c d e f):=by
 refine Zaa func215 rfl rfl rfl rfl ?_
 repeat (first|(refine js ?_;(first|(refine Zab (fun w' _=>Zow w') ?_)|(apply Zhx;rfl;rfl;(focus repeat' constructor);exact Zdn _;exact Zdn _;exact Zp9 _)|(refine bx ?_;intro g)))|refine walk ?_)
 exact ret_1 _ _ (.tmp rfl) SOA ⟨_,_,_,_,rfl,rfl⟩
theorem Zk1 {base:Nat}{s:ByteArray}{a b m c d e f:Nat}{O:List It}{w:World}(k:(s.size:Int)<=9223372036854775807)(j:m<256)(g:Zaz base O w)(i:SubO (ofO a b m c d e f) O) :
  Does prog 265 ([]++[.string s]++[.pointer (some ⟨c,0,none⟩),.pointer (some ⟨d,0,none⟩),.pointer (some ⟨e,0,none⟩),.pointer (some ⟨f,0,none⟩)]) w (fun v O=>v = .bool (Zb7 a b m s.data.toList)/\O=[]):=by
 have h:=g.sub i
 unfold ofO at h
 exact ZwF s a b m c d e f k j w (h.cells cS_) (h.cells cS_) (h.cells cS_) (h.cells cS_)
theorem ZoC (s:ByteArray)(j:(s.size:Int)<=9223372036854775807)(w:World):Does prog 399 [.string s] w (fun v O=>v = .bool (ZeN s)/\O=[]):=by
 refine Zaa func399 rfl rfl rfl rfl ?_
 repeat (first|(refine js ?_;(first|(apply Zad (h:=fun w' _ _=>Zgb 1 4 1 w');rfl;rintro v O' ⟨c,d,e,g,rfl,rfl⟩)|(apply Zax (f:=265) (us:=[]) (vs:=[.string s]) (cs:=[.pointer (some ⟨c,0,none⟩),.pointer (some ⟨d,0,none⟩),.pointer (some ⟨e,0,none⟩),.pointer (some ⟨g,0,none⟩)]) (h:=fun w' _ i=>Zk1 (a:=1) (b:=4) (m:=1) j (by decide) i (by exact .refl _));rfl;rfl;rintro v O' ⟨rfl,rfl⟩)))|refine walk ?_)
 exact rtA
theorem Zgv (s:ByteArray)(j:(s.size:Int)<=9223372036854775807)(w:World):Does prog 150 [.string s] w (fun v O=>v = .bool (ZhB s)/\O=[]):=by
 refine Zaa func150 rfl rfl rfl rfl ?_
 repeat (first|(refine js ?_;(first|(apply Zad (h:=fun w' _ _=>Zgb 3 6 1 w');rfl;rintro v O' ⟨c,d,e,g,rfl,rfl⟩)|(apply Zax (f:=265) (us:=[]) (vs:=[.string s]) (cs:=[.pointer (some ⟨c,0,none⟩),.pointer (some ⟨d,0,none⟩),.pointer (some ⟨e,0,none⟩),.pointer (some ⟨g,0,none⟩)]) (h:=fun w' _ i=>Zk1 (a:=3) (b:=6) (m:=1) j (by decide) i (by exact .refl _));rfl;rfl;rintro v O' ⟨rfl,rfl⟩)))|refine walk ?_)
 exact rtA
end Go.Proofs.YtpipekfmecikmaaGreatDoor
namespace Go.Wk
open Go Go.RowKit
theorem ZgP {a b m:Nat}{s:ByteArray}(h:Zb7 a b m s.data.toList=true):(a:Int)<=s.size/\(s.size:Int)<=b:=by
 simp only[Zb7,Bool.and_eq_true,decide_eq_true_eq]at h
 have:s.data.toList.length=s.size:=rfl
 omega
theorem ext1 (s:ByteArray):(s.extract 0 1).data.toList=s.data.toList.take 1:=by
 rw[ByteArray.data_extract];simp
end Go.Wk
namespace Go.Proofs.YtpipekfmecikmaaGreatDoor
open Go Go.RowKit Go.Wk Tryz
attribute [local irreducible] W RL Does Zaq Zai retQ Calls Pu Stp RD Qy Ay Zaj Zb7
theorem Zp4 {base:Nat}{s:ByteArray}{a b m c d e f:Nat}{O:List It}{w:World}(n:(s.size:Int)<=9223372036854775807)(l:m<256)(j:Zaz base O w)(k:SubO (ofO a b m c d e f) O) :
  Does prog 265 ([]++[.string s]++[.pointer (some ⟨c,0,none⟩),.pointer (some ⟨d,0,none⟩),.pointer (some ⟨e,0,none⟩),.pointer (some ⟨f,0,none⟩)]) w (fun v O=>∃ x,Zb7 a b m s.data.toList=x/\v = .bool x/\O=[]) :=
 (Zk1 n l j k).monoO fun v O ⟨g,i⟩=>⟨O,⟨_,rfl,g,i⟩,fun _ _ h=>h⟩
theorem ZlL {G:Prop}(h:G:=by(apply Zg6;rfl;rfl;decide;exact hsz)):G:=h
theorem Zqy {G:Prop}(h:G:=by first|(apply Qy_y;rfl;exact ZlL)|exact QyA):G:=h
theorem Zxq {G:Prop}(h:G:=by repeat (first|exact QF.nil|(apply QF.mk;rfl;rfl;decide +kernel;exact Zqy))):G:=h
theorem Zwp (s:ByteArray)(x:(s.size:Int)<=9223372036854775807)(w:World):Does prog 175 [.string s] w (fun v O=>v = .bool (setB s)/\O=[]):=by
 have t:((s.extract 0 1).size:Int)<=9223372036854775807:=by rw[ByteArray.size_extract];omega
 refine Zaa func175 rfl rfl rfl rfl ?_
 repeat (first|refine walk ?_|(refine jn ?_;(try intro F);(first|(apply Zad (h:=fun w' _ _=>Zgb 1 30 15 w');rfl;rintro v O' ⟨d,g,j,p,rfl,rfl⟩)|(apply Zax (f:=265) (us:=[]) (vs:=[.string (s)]) (cs:=[.pointer (some ⟨d,0,none⟩),.pointer (some ⟨g,0,none⟩),.pointer (some ⟨j,0,none⟩),.pointer (some ⟨p,0,none⟩)]) (h:=fun w' _ q=>Zp4 (a:=1) (b:=30) (m:=15) x (by decide) q SOA);rfl;rfl;rintro v O' ⟨y,c,rfl,rfl⟩)|(apply Zan;exact PuA));refine fin ?_))
 refine Zba rfl rfl rfl (fun r=>?_) (fun r=>?_)
 ·subst r
  have hsz:=(ZgP c).1
  have e:setB s=Zb7 1 1 1 (s.extract 0 1).data.toList:=by rw[setB,c,ext1];rfl
  rw[e]
  repeat (first|(apply RL_pu;rfl;exact ZlL)|(apply RD_Q;rfl;rfl;decide +kernel;rfl;rfl;exact Zqy)|refine walk1 ?_|(refine jn ?_;(try intro F);(first|(apply Zad (h:=fun w' _ _=>Zgb 1 1 1 w');rfl;rintro v O' ⟨d,g,j,p,rfl,rfl⟩)|(apply Zax (f:=265) (us:=[]) (vs:=[.string (s.extract 0 1)]) (cs:=[.pointer (some ⟨d,0,none⟩),.pointer (some ⟨g,0,none⟩),.pointer (some ⟨j,0,none⟩),.pointer (some ⟨p,0,none⟩)]) (h:=fun w' _ q=>Zp4 (a:=1) (b:=1) (m:=1) t (by decide) q SOA);rfl;rfl;rintro v O' ⟨z,u,rfl,rfl⟩)|(apply Zan;first|exact ZlL|exact PuA));first|refine⟨_,EndsA,Zxq,?_⟩|refine fin ?_))
  exact ret_1 _ [] (.tmp rfl) .nil ⟨by rw[u],rfl⟩
 ·subst r
  have e:setB s=false:=by rw[setB,c];rfl
  rw[e]
  repeat (first|refine walk ?_|(refine jn ?_;(try intro F);(apply Zan;exact PuA);refine fin ?_))
  exact rtA
end Go.Proofs.YtpipekfmecikmaaGreatDoor
namespace Go.Wk
open Go Go.RowKit
def Zda (r:DRule)(least:Int):Nat->Bool
 | 0=>ZbJ r.from_&&(ZbJ r.to||decide (r.to=1048576))
 | 1=>decide (r.from_<=r.to)
 | 2=>Zcf r.from_ r.to r.month r.day
 | 3=>Zek r.at_ least
 | 4=>decide (-10800<=r.save)&&decide (r.save<=10800)
 | _=>decide (r.letter=ByteArray.empty)||ZeN r.letter
theorem ZhJ {P:Program}{n:Nat}{wr:World}{fr:Fr}{O:List It}{ty t t':TypeId}{x y:Operand}{i j m:Int}(b:ev fr x=some (.int .i64 i))(c:ev fr y=some (.int .i64 j))(a:IntKind.i64.wrap (i+j)=m):Pu P n wr fr O (.binOp .add t x y t') ty (.int .i64 m):=a▸ZlJ b c
end Go.Wk
namespace Go.Proofs.YtpipekfmecikmaaGreatDoor
open Go Go.RowKit Go.Wk Tryz
attribute [local irreducible] W RL Does Zaq Zai retQ Calls Pu Stp RD Qy Ay Zaj Zb7
theorem Zik (y:Int)(w:World):Does prog 391 [.int .i64 y] w (fun v O=>v = .bool (ZbJ y)/\O=[]):=by
 refine Zaa func391 rfl rfl rfl rfl ?_
 repeat' (first|refine walk ?_|refine und ?_|(refine Zas rfl rfl rfl (fun a=>?_) (fun a=>?_))|(refine Zba rfl rfl rfl (fun a=>?_) (fun a=>?_))|(refine Zaf rfl (fun a=>?_) (fun a=>?_)))
 all_goals first|(refine ret_1 _ [] (.tmp rfl) .nil ⟨?_,rfl⟩;first|rfl|(simp only[*,Bool.true_and,Bool.false_and,Bool.true_or,Bool.false_or,Bool.not_true,Bool.not_false];done)|(simp_all [ZbJ];done)|(simp_all [ZbJ];omega)|(simp_all [ZbJ];rw[Bool.eq_iff_iff];simp;omega))|(exfalso;simp_all [ZbJ];done)|(exfalso;simp_all [ZbJ];omega)|(exfalso;omega)
theorem Zq6 (c:DClock)(least:Int)(r : -9223372036854775808<=least/\least<=0)(w:World):Does prog 396 [.agg (DClock.enc c).toArray,.int .i64 least] w (fun v O=>v = .bool (Zek c least)/\O=[]):=by
 by_cases a:ZaL c=true
 ·have q : -604799<=c.sec/\c.sec<=604799:=by
   simp only[ZaL,Bool.and_eq_true,decide_eq_true_eq]at a
   omega
  obtain⟨m,g⟩:∃ m,IntKind.i64.wrap (c.sec+least)=m:=⟨_,rfl⟩
  have f:(decide (-86400<=m)&&decide (m<=172800))=(decide (-86400<=c.sec+least)&&decide (c.sec+least<=172800)):=by
   have p:IntKind.i64.wrap (c.sec+least)=if c.sec+least < -9223372036854775808 then c.sec+least+18446744073709551616 else c.sec+least:=by
    rw[IntKind.wrap_i64]
    repeat' split
    all_goals omega
   rw[p]at g
   rw[Bool.eq_iff_iff]
   simp only[Bool.and_eq_true,decide_eq_true_eq]
   split at g <;> omega
  have i:Zek c least=(ZaL c&&(if c.base=1 then (decide (-86400<=m)&&decide (m<=172800)) else (decide (-86400<=c.sec)&&decide (c.sec<=172800)))):=by
   unfold Zek
   dsimp only
   congr 1
   by_cases e:c.base=1
   ·rw[if_pos e,if_pos e,f]
   ·rw[if_neg e,if_neg e]
  rw[i]
  clear i f
  have d:=Zeb c
  rw[a]at d ⊢
  obtain⟨s,b⟩:=c
  simp only at *
  show Does _ _ [.agg #[.int .i64 s,.int .i64 b],.int .i64 least] w _
  refine Zaa func396 rfl rfl rfl rfl ?_
  repeat' (first|(apply RL_pu;rfl;(apply ZhJ;rfl;rfl;exact g))|(refine js ?_;(first|(refine Zab (fun w' _=>d w') ?_)|(refine bx ?_;intro j)))|refine walk1 ?_|refine und ?_|(refine Zas rfl rfl rfl (fun a=>?_) (fun a=>?_))|(refine Zba rfl rfl rfl (fun a=>?_) (fun a=>?_))|(refine Zaf rfl (fun a=>?_) (fun a=>?_)))
  all_goals exact clo1
 ·unfold Zek
  have d:=Zeb c
  rw[Bool.not_eq_true]at a
  rw[a]at d ⊢
  obtain⟨s,b⟩:=c
  simp only at *
  show Does _ _ [.agg #[.int .i64 s,.int .i64 b],.int .i64 least] w _
  refine Zaa func396 rfl rfl rfl rfl ?_
  repeat' (first|(refine js ?_;(first|(refine Zab (fun w' _=>d w') ?_)|(refine bx ?_;intro j)))|refine walk ?_|refine und ?_|(refine Zas rfl rfl rfl (fun a=>?_) (fun a=>?_))|(refine Zba rfl rfl rfl (fun a=>?_) (fun a=>?_))|(refine Zaf rfl (fun a=>?_) (fun a=>?_)))
  all_goals exact clo1
theorem Zr3 (r:DRule)(least:Int)(w:World):Does prog 390 [.agg (DRule.enc r).toArray,.int .i64 least] w (fun v O=>v = .bool (Zda r least 0)/\O=[]):=by
 unfold Zda
 have e:=Zik r.from_
 have f:=Zik r.to
 generalize ZbJ r.from_=x1 at *
 generalize ZbJ r.to=x2 at *
 obtain⟨i,fr,to,g,⟨c,d,dd⟩,⟨cs,b⟩,sv,le⟩:=r
 simp only at *
 show Does _ _ [.agg #[.string i,.int .i64 fr,.int .i64 to,.int .i64 g,.int .i64 c,.int .i64 d,.int .i64 dd,.int .i64 cs,.int .i64 b,.int .i64 sv,.string le],.int .i64 least] w _
 refine Zaa func390 rfl rfl rfl rfl ?_
 repeat' (first|(refine js ?_;(first|(refine Zab (fun w' _=>e w') ?_)|(refine Zab (fun w' _=>f w') ?_)|(refine bx ?_;intro j)))|refine walk ?_|refine und ?_|(refine Zas rfl rfl rfl (fun a=>?_) (fun a=>?_))|(refine Zba rfl rfl rfl (fun a=>?_) (fun a=>?_))|(refine Zaf rfl (fun a=>?_) (fun a=>?_)))
 all_goals exact clo1
theorem Zr2 (r:DRule)(least:Int)(w:World):Does prog 392 [.agg (DRule.enc r).toArray,.int .i64 least] w (fun v O=>v = .bool (Zda r least 1)/\O=[]):=by
 unfold Zda
 obtain⟨f,fr,g,e,⟨b,c,dd⟩,⟨cs,a⟩,sv,le⟩:=r
 simp only at *
 show Does _ _ [.agg #[.string f,.int .i64 fr,.int .i64 g,.int .i64 e,.int .i64 b,.int .i64 c,.int .i64 dd,.int .i64 cs,.int .i64 a,.int .i64 sv,.string le],.int .i64 least] w _
 refine Zaa func392 rfl rfl rfl rfl ?_
 repeat' (first|(refine js ?_;(refine bx ?_;intro i))|refine walk ?_|(refine Zaf rfl (fun d=>?_) (fun d=>?_)))
 all_goals exact clo1
theorem Zr1 (r:DRule)(least:Int)(w:World)(e:Glob w):Does prog 393 [.agg (DRule.enc r).toArray,.int .i64 least] w (fun v O=>v = .bool (Zda r least 2)/\O=[]):=by
 unfold Zda
 have d:=fun w' g=>Zo9 r.from_ r.to r.month r.day w' (Glob.up (w':=w') e g)
 generalize Zcf r.from_ r.to r.month r.day=x1 at *
 obtain⟨j,fr,to,i,⟨b,c,dd⟩,⟨cs,a⟩,sv,le⟩:=r
 simp only at *
 show Does _ _ [.agg #[.string j,.int .i64 fr,.int .i64 to,.int .i64 i,.int .i64 b,.int .i64 c,.int .i64 dd,.int .i64 cs,.int .i64 a,.int .i64 sv,.string le],.int .i64 least] w _
 refine Zaa func393 rfl rfl rfl rfl ?_
 repeat' (first|(refine js ?_;(first|(refine Zab d ?_)|(refine bx ?_;intro m)))|refine walk ?_|(refine Zaf rfl (fun f=>?_) (fun f=>?_)))
 all_goals exact clo1
theorem Zr0 (r:DRule)(least:Int)(f : -9223372036854775808<=least/\least<=0)(w:World):Does prog 395 [.agg (DRule.enc r).toArray,.int .i64 least] w (fun v O=>v = .bool (Zda r least 3)/\O=[]):=by
 unfold Zda
 have d:=Zq6 r.at_ least f
 generalize Zek r.at_ least=x1 at *
 obtain⟨i,fr,j,g,⟨b,c,dd⟩,⟨cs,a⟩,sv,le⟩:=r
 simp only at *
 show Does _ _ [.agg #[.string i,.int .i64 fr,.int .i64 j,.int .i64 g,.int .i64 b,.int .i64 c,.int .i64 dd,.int .i64 cs,.int .i64 a,.int .i64 sv,.string le],.int .i64 least] w _
 refine Zaa func395 rfl rfl rfl rfl ?_
 repeat' (first|(refine js ?_;(first|(refine Zab (fun w' p=>d w') ?_)|(refine bx ?_;intro m)))|refine walk ?_|(refine Zaf rfl (fun e=>?_) (fun e=>?_)))
 all_goals exact clo1
theorem ZrZ (r:DRule)(least:Int)(w:World):Does prog 397 [.agg (DRule.enc r).toArray,.int .i64 least] w (fun v O=>v = .bool (Zda r least 4)/\O=[]):=by
 unfold Zda
 obtain⟨f,fr,g,e,⟨c,d,dd⟩,⟨cs,b⟩,sv,le⟩:=r
 simp only at *
 show Does _ _ [.agg #[.string f,.int .i64 fr,.int .i64 g,.int .i64 e,.int .i64 c,.int .i64 d,.int .i64 dd,.int .i64 cs,.int .i64 b,.int .i64 sv,.string le],.int .i64 least] w _
 refine Zaa func397 rfl rfl rfl rfl ?_
 repeat' (first|(refine js ?_;(refine bx ?_;intro i))|refine walk ?_|refine und ?_|(refine Zas rfl rfl rfl (fun a=>?_) (fun a=>?_))|(refine Zba rfl rfl rfl (fun a=>?_) (fun a=>?_))|(refine Zaf rfl (fun a=>?_) (fun a=>?_)))
 all_goals exact clo1
theorem ZrY (r:DRule)(least:Int)(f:(r.letter.size:Int)<=9223372036854775807)(w:World):Does prog 398 [.agg (DRule.enc r).toArray,.int .i64 least] w (fun v O=>v = .bool (Zda r least 5)/\O=[]):=by
 unfold Zda
 rw[show ByteArray.empty=⟨#[]⟩ from rfl]
 have e:=ZoC r.letter f
 generalize ZeN r.letter=x1 at *
 obtain⟨i,fr,j,g,⟨c,d,dd⟩,⟨cs,b⟩,sv,le⟩:=r
 simp only at *
 show Does _ _ [.agg #[.string i,.int .i64 fr,.int .i64 j,.int .i64 g,.int .i64 c,.int .i64 d,.int .i64 dd,.int .i64 cs,.int .i64 b,.int .i64 sv,.string le],.int .i64 least] w _
 refine Zaa func398 rfl rfl rfl rfl ?_
 repeat' (first|(refine js ?_;(first|(refine Zab (fun w' p=>e w') ?_)|(refine bx ?_;intro m)))|refine walk ?_|refine und ?_|(refine Zas rfl rfl rfl (fun a=>?_) (fun a=>?_))|(refine Zba rfl rfl rfl (fun a=>?_) (fun a=>?_))|(refine Zaf rfl (fun a=>?_) (fun a=>?_)))
 all_goals exact clo1
theorem ZjO (r:DRule)(w:World):Does prog 273 [.agg (DRule.enc r).toArray] w (fun v O=>v = .bool (Zhl r)/\O=[]):=by
 unfold Zhl
 obtain⟨f,fr,g,e,⟨c,d,dd⟩,⟨cs,b⟩,sv,le⟩:=r
 simp only at *
 show Does _ _ [.agg #[.string f,.int .i64 fr,.int .i64 g,.int .i64 e,.int .i64 c,.int .i64 d,.int .i64 dd,.int .i64 cs,.int .i64 b,.int .i64 sv,.string le]] w _
 refine Zaa func273 rfl rfl rfl rfl ?_
 repeat' (first|(apply RL_pu;rfl;(apply Pu_rem;rfl;rfl;decide))|(refine js ?_;(refine bx ?_;intro i))|refine walk1 ?_|refine und ?_|(refine Zas rfl rfl rfl (fun a=>?_) (fun a=>?_))|(refine Zba rfl rfl rfl (fun a=>?_) (fun a=>?_))|(refine Zaf rfl (fun a=>?_) (fun a=>?_)))
 all_goals exact clo1
theorem ZcX (A:Option Addr)(c:Nat)(l:List DRule)(w:World)(f:RdSl w A c DRule.enc 11 l):Does prog 121 [.slice A l.length c] w (fun v O=>v = .int .i64 (Zae l)/\O=[]):=by
 have q:=f.le
 have i:=f.cap
 unfold maxLen at i
 generalize hres:Zae l=res
 unfold Zae at hres
 refine Zaa func121 rfl rfl rfl rfl ?_
 repeat (first|(refine js ?_;(refine bx ?_;intro e))|refine walk ?_)
 refine Zah [(6,_),(7,_)] [] (fun g:Nat × Int=>[(3,.int .i64 g.2),(8,.int .i64 g.1)]) (fun _=>[]) (fun g=>g.1<=l.length/\(l.drop g.1).foldl (fun m r=>min m r.save) g.2=res) (fun g=>l.length - g.1) (0,0) SFA SOA ⟨Nat.zero_le _,hres⟩ ?_
 rintro⟨k,m⟩ ⟨hk,hi⟩
 dsimp only at hk hi ⊢
 repeat (first|(refine js ?_;(refine bx ?_;intro e))|refine walk ?_)
 refine Zaf rfl (fun h=>?_) (fun h=>?_)
 ·have d:k<l.length:=by simpa using h
  obtain⟨hna,hca⟩:=f.rd k _ (List.getElem?_eq_getElem d)
  rw[Zag d]at hi
  generalize l[k]=r at *
  obtain⟨y,fr,z,x,⟨t,u,dd⟩,⟨cs,s⟩,sv,le⟩:=r
  simp only[DRule.enc,List.foldl_cons]at hca hi
  repeat (first|(apply RL_pu;rfl;(first|exact PuI|(apply ZfP;rfl;rfl)))|(refine js ?_;(refine bx ?_;intro e))|refine walk1 ?_)
  rw[show(if sv<m then sv else m)=min m sv by split <;> omega]
  exact⟨(k+1,min m sv),OA,⟨OA,hi⟩,SFA,.nil⟩
 ·have j:k=l.length:=by
   have:=of_decide_eq_false h
   omega
  subst j
  rw[List.drop_length]at hi
  repeat (first|(refine js ?_;(refine bx ?_;intro e))|refine walk ?_)
  exact ret_1 _ [] (.tmp rfl) .nil ⟨by rw[<- hi];rfl,rfl⟩
theorem ZjT (A:Option Addr)(c:Nat)(l:List DRule)(w:World)(q:RdSl w A c DRule.enc 11 l):Does prog 179 [.slice A l.length c] w (fun v O=>v = .tuple #[.int .i64 (Zb1 l).1,.bool (Zb1 l).2]/\O=[]):=by
 have x:=q.le
 have s:=q.cap
 unfold maxLen at s
 generalize hres:Zb1 l=res
 unfold Zb1 at hres
 refine Zaa func179 rfl rfl rfl rfl ?_
 repeat (first|(refine js ?_;(refine bx ?_;intro f))|refine walk ?_)
 refine Zah [(7,_),(8,_)] [] (fun g:Nat × Int=>[(4,.int .i64 g.2),(9,.int .i64 g.1)]) (fun _=>[]) (fun g=>g.1<=l.length/\Zcp (l.drop g.1) g.2=res) (fun g=>l.length - g.1) (0,0) SFA SOA ⟨Nat.zero_le _,hres⟩ ?_
 rintro⟨k,m⟩ ⟨hk,hi⟩
 dsimp only at hk hi ⊢
 repeat (first|(refine js ?_;(refine bx ?_;intro f))|refine walk ?_)
 refine Zaf rfl (fun h=>?_) (fun h=>?_)
 ·have i:k<l.length:=by simpa using h
  obtain⟨hna,hca⟩:=q.rd k _ (List.getElem?_eq_getElem i)
  rw[Zag i,Zcp]at hi
  generalize l[k]=r at *
  obtain⟨D,fr,E,C,⟨z,B,dd⟩,⟨cs,y⟩,sv,le⟩:=r
  simp only[DRule.enc]at hca hi
  repeat (first|(apply RL_pu;rfl;exact PuI)|(refine js ?_;(refine bx ?_;intro f))|refine walk1 ?_)
  refine Zaf rfl (fun j=>?_) (fun j=>?_)
  ·rw[if_pos (of_decide_eq_true j)]at hi
   repeat (first|(refine js ?_;(refine bx ?_;intro f))|refine walk ?_)
   exact⟨(k+1,m),OA,⟨OA,hi⟩,SFA,.nil⟩
  rw[if_neg (of_decide_eq_false j)]at hi
  repeat' (first|(refine js ?_;(refine bx ?_;intro f))|refine walk ?_|refine und ?_|(refine Zas rfl rfl rfl (fun d=>?_) (fun d=>?_))|(refine Zba rfl rfl rfl (fun d=>?_) (fun d=>?_))|(refine Zaf rfl (fun d=>?_) (fun d=>?_)))
  ·rename_i u
   simp only[Bool.not_eq_true',decide_eq_false_iff_not]at u d
   rw[if_pos ⟨u,d⟩]at hi
   exact ret_2 _ _ [] (.tmp rfl) (.tmp rfl) .nil ⟨by rw[<- hi],rfl⟩
  ·simp only[Bool.not_eq_false',decide_eq_true_eq]at d
   rw[if_neg (fun e=>e.2 d)]at hi
   exact⟨(k+1,sv),OA,⟨OA,hi⟩,SFA,.nil⟩
  ·simp only[Bool.not_eq_false',decide_eq_true_eq]at d
   rw[if_neg (fun e=>e.1 d)]at hi
   exact⟨(k+1,sv),OA,⟨OA,hi⟩,SFA,.nil⟩
 ·have t:k=l.length:=by
   have:=of_decide_eq_false h
   omega
  subst t
  rw[List.drop_length,Zcp]at hi
  repeat (first|(refine js ?_;(refine bx ?_;intro f))|refine walk ?_)
  exact ret_2 _ _ [] (.tmp rfl) (.tmp rfl) .nil ⟨by rw[<- hi],rfl⟩
end Go.Proofs.YtpipekfmecikmaaGreatDoor
namespace Go.Wk
open Go Go.RowKit
section
variable {P:Program}{n:Nat}{wr:World}{fr:Fr}{O:List It}{Q:Exit->Fr->List It->Prop}
def RW (P:Program)(n:Nat)(wr:World)(c:Code)(Q:Exit->Fr->List It->Prop):Nat->Fr->List It->Prop
 | 0,_,_=>False
 | k+1,fr,O=>W P n wr c (Zaq (RW P n wr c Q k) Q) fr O
theorem ZnB {c:Code}:∀ (k:Nat) (fr:Fr) (O:List It),RW P n wr c Q k fr O->∀ a w,St n wr fr O a w->Code.rounds P c (lift n wr Q) k a w
 | 0,_,_,h,_,_,_=>h
 | k+1,fr,O,h,a,w,hs=>by
  rw[rounds_succ]
  refine wp_mono (h a w hs) ?_
  rintro e f w' ⟨fr',O',b,d⟩
  cases e with
  | normal=>exact ZnB k fr' O' d f w' b
  | _=>exact⟨fr',O',b,d⟩
theorem Zqu {c:Code}(k:Nat)(h:RW P n wr c Q k fr O):W P n wr (.loop c) Q fr O:=fun a w b=>wp_loop_rounds k (ZnB k fr O h a w b)
theorem Zeh {c:Code}{k:Nat}(h:W P n wr c (Zaq (RW P n wr c Q k) Q) fr O):RW P n wr c Q (k+1) fr O:=h
theorem Does.monoH {f:FuncId}{args:List Value}{w:World}{R R':Value->List It->Prop}(h:Does P f args w R)(i:∀ v O base w',R v O->Zaz base O w'->∃ O',R' v O'/\Zaz base O' w'):Does P f args w R' :=
 Calls.mono h fun _ _ ⟨v,O,a,b,c,d⟩=>by
  obtain⟨O',e,g⟩:=i v O _ _ d c
  exact⟨v,O',a,b,g,e⟩
end
section
variable {P:Program}{n:Nat}{wr:World}{fr:Fr}{O:List It}{ty:TypeId}
theorem ZnK {t len e sz:Nat}{x g:Operand}{z:IntKind}{i:Int}{cs vs:List Value}[hA:ArrT P t len e sz true](v:ev fr x=some (.agg cs.toArray))(q:ev fr g=some (.int z i))(m:0<=i)(o:i<len)(u:(cs.drop (i.toNat*sz)).take sz=vs) :
  Pu P n wr fr O (.index t x g) ty (.agg vs.toArray):=fun a w d _ _ _ _=>by
 have h:=hA.h
 unfold Zks at h
 split at h
 ·rename_i j l s
  split at h
  ·rename_i b k f
   simp only[Option.some.injEq,Prod.mk.injEq]at h
   obtain⟨rfl,rfl,rfl,rfl⟩:=h
   obtain⟨y,dd,c,r,p,_⟩:=Ty.parts f
   have:Ty P l b true:=⟨f⟩
   subst u
   simp only[execOp,d.sim.ev v,d.sim.ev q,Instr.index,asIntOf,Sem.run_bind,Sem.run_pure,Result.andThen_ok,run_underlying s,m,o,and_self,if_true,part,ZeC,ZdE]
   simp[List.take_drop]
  ·cases h
 ·cases h
end
end Go.Wk
namespace Go.Proofs.YtpipekfmecikmaaGreatDoor
open Go Go.RowKit Go.Wk Tryz
attribute [local irreducible] W RL Does Zaq Zai retQ Calls Pu Stp RD Qy Ay Zaj Zb7
theorem ZiK {α:Type}(p:α->Bool):∀ (l:List α) (k:Nat),decide (0<=Zb8 p l k)=l.any p
 | [],k=>rfl
 | x::l,k=>by
  rw[Zb8,List.any_cons]
  by_cases h:p x=true
  ·rw[if_pos h,h];simp
  ·rw[if_neg h,ZiK p l (k+1)]
   simp[h]
theorem ZeZ (A:Option Addr)(c:Nat)(l:List DRule)(f:FuncId)[Body prog f](us cs:List Value)(p:DRule->Bool)(w:World)(d:RdSl w A c DRule.enc 11 l)
  (e:∀ r w',Bel w.heap.size w w'->Does prog f (us++[.agg (DRule.enc r).toArray]++cs) w' (fun v O=>v = .bool (p r)/\O=[])) :
  Does prog 228 [.slice A l.length c,.func (.func f) us.toArray cs.toArray] w (fun v O=>v = .bool (l.any p)/\O=[]):=by
 have h:=fun w' (a:Bel w.heap.size w w')=>Zft A c l f us cs p w' (d.up a) fun r g b=>e r g (a.trans (b.mono a.size))
 rw[<- ZiK p l 0]
 generalize Zb8 p l 0=k at *
 refine Zaa func228 rfl rfl rfl rfl ?_
 repeat (first|(refine js ?_;(refine Zab h ?_))|refine walk ?_)
 exact rtA
theorem Zui (r:DRule)(w:World):Does prog 226 [.agg (DRule.enc r).toArray] w (fun v O=>v = .bool (decide (r.save=0))/\O=[]):=by
 obtain⟨f,fr,g,e,⟨b,c,dd⟩,⟨cs,a⟩,sv,le⟩:=r
 show Does _ _ [.agg #[.string f,.int .i64 fr,.int .i64 g,.int .i64 e,.int .i64 b,.int .i64 c,.int .i64 dd,.int .i64 cs,.int .i64 a,.int .i64 sv,.string le]] w _
 refine Zaa func226 rfl rfl rfl rfl ?_
 repeat' (first|(refine js ?_;(refine bx ?_;intro i))|refine walk ?_|(refine Zaf rfl (fun d=>?_) (fun d=>?_)))
 all_goals exact clo1
theorem ZrH (r:DRule)(w:World):Does prog 272 [.agg (DRule.enc r).toArray] w (fun v O=>v = .bool (!decide (r.to=1048576))/\O=[]):=by
 obtain⟨f,fr,to,e,⟨b,c,dd⟩,⟨cs,a⟩,sv,le⟩:=r
 show Does _ _ [.agg #[.string f,.int .i64 fr,.int .i64 to,.int .i64 e,.int .i64 b,.int .i64 c,.int .i64 dd,.int .i64 cs,.int .i64 a,.int .i64 sv,.string le]] w _
 refine Zaa func272 rfl rfl rfl rfl ?_
 repeat' (first|(refine js ?_;(refine bx ?_;intro g))|refine walk ?_|(refine Zaf rfl (fun d=>?_) (fun d=>?_)))
 all_goals exact clo1
theorem Zuh (r:DRule)(ad:Addr)(m:Int)(w:World)(h:w.cell? ad=some (.int .i64 m)):Does prog 227 [.agg (DRule.enc r).toArray,.pointer (some ad)] w (fun v O=>v = .bool (!decide (r.save=0)&&!decide (r.save=m))/\O=[]):=by
 obtain⟨f,fr,g,e,⟨c,d,dd⟩,⟨cs,b⟩,sv,le⟩:=r
 show Does _ _ [.agg #[.string f,.int .i64 fr,.int .i64 g,.int .i64 e,.int .i64 c,.int .i64 d,.int .i64 dd,.int .i64 cs,.int .i64 b,.int .i64 sv,.string le],.pointer (some ad)] w _
 refine Zaa func227 rfl rfl rfl rfl ?_
 repeat' (first|(apply RL_pu;rfl;(apply Pu_loadO1;rfl;exact h))|(refine js ?_;(refine bx ?_;intro i))|refine walk1 ?_|refine und ?_|(refine Zas rfl rfl rfl (fun a=>?_) (fun a=>?_))|(refine Zba rfl rfl rfl (fun a=>?_) (fun a=>?_))|(refine Zaf rfl (fun a=>?_) (fun a=>?_)))
 all_goals exact clo1
