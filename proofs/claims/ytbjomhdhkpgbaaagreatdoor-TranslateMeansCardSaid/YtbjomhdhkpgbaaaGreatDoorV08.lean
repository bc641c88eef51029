/- Parts of the proof. -/
import Derived.Test.YtbjomhdhkpgbaaaGreatDoorV07
import Derived.Laws.Strings2
import Derived.Test.YtbjomhdhkpgbaaaGreatDoorV06
import Derived.LoopN
set_option maxHeartbeats 4000000
set_option linter.unusedVariables false
set_option linter.unusedSimpArgs false
namespace Go.Proofs.YtbjomhdhkpgbaaaGreatDoor
open Go Go.RowKit Go.Wk
attribute [local irreducible] W RL Does Zar Zal retQ Calls Pu Stp RD Qy Ay Zak
theorem Zp8 (x k:Int)(hx : -1000000000000000000<=x/\x<=1000000000000000000)(hk:0<=k/\k<=6)(w:World):Does Tryz.prog 329 [.int .i64 x,.int .i64 k] w (fun v O=>v = .int .i64 (Zgv x k)/\O=[]):=by
 have hw:=ZqO x
 refine Zaa Tryz.func329 rfl rfl rfl rfl ?_
 unfold Zgv
 repeat' (first|(apply RL_pu;rfl;exact PuDayf0)|(refine js ?_;(refine Zae (fun w' _=>Zky x (by omega) w') ?_))|refine walk1 ?_|(refine Zah rfl (fun hc=>?_) (fun hc=>?_)))
 all_goals exact clo1
theorem ZjW (x k:Int)(hx : -1000000000000000000<=x/\x<=1000000000000000000)(hk:0<=k/\k<=6)(w:World):Does Tryz.prog 327 [.int .i64 x,.int .i64 k] w (fun v O=>v = .int .i64 (Zfu x k)/\O=[]):=by
 have hw:=ZqO x
 refine Zaa Tryz.func327 rfl rfl rfl rfl ?_
 unfold Zfu
 repeat' (first|(apply RL_pu;rfl;exact PuDayf0)|(refine js ?_;(refine Zae (fun w' _=>Zky x (by omega) w') ?_))|refine walk1 ?_|(refine Zah rfl (fun hc=>?_) (fun hc=>?_)))
 all_goals exact clo1
def ZnH (k:Int):FuncId:=if k=1 then 325 else if k=2 then 326 else if k=3 then 328 else 330
theorem ZsW (p q:Int)(d:DDay)(hp : -100000000000000000<=p/\p<=100000000000000000)(hq : -100000000000000000<=q/\q<=100000000000000000)(hk:1<=d.kind/\d.kind<=4)(hw:0<=d.week/\d.week<=6)(hd:0<=d.day/\d.day<=31)(w:World) :
  Does Tryz.prog (ZnH d.kind) [.int .i64 p,.int .i64 q,.agg (DDay.enc d).toArray] w (fun v O=>v = .int .i64 (ZfY p q d)/\O=[]):=by
 obtain⟨k,wk,dd⟩:=d
 simp only at hk hw hd ⊢
 have h4:k=1\/k=2\/k=3\/k=4:=by omega
 rcases h4 with rfl|rfl|rfl|rfl
 ·rw[show ZfY p q ⟨1,wk,dd⟩=p+dd - 1 by simp[ZfY]]
  show Does _ 325 [.int .i64 p,.int .i64 q,.agg #[.int .i64 1,.int .i64 wk,.int .i64 dd]] w _
  refine Zaa Tryz.func325 rfl rfl rfl rfl ?_
  repeat' (first|(apply RL_pu;rfl;exact PuDayf0)|(refine js ?_;(refine bx ?_;intro bk))|refine walk1 ?_|(refine Zah rfl (fun hc=>?_) (fun hc=>?_)))
  all_goals exact clo1
 ·rw[show ZfY p q ⟨2,wk,dd⟩=Zfu q wk by simp[ZfY]]
  show Does _ 326 [.int .i64 p,.int .i64 q,.agg #[.int .i64 2,.int .i64 wk,.int .i64 dd]] w _
  refine Zaa Tryz.func326 rfl rfl rfl rfl ?_
  repeat' (first|(apply RL_pu;rfl;exact PuDayf0)|(refine js ?_;(first|(refine Zae (fun w' _=>ZjW q wk (by omega) hw w') ?_)|(refine bx ?_;intro bk)))|refine walk1 ?_|(refine Zah rfl (fun hc=>?_) (fun hc=>?_)))
  all_goals exact clo1
 ·rw[show ZfY p q ⟨3,wk,dd⟩=Zgv (p+dd - 1) wk by simp[ZfY]]
  show Does _ 328 [.int .i64 p,.int .i64 q,.agg #[.int .i64 3,.int .i64 wk,.int .i64 dd]] w _
  refine Zaa Tryz.func328 rfl rfl rfl rfl ?_
  repeat' (first|(apply RL_pu;rfl;exact PuDayf0)|(refine js ?_;(first|(refine Zae (fun w' _=>Zp8 (p+dd - 1) wk (by omega) hw w') ?_)|(refine bx ?_;intro bk)))|refine walk1 ?_|(refine Zah rfl (fun hc=>?_) (fun hc=>?_)))
  all_goals exact clo1
 ·rw[show ZfY p q ⟨4,wk,dd⟩=Zfu (p+dd - 1) wk by simp[ZfY]]
  show Does _ 330 [.int .i64 p,.int .i64 q,.agg #[.int .i64 4,.int .i64 wk,.int .i64 dd]] w _
  refine Zaa Tryz.func330 rfl rfl rfl rfl ?_
  repeat' (first|(apply RL_pu;rfl;exact PuDayf0)|(refine js ?_;(first|(refine Zae (fun w' _=>ZjW (p+dd - 1) wk (by omega) hw w') ?_)|(refine bx ?_;intro bk)))|refine walk1 ?_|(refine Zah rfl (fun hc=>?_) (fun hc=>?_)))
  all_goals exact clo1
theorem Zzw {w:World}(hG:Glob w)(k:Int)(hk:1<=k/\k<=4):Zam w ((⟨4,0,none⟩:Addr).add (k.toNat*3)) [.bool (ZoS k),.bool (dayK k),fnV (ZnH k)]:=by
 intro j v hj
 have hk:=hG.kin ((k.toNat - 1)*3+j) v
 have h4:k=1\/k=2\/k=3\/k=4:=by omega
 have hj3:j<3:=(List.getElem?_eq_some_iff.1 hj).1
 have h3:j=0\/j=1\/j=2:=by omega
 rcases h4 with rfl|rfl|rfl|rfl <;> rcases h3 with rfl|rfl|rfl <;> exact hk hj
theorem ZjK (d:DDay)(w:World)(hG:Glob w):Does Tryz.prog 208 [.agg (DDay.enc d).toArray] w (fun v O=>v = .int .i64 (if ZdH d then 0 else 2)/\O=[]):=by
 obtain⟨k,wk,dd⟩:=d
 by_cases hk:1<=k/\k<=4
 ·have hcell:=Zzw hG k hk
  have e:ZdH ⟨k,wk,dd⟩ = !((!decide (wk=0)&&!ZoS k)||decide (wk<0)||decide (6<wk)||(dayK k==decide (dd=0))||decide (dd<0)||decide (31<dd)):=by simp[ZdH,hk.1,hk.2]
  rw[e]
  generalize ZoS k=b1 at *
  generalize dayK k=b2 at *
  show Does _ _ [.agg #[.int .i64 k,.int .i64 wk,.int .i64 dd]] w _
  refine Zaa Tryz.func208 rfl rfl rfl rfl ?_
  repeat' (first|(apply RL_pu;rfl;(first|exact PuDayf0|(apply Zbs;rfl;rfl;omega;omega)|(apply Pu_loadON;rfl;exact hcell;rfl)))|(refine js ?_;(refine bx ?_;intro bk))|refine walk1 ?_|refine und ?_|(refine Zax rfl rfl rfl (fun hc=>?_) (fun hc=>?_))|(refine Zaw rfl rfl rfl (fun hc=>?_) (fun hc=>?_))|(refine Zah rfl (fun hc=>?_) (fun hc=>?_)))
  all_goals exact clo1
 ·have e:ZdH ⟨k,wk,dd⟩=false:=by
   simp only[ZdH]
   have:(decide (1<=k)&&decide (k<=4))=false:=by simp;omega
   rw[this];rfl
  rw[e]
  show Does _ _ [.agg #[.int .i64 k,.int .i64 wk,.int .i64 dd]] w _
  refine Zaa Tryz.func208 rfl rfl rfl rfl ?_
  repeat' (first|(refine js ?_;(refine bx ?_;intro bk))|refine walk ?_|refine und ?_|(refine Zax rfl rfl rfl (fun hc=>?_) (fun hc=>?_))|(refine Zaw rfl rfl rfl (fun hc=>?_) (fun hc=>?_))|(refine Zah rfl (fun hc=>?_) (fun hc=>?_)))
  all_goals exact clo1
theorem ZeK (d:Zb9)(w:World):Does Tryz.prog 178 [.agg (Zb9.enc d).toArray] w (fun v O=>v = .int .i64 (if ZaQ d then 0 else 2)/\O=[]):=by
 obtain⟨k,wk⟩:=d
 show Does _ _ [.agg #[.int .i64 k,.int .i64 wk]] w _
 refine Zaa Tryz.func178 rfl rfl rfl rfl ?_
 repeat' (first|(refine js ?_;(refine bx ?_;intro bk))|refine walk ?_|refine und ?_|(refine Zax rfl rfl rfl (fun hc=>?_) (fun hc=>?_))|(refine Zaw rfl rfl rfl (fun hc=>?_) (fun hc=>?_))|(refine Zah rfl (fun hc=>?_) (fun hc=>?_)))
 all_goals first|(refine ret_1 _ [] (.tmp rfl) .nil ⟨?_,rfl⟩;first|rfl|(simp only[*,Bool.true_and,Bool.false_and,Bool.true_or,Bool.false_or,Bool.not_true,Bool.not_false];done)|(simp_all [ZaQ];done)|(simp_all [ZaQ];omega)|(simp_all [ZaQ];rw[Bool.eq_iff_iff];simp;omega))|(exfalso;simp_all [ZaQ];done)|(exfalso;simp_all [ZaQ];omega)|(exfalso;omega)
theorem Zn4 {d:DDay}(h:ZdH d=true):(1<=d.kind/\d.kind<=4)/\(0<=d.week/\d.week<=6)/\0<=d.day/\d.day<=31:=by
 simp only[ZdH,Bool.and_eq_true,Bool.not_eq_true',Bool.or_eq_false_iff,decide_eq_true_eq,decide_eq_false_iff_not]at h
 omega
theorem ZrD {y m d:Int}(h:Zci y m d=true) : -1000000000000<=Zb7 y m d/\Zb7 y m d<=1000000000000:=by
 obtain⟨h1,h2,h3⟩:=Zn2 h
 unfold Zb7 Zh8
 have hb:=ZfP
 split
 ·have:=hb (m+12 - 3).toNat
  omega
 ·have:=hb (m - 3).toNat
  omega
theorem ZqA {G:Prop}(h:G:=by(first|exact PuDayf0|(apply Zbs;rfl;rfl;omega;omega)|(apply Pu_loadO1';rfl;exact hcell;rfl))):G:=h
theorem Zwx {G:Prop}(h:G:=by first|(apply Qy_y;rfl;exact ZqA)|exact QyA):G:=h
theorem ZBL {G:Prop}(h:G:=by repeat (first|exact QF.nil|(apply QF.mk;rfl;rfl;decide +kernel;exact Zwx))):G:=h
theorem Zpn (y m:Int)(d:DDay)(w:World)(hG:Glob w):Does Tryz.prog 179 [.int .i64 y,.int .i64 m,.agg (DDay.enc d).toArray] w (fun v O=>v = .tuple #[.int .i64 (onD y m d).1,.int .i64 (onD y m d).2]/\O=[]):=by
 have hl:=ZlS y m
 have hdc:=fun w' hw=>ZjK d w' (Glob.up (w':=w') hG hw)
 by_cases hok:Zci y m 1=true
 ·have hdb:=ZrD hok
  by_cases hc:ZdH d=true
  ·obtain⟨b1,b2,b3⟩:=Zn4 hc
   have hcell:=Zzw hG d.kind b1
   have hks:=fun w'=>ZsW (Zb7 y m 1) (Zb7 y m 1+lenM y m - 1) d (by omega) (by omega) b1 b2 b3 w'
   haveI:Body Tryz.prog (ZnH d.kind):=by
    unfold ZnH
    split
    ·infer_instance
    ·split
     ·infer_instance
     ·split <;> infer_instance
   have e:onD y m d=if lenM y m<d.day then (0,4) else (ZfY (Zb7 y m 1) (Zb7 y m 1+lenM y m - 1) d,0):=by simp[onD,hok,hc]
   rw[e]
   clear e
   have ed:=ZjL y m 1
   rw[if_pos hok,if_pos hok]at ed
   rw[hc]at hdc
   generalize ZfY (Zb7 y m 1) (Zb7 y m 1+lenM y m - 1) d=res at *
   obtain⟨k,wk,dd⟩:=d
   simp only at *
   generalize ZnH k=kf at *
   show Does _ _ [.int .i64 y,.int .i64 m,.agg #[.int .i64 k,.int .i64 wk,.int .i64 dd]] w _
   refine Zaa Tryz.func179 rfl rfl rfl rfl ?_
   repeat' (first|(apply RL_pu;rfl;exact ZqA)|(refine js ?_;(first|(apply Zap (f:=kf) (us:=[]) (cs:=[]) (vs:=[.int .i64 (Zb7 y m 1),.int .i64 (Zb7 y m 1+lenM y m - 1),.agg #[.int .i64 k,.int .i64 wk,.int .i64 dd]]) (h:=fun w' hw _=>hks w');rfl;rfl;rintro v O' ⟨rfl,rfl⟩)|(refine Zae (fun w' hw=>ed w' (hG.up hw)) ?_)|(refine Zae hdc ?_)|(refine Zae (fun w' hw=>Zcc y m w') ?_)|(refine bx ?_;intro bk)))|(apply RD_Q;rfl;rfl;decide +kernel;rfl;rfl;exact Zwx)|refine walk1 ?_|(refine Zdc ?_;intro F;(first|(apply Zap (f:=kf) (us:=[]) (cs:=[]) (vs:=[.int .i64 (Zb7 y m 1),.int .i64 (Zb7 y m 1+lenM y m - 1),.agg #[.int .i64 k,.int .i64 wk,.int .i64 dd]]) (h:=fun w' hw _=>hks w');rfl;rfl;rintro v O' ⟨rfl,rfl⟩)|(refine Zae (fun w' hw=>ed w' (hG.up hw)) ?_)|(refine Zae hdc ?_)|(refine Zae (fun w' hw=>Zcc y m w') ?_));refine⟨_,EndsA,SubO.right _ _,?_⟩)|(refine RD_Lw ?_;intro F;(first|(apply Zap (f:=kf) (us:=[]) (cs:=[]) (vs:=[.int .i64 (Zb7 y m 1),.int .i64 (Zb7 y m 1+lenM y m - 1),.agg #[.int .i64 k,.int .i64 wk,.int .i64 dd]]) (h:=fun w' hw _=>hks w');rfl;rfl;rintro v O' ⟨rfl,rfl⟩)|(refine Zae (fun w' hw=>ed w' (hG.up hw)) ?_)|(refine Zae hdc ?_)|(refine Zae (fun w' hw=>Zcc y m w') ?_)|(refine bx ?_;intro bk)|(apply Zag;first|exact ZqA|exact PuA));refine⟨_,EndsA,ZBL,?_⟩)|(refine Zah rfl (fun hc=>?_) (fun hc=>?_)))
   ·have hr:=hc
    rw[if_pos (of_decide_eq_true hr)]
    exact rtB
   ·have hr:=hc
    rw[if_neg (of_decide_eq_false hr)]
    exact rtB
  ·have e:onD y m d=(0,2):=by simp[onD,hok,hc]
   rw[e]
   have ed:=ZjL y m 1
   rw[if_pos hok,if_pos hok]at ed
   rw[Bool.not_eq_true]at hc
   rw[hc]at hdc
   obtain⟨k,wk,dd⟩:=d
   show Does _ _ [.int .i64 y,.int .i64 m,.agg #[.int .i64 k,.int .i64 wk,.int .i64 dd]] w _
   refine Zaa Tryz.func179 rfl rfl rfl rfl ?_
   repeat' (first|(refine js ?_;(first|(refine Zae (fun w' hw=>ed w' (hG.up hw)) ?_)|(refine Zae hdc ?_)|(refine bx ?_;intro bk)))|refine walk ?_|(refine Zdc ?_;intro F;(first|(refine Zae (fun w' hw=>ed w' (hG.up hw)) ?_)|(refine Zae hdc ?_));refine⟨_,EndsA,SubO.right _ _,?_⟩)|(refine RD_Lw ?_;intro F;(first|(refine Zae (fun w' hw=>ed w' (hG.up hw)) ?_)|(refine Zae hdc ?_)|(refine bx ?_;intro bk)|(apply Zag;exact PuA));refine⟨_,EndsA,QFA,?_⟩)|(refine Zah rfl (fun hc=>?_) (fun hc=>?_)))
   all_goals exact clo2
 ·have e:onD y m d=(0,3):=by simp[onD,hok]
  rw[e]
  have ed:=ZjL y m 1
  rw[if_neg hok,if_neg hok]at ed
  refine Zaa Tryz.func179 rfl rfl rfl rfl ?_
  repeat' (first|(refine js ?_;(first|(refine Zae (fun w' hw=>ed w' (hG.up hw)) ?_)|(refine bx ?_;intro bk)))|refine walk ?_|(refine Zdc ?_;intro F;(refine Zae (fun w' hw=>ed w' (hG.up hw)) ?_);refine⟨_,EndsA,SubO.right _ _,?_⟩)|(refine RD_Lw ?_;intro F;(first|(refine Zae (fun w' hw=>ed w' (hG.up hw)) ?_)|(refine bx ?_;intro bk)|(apply Zag;exact PuA));refine⟨_,EndsA,QFA,?_⟩)|(refine Zah rfl (fun hc=>?_) (fun hc=>?_)))
  all_goals exact clo2
theorem Zqz {G:Prop}(h:G:=by(apply Pu_rem;rfl;rfl;decide)):G:=h
theorem Zww {G:Prop}(h:G:=by first|(apply Qy_y;rfl;exact Zqz)|exact QyA):G:=h
theorem ZBK {G:Prop}(h:G:=by repeat (first|exact QF.nil|(apply QF.mk;rfl;rfl;decide +kernel;exact Zww))):G:=h
theorem Zqd (a b m:Int)(d:DDay)(w:World)(hG:Glob w):Does Tryz.prog 319 [.int .i64 a,.int .i64 b,.int .i64 m,.agg (DDay.enc d).toArray] w (fun v O=>v = .bool (Zgw a b m d)/\O=[]):=by
 have hdc:=fun w' hw=>ZjK d w' (Glob.up (w':=w') hG hw)
 unfold Zgw
 generalize ZdH d=c at *
 obtain⟨k,wk,dd⟩:=d
 simp only at *
 show Does _ _ [.int .i64 a,.int .i64 b,.int .i64 m,.agg #[.int .i64 k,.int .i64 wk,.int .i64 dd]] w _
 refine Zaa Tryz.func319 rfl rfl rfl rfl ?_
 repeat' (first|(apply RL_pu;rfl;exact Zqz)|(refine js ?_;(first|(refine Zae hdc ?_)|(refine Zae (fun w' hw=>Zcc 1 m w') ?_)|(refine Zae (fun w' hw=>Zcc (a.tmod 400) m w') ?_)|(refine bx ?_;intro bk)))|(apply RD_Q;rfl;rfl;decide +kernel;rfl;rfl;exact Zww)|refine walk1 ?_|(refine Zdc ?_;intro F;(first|(refine Zae hdc ?_)|(refine Zae (fun w' hw=>Zcc 1 m w') ?_)|(refine Zae (fun w' hw=>Zcc (a.tmod 400) m w') ?_));refine⟨_,EndsA,SubO.right _ _,?_⟩)|(refine RD_Lw ?_;intro F;(first|(refine Zae hdc ?_)|(refine Zae (fun w' hw=>Zcc 1 m w') ?_)|(refine Zae (fun w' hw=>Zcc (a.tmod 400) m w') ?_)|(refine bx ?_;intro bk)|(apply Zag;first|exact Zqz|exact PuA));refine⟨_,EndsA,ZBK,?_⟩)|refine und ?_|(refine Zax rfl rfl rfl (fun hc=>?_) (fun hc=>?_))|(refine Zaw rfl rfl rfl (fun hc=>?_) (fun hc=>?_))|(refine Zah rfl (fun hc=>?_) (fun hc=>?_)))
 all_goals exact clo1
end Go.Proofs.YtbjomhdhkpgbaaaGreatDoor
namespace Go.Wk
open Go Go.RowKit
def kArr (p:Nat->Nat):List Value:=(List.range 256).map fun i => .int .u8 (p i)
theorem ZdQ (p:Nat->Nat):(kArr p).length=256:=by simp[kArr]
theorem Zyv {p:Nat->Nat}{j:Nat}(hj:j<256):(kArr p)[j]?=some (.int .u8 (p j)):=by simp[kArr,hj]
theorem Zyu (p:Nat->Nat)(j v:Nat):(kArr p).set j (.int .u8 v)=kArr fun i=>if i=j then v else p i:=by
 apply List.ext_getElem
 ·simp[kArr]
 ·intro i h1 h2
  simp only[kArr,List.getElem_set,List.getElem_map,List.getElem_range]
  by_cases h:j=i
  ·subst h;simp
  ·have:i≠j:=fun e=>h e.symm
   simp[h,this]
theorem Zef {p q:Nat->Nat}(h:∀ i,i<256->p i=q i):kArr p=kArr q:=by
 unfold kArr
 apply List.map_congr_left
 intro i hi
 rw[h i (List.mem_range.1 hi)]
theorem Zrj (p:Nat->Nat):(kArr p).all Value.oneCell'=true:=by simp[kArr,Value.oneCell']
attribute [irreducible] kArr
theorem Zvg:∀ (vs:List Value)(pre cs:List Value),cs.length=vs.length->lay (pre++cs) pre.length vs=pre++vs
 | [],pre,cs,h=>by
  have:cs=[]:=List.eq_nil_of_length_eq_zero h
  rw[this];rfl
 | v::r,pre,[],h=>by simp at h
 | v::r,pre,c::cs,h=>by
  rw[lay,List.set_append_right _ _ (Nat.le_refl _),Nat.sub_self,List.set_cons_zero]
  have:=Zvg r (pre++[v]) cs (by simpa using h)
  rw[List.append_assoc,List.length_append]at this
  simpa using this
section
variable {P:Program}{n:Nat}{wr:World}{fr:Fr}{O:List It}{ty:TypeId}{pos:String}{af:Array Edge}
theorem ZtC {t sz b:Nat}{x:Operand}{cs:List Value}{bt:TypeId}{R:List It}[Ty P t sz true](hx:ev fr x=some (.pointer (some ⟨b,0,none⟩)))(hp:Pick (.blk b cs bt) O R)(hl:cs.length=sz):Pu P n wr fr O (.load t x) ty (.agg cs.toArray) :=
 Zoy hx hp (by simp[List.take_of_length_le (Nat.le_of_eq hl)]) hl
theorem Zlo {t:TypeId}{x z:Operand}{s:ByteArray}{k':IntKind}{j:Int}[hS:StringT P t](hx:ev fr x=some (.string s))(hz:ev fr z=some (.int k' j))(h1:0<=j)(h2:j<=s.size) :
  Pu P n wr fr O (.slice t x none (some z) none) ty (.string (s.extract 0 j.toNat)):=fun a w hs _ _ _ _=>by
 have h:(Instr.slice t (.string s) none (some (.int k' j)) none).run P w = .ok (.string (s.extract 0 j.toNat)) w:=by
  have hj:0<=j/\j<=(s.size:Int):=⟨by omega,h2⟩
  simp[Instr.slice,Instr.sliceBounds,Instr.sliceBound,asIntOf,run_underlying hS.h,hj]
 simp[execOp,hs.sim.ev hx,hs.sim.ev hz,Instr.sliceAt,run_underlying hS.h,h]
theorem ZtA {t:TypeId}{x y:Operand}{s:ByteArray}{k:IntKind}{i:Int}[hS:StringT P t](hx:ev fr x=some (.string s))(hy:ev fr y=some (.int k i))(h0:0<=i)(h1:i<=s.size) :
  Pu P n wr fr O (.slice t x (some y) none none) ty (.string (s.extract i.toNat s.size)):=fun a w hs _ _ _ _=>by
 have h:(Instr.slice t (.string s) (some (.int k i)) none none).run P w = .ok (.string (s.extract i.toNat s.size)) w:=by
  have hi:0<=i/\i<=(s.size:Int):=⟨h0,h1⟩
  simp[Instr.slice,Instr.sliceBounds,Instr.sliceBound,asIntOf,run_underlying hS.h,hi]
 simp[execOp,hs.sim.ev hx,hs.sim.ev hy,Instr.sliceAt,run_underlying hS.h,h]
theorem Zhf {t:TypeId}{x ix:Operand}{s:ByteArray}{kk:IntKind}{i:Int}{c:UInt8}[hS:StringT P t](hx:ev fr x=some (.string s))(hi:ev fr ix=some (.int kk i))(h0:0<=i)(h1:i<s.size)(hc:s.data.toList.getD i.toNat 0=c):Pu P n wr fr O (.index t x ix) ty (.int .u8 c.toNat):=by
 subst hc
 exact Zj7 hx hi h0 h1
theorem ZhL {t b j v:Nat}{bt:TypeId}{x y:Operand}{p:Nat->Nat}{O':List It}{dst:Option Tmp}{g:Option (Nat × Bool)}{Kp:Value->List It->Prop}[Ty P t 1 false](hx:ev fr x=some (.pointer (some ((⟨b,0,none⟩:Addr).add (j*1)))))(hy:ev fr y=some (.int .u8 v))
  (hu:Upd O (.blk b (kArr p) bt) (.blk b (kArr fun i=>if i=j then v else p i) bt) O') (hj:j<256) (k:Kp undef O'):Stp P n wr fr O ⟨dst,.store t x y,ty,pos,af,g⟩ Kp:=by
 rw[Zcv,Nat.zero_add,Nat.mul_one]at hx
 exact ZhM (sz:=1) (v := .int .u8 v) (vs:=[.int .u8 v]) (j:=j) hx hy hu rfl rfl rfl (by rw[Nat.ble_eq,ZdQ];omega) (Zyu p j v) k
theorem Zib {t b sz:Nat}{bt:TypeId}{x y:Operand}{cs vs:List Value}{O':List It}{dst:Option Tmp}{g:Option (Nat × Bool)}{Kp:Value->List It->Prop}[Ty P t sz true](hx:ev fr x=some (.pointer (some ⟨b,0,none⟩)))(hy:ev fr y=some (.agg vs.toArray))
  (hu:Upd O (.blk b cs bt) (.blk b vs bt) O') (hl:vs.length=sz) (hc:cs.length=sz) (h1:vs.all Value.oneCell'=true) (k:Kp undef O'):Stp P n wr fr O ⟨dst,.store t x y,ty,pos,af,g⟩ Kp :=
 ZhM (v := .agg vs.toArray) (vs:=vs) hx hy hu rfl hl h1 (by rw[Nat.ble_eq];omega) (Zvg vs [] cs (by omega)) k
end
theorem Zau.cells {base b:Nat}{cs:List Value}{t:TypeId}{O R:List It}{w:World}(h:Zau base O w)(hp:Pick (.blk b cs t) O R):Zam w ⟨b,0,none⟩ cs:=fun j v hj=>by
 rw[Zcv,ZcQ (h.sat _ (hp.perm.mem_iff.2 List.mem_cons_self)),Nat.zero_add,hj]
theorem ZxE:∀ a∈[0,1,2,4,8,16],∀ s:Fin 256,IntKind.u8.wrap ((BitVec.ofInt IntKind.u8.bits ((a:Nat):Int) &&& BitVec.ofInt IntKind.u8.bits ((s.val:Nat):Int)).toNat:Nat)=((a &&& s.val:Nat):Int):=by decide +kernel
theorem Zv2 (c:Nat):ZdM c∈[0,1,2,4,8,16]:=by
 unfold ZdM
 repeat' split
 all_goals decide
end Go.Wk
namespace Go.Proofs.YtbjomhdhkpgbaaaGreatDoor
open Go Go.RowKit Go.Wk
attribute [local irreducible] W RL Does Zar Zal retQ Calls Pu Stp RD Qy Ay Zak
instance zeroKinds:ZeroT Tryz.prog 255 (kArr fun _=>0):=⟨by kernel_rfl⟩
def k1 (k i:Nat):Nat:=if (65<=i/\i<65+k)\/(97<=i/\i<97+k) then 1 else 0
def k2 (k i:Nat):Nat:=if 48<=i/\i<48+k then 2 else k1 26 i
theorem Zkb {G:Prop}(h:G:=by(apply Zbs;rfl;rfl;omega;omega)):G:=h
theorem Zpr (w:World):Does Tryz.prog 167 [] w (fun v O=>v = .agg (kArr ZdM).toArray/\O=[]):=by
 refine Zaa Tryz.func167 rfl rfl rfl rfl ?_
 repeat (first|(refine js ?_;(refine bx ?_;intro bk))|refine Zkj ?_)
 rename_i b0
 have e0:kArr (k1 0)=kArr fun _=>0:=Zef fun i _=>if_neg (by omega)
 rw[<- e0]
 refine Zcw (fun fr' O'=>Go.Wk.Sub [(0,.pointer (some ⟨b0,0,none⟩)),(1,.pointer (some ⟨bk,0,none⟩))] fr'/\SubO [.blk bk (kArr (k1 26)) 255,.blk b0 (kArr (k1 0)) 255] O') ?_ ?_
 ·apply W_block
  refine Zaq [(0,.pointer (some ⟨b0,0,none⟩)),(1,.pointer (some ⟨bk,0,none⟩))] [.blk b0 (kArr (k1 0)) 255] (fun k:Nat=>[(4,.int .i64 k)]) (fun k=>[.blk bk (kArr (k1 k)) 255]) (fun k=>k<=26) (fun k=>26 - k) 0 SFA SOA (Nat.zero_le _) ?_
  intro k hk
  repeat (first|(apply RL_pu;rfl;exact Zkb)|(refine js ?_;(refine bx ?_;intro bk))|refine walk1 ?_)
  refine Zah rfl (fun h=>?_) (fun h=>?_)
  ·have h1:=of_decide_eq_true h
   repeat (first|(apply RL_pu;rfl;exact Zkb)|(refine js ?_;(first|(apply ZhL;rfl;rfl;(focus repeat' constructor);omega)|(refine bx ?_;intro bk)))|refine walk1 ?_)
   rw[Zef (p:=fun i=>if i=(97+(k:Int)).toNat then 1 else if i=(65+(k:Int)).toNat then 1 else k1 k i) (q:=k1 (k+1)) (fun i hi=>by
    unfold k1
    repeat' split
    all_goals omega)]
   exact⟨k+1,OA,OA,SFA,SOA⟩
  ·have h1:=of_decide_eq_false h
   obtain rfl:k=26:=by omega
   repeat (first|(refine js ?_;(refine bx ?_;intro bk))|refine walk ?_)
   exact⟨rfl,SFA,SOA⟩
 rintro fr' O' ⟨hf,hO⟩
 apply thenQ_n
 refine ZcH hf hO ?_
 clear hf hO fr' O'
 rw[show kArr (k1 26)=kArr (k2 0) from Zef fun i _=>(if_neg (by omega)).symm]
 repeat (first|(refine js ?_;(refine bx ?_;intro bk))|refine Zkj ?_)
 refine Zcw (fun fr' O'=>Go.Wk.Sub [(0,.pointer (some ⟨b0,0,none⟩)),(1,.pointer (some ⟨bk,0,none⟩))] fr'/\SubO [.blk bk (kArr (k2 10)) 255,.blk b0 (kArr (k1 0)) 255] O') ?_ ?_
 ·apply W_block
  refine Zaq [(0,.pointer (some ⟨b0,0,none⟩)),(1,.pointer (some ⟨bk,0,none⟩))] [.blk b0 (kArr (k1 0)) 255] (fun k:Nat=>[(14,.int .i64 k)]) (fun k=>[.blk bk (kArr (k2 k)) 255]) (fun k=>k<=10) (fun k=>10 - k) 0 SFA SOA (Nat.zero_le _) ?_
  intro k hk
  repeat (first|(apply RL_pu;rfl;exact Zkb)|(refine js ?_;(refine bx ?_;intro bk))|refine walk1 ?_)
  refine Zah rfl (fun h=>?_) (fun h=>?_)
  ·have h1:=of_decide_eq_true h
   repeat (first|(apply RL_pu;rfl;exact Zkb)|(refine js ?_;(first|(apply ZhL;rfl;rfl;(focus repeat' constructor);omega)|(refine bx ?_;intro bk)))|refine walk1 ?_)
   rw[Zef (p:=fun i=>if i=(48+(k:Int)).toNat then 2 else k2 k i) (q:=k2 (k+1)) (fun i hi=>by
    unfold k2
    repeat' split
    all_goals omega)]
   exact⟨k+1,OA,OA,SFA,SOA⟩
  ·have h1:=of_decide_eq_false h
   obtain rfl:k=10:=by omega
   repeat (first|(refine js ?_;(refine bx ?_;intro bk))|refine walk ?_)
   exact⟨rfl,SFA,SOA⟩
 rintro fr' O' ⟨hf,hO⟩
 apply thenQ_n
 refine ZcH hf hO ?_
 clear hf hO fr' O'
 repeat (first|(apply RL_pu;rfl;(first|exact Zkb|(apply ZtC;rfl;(focus repeat' constructor);exact ZdQ _)))|(refine js ?_;(first|(apply ZhL;rfl;rfl;(focus repeat' constructor);omega)|(apply Zib;rfl;rfl;(focus repeat' constructor);exact ZdQ _;exact ZdQ _;exact Zrj _)|(refine bx ?_;intro bk)))|refine walk1 ?_)
 refine ret_1 _ [] (.cellB rfl (by repeat' constructor) (List.take_of_length_le (Nat.le_of_eq (ZdQ _))) (ZdQ _)) .nil ⟨?_,rfl⟩
 rw[Zef (q:=ZdM) (fun i hi=>by
    unfold ZdM k2 k1
    repeat' split
    all_goals omega)]
theorem Zlu {G G':Prop}(k:G')(h:Hold G'->G:=by intro k9;(first|refine walk ?_|(refine jn ?_;(try intro F);(apply Zag;exact PuA);refine fin ?_));exact k9.out):G:=h ⟨k⟩
theorem Zw2 {G:Prop}(h:G:=by(apply Pu_loadO1;rfl;first|exact h1 0 _ rfl|exact h2 0 _ rfl|exact h4 0 _ rfl)):G:=h
theorem Zqy {G:Prop}(h:G:=by(first|(apply Zhf (c:=c);rfl;rfl;omega;omega;exact hcd)|(apply Zbs;rfl;rfl;omega;omega)|(apply Pu_loadO1';rfl;exact h3;exact hcell)|(apply Pu_loadO1;rfl;exact h4 0 _ rfl)|(apply ZBS;rfl;rfl))):G:=h
theorem ZBJ {G:Prop}(h:G:=by first|(apply Qy_y;rfl;exact Zqy)|exact QyA):G:=h
theorem Zyd (s:ByteArray)(a b m b1 b2 b3 b4:Nat)(hs:(s.size:Int)<=9223372036854775807)(hm:m<256)(w:World)(h1:Zam w ⟨b1,0,none⟩ [.int .i64 a])(h2:Zam w ⟨b2,0,none⟩ [.int .i64 b])(h3:Zam w ⟨b3,0,none⟩ (kArr ZdM))(h4:Zam w ⟨b4,0,none⟩ [.int .u8 m]) :
  Does Tryz.prog 168 [.string s,.pointer (some ⟨b1,0,none⟩),.pointer (some ⟨b2,0,none⟩),.pointer (some ⟨b3,0,none⟩),.pointer (some ⟨b4,0,none⟩)] w (fun v O=>v = .bool (Zdx a b m s.data.toList)/\O=[]):=by
 have hlen:s.data.toList.length=s.size:=rfl
 have hg:∀ j,s.data.toList.getD j 0=(s.data.toList[j]?).getD 0:=fun j=>by rw[List.getD_eq_getElem?_getD]
 refine Zaa Tryz.func168 rfl rfl rfl rfl ?_
 rw[Zdx,hlen]
 obtain⟨l,hl⟩:∃ l,l=s.data.toList:=⟨_,rfl⟩
 rw[<- hl]at hlen hg ⊢
 repeat' (first|(apply RL_pu;rfl;exact Zw2)|(apply RD_Q;rfl;rfl;decide +kernel;rfl;rfl;exact QyName2)|refine walk1 ?_|(refine RD_Lw ?_;intro F;(apply Zag;first|exact Zw2|exact PuA);refine⟨_,EndsA,QFName2,?_⟩)|refine und ?_|(refine Zax rfl rfl rfl (fun hc=>?_) (fun hc=>?_))|(refine Zaw rfl rfl rfl (fun hc=>?_) (fun hc=>?_))|(refine Zah rfl (fun hc=>?_) (fun hc=>?_)))
 ·have h:=of_decide_eq_true hc
  exact ret_1 _ [] (.tmp rfl) .nil ⟨by rw[decide_eq_false (show ¬ a<=s.size by omega)];rfl,rfl⟩
 ·have h:=of_decide_eq_true hc
  exact ret_1 _ [] (.tmp rfl) .nil ⟨by rw[decide_eq_false (show ¬ s.size<=b by omega),Bool.and_false];rfl,rfl⟩
 rename_i hca
 have ha:=of_decide_eq_false hca
 have hb:=of_decide_eq_false hc
 rw[decide_eq_true (show a<=s.size by omega),decide_eq_true (show s.size<=b by omega),Bool.true_and,Bool.true_and]
 refine Zaq [(0,.string s),(3,.pointer (some ⟨b3,0,none⟩)),(4,.pointer (some ⟨b4,0,none⟩)),(19,.int .i64 s.size)] [] (fun k:Nat=>[(20,.int .i64 k)]) (fun _=>[]) (fun k=>k<=s.size/\Zc6 m (l.take k)=true) (fun k=>s.size - k) 0 SFA .nil ⟨Nat.zero_le _,rfl⟩ ?_
 rintro k ⟨hk,hok⟩
 repeat refine Zlu ?_
 refine Zah rfl (fun h=>?_) (fun h=>?_)
 ·have hlt:=of_decide_eq_true h
  have hlt':k<l.length:=by omega
  have hd:l.getD k 0=l[k]:=by rw[hg,List.getElem?_eq_getElem hlt'];rfl
  have hc8:=UInt8.toNat_lt (l.getD k 0)
  have hcell:=Zyv (p:=ZdM) hc8
  have hw:=ZxE (ZdM (l.getD k 0).toNat) (Zv2 _) ⟨m,hm⟩
  have hst:Zc6 m (l.take (k+1))=(Zc6 m (l.take k)&&!decide (ZdM (l.getD k 0).toNat &&& m=0)):=by
   rw[Zc6,List.take_succ_eq_append_getElem hlt',List.all_append,hd]
   simp[Zc6]
  have hall:Zc6 m l=(Zc6 m (l.take (k+1))&&Zc6 m (l.drop (k+1))):=by
   rw[Zc6,Zc6,Zc6,<- List.all_append,List.take_append_drop]
  rw[hok,Bool.true_and]at hst
  obtain⟨c,hcd⟩:∃ c,s.data.toList.getD k 0=c:=⟨_,rfl⟩
  rw[hl,hcd]at hc8 hcell hw
  rw[hl]at hst
  rw[hcd,<- hl]at hst
  rw[<- Nat.mul_one c.toNat]at hcell
  rw[show ZdM (c.toNat*1)=ZdM c.toNat by rw[Nat.mul_one]]at hcell
  simp only at hw
  repeat (first|(apply RL_pu;rfl;exact Zqy)|(apply RD_Q;rfl;rfl;decide +kernel;rfl;rfl;exact ZBJ)|refine walk1 ?_|(refine jn ?_;(try intro F);(apply Zag;first|exact Zqy|exact PuA);first|refine⟨_,EndsA,QFName3,?_⟩|refine fin ?_))
  rw[hw]
  refine Zah rfl (fun hz=>?_) (fun hz=>?_)
  ·have h0:=of_decide_eq_true hz
   have h0':ZdM c.toNat &&& m=0:=by omega
   rw[hall,hst,decide_eq_true h0']
   repeat refine Zlu ?_
   exact rtA
  ·have h0:=of_decide_eq_false hz
   have h0':¬ ZdM c.toNat &&& m=0:=by omega
   rw[decide_eq_false h0']at hst
   repeat refine Zlu ?_
   exact⟨k+1,OA,⟨OA,hst⟩,SFA,.nil⟩
 ·have h1:=of_decide_eq_false h
  obtain rfl:k=s.size:=by omega
  rw[<- hlen,List.take_length]at hok
  repeat refine Zlu ?_
  exact ret_1 _ [] (.tmp rfl) .nil ⟨by rw[hok],rfl⟩
def ofV (b1 b2 b3 b4:Nat):Value := .func (.func 168) #[] #[.pointer (some ⟨b1,0,none⟩),.pointer (some ⟨b2,0,none⟩),.pointer (some ⟨b3,0,none⟩),.pointer (some ⟨b4,0,none⟩)]
def ofO (a b m b1 b2 b3 b4:Nat):List It:=[.blk b1 [.int .i64 a] 3,.blk b2 [.int .i64 b] 3,.blk b3 (kArr ZdM) 255,.blk b4 [.int .u8 m] 5]
theorem ZgK (a b m:Nat)(w:World):Does Tryz.prog 122 [.int .i64 a,.int .i64 b,.int .u8 m] w (fun v O=>∃ b1 b2 b3 b4,v=ofV b1 b2 b3 b4/\O=ofO a b m b1 b2 b3 b4):=by
 refine Zaa Tryz.func122 rfl rfl rfl rfl ?_
 repeat (first|(refine js ?_;(first|(refine Zae (fun w' _=>Zpr w') ?_)|(apply Zib;rfl;rfl;(focus repeat' constructor);exact ZdQ _;exact ZdQ _;exact Zrj _)|(refine bx ?_;intro bk)))|refine walk ?_)
 exact ret_1 _ _ (.tmp rfl) SOA ⟨_,_,_,_,rfl,rfl⟩
theorem ZlO {base:Nat}{s:ByteArray}{a b m b1 b2 b3 b4:Nat}{O:List It}{w:World}(hs:(s.size:Int)<=9223372036854775807)(hm:m<256)(hH:Zau base O w)(hO:SubO (ofO a b m b1 b2 b3 b4) O) :
  Does Tryz.prog 168 ([]++[.string s]++[.pointer (some ⟨b1,0,none⟩),.pointer (some ⟨b2,0,none⟩),.pointer (some ⟨b3,0,none⟩),.pointer (some ⟨b4,0,none⟩)]) w (fun v O=>v = .bool (Zdx a b m s.data.toList)/\O=[]):=by
 have h:=hH.sub hO
 unfold ofO at h
 exact Zyd s a b m b1 b2 b3 b4 hs hm w (h.cells (by repeat' constructor)) (h.cells (by repeat' constructor)) (h.cells (by repeat' constructor)) (h.cells (by repeat' constructor))
theorem ZpE (s:ByteArray)(hs:(s.size:Int)<=9223372036854775807)(w:World):Does Tryz.prog 324 [.string s] w (fun v O=>v = .bool (Zjb s)/\O=[]):=by
 refine Zaa Tryz.func324 rfl rfl rfl rfl ?_
 repeat (first|(refine js ?_;(first|(apply Zad (h:=fun w' _ _=>ZgK 1 4 1 w');rfl;rintro v O' ⟨b1,b2,b3,b4,rfl,rfl⟩)|(apply Zap (f:=168) (us:=[]) (vs:=[.string s]) (cs:=[.pointer (some ⟨b1,0,none⟩),.pointer (some ⟨b2,0,none⟩),.pointer (some ⟨b3,0,none⟩),.pointer (some ⟨b4,0,none⟩)]) (h:=fun w' _ hH=>ZlO (a:=1) (b:=4) (m:=1) hs (by decide) hH (by exact .refl _));rfl;rfl;rintro v O' ⟨rfl,rfl⟩)))|refine walk ?_)
 exact rtA
theorem Zg7 (s:ByteArray)(hs:(s.size:Int)<=9223372036854775807)(w:World):Does Tryz.prog 100 [.string s] w (fun v O=>v = .bool (Ztw s)/\O=[]):=by
 refine Zaa Tryz.func100 rfl rfl rfl rfl ?_
 repeat (first|(refine js ?_;(first|(apply Zad (h:=fun w' _ _=>ZgK 3 6 1 w');rfl;rintro v O' ⟨b1,b2,b3,b4,rfl,rfl⟩)|(apply Zap (f:=168) (us:=[]) (vs:=[.string s]) (cs:=[.pointer (some ⟨b1,0,none⟩),.pointer (some ⟨b2,0,none⟩),.pointer (some ⟨b3,0,none⟩),.pointer (some ⟨b4,0,none⟩)]) (h:=fun w' _ hH=>ZlO (a:=3) (b:=6) (m:=1) hs (by decide) hH (by exact .refl _));rfl;rfl;rintro v O' ⟨rfl,rfl⟩)))|refine walk ?_)
 exact rtA
end Go.Proofs.YtbjomhdhkpgbaaaGreatDoor
namespace Go.Wk
open Go Go.RowKit
theorem ZkP {a b m:Nat}{s:ByteArray}(h:Zdx a b m s.data.toList=true):(a:Int)<=s.size/\(s.size:Int)<=b:=by
 simp only[Zdx,Bool.and_eq_true,decide_eq_true_eq]at h
 have:s.data.toList.length=s.size:=rfl
 omega
theorem ext1 (s:ByteArray):(s.extract 0 1).data.toList=s.data.toList.take 1:=by
 rw[ByteArray.data_extract];simp
end Go.Wk
namespace Go.Proofs.YtbjomhdhkpgbaaaGreatDoor
open Go Go.RowKit Go.Wk
attribute [local irreducible] W RL Does Zar Zal retQ Calls Pu Stp RD Qy Ay Zak Zdx
theorem Zq7 {base:Nat}{s:ByteArray}{a b m b1 b2 b3 b4:Nat}{O:List It}{w:World}(hs:(s.size:Int)<=9223372036854775807)(hm:m<256)(hH:Zau base O w)(hO:SubO (ofO a b m b1 b2 b3 b4) O) :
  Does Tryz.prog 168 ([]++[.string s]++[.pointer (some ⟨b1,0,none⟩),.pointer (some ⟨b2,0,none⟩),.pointer (some ⟨b3,0,none⟩),.pointer (some ⟨b4,0,none⟩)]) w (fun v O=>∃ x,Zdx a b m s.data.toList=x/\v = .bool x/\O=[]) :=
 (ZlO hs hm hH hO).monoO fun v O ⟨h1,h2⟩=>⟨O,⟨_,rfl,h1,h2⟩,fun _ _ h=>h⟩
theorem Zmx {G:Prop}(h:G:=by(apply Zlo;rfl;rfl;decide;exact hsz)):G:=h
theorem Zr0 {G:Prop}(h:G:=by first|(apply Qy_y;rfl;exact Zmx)|exact QyA):G:=h
theorem Zy6 {G:Prop}(h:G:=by repeat (first|exact QF.nil|(apply QF.mk;rfl;rfl;decide +kernel;exact Zr0))):G:=h
theorem ZxU (s:ByteArray)(hs:(s.size:Int)<=9223372036854775807)(w:World):Does Tryz.prog 88 [.string s] w (fun v O=>v = .bool (setB s)/\O=[]):=by
 have hs1:((s.extract 0 1).size:Int)<=9223372036854775807:=by rw[ByteArray.size_extract];omega
 refine Zaa Tryz.func88 rfl rfl rfl rfl ?_
 repeat (first|refine walk ?_|(refine jn ?_;(try intro F);(first|(apply Zad (h:=fun w' _ _=>ZgK 1 30 15 w');rfl;rintro v O' ⟨b1,b2,b3,b4,rfl,rfl⟩)|(apply Zap (f:=168) (us:=[]) (vs:=[.string (s)]) (cs:=[.pointer (some ⟨b1,0,none⟩),.pointer (some ⟨b2,0,none⟩),.pointer (some ⟨b3,0,none⟩),.pointer (some ⟨b4,0,none⟩)]) (h:=fun w' _ hH=>Zq7 (a:=1) (b:=30) (m:=15) hs (by decide) hH SOA);rfl;rfl;rintro v O' ⟨x1,hx1,rfl,rfl⟩)|(apply Zag;exact PuA));refine fin ?_))
 refine Zaw rfl rfl rfl (fun hc=>?_) (fun hc=>?_)
 ·subst hc
  have hsz:=(ZkP hx1).1
  have e:setB s=Zdx 1 1 1 (s.extract 0 1).data.toList:=by rw[setB,hx1,ext1];rfl
  rw[e]
  repeat (first|(apply RL_pu;rfl;exact Zmx)|(apply RD_Q;rfl;rfl;decide +kernel;rfl;rfl;exact Zr0)|refine walk1 ?_|(refine jn ?_;(try intro F);(first|(apply Zad (h:=fun w' _ _=>ZgK 1 1 1 w');rfl;rintro v O' ⟨b1,b2,b3,b4,rfl,rfl⟩)|(apply Zap (f:=168) (us:=[]) (vs:=[.string (s.extract 0 1)]) (cs:=[.pointer (some ⟨b1,0,none⟩),.pointer (some ⟨b2,0,none⟩),.pointer (some ⟨b3,0,none⟩),.pointer (some ⟨b4,0,none⟩)]) (h:=fun w' _ hH=>Zq7 (a:=1) (b:=1) (m:=1) hs1 (by decide) hH SOA);rfl;rfl;rintro v O' ⟨x2,hx2,rfl,rfl⟩)|(apply Zag;first|exact Zmx|exact PuA));first|refine⟨_,EndsA,Zy6,?_⟩|refine fin ?_))
  exact ret_1 _ [] (.tmp rfl) .nil ⟨by rw[hx2],rfl⟩
 ·subst hc
  have e:setB s=false:=by rw[setB,hx1];rfl
  rw[e]
  repeat (first|refine walk ?_|(refine jn ?_;(try intro F);(apply Zag;exact PuA);refine fin ?_))
  exact rtA
end Go.Proofs.YtbjomhdhkpgbaaaGreatDoor
namespace Go.Wk
open Go Go.RowKit
def ZdJ (r:Zab)(least:Int):Nat->Bool
 | 0=>ZcA r.from_&&(ZcA r.to||decide (r.to=1048576))
 | 1=>decide (r.from_<=r.to)
 | 2=>Zgw r.from_ r.to r.month r.day
 | 3=>ZeS r.at_ least
 | 4=>decide (-10800<=r.save)&&decide (r.save<=10800)
 | _=>decide (r.letter=ByteArray.empty)||Zjb r.letter
theorem Zmu {P:Program}{n:Nat}{wr:World}{fr:Fr}{O:List It}{ty t t':TypeId}{x y:Operand}{i j m:Int}(hx:ev fr x=some (.int .i64 i))(hy:ev fr y=some (.int .i64 j))(hm:IntKind.i64.wrap (i+j)=m):Pu P n wr fr O (.binOp .add t x y t') ty (.int .i64 m):=hm▸Zj9 hx hy
end Go.Wk
namespace Go.Proofs.YtbjomhdhkpgbaaaGreatDoor
open Go Go.RowKit Go.Wk
attribute [local irreducible] W RL Does Zar Zal retQ Calls Pu Stp RD Qy Ay Zak Zdx
theorem Zi2 (y:Int)(w:World):Does Tryz.prog 316 [.int .i64 y] w (fun v O=>v = .bool (ZcA y)/\O=[]):=by
 refine Zaa Tryz.func316 rfl rfl rfl rfl ?_
 repeat' (first|refine walk ?_|refine und ?_|(refine Zax rfl rfl rfl (fun hc=>?_) (fun hc=>?_))|(refine Zaw rfl rfl rfl (fun hc=>?_) (fun hc=>?_))|(refine Zah rfl (fun hc=>?_) (fun hc=>?_)))
 all_goals first|(refine ret_1 _ [] (.tmp rfl) .nil ⟨?_,rfl⟩;first|rfl|(simp only[*,Bool.true_and,Bool.false_and,Bool.true_or,Bool.false_or,Bool.not_true,Bool.not_false];done)|(simp_all [ZcA];done)|(simp_all [ZcA];omega)|(simp_all [ZcA];rw[Bool.eq_iff_iff];simp;omega))|(exfalso;simp_all [ZcA];done)|(exfalso;simp_all [ZcA];omega)|(exfalso;omega)
theorem Zst (c:Zb9)(least:Int)(hl : -9223372036854775808<=least/\least<=0)(w:World):Does Tryz.prog 321 [.agg (Zb9.enc c).toArray,.int .i64 least] w (fun v O=>v = .bool (ZeS c least)/\O=[]):=by
 by_cases hc:ZaQ c=true
 ·have hb : -604799<=c.sec/\c.sec<=604799:=by
   simp only[ZaQ,Bool.and_eq_true,decide_eq_true_eq]at hc
   omega
  obtain⟨m,hm⟩:∃ m,IntKind.i64.wrap (c.sec+least)=m:=⟨_,rfl⟩
  have hmm:(decide (-86400<=m)&&decide (m<=172800))=(decide (-86400<=c.sec+least)&&decide (c.sec+least<=172800)):=by
   have hw:IntKind.i64.wrap (c.sec+least)=if c.sec+least < -9223372036854775808 then c.sec+least+18446744073709551616 else c.sec+least:=by
    rw[IntKind.wrap_i64]
    repeat' split
    all_goals omega
   rw[hw]at hm
   rw[Bool.eq_iff_iff]
   simp only[Bool.and_eq_true,decide_eq_true_eq]
   split at hm <;> omega
  have hT:ZeS c least=(ZaQ c&&(if c.base=1 then (decide (-86400<=m)&&decide (m<=172800)) else (decide (-86400<=c.sec)&&decide (c.sec<=172800)))):=by
   unfold ZeS
   dsimp only
   congr 1
   by_cases hb1:c.base=1
   ·rw[if_pos hb1,if_pos hb1,hmm]
   ·rw[if_neg hb1,if_neg hb1]
  rw[hT]
  clear hT hmm
  have hcs:=ZeK c
  rw[hc]at hcs ⊢
  obtain⟨s,b⟩:=c
  simp only at *
  show Does _ _ [.agg #[.int .i64 s,.int .i64 b],.int .i64 least] w _
  refine Zaa Tryz.func321 rfl rfl rfl rfl ?_
  repeat' (first|(apply RL_pu;rfl;(apply Zmu;rfl;rfl;exact hm))|(refine js ?_;(first|(refine Zae (fun w' _=>hcs w') ?_)|(refine bx ?_;intro bk)))|refine walk1 ?_|refine und ?_|(refine Zax rfl rfl rfl (fun hc=>?_) (fun hc=>?_))|(refine Zaw rfl rfl rfl (fun hc=>?_) (fun hc=>?_))|(refine Zah rfl (fun hc=>?_) (fun hc=>?_)))
  all_goals exact clo1
 ·unfold ZeS
  have hcs:=ZeK c
  rw[Bool.not_eq_true]at hc
  rw[hc]at hcs ⊢
  obtain⟨s,b⟩:=c
  simp only at *
  show Does _ _ [.agg #[.int .i64 s,.int .i64 b],.int .i64 least] w _
  refine Zaa Tryz.func321 rfl rfl rfl rfl ?_
  repeat' (first|(refine js ?_;(first|(refine Zae (fun w' _=>hcs w') ?_)|(refine bx ?_;intro bk)))|refine walk ?_|refine und ?_|(refine Zax rfl rfl rfl (fun hc=>?_) (fun hc=>?_))|(refine Zaw rfl rfl rfl (fun hc=>?_) (fun hc=>?_))|(refine Zah rfl (fun hc=>?_) (fun hc=>?_)))
  all_goals exact clo1
theorem Ztp (r:Zab)(least:Int)(w:World):Does Tryz.prog 315 [.agg (Zab.enc r).toArray,.int .i64 least] w (fun v O=>v = .bool (ZdJ r least 0)/\O=[]):=by
 unfold ZdJ
 have h1:=Zi2 r.from_
 have h2:=Zi2 r.to
 generalize ZcA r.from_=x1 at *
 generalize ZcA r.to=x2 at *
 obtain⟨nm,fr,to,mo,⟨dk,dw,dd⟩,⟨cs,cb⟩,sv,le⟩:=r
 simp only at *
 show Does _ _ [.agg #[.string nm,.int .i64 fr,.int .i64 to,.int .i64 mo,.int .i64 dk,.int .i64 dw,.int .i64 dd,.int .i64 cs,.int .i64 cb,.int .i64 sv,.string le],.int .i64 least] w _
 refine Zaa Tryz.func315 rfl rfl rfl rfl ?_
 repeat' (first|(refine js ?_;(first|(refine Zae (fun w' _=>h1 w') ?_)|(refine Zae (fun w' _=>h2 w') ?_)|(refine bx ?_;intro bk)))|refine walk ?_|refine und ?_|(refine Zax rfl rfl rfl (fun hc=>?_) (fun hc=>?_))|(refine Zaw rfl rfl rfl (fun hc=>?_) (fun hc=>?_))|(refine Zah rfl (fun hc=>?_) (fun hc=>?_)))
 all_goals exact clo1
theorem Zto (r:Zab)(least:Int)(w:World):Does Tryz.prog 317 [.agg (Zab.enc r).toArray,.int .i64 least] w (fun v O=>v = .bool (ZdJ r least 1)/\O=[]):=by
 unfold ZdJ
 obtain⟨nm,fr,to,mo,⟨dk,dw,dd⟩,⟨cs,cb⟩,sv,le⟩:=r
 simp only at *
 show Does _ _ [.agg #[.string nm,.int .i64 fr,.int .i64 to,.int .i64 mo,.int .i64 dk,.int .i64 dw,.int .i64 dd,.int .i64 cs,.int .i64 cb,.int .i64 sv,.string le],.int .i64 least] w _
 refine Zaa Tryz.func317 rfl rfl rfl rfl ?_
 repeat' (first|(refine js ?_;(refine bx ?_;intro bk))|refine walk ?_|(refine Zah rfl (fun hc=>?_) (fun hc=>?_)))
 all_goals exact clo1
theorem Ztn (r:Zab)(least:Int)(w:World)(hG:Glob w):Does Tryz.prog 318 [.agg (Zab.enc r).toArray,.int .i64 least] w (fun v O=>v = .bool (ZdJ r least 2)/\O=[]):=by
 unfold ZdJ
 have h1:=fun w' hw=>Zqd r.from_ r.to r.month r.day w' (Glob.up (w':=w') hG hw)
 generalize Zgw r.from_ r.to r.month r.day=x1 at *
 obtain⟨nm,fr,to,mo,⟨dk,dw,dd⟩,⟨cs,cb⟩,sv,le⟩:=r
 simp only at *
 show Does _ _ [.agg #[.string nm,.int .i64 fr,.int .i64 to,.int .i64 mo,.int .i64 dk,.int .i64 dw,.int .i64 dd,.int .i64 cs,.int .i64 cb,.int .i64 sv,.string le],.int .i64 least] w _
 refine Zaa Tryz.func318 rfl rfl rfl rfl ?_
 repeat' (first|(refine js ?_;(first|(refine Zae h1 ?_)|(refine bx ?_;intro bk)))|refine walk ?_|(refine Zah rfl (fun hc=>?_) (fun hc=>?_)))
 all_goals exact clo1
theorem Ztm (r:Zab)(least:Int)(hl : -9223372036854775808<=least/\least<=0)(w:World):Does Tryz.prog 320 [.agg (Zab.enc r).toArray,.int .i64 least] w (fun v O=>v = .bool (ZdJ r least 3)/\O=[]):=by
 unfold ZdJ
 have h1:=Zst r.at_ least hl
 generalize ZeS r.at_ least=x1 at *
 obtain⟨nm,fr,to,mo,⟨dk,dw,dd⟩,⟨cs,cb⟩,sv,le⟩:=r
 simp only at *
 show Does _ _ [.agg #[.string nm,.int .i64 fr,.int .i64 to,.int .i64 mo,.int .i64 dk,.int .i64 dw,.int .i64 dd,.int .i64 cs,.int .i64 cb,.int .i64 sv,.string le],.int .i64 least] w _
 refine Zaa Tryz.func320 rfl rfl rfl rfl ?_
 repeat' (first|(refine js ?_;(first|(refine Zae (fun w' hw=>h1 w') ?_)|(refine bx ?_;intro bk)))|refine walk ?_|(refine Zah rfl (fun hc=>?_) (fun hc=>?_)))
 all_goals exact clo1
theorem Ztl (r:Zab)(least:Int)(w:World):Does Tryz.prog 322 [.agg (Zab.enc r).toArray,.int .i64 least] w (fun v O=>v = .bool (ZdJ r least 4)/\O=[]):=by
 unfold ZdJ
 obtain⟨nm,fr,to,mo,⟨dk,dw,dd⟩,⟨cs,cb⟩,sv,le⟩:=r
 simp only at *
 show Does _ _ [.agg #[.string nm,.int .i64 fr,.int .i64 to,.int .i64 mo,.int .i64 dk,.int .i64 dw,.int .i64 dd,.int .i64 cs,.int .i64 cb,.int .i64 sv,.string le],.int .i64 least] w _
 refine Zaa Tryz.func322 rfl rfl rfl rfl ?_
 repeat' (first|(refine js ?_;(refine bx ?_;intro bk))|refine walk ?_|refine und ?_|(refine Zax rfl rfl rfl (fun hc=>?_) (fun hc=>?_))|(refine Zaw rfl rfl rfl (fun hc=>?_) (fun hc=>?_))|(refine Zah rfl (fun hc=>?_) (fun hc=>?_)))
 all_goals exact clo1
theorem Ztk (r:Zab)(least:Int)(hs:(r.letter.size:Int)<=9223372036854775807)(w:World):Does Tryz.prog 323 [.agg (Zab.enc r).toArray,.int .i64 least] w (fun v O=>v = .bool (ZdJ r least 5)/\O=[]):=by
 unfold ZdJ
 rw[show ByteArray.empty=⟨#[]⟩ from rfl]
 have h1:=ZpE r.letter hs
 generalize Zjb r.letter=x1 at *
 obtain⟨nm,fr,to,mo,⟨dk,dw,dd⟩,⟨cs,cb⟩,sv,le⟩:=r
 simp only at *
 show Does _ _ [.agg #[.string nm,.int .i64 fr,.int .i64 to,.int .i64 mo,.int .i64 dk,.int .i64 dw,.int .i64 dd,.int .i64 cs,.int .i64 cb,.int .i64 sv,.string le],.int .i64 least] w _
 refine Zaa Tryz.func323 rfl rfl rfl rfl ?_
 repeat' (first|(refine js ?_;(first|(refine Zae (fun w' hw=>h1 w') ?_)|(refine bx ?_;intro bk)))|refine walk ?_|refine und ?_|(refine Zax rfl rfl rfl (fun hc=>?_) (fun hc=>?_))|(refine Zaw rfl rfl rfl (fun hc=>?_) (fun hc=>?_))|(refine Zah rfl (fun hc=>?_) (fun hc=>?_)))
 all_goals exact clo1
theorem ZkE (r:Zab)(w:World):Does Tryz.prog 171 [.agg (Zab.enc r).toArray] w (fun v O=>v = .bool (Zcz r)/\O=[]):=by
 unfold Zcz
 obtain⟨nm,fr,to,mo,⟨dk,dw,dd⟩,⟨cs,cb⟩,sv,le⟩:=r
 simp only at *
 show Does _ _ [.agg #[.string nm,.int .i64 fr,.int .i64 to,.int .i64 mo,.int .i64 dk,.int .i64 dw,.int .i64 dd,.int .i64 cs,.int .i64 cb,.int .i64 sv,.string le]] w _
 refine Zaa Tryz.func171 rfl rfl rfl rfl ?_
 repeat' (first|(apply RL_pu;rfl;(apply Pu_rem;rfl;rfl;decide))|(refine js ?_;(refine bx ?_;intro bk))|refine walk1 ?_|refine und ?_|(refine Zax rfl rfl rfl (fun hc=>?_) (fun hc=>?_))|(refine Zaw rfl rfl rfl (fun hc=>?_) (fun hc=>?_))|(refine Zah rfl (fun hc=>?_) (fun hc=>?_)))
 all_goals exact clo1
theorem Zch (A:Option Addr)(c:Nat)(l:List Zab)(w:World)(hA:RdSl w A c Zab.enc 11 l):Does Tryz.prog 93 [.slice A l.length c] w (fun v O=>v = .int .i64 (Zaj l)/\O=[]):=by
 have hle:=hA.le
 have hcp:=hA.cap
 unfold maxLen at hcp
 generalize hres:Zaj l=res
 unfold Zaj at hres
 refine Zaa Tryz.func93 rfl rfl rfl rfl ?_
 repeat (first|(refine js ?_;(refine bx ?_;intro bk))|refine walk ?_)
 refine Zaq [(6,_),(7,_)] [] (fun g:Nat × Int=>[(3,.int .i64 g.2),(8,.int .i64 g.1)]) (fun _=>[]) (fun g=>g.1<=l.length/\(l.drop g.1).foldl (fun m r=>min m r.save) g.2=res) (fun g=>l.length - g.1) (0,0) SFA SOA ⟨Nat.zero_le _,hres⟩ ?_
 rintro⟨k,m⟩ ⟨hk,hi⟩
 dsimp only at hk hi ⊢
 repeat (first|(refine js ?_;(refine bx ?_;intro bk))|refine walk ?_)
 refine Zah rfl (fun h=>?_) (fun h=>?_)
 ·have hlt:k<l.length:=by simpa using h
  obtain⟨hna,hca⟩:=hA.rd k _ (List.getElem?_eq_getElem hlt)
  rw[Zao hlt]at hi
  generalize l[k]=r at *
  obtain⟨nm,fr,to,mo,⟨dk,dw,dd⟩,⟨cs,cb⟩,sv,le⟩:=r
  simp only[Zab.enc,List.foldl_cons]at hca hi
  repeat (first|(apply RL_pu;rfl;(first|exact PuI|(apply Zfy;rfl;rfl)))|(refine js ?_;(refine bx ?_;intro bk))|refine walk1 ?_)
  rw[show(if sv<m then sv else m)=min m sv by split <;> omega]
  exact⟨(k+1,min m sv),OA,⟨OA,hi⟩,SFA,.nil⟩
 ·have hkl:k=l.length:=by
   have:=of_decide_eq_false h
   omega
  subst hkl
  rw[List.drop_length]at hi
  repeat (first|(refine js ?_;(refine bx ?_;intro bk))|refine walk ?_)
  exact ret_1 _ [] (.tmp rfl) .nil ⟨by rw[<- hi];rfl,rfl⟩
theorem Zhu (A:Option Addr)(c:Nat)(l:List Zab)(w:World)(hA:RdSl w A c Zab.enc 11 l):Does Tryz.prog 92 [.slice A l.length c] w (fun v O=>v = .tuple #[.int .i64 (Zbo l).1,.bool (Zbo l).2]/\O=[]):=by
 have hle:=hA.le
 have hcp:=hA.cap
 unfold maxLen at hcp
 generalize hres:Zbo l=res
 unfold Zbo at hres
 refine Zaa Tryz.func92 rfl rfl rfl rfl ?_
 repeat (first|(refine js ?_;(refine bx ?_;intro bk))|refine walk ?_)
 refine Zaq [(7,_),(8,_)] [] (fun g:Nat × Int=>[(4,.int .i64 g.2),(9,.int .i64 g.1)]) (fun _=>[]) (fun g=>g.1<=l.length/\Zc5 (l.drop g.1) g.2=res) (fun g=>l.length - g.1) (0,0) SFA SOA ⟨Nat.zero_le _,hres⟩ ?_
 rintro⟨k,m⟩ ⟨hk,hi⟩
 dsimp only at hk hi ⊢
 repeat (first|(refine js ?_;(refine bx ?_;intro bk))|refine walk ?_)
 refine Zah rfl (fun h=>?_) (fun h=>?_)
 ·have hlt:k<l.length:=by simpa using h
  obtain⟨hna,hca⟩:=hA.rd k _ (List.getElem?_eq_getElem hlt)
  rw[Zao hlt,Zc5]at hi
  generalize l[k]=r at *
  obtain⟨nm,fr,to,mo,⟨dk,dw,dd⟩,⟨cs,cb⟩,sv,le⟩:=r
  simp only[Zab.enc]at hca hi
  repeat (first|(apply RL_pu;rfl;exact PuI)|(refine js ?_;(refine bx ?_;intro bk))|refine walk1 ?_)
  refine Zah rfl (fun h1=>?_) (fun h1=>?_)
  ·rw[if_pos (of_decide_eq_true h1)]at hi
   repeat (first|(refine js ?_;(refine bx ?_;intro bk))|refine walk ?_)
   exact⟨(k+1,m),OA,⟨OA,hi⟩,SFA,.nil⟩
  rw[if_neg (of_decide_eq_false h1)]at hi
  repeat' (first|(refine js ?_;(refine bx ?_;intro bk))|refine walk ?_|refine und ?_|(refine Zax rfl rfl rfl (fun hc=>?_) (fun hc=>?_))|(refine Zaw rfl rfl rfl (fun hc=>?_) (fun hc=>?_))|(refine Zah rfl (fun hc=>?_) (fun hc=>?_)))
  ·rename_i h0
   simp only[Bool.not_eq_true',decide_eq_false_iff_not]at h0 hc
   rw[if_pos ⟨h0,hc⟩]at hi
   exact ret_2 _ _ [] (.tmp rfl) (.tmp rfl) .nil ⟨by rw[<- hi],rfl⟩
  ·simp only[Bool.not_eq_false',decide_eq_true_eq]at hc
   rw[if_neg (fun e=>e.2 hc)]at hi
   exact⟨(k+1,sv),OA,⟨OA,hi⟩,SFA,.nil⟩
  ·simp only[Bool.not_eq_false',decide_eq_true_eq]at hc
   rw[if_neg (fun e=>e.1 hc)]at hi
   exact⟨(k+1,sv),OA,⟨OA,hi⟩,SFA,.nil⟩
 ·have hkl:k=l.length:=by
   have:=of_decide_eq_false h
   omega
  subst hkl
  rw[List.drop_length,Zc5]at hi
  repeat (first|(refine js ?_;(refine bx ?_;intro bk))|refine walk ?_)
  exact ret_2 _ _ [] (.tmp rfl) (.tmp rfl) .nil ⟨by rw[<- hi],rfl⟩
end Go.Proofs.YtbjomhdhkpgbaaaGreatDoor
namespace Go.Wk
open Go Go.RowKit
section
variable {P:Program}{n:Nat}{wr:World}{fr:Fr}{O:List It}{Q:Exit->Fr->List It->Prop}
def RW (P:Program)(n:Nat)(wr:World)(c:Code)(Q:Exit->Fr->List It->Prop):Nat->Fr->List It->Prop
 | 0,_,_=>False
 | k+1,fr,O=>W P n wr c (Zar (RW P n wr c Q k) Q) fr O
theorem Zoq {c:Code}:∀ (k:Nat) (fr:Fr) (O:List It),RW P n wr c Q k fr O->∀ a w,St n wr fr O a w->Code.rounds P c (lift n wr Q) k a w
 | 0,_,_,h,_,_,_=>h
 | k+1,fr,O,h,a,w,hs=>by
  rw[rounds_succ]
  refine wp_mono (h a w hs) ?_
  rintro e a' w' ⟨fr',O',hs',hq⟩
  cases e with
  | normal=>exact Zoq k fr' O' hq a' w' hs'
  | _=>exact⟨fr',O',hs',hq⟩
theorem Ziy {c:Code}(k:Nat)(h:RW P n wr c Q k fr O):W P n wr (.loop c) Q fr O:=fun a w hs=>wp_loop_rounds k (Zoq k fr O h a w hs)
theorem ZbY {c:Code}{k:Nat}(h:W P n wr c (Zar (RW P n wr c Q k) Q) fr O):RW P n wr c Q (k+1) fr O:=h
theorem Does.monoH {f:FuncId}{args:List Value}{w:World}{R R':Value->List It->Prop}(h:Does P f args w R)(hr:∀ v O base w',R v O->Zau base O w'->∃ O',R' v O'/\Zau base O' w'):Does P f args w R' :=
 Calls.mono h fun _ _ ⟨v,O,h1,h2,h3,h4⟩=>by
  obtain⟨O',h5,h6⟩:=hr v O _ _ h4 h3
  exact⟨v,O',h1,h2,h6,h5⟩
end
section
variable {P:Program}{n:Nat}{wr:World}{fr:Fr}{O:List It}{ty:TypeId}
theorem Zoz {t len e sz:Nat}{x ix:Operand}{kk:IntKind}{i:Int}{cs vs:List Value}[hA:ArrT P t len e sz true](hx:ev fr x=some (.agg cs.toArray))(hi:ev fr ix=some (.int kk i))(h0:0<=i)(h1:i<len)(hv:(cs.drop (i.toNat*sz)).take sz=vs) :
  Pu P n wr fr O (.index t x ix) ty (.agg vs.toArray):=fun a w hs _ _ _ _=>by
 have h:=hA.h
 unfold Zlf at h
 split at h
 ·rename_i len' e' hu
  split at h
  ·rename_i sz' ag' ht
   simp only[Option.some.injEq,Prod.mk.injEq]at h
   obtain⟨rfl,rfl,rfl,rfl⟩:=h
   obtain⟨inf,dd,hinf,hsz,hag,_⟩:=Ty.parts ht
   have:Ty P e' sz' true:=⟨ht⟩
   subst hv
   simp only[execOp,hs.sim.ev hx,hs.sim.ev hi,Instr.index,asIntOf,Sem.run_bind,Sem.run_pure,Result.andThen_ok,run_underlying hu,h0,h1,and_self,if_true,part,Zea,Zdo]
   simp[List.take_drop]
  ·cases h
 ·cases h
end
end Go.Wk
namespace Go.Proofs.YtbjomhdhkpgbaaaGreatDoor
open Go Go.RowKit Go.Wk
attribute [local irreducible] W RL Does Zar Zal retQ Calls Pu Stp RD Qy Ay Zak Zdx
theorem Zjy {α:Type}(p:α->Bool):∀ (l:List α) (k:Nat),decide (0<=ZbQ p l k)=l.any p
 | [],k=>rfl
 | x::l,k=>by
  rw[ZbQ,List.any_cons]
  by_cases h:p x=true
  ·rw[if_pos h,h];simp
  ·rw[if_neg h,Zjy p l (k+1)]
   simp[h]
theorem ZdI (A:Option Addr)(c:Nat)(l:List Zab)(f:FuncId)[Body Tryz.prog f](us cs:List Value)(p:Zab->Bool)(w:World)(hA:RdSl w A c Zab.enc 11 l)
  (hf:∀ r w',Bel w.heap.size w w'->Does Tryz.prog f (us++[.agg (Zab.enc r).toArray]++cs) w' (fun v O=>v = .bool (p r)/\O=[])) :
  Does Tryz.prog 125 [.slice A l.length c,.func (.func f) us.toArray cs.toArray] w (fun v O=>v = .bool (l.any p)/\O=[]):=by
 have h:=fun w' (hw:Bel w.heap.size w w')=>ZdZ A c l f us cs p w' (hA.up hw) fun r w2 h2=>hf r w2 (hw.trans (h2.mono hw.size))
 rw[<- Zjy p l 0]
 generalize ZbQ p l 0=k at *
 refine Zaa Tryz.func125 rfl rfl rfl rfl ?_
 repeat (first|(refine js ?_;(refine Zae h ?_))|refine walk ?_)
 exact rtA
theorem ZvY (r:Zab)(w:World):Does Tryz.prog 123 [.agg (Zab.enc r).toArray] w (fun v O=>v = .bool (decide (r.save=0))/\O=[]):=by
 obtain⟨nm,fr,to,mo,⟨dk,dw,dd⟩,⟨cs,cb⟩,sv,le⟩:=r
 show Does _ _ [.agg #[.string nm,.int .i64 fr,.int .i64 to,.int .i64 mo,.int .i64 dk,.int .i64 dw,.int .i64 dd,.int .i64 cs,.int .i64 cb,.int .i64 sv,.string le]] w _
 refine Zaa Tryz.func123 rfl rfl rfl rfl ?_
 repeat' (first|(refine js ?_;(refine bx ?_;intro bk))|refine walk ?_|(refine Zah rfl (fun hc=>?_) (fun hc=>?_)))
 all_goals exact clo1
theorem ZsV (r:Zab)(w:World):Does Tryz.prog 170 [.agg (Zab.enc r).toArray] w (fun v O=>v = .bool (!decide (r.to=1048576))/\O=[]):=by
 obtain⟨nm,fr,to,mo,⟨dk,dw,dd⟩,⟨cs,cb⟩,sv,le⟩:=r
 show Does _ _ [.agg #[.string nm,.int .i64 fr,.int .i64 to,.int .i64 mo,.int .i64 dk,.int .i64 dw,.int .i64 dd,.int .i64 cs,.int .i64 cb,.int .i64 sv,.string le]] w _
 refine Zaa Tryz.func170 rfl rfl rfl rfl ?_
 repeat' (first|(refine js ?_;(refine bx ?_;intro bk))|refine walk ?_|(refine Zah rfl (fun hc=>?_) (fun hc=>?_)))
 all_goals exact clo1
theorem ZvX (r:Zab)(ad:Addr)(m:Int)(w:World)(h:w.cell? ad=some (.int .i64 m)):Does Tryz.prog 124 [.agg (Zab.enc r).toArray,.pointer (some ad)] w (fun v O=>v = .bool (!decide (r.save=0)&&!decide (r.save=m))/\O=[]):=by
 obtain⟨nm,fr,to,mo,⟨dk,dw,dd⟩,⟨cs,cb⟩,sv,le⟩:=r
 show Does _ _ [.agg #[.string nm,.int .i64 fr,.int .i64 to,.int .i64 mo,.int .i64 dk,.int .i64 dw,.int .i64 dd,.int .i64 cs,.int .i64 cb,.int .i64 sv,.string le],.pointer (some ad)] w _
 refine Zaa Tryz.func124 rfl rfl rfl rfl ?_
 repeat' (first|(apply RL_pu;rfl;(apply Pu_loadO1;rfl;exact h))|(refine js ?_;(refine bx ?_;intro bk))|refine walk1 ?_|refine und ?_|(refine Zax rfl rfl rfl (fun hc=>?_) (fun hc=>?_))|(refine Zaw rfl rfl rfl (fun hc=>?_) (fun hc=>?_))|(refine Zah rfl (fun hc=>?_) (fun hc=>?_)))
 all_goals exact clo1
end Go.Proofs.YtbjomhdhkpgbaaaGreatDoor
