/- Parts of the proof. -/
import Derived.Test.YtpipekfmecikmaaGreatDoorW10
import Derived.Test.YtpipekfmecikmaaGreatDoorW14
import Derived.Test.YtpipekfmecikmaaGreatDoorW08
set_option maxHeartbeats 4000000
set_option linter.unusedVariables false
set_option linter.unusedSimpArgs false
namespace Go.Wk
open Go Go.RowKit
theorem ZBb (n:Int)(c:0<=n)(d:n<=99):(dig2 n).map ZoW=[.int .u8 (48+n / 10),.int .u8 (48+n % 10)]:=by
 have a:(UInt8.ofNat (48+(n / 10).toNat)).toNat=48+(n / 10).toNat:=by rw[UInt8.toNat_ofNat'];omega
 have b:(UInt8.ofNat (48+(n % 10).toNat)).toNat=48+(n % 10).toNat:=by rw[UInt8.toNat_ofNat'];omega
 simp only[dig2,List.map_cons,List.map_nil,ZoW,a,b]
 congr 2
 ·congr 1;omega
 ·congr 2;omega
def ZsR (off:Int):UInt8:=if off<0 then 45 else 43
def ZsQ (off:Int):Int:=if off<0 then 45 else 43
def Ztd (p q r:Int):Nat:=if r≠0 then 3 else if q≠0 then 2 else 1
theorem Zwd (a:Int)(e : -86400<a)(f:a<86400)(x:Int)(d:(if a<0 then -a else a)=x):ZaL a=ZsR a::(([x / 3600,x / 60 % 60,x % 60].take (Ztd (x / 3600) (x / 60 % 60) (x % 60))).flatMap dig2):=by
 unfold ZaL
 rw[if_neg (by omega)]
 simp only[d,ZsR]
 congr 1
 unfold Ztd
 by_cases b:x % 60=0
 ·by_cases c:x / 60 % 60=0
  ·have:x % 3600=0:=by omega
   simp[b,c,this]
  ·have:¬ x % 3600=0:=by omega
   simp[b,c,this]
 ·have:¬ x % 3600=0:=by omega
  simp[b,this]
section
variable {P:Program}{n:Nat}{wr:World}{fr:Fr}{O:List It}{ty:TypeId}
theorem Zji {t len e sz:Nat}{p:Bool}{m:List (Nat × Operand)}{vs:List (Nat × Value)}{z cs c:List Value}[hA:ArrT P t len e sz p][hz:ZeroT P t z](C:evpO fr m=some vs)(r:bld (Zd5 len sz) z vs=some cs)(v:Nf cs c) :
  Pu P n wr fr O (.build t m.toArray) ty (.agg c.toArray):=by
 rw[<- v.eq]
 intro a w y _ _ _ _
 have h:=hz.h
 unfold Zfk at h
 split at h
 ·rename_i i u
  split at h
  ·rename_i o l
   simp only[Option.some.injEq]at h
   subst h
   have h:=hA.h
   unfold Zkr at h
   split at h
   ·rename_i f E B
    split at h
    ·rename_i b q A
     simp only[Option.some.injEq,Prod.mk.injEq]at h
     obtain⟨rfl,rfl,rfl,rfl⟩:=h
     obtain⟨D,dd,d,k,_,_⟩:=Ty.parts A
     have s:=ZiH b f vs o.cells.toList cs r
     have g:Instr.fill (fun i=>some (i*b,b)) o.cells vs=some cs.toArray:=by simpa using s
     have j:(Array.map (fun(x:Nat × Operand)=>(x.1,a.eval x.2)) m.toArray).toList=vs:=by simpa using y.sim.evpO C
     simp only[execOp,Instr.build,Sem.run_bind,zeroValue,ZaM u,Result.andThen_ok,l,Sem.run_pure,run_underlying B,sizeOf,ZaM d,k]
     rw[j]
     simp[g]
    ·cases h
   ·cases h
  ·cases h
 ·cases h
end
end Go.Wk
namespace Go.Proofs.YtpipekfmecikmaaGreatDoor
open Go Go.RowKit Go.Wk
attribute [local irreducible] W RL Does Zat Zaj retQ Calls Pu Stp RD Qy Ay Zak RW
structure TG where
 k:Nat
 A:Option Addr
 c:Nat
 xs:List Value
theorem ZyE {G:Prop}(h:G:=by(apply ZbF;rfl;rfl;exact hb)):G:=h
theorem ZyD {G:Prop}(h:G:=by(first|exact ZyE|(apply ZbG;rfl;rfl;exact hb2))):G:=h
theorem ZyC {G:Prop}(h:G:=by(first|(apply Zay;rfl;rfl;rfl)|(apply Zbr;rfl;rfl;decide;decide)|(apply Znr;rfl;(focus repeat' constructor);rfl)|(apply Zap;rfl;rfl;exact b2))):G:=h
theorem ZyB {G:Prop}(h:G:=by(first|(apply Zay;rfl;rfl;rfl)|(apply Zbr;rfl;rfl;decide;decide)|(apply Znr;rfl;(focus repeat' constructor);rfl)|(apply Zap;rfl;rfl;exact b1))):G:=h
theorem Zed (d:Int)(w:World):Does Tryz.prog 152 [.int .i64 d] w (fun v O=>v = .string ⟨(ZaL d).toArray⟩/\O=[]):=by
 refine Zaa Tryz.func152 rfl rfl rfl rfl ?_
 repeat (first|(refine js ?_;(refine bx ?_;intro f))|refine walk ?_)
 refine ZAs (fun _ _ _=>ZwQ) ?_
 by_cases F:d <= -86400
 ·have e:ZaL d=[]:=by unfold ZaL;rw[if_pos (.inl F)]
  rw[e]
  have hb:decide (d <= -86400)=true:=decide_eq_true F
  repeat (first|(apply RL_pu;rfl;exact ZyE)|(refine js ?_;(refine bx ?_;intro f))|refine walk1 ?_)
  exact rtA
 have hb:decide (d <= -86400)=false:=decide_eq_false F
 by_cases E:86400<=d
 ·have e:ZaL d=[]:=by unfold ZaL;rw[if_pos (.inr E)]
  rw[e]
  have hb2:decide (86400<=d)=true:=decide_eq_true E
  repeat (first|(apply RL_pu;rfl;exact ZyD)|(refine js ?_;(refine bx ?_;intro f))|refine walk1 ?_)
  exact rtA
 have hb2:decide (86400<=d)=false:=decide_eq_false E
 obtain⟨x,z⟩:∃ x,(if d<0 then -d else d)=x:=⟨_,rfl⟩
 have hx0:0<=x/\x<86400:=by split at z <;> omega
 have H:ZoW (ZsR d) = .int .u8 (ZsQ d):=by unfold ZoW ZsR ZsQ;split <;> rfl
 rw[Zwd d (by omega) (by omega) x z]
 generalize ZsR d=sb at H ⊢
 obtain⟨I,s⟩:∃ I,ZsQ d=I:=⟨_,rfl⟩
 rw[s]at H
 repeat (first|(apply RL_pu;rfl;exact ZyD)|(refine js ?_;(refine bx ?_;intro f))|refine walk1 ?_)
 refine Zb6 (fun fr' O'=>Sub [(0,.int .i64 x),(3,.int .u8 I)] fr') ?_ ?_
 ·refine Zaf rfl (fun D=>?_) (fun D=>?_)
  ·have i:=of_decide_eq_true D
   rw[if_pos i]at z
   subst z
   obtain rfl:I=45:=by rw[<- s,ZsQ,if_pos i]
   repeat (first|(apply RL_pu;rfl;(apply Zf9;rfl;(constructor <;> omega)))|(refine js ?_;(refine bx ?_;intro f))|refine walk1 ?_)
   exact⟨rfl,SFA⟩
  ·have i:=of_decide_eq_false D
   rw[if_neg i]at z
   subst z
   obtain rfl:I=43:=by rw[<- s,ZsQ,if_neg i]
   repeat (first|(refine js ?_;(refine bx ?_;intro f))|refine walk ?_)
   exact⟨rfl,SFA⟩
 intro fr' O' Q
 refine thenQ_n ?_
 refine ZcV Q .nil ?_
 have hp0:0<=x / 3600/\x / 3600<=99:=by omega
 have hp1:0<=x / 60 % 60/\x / 60 % 60<=99:=by omega
 have hp2:0<=x % 60/\x % 60<=99:=by omega
 repeat (first|(apply RL_pu;rfl;(first|(apply Pu_quo64;rfl;rfl;omega;omega;decide)|(apply Pu_remE;rfl;rfl;omega;decide)|(apply Zji;rfl;rfl;(focus repeat (first|exact Nf.nil|apply Nf.cons)))))|(refine js ?_;(refine bx ?_;intro f))|refine walk1 ?_)
 generalize x / 3600=p at *
 generalize x / 60 % 60=q at *
 generalize x % 60=r at *
 refine ZAu (thenQ_n ?_)
 obtain⟨N,u⟩:∃ N,Ztd p q r=N:=⟨_,rfl⟩
 have hN3:1<=N/\N<=3:=by rw[<- u];unfold Ztd;split <;> (try split) <;> omega
 refine W_seq (Zb6 (fun fr' O'=>Sub [(3,.int .u8 I),(4,.pointer (some ⟨f,0,none⟩)),(5,.int .i64 N)] fr'/\SubO [.blk f [.int .i64 p,.int .i64 q,.int .i64 r] 238] O') ?_ ?_)
 ·refine W_block (Zqq 3 (Zd0 ?_))
  unfold Ztd at u
  by_cases V:r=0
  ·rw[if_neg (fun h=>h V)]at u
   have b2:decide (r=0)=true:=decide_eq_true V
   repeat (first|(apply RL_pu;rfl;exact ZyC)|(refine js ?_;(refine bx ?_;intro f))|refine walk1 ?_)
   refine Zd0 ?_
   by_cases U:q=0
   ·rw[if_neg (fun h=>h U)]at u
    subst u
    have b1:decide (q=0)=true:=decide_eq_true U
    repeat (first|(apply RL_pu;rfl;exact ZyB)|(refine js ?_;(refine bx ?_;intro f))|refine walk1 ?_)
    refine Zd0 ?_
    repeat (first|(apply RL_pu;rfl;(apply Zay;rfl;rfl;rfl))|(refine js ?_;(refine bx ?_;intro f))|refine walk1 ?_)
    exact⟨rfl,SFA,SOA⟩
   ·rw[if_pos U]at u
    subst u
    have b1:decide (q=0)=false:=decide_eq_false U
    repeat (first|(apply RL_pu;rfl;exact ZyB)|(refine js ?_;(refine bx ?_;intro f))|refine walk1 ?_)
    exact⟨rfl,SFA,SOA⟩
  ·rw[if_pos V]at u
   subst u
   have b2:decide (r=0)=false:=decide_eq_false V
   repeat (first|(apply RL_pu;rfl;exact ZyC)|(refine js ?_;(refine bx ?_;intro f))|refine walk1 ?_)
   exact⟨rfl,SFA,SOA⟩
 rintro W O2 ⟨M,J⟩
 rw[u]
 refine thenQ_n ?_
 refine ZcV M J ?_
 clear M J Q W O2
 obtain⟨T,K⟩:∃ T,f=T:=⟨_,rfl⟩
 rw[K]
 clear K f
 repeat (first|(apply RL_pu;rfl;(apply Znp;rfl;rfl;omega;omega))|(refine js ?_;(refine bx ?_;intro f))|refine walk1 ?_)
 refine Zus (b:=f) (m:=1) 1 (by repeat' constructor) rfl (by decide) ?_
 obtain⟨t,B⟩:∃ t,[p,q,r]=t:=⟨_,rfl⟩
 have hpl:t.length=3:=by rw[<- B];rfl
 have hpb:∀ (k:Nat) (x:Int),t[k]?=some x->0<=x/\x<=99:=by
  intro k x j
  rw[<- B]at j
  match k,j with
  | 0,j=>simp only[List.getElem?_cons_zero,Option.some.injEq]at j;omega
  | 1,j=>simp only[List.getElem?_cons_succ,List.getElem?_cons_zero,Option.some.injEq]at j;omega
  | 2,j=>simp only[List.getElem?_cons_succ,List.getElem?_cons_zero,Option.some.injEq]at j;omega
  | k+3,j=>simp at j
 have hpv:[Value.int .i64 p,.int .i64 q,.int .i64 r]=t.map (Value.int .i64):=by rw[<- B];rfl
 rw[hpv,B]
 refine Zai [(40,.slice (some ⟨T,0,none⟩) N 3),(41,.int .i64 N)] [.blk T (t.map (Value.int .i64)) 238] (fun g:TG=>[(6,.slice g.A (1+2*g.k) g.c),(42,.int .i64 g.k)]) (fun g=>[.row (.slice g.A (1+2*g.k) g.c) 5 1 (1+2*g.k) g.xs])
  (fun g=>g.k<=N/\g.A≠none/\g.xs=(sb::(t.take g.k).flatMap dig2).map ZoW) (fun g=>N - g.k) ⟨0,some ⟨f,0,none⟩,1,[.int .u8 I]⟩ SFA SOA ⟨Nat.zero_le _,by simp,by rw[<- H];rfl⟩ ?_
 rintro⟨k,A,c,xs⟩ ⟨j,hA,z⟩
 dsimp only at j hA z ⊢
 repeat (first|(refine js ?_;(refine bx ?_;intro f))|refine walk ?_)
 refine Zaf rfl (fun D=>?_) (fun D=>?_)
 ·simp only[decide_eq_true_eq,Int.ofNat_lt]at D
  have R:k<t.length:=by omega
  have C:=List.getElem?_eq_getElem R
  have L:=hpb k _ C
  have htk:=List.take_append_getElem R
  generalize t[k]=x at *
  have Y:(t.map (Value.int .i64))[k*1]?=some (.int .i64 x):=by rw[Nat.mul_one,List.getElem?_map,C];rfl
  repeat (first|(apply RL_pu;rfl;(first|(apply Pu_indexAddr;rfl;rfl;omega;omega;simp)|(apply Zjh;rfl;(focus repeat' constructor);exact Y)|(apply Pu_quo64;rfl;rfl;omega;omega;decide)|(apply Pu_remE;rfl;rfl;omega;decide)|(apply Zxi;rfl;omega;omega)|(apply ZAK;rfl;rfl;(constructor <;> omega))))|(refine js ?_;(first|(apply ZaF;rfl;rfl;(intro A' c';(focus repeat' constructor));(intro w' _ hO;exact ZbD (hO.of (by repeat' constructor)));rfl;rfl;(simp only[maxLen];omega);omega;intro A' c' hc1 hc2 X)|(refine bx ?_;intro f)))|refine walk1 ?_)
  refine⟨⟨k+1,A',c',xs++[.int .u8 (48+x / 10),.int .u8 (48+x % 10)]⟩,OA,⟨OA,X (by omega),?_⟩,SFA,SOA⟩
  dsimp only
  rw[<- htk,z,<- ZBb x L.1 L.2]
  simp
 ·have Z:k=N:=by simp only[decide_eq_false_iff_not,Int.ofNat_lt]at D;omega
  subst Z
  have S:1+2*k=(sb::(t.take k).flatMap dig2).length:=by
   have:∀ l:List Int,(l.flatMap dig2).length=2*l.length:=fun l=>by
    induction l with
    | nil=>rfl
    | cons y l ih=>simp only[List.flatMap_cons,List.length_append,ih,List.length_cons,dig2,List.length_nil];omega
   rw[List.length_cons,this,List.length_take]
   omega
  repeat (first|(apply RL_pu;rfl;(apply Znv;rfl;(focus repeat' constructor);exact z;exact S;exact hA))|(refine js ?_;(refine bx ?_;intro f))|refine walk1 ?_)
  exact rtA
end Go.Proofs.YtpipekfmecikmaaGreatDoor
namespace Go.Wk
open Go Go.RowKit
section
variable {P:Program}{n:Nat}{wr:World}{fr:Fr}{O:List It}{ty:TypeId}
theorem Ze3 {t:TypeId}{x y z:Operand}{s r:ByteArray}{k c:IntKind}{i j:Int}[hS:StringT P t](l:ev fr x=some (.string s))(m:ev fr y=some (.int k i))(o:ev fr z=some (.int c j))(d:0<=i)(e:i<=j)(f:j<=s.size)(g:s.extract i.toNat j.toNat=r) :
  Pu P n wr fr O (.slice t x (some y) (some z) none) ty (.string r):=fun a w b _ _ _ _=>by
 have h:=run_slice_string (P:=P) w t s k c i j hS.h d e f
 rw[g]at h
 simp[execOp,b.sim.ev l,b.sim.ev m,b.sim.ev o,Instr.sliceAt,run_underlying hS.h,h]
theorem Zhh {t len e:Nat}{x f:Operand}{z:IntKind}{i:Int}{cs:List Value}{v:Value}[hA:ArrT P t len e 1 false](u:ev fr x=some (.agg cs.toArray))(p:ev fr f=some (.int z i))(l:0<=i)(m:i<len)(s:cs[i.toNat]?=some v) :
  Pu P n wr fr O (.index t x f) ty v:=fun a w c _ _ _ _=>by
 have h:=hA.h
 unfold Zkr at h
 split at h
 ·rename_i g k r
  split at h
  ·rename_i A j d
   simp only[Option.some.injEq,Prod.mk.injEq]at h
   obtain⟨rfl,rfl,rfl,rfl⟩:=h
   obtain⟨y,dd,b,q,o,_⟩:=Ty.parts d
   have:Ty P k 1 false:=⟨d⟩
   simp only[execOp,c.sim.ev u,c.sim.ev p,Instr.index,asIntOf,Sem.run_bind,Sem.run_pure,Result.andThen_ok,run_underlying r,l,m,and_self,if_true,part,Zdx,ZcG]
   simp[s]
  ·cases h
 ·cases h
theorem ZkB {t t':TypeId}{x:Operand}{v:Value}{b:Bool}(e:∃ g,P.underlying t=some (.interface g))(m:ev fr x=some v)(f:(v = .nilIface/\b=false)\/(b=true/\∃ c p,v = .iface c (.pointer p))):Pu P n wr fr O (.binOp .neq t x (.const .nilIface) t') ty (.bool b):=fun a w l _ _ _ _=>by
 obtain⟨g,e⟩:=e
 have j:a.eval (.const .nilIface) = .nilIface:=rfl
 have h:(binOp .neq t v .nilIface).run P w = .ok (.bool b) w:=by
  have:∀ d,(Op.equalIn (d+1) t v .nilIface).run P w = .ok (!b) w:=fun d=>by
   rcases f with⟨rfl,rfl⟩|⟨rfl,c,p,rfl⟩ <;> simp[Op.equalIn,run_underlying e]
  have i:binOp .neq t v .nilIface=(do pure (.bool (!(<- Op.equal t v .nilIface)))):=by rcases f with⟨rfl,rfl⟩|⟨rfl,c,p,rfl⟩ <;> rfl
  rw[i,show Op.equal t v .nilIface=Op.equalIn (9999+1) t v .nilIface from rfl]
  simp only[Sem.run_bind,this 9999,Result.andThen_ok,Sem.run_pure,Bool.not_not]
 have k:(eqGuard .neq t x (.const .nilIface) v .nilIface).run P w = .ok () w:=by
  rcases f with⟨rfl,rfl⟩|⟨rfl,c,p,rfl⟩ <;> simp[eqGuard]
 simp only[execOp,l.sim.ev m,j,Sem.run_bind,k,Result.andThen_ok,h,Sem.run_pure]
theorem ZuY {t t':TypeId}{x y:Operand}{i j m:Int}(b:ev fr x=some (.int .i64 i))(c:ev fr y=some (.int .i64 j))(a:i*j=m)(h : -9223372036854775808<=m/\m<=9223372036854775807):Pu P n wr fr O (.binOp .mul t x y t') ty (.int .i64 m):=a▸Zdf b c (a▸h)
theorem ZAt {c:Code}{Q:Exit->Fr->List It->Prop}{K':Fr->List It->Prop}(I:Fr->List It->Prop)(a:W P n wr c (Zat I Q) fr O)(b:∀ fr' O',I fr' O'->K' fr' O'):W P n wr c (Zat K' Q) fr O :=
 ZxL a fun e fr' O' h=>by
  cases e with
  | normal=>exact b fr' O' h
  | _=>exact h
end
theorem Zxq (s:ByteArray)(a:Nat):(s.extract a (min (a+2) s.size)).data.toList=(s.data.toList.drop a).take 2:=by
 rw[ByteArray.data_extract]
 have b:s.size=s.data.toList.length:=by simp
 rw[b]
 simp only[Array.toList_extract,List.extract_eq_take_drop]
 apply List.ext_getElem?
 intro i
 simp only[List.getElem?_take,List.getElem?_drop]
 by_cases h:i<2
 ·rw[if_pos h]
  by_cases c:a+i<s.data.toList.length
  ·rw[if_pos (by omega)]
  ·rw[List.getElem?_eq_none (by omega)];simp
 ·rw[if_neg h,if_neg (by omega)]
end Go.Wk
namespace Go.Proofs.YtpipekfmecikmaaGreatDoor
open Go Go.RowKit Go.Wk
attribute [local irreducible] W RL Does Zat Zaj retQ Calls Pu Stp RD Qy Ay Zak RW
structure PG where
 k:Nat
 off:Int
def prV:Option Int->Value
 | none => .tuple #[.int .i64 0,.int .i64 5]
 | some o => .tuple #[.int .i64 o,.int .i64 0]
def us60:List Int:=[3600,60,1]
theorem ZzB {k:Nat}{u:Int}(h:us60[k]?=some u):1<=u/\u<=3600:=by
 unfold us60 at h
 match k,h with
 | 0,h=>simp only[List.getElem?_cons_zero,Option.some.injEq]at h;omega
 | 1,h=>simp only[List.getElem?_cons_succ,List.getElem?_cons_zero,Option.some.injEq]at h;omega
 | 2,h=>simp only[List.getElem?_cons_succ,List.getElem?_cons_zero,Option.some.injEq]at h;omega
 | k+3,h=>simp at h
theorem ZzP (l:List UInt8)(h:l.length<=2){n:Int}(a:numU l=some n):0<=n/\n<=99:=by
 have:=Zmm l h
 rw[a]at this
 obtain⟨u,_,rfl,b⟩:=this
 omega
theorem ZvA {G:Prop}(h:G:=by(first|(apply Zaw;rfl;rfl;exact hb3)|(apply Zhh;rfl;rfl;omega;omega;exact huv)|(apply Zdf;rfl;rfl;(constructor <;> omega))|(apply ZbG;rfl;rfl;exact hbg))):G:=h
theorem Zvz {G:Prop}(h:G:=by(apply Zca;rfl;rfl;exact hb)):G:=h
theorem Zvy {G:Prop}(h:G:=by(first|exact Zvz|(apply Zcl;rfl;rfl;exact hb2))):G:=h
theorem ZrE (s:ByteArray)(w:World)(X:∀ w',Bel w.heap.size w w'->LibW w')(hs:s.size<=1000000000000) :
  Does Tryz.prog 262 [.string s] w (fun v O=>v=prV (ZaT s.data.toList)/\O=[]):=by
 have d:=fun w'=>Zta s ⟨#[45]⟩ w'
 have Y:s.size=s.data.toList.length:=by simp
 have t:s=ByteArray.empty↔s.data.toList=[]:=⟨fun h=>by rw[h];rfl,fun h=>by
  apply ByteArray.ext
  rw[<- Array.toArray_toList (xs:=s.data),h]
  rfl⟩
 have S:([45]:List UInt8).isPrefixOf s.data.toList=decide (s.data.toList.head?=some 45):=by
  cases s.data.toList with
  | nil=>rfl
  | cons c l =>
   by_cases h:c=45
   ·subst h;simp
   ·rw[List.isPrefixOf,show((45:UInt8)==c)=false from beq_false_of_ne fun e=>h e.symm];simp[h]
 rw[show(⟨#[45]⟩:ByteArray).data.toList=[45] from rfl,S]at d
 obtain⟨Q,x⟩:∃ Q,ZcQ s.data.toList [3600,60,1] 0 0=Q:=⟨_,rfl⟩
 unfold ZaT
 rw[x]
 refine Zaa Tryz.func262 rfl rfl rfl rfl ?_
 repeat (first|(apply RL_pu;rfl;(apply Zji;rfl;rfl;(focus repeat (first|exact Nf.nil|apply Nf.cons))))|refine walkB1 ?_)
 refine ZAt (fun fr' O'=>∃ o:Int,Q=some o/\(0<=o/\o<=1200000)/\Sub [(0,.string s),(4,.int .i64 o)] fr') ?_ ?_
 ·apply W_block
  refine Zai [(0,.string s),(9,.agg (us60.map (Value.int .i64)).toArray)] [] (fun g:PG=>[(4,.int .i64 g.off),(10,.int .i64 g.k)]) (fun _=>[]) (fun g=>g.k<=3/\(0<=g.off/\g.off<=400000*g.k)/\ZcQ s.data.toList (us60.drop g.k) g.k g.off=Q) (fun g=>3 - g.k) ⟨0,0⟩ SFA .nil ⟨Nat.zero_le _,⟨Int.le_refl _,Int.le_refl _⟩,x⟩ ?_
  rintro⟨k,off⟩ ⟨hk,M,hi⟩
  dsimp only at hk M hi ⊢
  by_cases R:k<3
  ·have hb3:decide ((k:Int)<3)=true:=decide_eq_true (by omega)
   have B:k<us60.length:=R
   have W:=List.getElem?_eq_getElem B
   rw[Zah B,ZcQ]at hi
   generalize us60[k]=u at *
   have U:=ZzB W
   have huv:(us60.map (Value.int .i64))[k]?=some (.int .i64 u):=by rw[List.getElem?_map,W];rfl
   by_cases A:s.data.toList.length<=1+2*k
   ·rw[if_pos A]at hi
    have hbg:decide ((s.size:Int)<=1+2*k)=true:=decide_eq_true (by omega)
    repeat (first|(apply RL_pu;rfl;exact ZvA)|refine walk1 ?_)
    exact⟨off,hi.symm,⟨M.1,OA⟩,SFA⟩
   ·rw[if_neg A]at hi
    have hbg:decide ((s.size:Int)<=1+2*k)=false:=decide_eq_false (by omega)
    obtain⟨r,V⟩:∃ r,s.extract (1+2*k) (min (1+2*k+2) s.size)=r:=⟨_,rfl⟩
    have I:r.data.toList=(s.data.toList.drop (1+2*k)).take 2:=by rw[<- V];exact Zxq s _
    have T:r.size<=2:=by
     have:r.size=r.data.toList.length:=by simp
     rw[this,I,List.length_take]
     omega
    have f:=fun w' (q:Bel w.heap.size w w')=>Zwq r w' (X w' q) T
    rw[I]at f
    have E:(if (s.size:Int)<3+2*k then (s.size:Int) else 3+2*k)=((min (1+2*k+2) s.size:Nat):Int):=by split <;> omega
    have z:s.extract (1+2*(k:Int)).toNat ((min (1+2*k+2) s.size:Nat):Int).toNat=r:=by
     rw[<- V]
     congr 1
    have C:1+2*(k:Int)<=((min (1+2*k+2) s.size:Nat):Int):=by omega
    have D:((min (1+2*k+2) s.size:Nat):Int)<=s.size:=by omega
    generalize min (1+2*k+2) s.size=mm at *
    cases hn:numU ((s.data.toList.drop (1+2*k)).take 2) with
    | none =>
     rw[hn]at hi f
     dsimp only at hi f
     subst hi
     repeat (first|(apply RL_pu;rfl;(first|exact ZvA|(apply ZgN;rfl;rfl;exact E)|(apply Ze3;rfl;rfl;rfl;omega;exact C;exact D;exact z)|(apply ZkB;exact⟨_,Tryz.underlying299⟩;rfl;exact .inr ⟨rfl,_,_,rfl⟩)))|(refine js ?_;(apply Zae (h:=fun w' q _=>f w' q);rfl;rintro v O' ⟨⟨tt,pp,rfl⟩,rfl⟩))|refine walk1 ?_)
     exact rtB
    | some n =>
     rw[hn]at hi f
     dsimp only at hi f
     have H:0<=n/\n<=99:=ZzP _ (List.length_take_le _ _) hn
     ·have Z:0<=n*u:=Int.mul_nonneg H.1 (by omega)
      have h2:n*u<=99*3600:=Int.mul_le_mul H.2 U.2 (by omega) (by omega)
      have F : -9223372036854775808<=n*u/\n*u<=9223372036854775807:=by omega
      generalize hnu:n*u=m at *
      repeat (first|(apply RL_pu;rfl;(first|(apply Zaw;rfl;rfl;exact hb3)|(apply Zhh;rfl;rfl;omega;omega;exact huv)|(apply ZuY;rfl;rfl;exact hnu;exact F)|(apply Zdf;rfl;rfl;(constructor <;> omega))|(apply ZbG;rfl;rfl;exact hbg)|(apply ZgN;rfl;rfl;exact E)|(apply Ze3;rfl;rfl;rfl;omega;exact C;exact D;exact z)|(apply ZkB;exact⟨_,Tryz.underlying299⟩;rfl;exact .inl ⟨rfl,rfl⟩)))|(refine js ?_;(apply Zae (h:=fun w' q _=>f w' q);rfl;rintro v O' ⟨⟨rfl,_,_⟩,rfl⟩))|refine walk1 ?_)
      exact⟨⟨k+1,off+m⟩,OA,⟨OA,⟨by dsimp only;omega,by dsimp only;omega⟩,hi⟩,SFA,.nil⟩
  ·obtain rfl:k=3:=by omega
   have hb3:decide (((3:Nat):Int)<3)=false:=by decide
   rw[show us60.drop 3=[] from rfl,ZcQ]at hi
   repeat (first|(apply RL_pu;rfl;(apply Zaw;rfl;rfl;exact hb3))|refine walk1 ?_)
   exact⟨off,hi.symm,⟨M.1,OA⟩,SFA⟩
 rintro fr' O' ⟨o,rfl,M,j⟩
 refine ZcV j .nil ?_
 clear j fr' O' x
 dsimp only
 obtain⟨y,i⟩:∃ y,(if s.data.toList.head?=some 45 then -o else o)=y:=⟨_,rfl⟩
 rw[i]
 refine W_seq ?_
 refine ZAt (fun fr' O'=>Sub [(0,.string s),(4,.int .i64 y)] fr') ?_ ?_
 ·by_cases L:s.data.toList.head?=some 45
  ·rw[if_pos L]at i
   subst i
   rw[decide_eq_true L]at d
   repeat (first|(apply RL_pu;rfl;(apply Zf9;rfl;(constructor <;> omega)))|(refine js ?_;(refine Zab (fun w' q=>d w') ?_))|refine walk1 ?_)
   exact SFA
  ·rw[if_neg L]at i
   subst i
   rw[decide_eq_false L]at d
   repeat (first|(refine js ?_;(refine Zab (fun w' q=>d w') ?_))|refine walk ?_)
   exact SFA
 intro fr' O' j
 refine ZcV j .nil ?_
 clear j fr' O' i
 have J:=fun w'=>Zed y w'
 by_cases K:s.data.toList=[]
 ·have hb:decide (s=ByteArray.empty)=true:=decide_eq_true (t.2 K)
  rw[if_pos (.inl (by rw[K];rfl))]
  repeat (first|(apply RL_pu;rfl;exact Zvz)|refine walk1 ?_)
  exact rtB
 ·have hb:decide (s=ByteArray.empty)=false:=decide_eq_false (fun h=>K (t.1 h))
  by_cases N:ZaL y=s.data.toList
  ·have hb2:(!decide ((⟨(ZaL y).toArray⟩:ByteArray)=s))=false:=by
    rw[decide_eq_true (by rw[N])];rfl
   rw[if_neg (by rintro(h|h);exact K (List.isEmpty_iff.1 h);exact h N)]
   repeat (first|(apply RL_pu;rfl;exact Zvy)|(refine js ?_;(refine Zab (fun w' q=>J w') ?_))|refine walk1 ?_)
   exact rtB
  ·have hb2:(!decide ((⟨(ZaL y).toArray⟩:ByteArray)=s))=true:=by
    rw[decide_eq_false (fun h=>N (by rw[<- h]))];rfl
   rw[if_pos (.inr N)]
   repeat (first|(apply RL_pu;rfl;exact Zvy)|(refine js ?_;(refine Zab (fun w' q=>J w') ?_))|refine walk1 ?_)
   exact rtB
open Go Go.RowKit Go.Wk Go.Lib
def I64 (n:Int):Prop := -9223372036854775808<=n/\n<=9223372036854775807
theorem Zn1 (a b:Int)(c:I64 a)(d:I64 b)(w:World):Does Tryz.prog 316 [.int .i64 a,.int .i64 b] w (fun v O=>v = .tuple #[.int .i64 (IntKind.i64.wrap (a+b)),.bool (ZcC (a+b))]/\O=[]):=by
 unfold I64 at c d
 have e:(decide (a<IntKind.i64.wrap (a+b))==decide (0<b))=ZcC (a+b):=by
  unfold ZcC
  have f:IntKind.i64.wrap (a+b)=if a+b < -9223372036854775808 then a+b+18446744073709551616 else if 9223372036854775807<a+b then a+b - 18446744073709551616 else a+b:=by
   rw[IntKind.wrap_i64]
   repeat' split
   all_goals omega
  rw[f]
  rw[Bool.eq_iff_iff]
  simp only[beq_iff_eq,Bool.and_eq_true,decide_eq_true_eq]
  rw[decide_eq_decide]
  repeat' split
  all_goals omega
 refine Zaa Tryz.func316 rfl rfl rfl rfl ?_
 repeat (first|(apply RL_pu;rfl;(apply ZlA;rfl;rfl))|refine walk1 ?_)
 exact ret_2 _ _ [] (.tmp rfl) (.tmp rfl) .nil ⟨by rw[e],rfl⟩
theorem ZtE (A:Option Addr)(c:Nat)(l:List ByteArray)(w:World)(k:(It.row (.slice A l.length c) 9 1 l.length (l.flatMap ZaO)).sat w)(B:l.length<=1000000)(a:(Lib.join (l.map (·.data.toList)) [47]).length<=140737488355328) :
  Does Tryz.prog 317 [.slice A l.length c,.string ⟨#[47]⟩] w (fun v O=>v = .string ⟨(Lib.join (l.map (·.data.toList)) [47]).toArray⟩/\O=[]):=by
 have g:=fun j x i=>Za2 k (u:=x) (j:=j) i
 obtain⟨z,⟨t,_⟩|⟨b,cap,n,d,o,h,r,p,s,m⟩⟩:=id k
 ·injection t with h1 h2 h3
  obtain rfl:=List.eq_nil_of_length_eq_zero h2
  subst h1 h3
  exact ZiQ ((Any.strings_Join_none ZtF ZmD none 0 ⟨#[47]⟩ w).mono fun e w' ⟨q,y⟩=>⟨q,y▸Below.refl _ _⟩)
 injection d with hA h2 h3
 subst hA h3
 have f:b<w.heap.size:=(Array.getElem?_eq_some_iff.1 h).1
 exact ZiQ (Any.strings_Join ZtF ZmD b 0 c l ⟨#[47]⟩ w (fun j x i=>by
  have h:=ZaC (enc:=ZaO) (fun _=>rfl) l j x 0 (.string x) i rfl
  have:=(g _ _ h).2
  rw[show adr (some (⟨b,0,none⟩:Addr))=⟨b,0,none⟩ from rfl,Zb5]at this
  simpa using this) f (by omega) (by omega) a)
theorem Zk4:∀ (l:List (List UInt8)),Lib.join l [47]=ZcM l
 | []=>rfl
 | [x]=>by simp[Lib.join,ZcM]
 | x::y::l=>by
  have a:=Zk4 (y::l)
  unfold Lib.join at a ⊢
  rw[show ZcM (x::y::l)=x++47::ZcM (y::l) from rfl,<- a]
  simp[List.intercalate,List.intersperse]
def bsE (l:List (List UInt8)):List ByteArray:=l.map fun t=>⟨t.toArray⟩
theorem Zqj (l:List (List UInt8)):(bsE l).map (·.data.toList)=l:=by
 rw[bsE,List.map_map]
 exact(List.map_congr_left fun _ _=>rfl).trans (List.map_id l)
theorem ZhR:∀ (l:List (List UInt8)),(∀ t∈l,t.length<=1000)->(ZcM l).length<=1001*l.length
 | [],_=>Nat.le_refl _
 | [x],h=>by have:=h x List.mem_cons_self;simp only[ZcM,List.length_cons,List.length_nil];omega
 | x::y::l,h=>by
  have b:=ZhR (y::l) fun t a=>h t (List.mem_cons_of_mem _ a)
  have:=h x List.mem_cons_self
  simp only[ZcM,List.length_append,List.length_cons]at b ⊢
  omega
def jnV:Option (List (List UInt8))->Value
 | none => .tuple #[.string ByteArray.empty,.int .i64 3]
 | some r => .tuple #[.string ⟨(ZcM r).toArray⟩,.int .i64 0]
structure JG where
 k:Nat
 A:Option Addr
 c:Nat
 m:Nat
 ys:List Value
 acc:List (List UInt8)
theorem Zee (n:Int):(ZaL n).length<=7:=by
 unfold ZaL
 split
 ·simp
 ·simp only[List.length_cons,List.length_append,dig2,List.length_nil]
  repeat' split
  all_goals simp
theorem Zvx {G:Prop}(h:G:=by(first|exact PuI|(apply Zca;rfl;rfl;exact hb))):G:=h
theorem Zin (A:Option Addr)(c:Nat)(d:Int)(xs:List Int)(w:World)(J:RdSl w A c iEnc 1 xs)(y:I64 d)(H:∀ x∈xs,I64 x)(Q:xs.length<=1000000) :
  Does Tryz.prog 292 [.int .i64 d,.slice A xs.length c] w (fun v O=>v=jnV (ZdR d xs)/\O=[]):=by
 obtain⟨j,i⟩:∃ j,ZdR d xs=j:=⟨_,rfl⟩
 rw[i]
 refine Zaa Tryz.func292 rfl rfl rfl rfl ?_
 repeat (first|(refine js ?_;(refine bx ?_;intro u))|refine walk ?_)
 refine Zdq 9 1 ?_
 refine Zai [(0,.int .i64 d),(12,.slice A xs.length c),(13,.int .i64 xs.length)] [] (fun g:JG=>[(6,.slice g.A g.m g.c),(14,.int .i64 g.k)]) (fun g=>[.row (.slice g.A g.m g.c) 9 1 g.m g.ys])
  (fun g=>g.k<=xs.length/\g.m=g.k/\g.m=g.acc.length/\g.ys=(bsE g.acc).flatMap ZaO/\(∀ t∈g.acc,t.length<=1000)/\(ZdR d (xs.drop g.k)).map (g.acc++·)=j) (fun g=>xs.length - g.k) ⟨0,none,0,0,[],[]⟩ SFA SOA ⟨Nat.zero_le _,rfl,rfl,rfl,nofun,by rw[<- i];dsimp only;rw[List.drop_zero];cases ZdR d xs <;> rfl⟩ ?_
 rintro⟨k,A1,c1,m,ys,acc⟩ ⟨hk,hmk,hm,hy,ht,hi⟩
 dsimp only at hk hmk hm hy ht hi ⊢
 repeat (first|(refine js ?_;(refine bx ?_;intro u))|refine walk ?_)
 refine Zaf rfl (fun q=>?_) (fun q=>?_)
 ·simp only[decide_eq_true_eq,Int.ofNat_lt]at q
  obtain⟨hna,hca⟩:=J.rd k _ (List.getElem?_eq_getElem q)
  have F:=H _ (List.getElem_mem q)
  rw[Zah q,ZdR]at hi
  generalize xs[k]=x at *
  have e:=fun w'=>Zn1 d x y F w'
  have N:=Zee (d+x)
  cases hok:ZcC (d+x) with
  | false =>
   rw[if_pos (.inl hok)]at hi
   subst hi
   rw[hok]at e
   have f:=fun w'=>Zed (IntKind.i64.wrap (d+x)) w'
   repeat (first|(apply RL_pu;rfl;exact PuI)|(refine js ?_;(first|(refine Zab (fun w' s=>e w') ?_)|(refine Zab (fun w' s=>f w') ?_)|(refine bx ?_;intro u)))|refine walk1 ?_)
   exact rtB
  | true =>
   have E:IntKind.i64.wrap (d+x)=d+x:=Zcm (by simpa[ZcC] using hok)
   rw[hok,E]at e
   have f:=fun w'=>Zed (d+x) w'
   generalize ZaL (d+x)=tt at *
   by_cases z:tt=[]
   ·rw[if_pos (.inr z)]at hi
    subst hi
    subst z
    have hb:decide ((⟨([]:List UInt8).toArray⟩:ByteArray)=ByteArray.empty)=true:=by decide
    repeat (first|(apply RL_pu;rfl;exact Zvx)|(refine js ?_;(first|(refine Zab (fun w' s=>e w') ?_)|(refine Zab (fun w' s=>f w') ?_)|(refine bx ?_;intro u)))|refine walk1 ?_)
    exact rtB
   ·rw[if_neg (by rintro(h|h);rw[hok]at h;cases h;exact z h)]at hi
    have hb:decide ((⟨tt.toArray⟩:ByteArray)=ByteArray.empty)=false:=decide_eq_false (fun h=>z (by simpa using congrArg (fun b:ByteArray=>b.data.toList) h))
    repeat (first|(apply RL_pu;rfl;exact Zvx)|(refine js ?_;(first|(refine Zab (fun w' s=>e w') ?_)|(refine Zab (fun w' s=>f w') ?_)|(apply ZaF;rfl;rfl;(intro A' c';(focus repeat' constructor));(intro w' _ B;exact ZbD (B.of (by repeat' constructor)));rfl;rfl;(simp only[maxLen];omega);omega;intro A' c' K L M)|(refine bx ?_;intro u)))|refine walk1 ?_)
    exact⟨⟨k+1,A',c',m+1,ys++[.string ⟨tt.toArray⟩],acc++[tt]⟩,OA,⟨OA,OA,by simp[hm],by rw[hy];simp[bsE,ZaO],by
     intro t D
     rcases List.mem_append.1 D with h|h
     ·exact ht t h
     ·simp only[List.mem_singleton]at h;subst h;omega,by
     rw[<- hi]
     cases ZdR d (xs.drop (k+1)) with
     | none=>rfl
     | some r=>simp⟩,SFA,SOA⟩
 ·simp only[decide_eq_false_iff_not,Int.ofNat_lt]at q
  rw[List.drop_eq_nil_of_le (by omega),ZdR]at hi
  simp only[Option.map_some,List.append_nil]at hi
  subst hi hy
  have C:(bsE acc).length=m:=by rw[hm];simp[bsE]
  have I:=fun w' h=>ZtE A1 c1 (bsE acc) w' h (by omega) (by
   rw[Zqj,Zk4]
   have:=ZhR acc ht
   omega)
  rw[Zqj,Zk4,C]at I
  repeat (first|(refine js ?_;(first|(refine ZaH (fun w' s B=>I w' (B.of (A := .row (.slice A1 m c1) 9 1 m ((bsE acc).flatMap ZaO)) (by repeat' constructor))) ?_)|(refine bx ?_;intro u)))|refine walk ?_)
  exact rtB
def xpV (x:List UInt8 × Int):Value := .tuple #[.string ⟨x.1.toArray⟩,.int .i64 x.2]
theorem Zgp:∀ (l:List DRule) (x:Int),(∀ r∈l,I64 r.save)->I64 x->I64 (Zce l x).1
 | [],_,_,hx=>hx
 | r::l,x,h,hx=>by
  have b:=h r List.mem_cons_self
  have a:=fun y=>Zgp l y fun s c=>h s (List.mem_cons_of_mem _ c)
  unfold Zce
  split
  ·exact a x hx
  ·split
   ·exact⟨by decide,by decide⟩
   ·exact a _ b
def anyS (l:List DRule):Bool:=l.any fun r => !decide (r.save=0)
theorem Zpl {G:Prop}(h:G:=by(apply Zap;rfl;rfl;exact hb0)):G:=h
theorem ZlB {G:Prop}(h:G:=by(first|exact Zpl|(apply Zap;rfl;rfl;exact hb1))):G:=h
theorem ZoO (e:DEra)(A:Option Addr)(c:Nat)(l:List DRule)(w:World)(L:RdSl w A c DRule.enc 11 l)(J:I64 e.off)(M:I64 e.save)(Q:∀ r∈l,I64 r.save)(U:l.length<=1000000) :
  Does Tryz.prog 277 [.agg e.enc.toArray,.slice A l.length c] w (fun v O=>v=xpV (ZdT e l)/\O=[]):=by
 have H:=fun(x:Int) (hx:I64 x) (f:Nat) w' (q:Zau w' ⟨f,0,none⟩ [.int .i64 x])=>Zin (some ⟨f,0,none⟩) 1 e.off [x] w' (ZoV (fun _=>rfl) (Nat.le_refl 1) (by decide) q) J (fun y D=>by simp only[List.mem_singleton]at D;subst D;exact hx) (by simp)
 have K:=fun(x:Int) (hx:I64 x) (f:Nat) w' (q:Zau w' ⟨f,0,none⟩ [.int .i64 0,.int .i64 x])=>Zin (some ⟨f,0,none⟩) 2 e.off [0,x] w' (ZoV (fun _=>rfl) (Nat.le_refl 2) (by decide) q) J (fun y D=>by
  simp only[List.mem_cons,List.not_mem_nil,or_false]at D
  rcases D with rfl|rfl
  ·exact⟨by decide,by decide⟩
  ·exact hx) (by simp)
 have s:=fun w' (R:Bel w.heap.size w w')=>ZjV A c l w' (L.up R)
 have hx:=Zgp l 0 Q ⟨by decide,by decide⟩
 rw[show Zce l 0=ZbS l from rfl]at hx
 obtain⟨off,kind,save,set,i,til⟩:=e
 unfold ZdT
 dsimp only at J M H K ⊢
 refine Zaa Tryz.func277 rfl rfl rfl rfl ?_
 simp only[DEra.enc]
 by_cases u:kind=0
 ·subst u
  rw[if_pos rfl]
  have d:=H 0 ⟨by decide,by decide⟩
  generalize ZdR off [0]=j at *
  cases j with
  | none =>
   simp only[jnV]at d
   repeat (first|(refine js ?_;(first|(apply Zae (h:=fun w' _ g=>d _ w' (g.cells (by repeat' constructor)));rfl;rintro v O' ⟨rfl,rfl⟩)|(refine bx ?_;intro f)))|refine walk ?_)
   exact rtB
  | some r =>
   simp only[jnV]at d
   repeat (first|(refine js ?_;(first|(apply Zae (h:=fun w' _ g=>d _ w' (g.cells (by repeat' constructor)));rfl;rintro v O' ⟨rfl,rfl⟩)|(refine bx ?_;intro f)))|refine walk ?_)
   exact rtB
 have hb0:decide (kind=0)=false:=decide_eq_false u
 rw[if_neg u]
 by_cases z:kind=1
 ·subst z
  rw[if_pos rfl]
  have d:=H save M
  generalize ZdR off [save]=j at *
  cases j with
  | none =>
   simp only[jnV]at d
   repeat (first|(apply RL_pu;rfl;exact Zpl)|(refine js ?_;(first|(apply Zae (h:=fun w' _ g=>d _ w' (g.cells (by repeat' constructor)));rfl;rintro v O' ⟨rfl,rfl⟩)|(refine bx ?_;intro f)))|refine walk1 ?_)
   exact rtB
  | some r =>
   simp only[jnV]at d
   repeat (first|(apply RL_pu;rfl;exact Zpl)|(refine js ?_;(first|(apply Zae (h:=fun w' _ g=>d _ w' (g.cells (by repeat' constructor)));rfl;rintro v O' ⟨rfl,rfl⟩)|(refine bx ?_;intro f)))|refine walk1 ?_)
   exact rtB
 have hb1:decide (kind=1)=false:=decide_eq_false z
 rw[if_neg z]
 by_cases B:kind=2
 ·subst B
  rw[if_pos rfl]
  generalize ZbS l=od at *
  obtain⟨N,S⟩:=od
  dsimp only at hx s ⊢
  cases S with
  | true =>
   have d:=K N hx
   rw[if_pos rfl]
   generalize ZdR off [0,N]=j at *
   cases j with
   | none =>
    simp only[jnV]at d
    repeat (first|(apply RL_pu;rfl;exact ZlB)|(refine js ?_;(first|(refine Zab s ?_)|(apply Zae (h:=fun w' _ g=>d _ w' (g.cells (by repeat' constructor)));rfl;rintro v O' ⟨rfl,rfl⟩)|(refine bx ?_;intro f)))|refine walk1 ?_)
    exact rtB
   | some r =>
    simp only[jnV]at d
    repeat (first|(apply RL_pu;rfl;exact ZlB)|(refine js ?_;(first|(refine Zab s ?_)|(apply Zae (h:=fun w' _ g=>d _ w' (g.cells (by repeat' constructor)));rfl;rintro v O' ⟨rfl,rfl⟩)|(refine bx ?_;intro f)))|refine walk1 ?_)
    exact rtB
  | false =>
   rw[if_neg (by decide)]
   obtain⟨E,C⟩:∃ E,anyS l=E:=⟨_,rfl⟩
   rw[show(l.any fun r => !decide (r.save=0))=E from C]
   repeat (first|(apply RL_pu;rfl;exact ZlB)|(refine js ?_;(first|(refine Zab s ?_)|(refine bx ?_;intro f)))|refine walk1 ?_)
   obtain⟨F,m⟩:∃ F,f=F:=⟨_,rfl⟩
   rw[m]
   clear m f
   refine Zai [(2,.pointer (some ⟨F,0,none⟩)),(45,.slice A l.length c),(46,.int .i64 l.length)] [.blk F [.int .i64 off,.int .i64 2,.int .i64 save,.string set,.string i,.bool til.is,.int .i64 til.year,.int .i64 til.month,.int .i64 til.day.kind,.int .i64 til.day.week,.int .i64 til.day.day,.int .i64 til.at_.sec,.int .i64 til.at_.base] 75] (fun k:Nat=>[(47,.int .i64 k)]) (fun _=>[]) (fun k=>k<=l.length/\anyS (l.drop k)=E) (fun k=>l.length - k) 0 SFA SOA ⟨Nat.zero_le _,C⟩ ?_
   rintro k ⟨T,t⟩
   repeat (first|(refine js ?_;(refine bx ?_;intro f))|refine walk ?_)
   refine Zaf rfl (fun q=>?_) (fun q=>?_)
   ·simp only[decide_eq_true_eq,Int.ofNat_lt]at q
    obtain⟨hna,hca⟩:=L.rd k _ (List.getElem?_eq_getElem q)
    rw[Zah q,anyS,List.any_cons]at t
    generalize l[k]=r at *
    repeat (first|(apply RL_pu;rfl;exact PuI)|(refine js ?_;(refine bx ?_;intro f))|refine walk1 ?_)
    refine Zaf rfl (fun I=>?_) (fun I=>?_)
    ·rw[I]at t
     simp only[Bool.true_or]at t
     subst t
     rw[if_pos rfl]
     repeat (first|(refine js ?_;(refine bx ?_;intro f))|refine walk ?_)
     exact rtB
    ·rw[I,Bool.false_or]at t
     repeat (first|(refine js ?_;(refine bx ?_;intro f))|refine walk ?_)
     exact⟨k+1,OA,⟨OA,t⟩,SFA,SOA⟩
   ·simp only[decide_eq_false_iff_not,Int.ofNat_lt]at q
    rw[List.drop_eq_nil_of_le (by omega)]at t
    subst t
    rw[show anyS []=false from rfl,if_neg (by decide)]
    have d:=H 0 ⟨by decide,by decide⟩
    generalize ZdR off [0]=j at *
    cases j with
    | none =>
     simp only[jnV]at d
     repeat (first|(refine js ?_;(first|(apply Zae (h:=fun w' _ g=>d _ w' (g.cells (by repeat' constructor)));rfl;rintro v O' ⟨rfl,rfl⟩)|(refine bx ?_;intro f)))|refine walk ?_)
     exact rtB
    | some r =>
     simp only[jnV]at d
     repeat (first|(refine js ?_;(first|(apply Zae (h:=fun w' _ g=>d _ w' (g.cells (by repeat' constructor)));rfl;rintro v O' ⟨rfl,rfl⟩)|(refine bx ?_;intro f)))|refine walk ?_)
     exact rtB
 have m:decide (kind=2)=false:=decide_eq_false B
 rw[if_neg B]
 repeat (first|(apply RL_pu;rfl;(first|exact ZlB|(apply Zap;rfl;rfl;exact m)))|(refine js ?_;(refine bx ?_;intro f))|refine walk1 ?_)
 exact rtB
theorem LibW.up {w w':World}(h:LibW w)(b:Bel w.heap.size w w'):LibW w' where
 mxl:=by
  obtain⟨m,c⟩:=h.mxl
  exact⟨m,(b.cell (World.block_lt_of_cell? w _ c)).trans c⟩
 syn:=by
  obtain⟨ev,a,d⟩:=h.syn
  exact⟨ev,(b.cell (World.block_lt_of_cell? w _ a)).trans a,d⟩
theorem Zk5 (s:ByteArray)(w:World)(c:LibW w)(d:s.size<=1000000000000):Does Tryz.prog 212 [.string s] w (fun v O=>v = .bool (ZaT s.data.toList).isSome/\O=[]):=by
 have a:=fun w' (e:Bel w.heap.size w w')=>ZrE s w' (fun f b=>(c.up e).up b) d
 refine Zaa Tryz.func212 rfl rfl rfl rfl ?_
 generalize ZaT s.data.toList=o at *
 cases o with
 | none =>
  simp only[prV]at a
  repeat (first|(refine js ?_;(refine Zab a ?_))|refine walk ?_)
  exact rtA
 | some x =>
  simp only[prV]at a
  repeat (first|(refine js ?_;(refine Zab a ?_))|refine walk ?_)
  exact rtA
theorem ZfZ (f p:List UInt8):(cutV f p).1.length+(cutV f p).2.1.length<=f.length:=by
 unfold cutV
 split
 ·rename_i a b h
  have:=Zm2 h
  simp only[List.length_nil]at this
  dsimp only
  omega
 ·simp
def arV (l:List UInt8):Value := .tuple #[.string ⟨(cutV l [37,115]).1.toArray⟩,.string ⟨(cutV l [37,115]).2.1.toArray⟩,.bool (Zbl l).isSome]
theorem ZBm (l:List UInt8):(Zbl l).isSome=((cutV l [37,115]).2.2&&(Zcf ((cutV l [37,115]).1++(cutV l [37,115]).2.1)&&decide (((cutV l [37,115]).1++(cutV l [37,115]).2.1).length<=5))):=by
 unfold Zbl cutV
 cases Zbf [37,115] l [] with
 | none=>rfl
 | some ab =>
  obtain⟨a,b⟩:=ab
  dsimp only
  by_cases c:Zcf (a++b)=true
  ·by_cases d:(a++b).length<=5
   ·rw[if_pos ⟨c,d⟩,c,decide_eq_true d];rfl
   ·rw[if_neg (fun h=>d h.2),decide_eq_false d,Bool.and_false,Bool.and_false];rfl
  ·rw[if_neg (fun h=>c h.1),show Zcf (a++b)=false from by simpa using c,Bool.false_and,Bool.and_false];rfl
theorem ZAL {G:Prop}(h:G:=by(first|(apply ZgQ;rfl;rfl;exact hss)|(apply Zaw;rfl;rfl;exact hil)|(apply ZbF;rfl;rfl;exact h5))):G:=h
theorem ZnU {G G':Prop}(k:G')(h:Hold G'->G:=by intro k9;(first|(apply RL_pu;rfl;exact ZAL)|(refine js ?_;(first|(refine Zab hc ?_)|(refine Zab (fun w' hw=>hix w') ?_)))|refine walk1 ?_);exact k9.out):G:=h ⟨k⟩
theorem Zi7 (f:ByteArray)(w:World)(q:LibW w)(u:f.size<=1000000000):Does Tryz.prog 148 [.string f] w (fun v O=>v=arV f.data.toList/\O=[]):=by
 have hc:=fun w' (hw:Bel w.heap.size w w')=>Zlg f ⟨#[37,115]⟩ w' (q.up hw) (by omega)
 rw[show(⟨#[37,115]⟩:ByteArray).data.toList=[37,115] from rfl]at hc
 have j:=ZfZ f.data.toList [37,115]
 have g:f.data.toList.length=f.size:=by simp
 rw[g]at j
 unfold arV
 rw[ZBm]
 obtain⟨c,e⟩:∃ c,cutV f.data.toList [37,115]=c:=⟨_,rfl⟩
 rw[e]at hc j ⊢
 obtain⟨a,b,ok⟩:=c
 dsimp only at hc j ⊢
 have hix:=fun w'=>ZwM (⟨a.toArray⟩++⟨b.toArray⟩) w'
 have s:((⟨a.toArray⟩:ByteArray)++⟨b.toArray⟩).data.toList=a++b:=by simp
 have m:(⟨a.toArray⟩:ByteArray).size=a.length:=by show a.toArray.size=a.length;simp
 have p:(⟨b.toArray⟩:ByteArray).size=b.length:=by show b.toArray.size=b.length;simp
 have t:((⟨a.toArray⟩:ByteArray)++⟨b.toArray⟩).size=(a++b).length:=by rw[ByteArray.size_append,m,p,List.length_append]
 have d:=ZtI ((⟨a.toArray⟩:ByteArray)++⟨b.toArray⟩) ((⟨a.toArray⟩:ByteArray)++⟨b.toArray⟩).size 0 (by omega)
 rw[List.drop_zero,s]at d
 have hil:decide (idxFunc (fun r=>ZdA (r:Int)) true ((⟨a.toArray⟩:ByteArray)++⟨b.toArray⟩)<0)=Zcf (a++b):=by
  rw[Bool.eq_iff_iff,decide_eq_true_eq]
  exact d
 have h5:decide (((((⟨a.toArray⟩:ByteArray)++⟨b.toArray⟩).size:Nat):Int)<=5)=decide ((a++b).length<=5):=by
  rw[decide_eq_decide]
  omega
 have hss:(⟨a.toArray⟩:ByteArray).size+(⟨b.toArray⟩:ByteArray).size<=9223372036854775807:=by omega
 clear d
 generalize idxFunc (fun r=>ZdA (r:Int)) true ((⟨a.toArray⟩:ByteArray)++⟨b.toArray⟩)=i at *
 generalize Zcf (a++b)=lt at *
 generalize decide ((a++b).length<=5)=l5 at *
 refine Zaa Tryz.func148 rfl rfl rfl rfl ?_
 cases ok with
 | false =>
  repeat refine ZnU ?_
  exact Zdl _ _ _ [] (.tmp rfl) (.tmp rfl) (.tmp rfl) .nil ⟨rfl,rfl⟩
 | true =>
  cases lt with
  | false =>
   repeat refine ZnU ?_
   exact Zdl _ _ _ [] (.tmp rfl) (.tmp rfl) (.tmp rfl) .nil ⟨rfl,rfl⟩
  | true =>
   repeat refine ZnU ?_
   exact Zdl _ _ _ [] (.tmp rfl) (.tmp rfl) (.tmp rfl) .nil ⟨rfl,rfl⟩
def Zgw (ab0 ok ab1 ab2 ar q4 i0 i1 i2:Bool):Int:=if ab0 then 1 else if ok&&(ab1&&ab2) then 2 else if ar then 3 else if q4 then 4 else if i0||(ok&&(i1&&i2)) then 5 else 0
theorem Zht (l:List UInt8):ZaQ l=Zgw (Zbs l) (cutV l [47]).2.2 (Zbs (cutV l [47]).1) (Zbs (cutV l [47]).2.1) (Zbl l).isSome (decide (l=[37,122])) (ZaT l).isSome (ZaT (cutV l [47]).1).isSome (ZaT (cutV l [47]).2.1).isSome:=by
 unfold ZaQ Zgw cutV
 cases Zbf [47] l [] with
 | none=>simp
 | some ab=>simp
theorem Zim (f:ByteArray)(w:World)(e:LibW w)(t:f.size<=1000000000):Does Tryz.prog 147 [.string f] w (fun v O=>v = .int .i64 (ZaQ f.data.toList)/\O=[]):=by
 have d:=fun w' (c:Bel w.heap.size w w')=>Zlg f ⟨#[47]⟩ w' (e.up c) (by omega)
 rw[show(⟨#[47]⟩:ByteArray).data.toList=[47] from rfl]at d
 have p:=ZfZ f.data.toList [47]
 have m:f.data.toList.length=f.size:=by simp
 rw[m]at p
 have g:=fun w' (c:Bel w.heap.size w w')=>Zi7 f w' (e.up c) t
 unfold arV at g
 rw[Zht]
 have s:decide (f=⟨#[37,122]⟩)=decide (f.data.toList=[37,122]):=by
  rw[decide_eq_decide]
  exact⟨fun h=>by rw[h],fun h=>by
   apply ByteArray.ext
   rw[<- Array.toArray_toList (xs:=f.data),h]⟩
 obtain⟨i,j⟩:∃ i,cutV f.data.toList [47]=i:=⟨_,rfl⟩
 rw[j]at d p ⊢
 obtain⟨a,b,ok⟩:=i
 dsimp only at d p ⊢
 have u:(⟨a.toArray⟩:ByteArray).size=a.length:=by show a.toArray.size=a.length;simp
 have x:(⟨b.toArray⟩:ByteArray).size=b.length:=by show b.toArray.size=b.length;simp
 have a0:=fun w'=>Zf5 f (by omega) w'
 have q:=fun w'=>Zf5 ⟨a.toArray⟩ (by omega) w'
 have a2:=fun w'=>Zf5 ⟨b.toArray⟩ (by omega) w'
 have i0:=fun w' (c:Bel w.heap.size w w')=>Zk5 f w' (e.up c) (by omega)
 have r:=fun w' (c:Bel w.heap.size w w')=>Zk5 ⟨a.toArray⟩ w' (e.up c) (by omega)
 have i2:=fun w' (c:Bel w.heap.size w w')=>Zk5 ⟨b.toArray⟩ w' (e.up c) (by omega)
 rw[show Zhn f=Zbs f.data.toList from rfl]at a0
 rw[show Zhn ⟨a.toArray⟩=Zbs a from rfl]at q
 rw[show Zhn ⟨b.toArray⟩=Zbs b from rfl]at a2
 rw[show(⟨a.toArray⟩:ByteArray).data.toList=a from rfl]at r
 rw[show(⟨b.toArray⟩:ByteArray).data.toList=b from rfl]at i2
 generalize Zbs f.data.toList=A0 at *
 generalize Zbs a=A1 at *
 generalize Zbs b=A2 at *
 generalize (ZaT f.data.toList).isSome=I0 at *
 generalize (ZaT a).isSome=I1 at *
 generalize (ZaT b).isSome=I2 at *
 generalize (Zbl f.data.toList).isSome=ar at *
 generalize decide (f.data.toList=[37,122])=q4 at *
 refine Zaa Tryz.func147 rfl rfl rfl rfl ?_
 repeat' (first|(apply RL_pu;rfl;(apply Zca;rfl;rfl;exact s))|(refine js ?_;(first|(refine Zab d ?_)|(refine Zab g ?_)|(refine Zab (fun w' c=>a0 w') ?_)|(refine Zab (fun w' c=>q w') ?_)|(refine Zab (fun w' c=>a2 w') ?_)|(refine Zab i0 ?_)|(refine Zab r ?_)|(refine Zab i2 ?_)))|refine walk1 ?_|refine und ?_|(refine Zam rfl rfl rfl (fun d=>?_) (fun d=>?_))|(refine Zas rfl rfl rfl (fun d=>?_) (fun d=>?_))|(refine Zaf rfl (fun d=>?_) (fun d=>?_)))
 all_goals first|(refine ret_1 _ [] (.tmp rfl) .nil ⟨?_,rfl⟩;first|rfl|(simp only[*,Bool.true_and,Bool.false_and,Bool.true_or,Bool.false_or,Bool.not_true,Bool.not_false];done)|(simp_all [Zgw];done)|(simp_all [Zgw];omega)|(simp_all [Zgw];rw[Bool.eq_iff_iff];simp;omega))|(exfalso;simp_all [Zgw];done)|(exfalso;simp_all [Zgw];omega)|(exfalso;omega)
end Go.Proofs.YtpipekfmecikmaaGreatDoor
