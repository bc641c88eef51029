/- Parts of the proof. -/
import Derived.Test.YtdlmhmmhdbbliaaGreatDoorV09
import Derived.Test.YtdlmhmmhdbbliaaGreatDoorV20
import Derived.Test.YtdlmhmmhdbbliaaGreatDoorV18
set_option maxHeartbeats 4000000
set_option linter.unusedVariables false
set_option linter.unusedSimpArgs false
namespace Go.Wk
open Go Go.RowKit
theorem ZAE (n:Int)(h0:0<=n)(h1:n<=99):(dig2 n).map ZoQ=[.int .u8 (48+n / 10),.int .u8 (48+n % 10)]:=by
 have a:(UInt8.ofNat (48+(n / 10).toNat)).toNat=48+(n / 10).toNat:=by rw[UInt8.toNat_ofNat'];omega
 have b:(UInt8.ofNat (48+(n % 10).toNat)).toNat=48+(n % 10).toNat:=by rw[UInt8.toNat_ofNat'];omega
 simp only[dig2,List.map_cons,List.map_nil,ZoQ,a,b]
 congr 2
 ·congr 1;omega
 ·congr 2;omega
def ZsG (off:Int):UInt8:=if off<0 then 45 else 43
def ZsF (off:Int):Int:=if off<0 then 45 else 43
def Zs2 (p q r:Int):Nat:=if r≠0 then 3 else if q≠0 then 2 else 1
theorem Zv5 (off:Int)(h0 : -86400<off)(h1:off<86400)(x:Int)(hx:(if off<0 then -off else off)=x):ZbS off=ZsG off::(([x / 3600,x / 60 % 60,x % 60].take (Zs2 (x / 3600) (x / 60 % 60) (x % 60))).flatMap dig2):=by
 unfold ZbS
 rw[if_neg (by omega)]
 simp only[hx,ZsG]
 congr 1
 unfold Zs2
 by_cases h2:x % 60=0
 ·by_cases h3:x / 60 % 60=0
  ·have:x % 3600=0:=by omega
   simp[h2,h3,this]
  ·have:¬ x % 3600=0:=by omega
   simp[h2,h3,this]
 ·have:¬ x % 3600=0:=by omega
  simp[h2,this]
section
variable {P:Program}{n:Nat}{wr:World}{fr:Fr}{O:List It}{ty:TypeId}
theorem Zjy {t len e sz:Nat}{ag:Bool}{ps:List (Nat × Operand)}{vs:List (Nat × Value)}{z cs cs':List Value}[hA:ArrT P t len e sz ag][hz:ZeroT P t z](hx:evpO fr ps=some vs)(hb:bld (places len sz) z vs=some cs)(hn:Nf cs cs') :
  Pu P n wr fr O (.build t ps.toArray) ty (.agg cs'.toArray):=by
 rw[<- hn.eq]
 intro a w hs _ _ _ _
 have h:=hz.h
 unfold ZgV at h
 split at h
 ·rename_i i hi
  split at h
  ·rename_i zv hzv
   simp only[Option.some.injEq]at h
   subst h
   have h:=hA.h
   unfold ZkF at h
   split at h
   ·rename_i len' e' hu
    split at h
    ·rename_i sz' ag' ht
     simp only[Option.some.injEq,Prod.mk.injEq]at h
     obtain⟨rfl,rfl,rfl,rfl⟩:=h
     obtain⟨inf,dd,hinf,hsz,_,_⟩:=Ty.parts ht
     have hf:=ZiZ sz' len' vs zv.cells.toList cs hb
     have hf':Instr.fill (fun i=>some (i*sz',sz')) zv.cells vs=some cs.toArray:=by simpa using hf
     have hps:(Array.map (fun(x:Nat × Operand)=>(x.1,a.eval x.2)) ps.toArray).toList=vs:=by simpa using hs.sim.evpO hx
     simp only[execOp,Instr.build,Sem.run_bind,zeroValue,ZaK hi,Result.andThen_ok,hzv,Sem.run_pure,run_underlying hu,sizeOf,ZaK hinf,hsz]
     rw[hps]
     simp[hf']
    ·cases h
   ·cases h
  ·cases h
 ·cases h
end
end Go.Wk
namespace Go.Proofs.YtdlmhmmhdbbliaaGreatDoor
open Go Go.RowKit Go.Wk
attribute [local irreducible] W RL Does Zau Zak retQ Calls Pu Stp RD Qy Ay Zaj RW
structure TG where
 k:Nat
 A:Option Addr
 c:Nat
 xs:List Value
theorem Zyf {G:Prop}(h:G:=by(apply Zcg;rfl;rfl;exact hb)):G:=h
theorem Zye {G:Prop}(h:G:=by(first|exact Zyf|(apply Zcr;rfl;rfl;exact hb2))):G:=h
theorem Zyd {G:Prop}(h:G:=by(first|(apply ZaC;rfl;rfl;rfl)|(apply ZaT;rfl;rfl;decide;decide)|(apply ZnB;rfl;(focus repeat' constructor);rfl)|(apply Zaw;rfl;rfl;exact b2))):G:=h
theorem Zyc {G:Prop}(h:G:=by(first|(apply ZaC;rfl;rfl;rfl)|(apply ZaT;rfl;rfl;decide;decide)|(apply ZnB;rfl;(focus repeat' constructor);rfl)|(apply Zaw;rfl;rfl;exact b1))):G:=h
theorem ZeE (off:Int)(w:World):Does Tryz.prog 107 [.int .i64 off] w (fun v O=>v = .string ⟨(ZbS off).toArray⟩/\O=[]):=by
 refine Zaa Tryz.func107 rfl rfl rfl rfl ?_
 repeat (first|(refine js ?_;(refine bx ?_;intro bk))|refine walk ?_)
 refine ZzI (fun _ _ _=>ZwQ) ?_
 by_cases hlo:off <= -86400
 ·have e:ZbS off=[]:=by unfold ZbS;rw[if_pos (.inl hlo)]
  rw[e]
  have hb:decide (off <= -86400)=true:=decide_eq_true hlo
  repeat (first|(apply RL_pu;rfl;exact Zyf)|(refine js ?_;(refine bx ?_;intro bk))|refine walk1 ?_)
  exact rtA
 have hb:decide (off <= -86400)=false:=decide_eq_false hlo
 by_cases hhi:86400<=off
 ·have e:ZbS off=[]:=by unfold ZbS;rw[if_pos (.inr hhi)]
  rw[e]
  have hb2:decide (86400<=off)=true:=decide_eq_true hhi
  repeat (first|(apply RL_pu;rfl;exact Zye)|(refine js ?_;(refine bx ?_;intro bk))|refine walk1 ?_)
  exact rtA
 have hb2:decide (86400<=off)=false:=decide_eq_false hhi
 obtain⟨x,hx⟩:∃ x,(if off<0 then -off else off)=x:=⟨_,rfl⟩
 have hx0:0<=x/\x<86400:=by split at hx <;> omega
 have hsg:ZoQ (ZsG off) = .int .u8 (ZsF off):=by unfold ZoQ ZsG ZsF;split <;> rfl
 rw[Zv5 off (by omega) (by omega) x hx]
 generalize ZsG off=sb at hsg ⊢
 obtain⟨sg,hsg2⟩:∃ sg,ZsF off=sg:=⟨_,rfl⟩
 rw[hsg2]at hsg
 repeat (first|(apply RL_pu;rfl;exact Zye)|(refine js ?_;(refine bx ?_;intro bk))|refine walk1 ?_)
 refine Zbx (fun fr' O'=>Sub [(0,.int .i64 x),(3,.int .u8 sg)] fr') ?_ ?_
 ·refine Zaf rfl (fun hc=>?_) (fun hc=>?_)
  ·have hneg:=of_decide_eq_true hc
   rw[if_pos hneg]at hx
   subst hx
   obtain rfl:sg=45:=by rw[<- hsg2,ZsF,if_pos hneg]
   repeat (first|(apply RL_pu;rfl;(apply Zeo;rfl;(constructor <;> omega)))|(refine js ?_;(refine bx ?_;intro bk))|refine walk1 ?_)
   exact⟨rfl,SFA⟩
  ·have hneg:=of_decide_eq_false hc
   rw[if_neg hneg]at hx
   subst hx
   obtain rfl:sg=43:=by rw[<- hsg2,ZsF,if_neg hneg]
   repeat (first|(refine js ?_;(refine bx ?_;intro bk))|refine walk ?_)
   exact⟨rfl,SFA⟩
 intro fr' O' hfr
 refine thenQ_n ?_
 refine Zb0 hfr .nil ?_
 have hp0:0<=x / 3600/\x / 3600<=99:=by omega
 have hp1:0<=x / 60 % 60/\x / 60 % 60<=99:=by omega
 have hp2:0<=x % 60/\x % 60<=99:=by omega
 repeat (first|(apply RL_pu;rfl;(first|(apply Pu_quo64;rfl;rfl;omega;omega;decide)|(apply Pu_remE;rfl;rfl;omega;decide)|(apply Zjy;rfl;rfl;(focus repeat (first|exact Nf.nil|apply Nf.cons)))))|(refine js ?_;(refine bx ?_;intro bk))|refine walk1 ?_)
 generalize x / 3600=p at *
 generalize x / 60 % 60=q at *
 generalize x % 60=r at *
 refine ZzK (thenQ_n ?_)
 obtain⟨N,hN⟩:∃ N,Zs2 p q r=N:=⟨_,rfl⟩
 have hN3:1<=N/\N<=3:=by rw[<- hN];unfold Zs2;split <;> (try split) <;> omega
 refine W_seq (Zbx (fun fr' O'=>Sub [(3,.int .u8 sg),(4,.pointer (some ⟨bk,0,none⟩)),(5,.int .i64 N)] fr'/\SubO [.blk bk [.int .i64 p,.int .i64 q,.int .i64 r] 208] O') ?_ ?_)
 ·refine W_block (Zh5 3 (Zbw ?_))
  unfold Zs2 at hN
  by_cases h2:r=0
  ·rw[if_neg (fun h=>h h2)]at hN
   have b2:decide (r=0)=true:=decide_eq_true h2
   repeat (first|(apply RL_pu;rfl;exact Zyd)|(refine js ?_;(refine bx ?_;intro bk))|refine walk1 ?_)
   refine Zbw ?_
   by_cases h1:q=0
   ·rw[if_neg (fun h=>h h1)]at hN
    subst hN
    have b1:decide (q=0)=true:=decide_eq_true h1
    repeat (first|(apply RL_pu;rfl;exact Zyc)|(refine js ?_;(refine bx ?_;intro bk))|refine walk1 ?_)
    refine Zbw ?_
    repeat (first|(apply RL_pu;rfl;(apply ZaC;rfl;rfl;rfl))|(refine js ?_;(refine bx ?_;intro bk))|refine walk1 ?_)
    exact⟨rfl,SFA,SOA⟩
   ·rw[if_pos h1]at hN
    subst hN
    have b1:decide (q=0)=false:=decide_eq_false h1
    repeat (first|(apply RL_pu;rfl;exact Zyc)|(refine js ?_;(refine bx ?_;intro bk))|refine walk1 ?_)
    exact⟨rfl,SFA,SOA⟩
  ·rw[if_pos h2]at hN
   subst hN
   have b2:decide (r=0)=false:=decide_eq_false h2
   repeat (first|(apply RL_pu;rfl;exact Zyd)|(refine js ?_;(refine bx ?_;intro bk))|refine walk1 ?_)
   exact⟨rfl,SFA,SOA⟩
 rintro fr2 O2 ⟨hf2,hO2⟩
 rw[hN]
 refine thenQ_n ?_
 refine Zb0 hf2 hO2 ?_
 clear hf2 hO2 hfr fr2 O2
 obtain⟨b3,hb3⟩:∃ b3,bk=b3:=⟨_,rfl⟩
 rw[hb3]
 clear hb3 bk
 repeat (first|(apply RL_pu;rfl;(apply Znz;rfl;rfl;omega;omega))|(refine js ?_;(refine bx ?_;intro bk))|refine walk1 ?_)
 refine ZuD (b:=bk) (m:=1) 1 (by repeat' constructor) rfl (by decide) ?_
 obtain⟨ps,hps⟩:∃ ps,[p,q,r]=ps:=⟨_,rfl⟩
 have hpl:ps.length=3:=by rw[<- hps];rfl
 have hpb:∀ (k:Nat) (x:Int),ps[k]?=some x->0<=x/\x<=99:=by
  intro k x hk
  rw[<- hps]at hk
  match k,hk with
  | 0,hk=>simp only[List.getElem?_cons_zero,Option.some.injEq]at hk;omega
  | 1,hk=>simp only[List.getElem?_cons_succ,List.getElem?_cons_zero,Option.some.injEq]at hk;omega
  | 2,hk=>simp only[List.getElem?_cons_succ,List.getElem?_cons_zero,Option.some.injEq]at hk;omega
  | k+3,hk=>simp at hk
 have hpv:[Value.int .i64 p,.int .i64 q,.int .i64 r]=ps.map (Value.int .i64):=by rw[<- hps];rfl
 rw[hpv,hps]
 refine Zao [(40,.slice (some ⟨b3,0,none⟩) N 3),(41,.int .i64 N)] [.blk b3 (ps.map (Value.int .i64)) 208] (fun g:TG=>[(6,.slice g.A (1+2*g.k) g.c),(42,.int .i64 g.k)]) (fun g=>[.row (.slice g.A (1+2*g.k) g.c) 5 1 (1+2*g.k) g.xs])
  (fun g=>g.k<=N/\g.A≠none/\g.xs=(sb::(ps.take g.k).flatMap dig2).map ZoQ) (fun g=>N - g.k) ⟨0,some ⟨bk,0,none⟩,1,[.int .u8 sg]⟩ SFA SOA ⟨Nat.zero_le _,by simp,by rw[<- hsg];rfl⟩ ?_
 rintro⟨k,A,c,xs⟩ ⟨hk,hA,hx⟩
 dsimp only at hk hA hx ⊢
 repeat (first|(refine js ?_;(refine bx ?_;intro bk))|refine walk ?_)
 refine Zaf rfl (fun hc=>?_) (fun hc=>?_)
 ·simp only[decide_eq_true_eq,Int.ofNat_lt]at hc
  have hk3:k<ps.length:=by omega
  have hget:=List.getElem?_eq_getElem hk3
  have hbd:=hpb k _ hget
  have htk:=List.take_append_getElem hk3
  generalize ps[k]=x at *
  have hgv:(ps.map (Value.int .i64))[k*1]?=some (.int .i64 x):=by rw[Nat.mul_one,List.getElem?_map,hget];rfl
  repeat (first|(apply RL_pu;rfl;(first|(apply Pu_indexAddr;rfl;rfl;omega;omega;simp)|(apply Zjv;rfl;(focus repeat' constructor);exact hgv)|(apply Pu_quo64;rfl;rfl;omega;omega;decide)|(apply Pu_remE;rfl;rfl;omega;decide)|(apply Zxh;rfl;omega;omega)|(apply Zu8;rfl;rfl;(constructor <;> omega))))|(refine js ?_;(first|(apply ZaE;rfl;rfl;(intro A' c';(focus repeat' constructor));(intro w' _ hO;exact ZbP (hO.of (by repeat' constructor)));rfl;rfl;(simp only[maxLen];omega);omega;intro A' c' hc1 hc2 hc3)|(refine bx ?_;intro bk)))|refine walk1 ?_)
  refine⟨⟨k+1,A',c',xs++[.int .u8 (48+x / 10),.int .u8 (48+x % 10)]⟩,OA,⟨OA,hc3 (by omega),?_⟩,SFA,SOA⟩
  dsimp only
  rw[<- htk,hx,<- ZAE x hbd.1 hbd.2]
  simp
 ·have hkN:k=N:=by simp only[decide_eq_false_iff_not,Int.ofNat_lt]at hc;omega
  subst hkN
  have hlen:1+2*k=(sb::(ps.take k).flatMap dig2).length:=by
   have:∀ l:List Int,(l.flatMap dig2).length=2*l.length:=fun l=>by
    induction l with
    | nil=>rfl
    | cons y l ih=>simp only[List.flatMap_cons,List.length_append,ih,List.length_cons,dig2,List.length_nil];omega
   rw[List.length_cons,this,List.length_take]
   omega
  repeat (first|(apply RL_pu;rfl;(apply ZnE;rfl;(focus repeat' constructor);exact hx;exact hlen;exact hA))|(refine js ?_;(refine bx ?_;intro bk))|refine walk1 ?_)
  exact rtA
end Go.Proofs.YtdlmhmmhdbbliaaGreatDoor
namespace Go.Wk
open Go Go.RowKit
section
variable {P:Program}{n:Nat}{wr:World}{fr:Fr}{O:List It}{ty:TypeId}
theorem ZkM {t:TypeId}{x y z:Operand}{s r:ByteArray}{k k':IntKind}{i j:Int}[hS:StringT P t](hx:ev fr x=some (.string s))(hy:ev fr y=some (.int k i))(hz:ev fr z=some (.int k' j))(h0:0<=i)(h1:i<=j)(h2:j<=s.size)(hr:s.extract i.toNat j.toNat=r) :
  Pu P n wr fr O (.slice t x (some y) (some z) none) ty (.string r):=fun a w hs _ _ _ _=>by
 have h:=run_slice_string (P:=P) w t s k k' i j hS.h h0 h1 h2
 rw[hr]at h
 simp[execOp,hs.sim.ev hx,hs.sim.ev hy,hs.sim.ev hz,Instr.sliceAt,run_underlying hS.h,h]
theorem Ze3 {t len e:Nat}{x ix:Operand}{kk:IntKind}{i:Int}{cs:List Value}{v:Value}[hA:ArrT P t len e 1 false](hx:ev fr x=some (.agg cs.toArray))(hi:ev fr ix=some (.int kk i))(h0:0<=i)(h1:i<len)(hv:cs[i.toNat]?=some v) :
  Pu P n wr fr O (.index t x ix) ty v:=fun a w hs _ _ _ _=>by
 have h:=hA.h
 unfold ZkF at h
 split at h
 ·rename_i len' e' hu
  split at h
  ·rename_i sz' ag' ht
   simp only[Option.some.injEq,Prod.mk.injEq]at h
   obtain⟨rfl,rfl,rfl,rfl⟩:=h
   obtain⟨inf,dd,hinf,hsz,hag,_⟩:=Ty.parts ht
   have:Ty P e' 1 false:=⟨ht⟩
   simp only[execOp,hs.sim.ev hx,hs.sim.ev hi,Instr.index,asIntOf,Sem.run_bind,Sem.run_pure,Result.andThen_ok,run_underlying hu,h0,h1,and_self,if_true,part,ZdK,Zc0]
   simp[hv]
  ·cases h
 ·cases h
theorem ZdX {t t':TypeId}{x:Operand}{v:Value}{b:Bool}(hu:∃ ms,P.underlying t=some (.interface ms))(hx:ev fr x=some v)(hv:(v = .nilIface/\b=false)\/(b=true/\∃ te p,v = .iface te (.pointer p))):Pu P n wr fr O (.binOp .neq t x (.const .nilIface) t') ty (.bool b):=fun a w hs _ _ _ _=>by
 obtain⟨ms,hu⟩:=hu
 have hc:a.eval (.const .nilIface) = .nilIface:=rfl
 have h:(binOp .neq t v .nilIface).run P w = .ok (.bool b) w:=by
  have:∀ d,(Op.equalIn (d+1) t v .nilIface).run P w = .ok (!b) w:=fun d=>by
   rcases hv with⟨rfl,rfl⟩|⟨rfl,te,p,rfl⟩ <;> simp[Op.equalIn,run_underlying hu]
  have hb:binOp .neq t v .nilIface=(do pure (.bool (!(<- Op.equal t v .nilIface)))):=by rcases hv with⟨rfl,rfl⟩|⟨rfl,te,p,rfl⟩ <;> rfl
  rw[hb,show Op.equal t v .nilIface=Op.equalIn (9999+1) t v .nilIface from rfl]
  simp only[Sem.run_bind,this 9999,Result.andThen_ok,Sem.run_pure,Bool.not_not]
 have hg:(eqGuard .neq t x (.const .nilIface) v .nilIface).run P w = .ok () w:=by
  rcases hv with⟨rfl,rfl⟩|⟨rfl,te,p,rfl⟩ <;> simp[eqGuard]
 simp only[execOp,hs.sim.ev hx,hc,Sem.run_bind,hg,Result.andThen_ok,h,Sem.run_pure]
theorem ZzW {t t':TypeId}{x y:Operand}{i j m:Int}(hx:ev fr x=some (.int .i64 i))(hy:ev fr y=some (.int .i64 j))(hm:i*j=m)(h : -9223372036854775808<=m/\m<=9223372036854775807):Pu P n wr fr O (.binOp .mul t x y t') ty (.int .i64 m):=hm▸ZcQ hx hy (hm▸h)
theorem ZzJ {c:Code}{Q:Exit->Fr->List It->Prop}{K':Fr->List It->Prop}(I:Fr->List It->Prop)(h1:W P n wr c (Zau I Q) fr O)(h2:∀ fr' O',I fr' O'->K' fr' O'):W P n wr c (Zau K' Q) fr O :=
 ZxK h1 fun e fr' O' h=>by
  cases e with
  | normal=>exact h2 fr' O' h
  | _=>exact h
end
theorem Zsp (s:ByteArray)(a:Nat):(s.extract a (min (a+2) s.size)).data.toList=(s.data.toList.drop a).take 2:=by
 rw[ByteArray.data_extract]
 have hsz:s.size=s.data.toList.length:=by simp
 rw[hsz]
 simp only[Array.toList_extract,List.extract_eq_take_drop]
 apply List.ext_getElem?
 intro i
 simp only[List.getElem?_take,List.getElem?_drop]
 by_cases h:i<2
 ·rw[if_pos h]
  by_cases h2:a+i<s.data.toList.length
  ·rw[if_pos (by omega)]
  ·rw[List.getElem?_eq_none (by omega)];simp
 ·rw[if_neg h,if_neg (by omega)]
end Go.Wk
namespace Go.Proofs.YtdlmhmmhdbbliaaGreatDoor
open Go Go.RowKit Go.Wk
attribute [local irreducible] W RL Does Zau Zak retQ Calls Pu Stp RD Qy Ay Zaj RW
structure PG where
 k:Nat
 off:Int
def prV:Option Int->Value
 | none => .tuple #[.int .i64 0,.int .i64 5]
 | some o => .tuple #[.int .i64 o,.int .i64 0]
def us60:List Int:=[3600,60,1]
theorem ZyM {k:Nat}{u:Int}(h:us60[k]?=some u):1<=u/\u<=3600:=by
 unfold us60 at h
 match k,h with
 | 0,h=>simp only[List.getElem?_cons_zero,Option.some.injEq]at h;omega
 | 1,h=>simp only[List.getElem?_cons_succ,List.getElem?_cons_zero,Option.some.injEq]at h;omega
 | 2,h=>simp only[List.getElem?_cons_succ,List.getElem?_cons_zero,Option.some.injEq]at h;omega
 | k+3,h=>simp at h
theorem Zzb (l:List UInt8)(h:l.length<=2){n:Int}(hn:numU l=some n):0<=n/\n<=99:=by
 have:=Zml l h
 rw[hn]at this
 obtain⟨u,_,rfl,h3⟩:=this
 omega
theorem Zvp {G:Prop}(h:G:=by(first|(apply ZaS;rfl;rfl;exact hb3)|(apply Ze3;rfl;rfl;omega;omega;exact huv)|(apply ZcQ;rfl;rfl;(constructor <;> omega))|(apply Zcr;rfl;rfl;exact hbg))):G:=h
theorem Zvo {G:Prop}(h:G:=by(apply ZcY;rfl;rfl;exact hb)):G:=h
theorem Zvn {G:Prop}(h:G:=by(first|exact Zvo|(apply ZbW;rfl;rfl;exact hb2))):G:=h
theorem Zre (s:ByteArray)(w:World)(hL:∀ w',Bel w.heap.size w w'->LibW w')(hs:s.size<=1000000000000) :
  Does Tryz.prog 193 [.string s] w (fun v O=>v=prV (ZbO s.data.toList)/\O=[]):=by
 have hpre:=fun w'=>Zmi s ⟨#[45]⟩ w'
 have hsl:s.size=s.data.toList.length:=by simp
 have hemp:s=ByteArray.empty↔s.data.toList=[]:=⟨fun h=>by rw[h];rfl,fun h=>by
  apply ByteArray.ext
  rw[<- Array.toArray_toList (xs:=s.data),h]
  rfl⟩
 have hp0:([45]:List UInt8).isPrefixOf s.data.toList=decide (s.data.toList.head?=some 45):=by
  cases s.data.toList with
  | nil=>rfl
  | cons c l =>
   by_cases h:c=45
   ·subst h;simp
   ·rw[List.isPrefixOf,show((45:UInt8)==c)=false from beq_false_of_ne fun e=>h e.symm];simp[h]
 rw[show(⟨#[45]⟩:ByteArray).data.toList=[45] from rfl,hp0]at hpre
 obtain⟨r0,hr0⟩:∃ r0,ZfY s.data.toList [3600,60,1] 0 0=r0:=⟨_,rfl⟩
 unfold ZbO
 rw[hr0]
 refine Zaa Tryz.func193 rfl rfl rfl rfl ?_
 repeat (first|(apply RL_pu;rfl;(apply Zjy;rfl;rfl;(focus repeat (first|exact Nf.nil|apply Nf.cons))))|refine walkB1 ?_)
 refine ZzJ (fun fr' O'=>∃ o:Int,r0=some o/\(0<=o/\o<=1200000)/\Sub [(0,.string s),(4,.int .i64 o)] fr') ?_ ?_
 ·apply W_block
  refine Zao [(0,.string s),(9,.agg (us60.map (Value.int .i64)).toArray)] [] (fun g:PG=>[(4,.int .i64 g.off),(10,.int .i64 g.k)]) (fun _=>[]) (fun g=>g.k<=3/\(0<=g.off/\g.off<=400000*g.k)/\ZfY s.data.toList (us60.drop g.k) g.k g.off=r0) (fun g=>3 - g.k) ⟨0,0⟩ SFA .nil ⟨Nat.zero_le _,⟨Int.le_refl _,Int.le_refl _⟩,hr0⟩ ?_
  rintro⟨k,off⟩ ⟨hk,ho,hi⟩
  dsimp only at hk ho hi ⊢
  by_cases hk3:k<3
  ·have hb3:decide ((k:Int)<3)=true:=decide_eq_true (by omega)
   have hku:k<us60.length:=hk3
   have hu:=List.getElem?_eq_getElem hku
   rw[Zap hku,ZfY]at hi
   generalize us60[k]=u at *
   have hub:=ZyM hu
   have huv:(us60.map (Value.int .i64))[k]?=some (.int .i64 u):=by rw[List.getElem?_map,hu];rfl
   by_cases hge:s.data.toList.length<=1+2*k
   ·rw[if_pos hge]at hi
    have hbg:decide ((s.size:Int)<=1+2*k)=true:=decide_eq_true (by omega)
    repeat (first|(apply RL_pu;rfl;exact Zvp)|refine walk1 ?_)
    exact⟨off,hi.symm,⟨ho.1,OA⟩,SFA⟩
   ·rw[if_neg hge]at hi
    have hbg:decide ((s.size:Int)<=1+2*k)=false:=decide_eq_false (by omega)
    obtain⟨r,hr⟩:∃ r,s.extract (1+2*k) (min (1+2*k+2) s.size)=r:=⟨_,rfl⟩
    have hrl:r.data.toList=(s.data.toList.drop (1+2*k)).take 2:=by rw[<- hr];exact Zsp s _
    have hrs:r.size<=2:=by
     have:r.size=r.data.toList.length:=by simp
     rw[this,hrl,List.length_take]
     omega
    have hpu:=fun w' (hw:Bel w.heap.size w w')=>Zwg r w' (hL w' hw) hrs
    rw[hrl]at hpu
    have hmn:(if (s.size:Int)<3+2*k then (s.size:Int) else 3+2*k)=((min (1+2*k+2) s.size:Nat):Int):=by split <;> omega
    have hex:s.extract (1+2*(k:Int)).toNat ((min (1+2*k+2) s.size:Nat):Int).toNat=r:=by
     rw[<- hr]
     congr 1
    have hm1:1+2*(k:Int)<=((min (1+2*k+2) s.size:Nat):Int):=by omega
    have hm2:((min (1+2*k+2) s.size:Nat):Int)<=s.size:=by omega
    generalize min (1+2*k+2) s.size=mm at *
    cases hn:numU ((s.data.toList.drop (1+2*k)).take 2) with
    | none =>
     rw[hn]at hi hpu
     dsimp only at hi hpu
     subst hi
     repeat (first|(apply RL_pu;rfl;(first|exact Zvp|(apply ZlF;rfl;rfl;exact hmn)|(apply ZkM;rfl;rfl;rfl;omega;exact hm1;exact hm2;exact hex)|(apply ZdX;exact⟨_,Tryz.underlying210⟩;rfl;exact .inr ⟨rfl,_,_,rfl⟩)))|(refine js ?_;(apply Zag (h:=fun w' hw _=>hpu w' hw);rfl;rintro v O' ⟨⟨tt,pp,rfl⟩,rfl⟩))|refine walk1 ?_)
     exact rtB
    | some n =>
     rw[hn]at hi hpu
     dsimp only at hi hpu
     have hnb:0<=n/\n<=99:=Zzb _ (List.length_take_le _ _) hn
     ·have h1:0<=n*u:=Int.mul_nonneg hnb.1 (by omega)
      have h2:n*u<=99*3600:=Int.mul_le_mul hnb.2 hub.2 (by omega) (by omega)
      have hmul : -9223372036854775808<=n*u/\n*u<=9223372036854775807:=by omega
      generalize hnu:n*u=m at *
      repeat (first|(apply RL_pu;rfl;(first|(apply ZaS;rfl;rfl;exact hb3)|(apply Ze3;rfl;rfl;omega;omega;exact huv)|(apply ZzW;rfl;rfl;exact hnu;exact hmul)|(apply ZcQ;rfl;rfl;(constructor <;> omega))|(apply Zcr;rfl;rfl;exact hbg)|(apply ZlF;rfl;rfl;exact hmn)|(apply ZkM;rfl;rfl;rfl;omega;exact hm1;exact hm2;exact hex)|(apply ZdX;exact⟨_,Tryz.underlying210⟩;rfl;exact .inl ⟨rfl,rfl⟩)))|(refine js ?_;(apply Zag (h:=fun w' hw _=>hpu w' hw);rfl;rintro v O' ⟨⟨rfl,_,_⟩,rfl⟩))|refine walk1 ?_)
      exact⟨⟨k+1,off+m⟩,OA,⟨OA,⟨by dsimp only;omega,by dsimp only;omega⟩,hi⟩,SFA,.nil⟩
  ·obtain rfl:k=3:=by omega
   have hb3:decide (((3:Nat):Int)<3)=false:=by decide
   rw[show us60.drop 3=[] from rfl,ZfY]at hi
   repeat (first|(apply RL_pu;rfl;(apply ZaS;rfl;rfl;exact hb3))|refine walk1 ?_)
   exact⟨off,hi.symm,⟨ho.1,OA⟩,SFA⟩
 rintro fr' O' ⟨o,rfl,ho,hfr⟩
 refine Zb0 hfr .nil ?_
 clear hfr fr' O' hr0
 dsimp only
 obtain⟨o2,ho2⟩:∃ o2,(if s.data.toList.head?=some 45 then -o else o)=o2:=⟨_,rfl⟩
 rw[ho2]
 refine W_seq ?_
 refine ZzJ (fun fr' O'=>Sub [(0,.string s),(4,.int .i64 o2)] fr') ?_ ?_
 ·by_cases hm:s.data.toList.head?=some 45
  ·rw[if_pos hm]at ho2
   subst ho2
   rw[decide_eq_true hm]at hpre
   repeat (first|(apply RL_pu;rfl;(apply Zeo;rfl;(constructor <;> omega)))|(refine js ?_;(refine Zac (fun w' hw=>hpre w') ?_))|refine walk1 ?_)
   exact SFA
  ·rw[if_neg hm]at ho2
   subst ho2
   rw[decide_eq_false hm]at hpre
   repeat (first|(refine js ?_;(refine Zac (fun w' hw=>hpre w') ?_))|refine walk ?_)
   exact SFA
 intro fr' O' hfr
 refine Zb0 hfr .nil ?_
 clear hfr fr' O' ho2
 have htx:=fun w'=>ZeE o2 w'
 by_cases hE:s.data.toList=[]
 ·have hb:decide (s=ByteArray.empty)=true:=decide_eq_true (hemp.2 hE)
  rw[if_pos (.inl (by rw[hE];rfl))]
  repeat (first|(apply RL_pu;rfl;exact Zvo)|refine walk1 ?_)
  exact rtB
 ·have hb:decide (s=ByteArray.empty)=false:=decide_eq_false (fun h=>hE (hemp.1 h))
  by_cases ht:ZbS o2=s.data.toList
  ·have hb2:(!decide ((⟨(ZbS o2).toArray⟩:ByteArray)=s))=false:=by
    rw[decide_eq_true (by rw[ht])];rfl
   rw[if_neg (by rintro(h|h);exact hE (List.isEmpty_iff.1 h);exact h ht)]
   repeat (first|(apply RL_pu;rfl;exact Zvn)|(refine js ?_;(refine Zac (fun w' hw=>htx w') ?_))|refine walk1 ?_)
   exact rtB
  ·have hb2:(!decide ((⟨(ZbS o2).toArray⟩:ByteArray)=s))=true:=by
    rw[decide_eq_false (fun h=>ht (by rw[<- h]))];rfl
   rw[if_pos (.inr ht)]
   repeat (first|(apply RL_pu;rfl;exact Zvn)|(refine js ?_;(refine Zac (fun w' hw=>htx w') ?_))|refine walk1 ?_)
   exact rtB
open Go Go.RowKit Go.Wk Go.Lib
def I64 (n:Int):Prop := -9223372036854775808<=n/\n<=9223372036854775807
theorem Zn3 (a b:Int)(ha:I64 a)(hb:I64 b)(w:World):Does Tryz.prog 248 [.int .i64 a,.int .i64 b] w (fun v O=>v = .tuple #[.int .i64 (IntKind.i64.wrap (a+b)),.bool (Zdr (a+b))]/\O=[]):=by
 unfold I64 at ha hb
 have hd:(decide (a<IntKind.i64.wrap (a+b))==decide (0<b))=Zdr (a+b):=by
  unfold Zdr
  have hw:IntKind.i64.wrap (a+b)=if a+b < -9223372036854775808 then a+b+18446744073709551616 else if 9223372036854775807<a+b then a+b - 18446744073709551616 else a+b:=by
   rw[IntKind.wrap_i64]
   repeat' split
   all_goals omega
  rw[hw]
  rw[Bool.eq_iff_iff]
  simp only[beq_iff_eq,Bool.and_eq_true,decide_eq_true_eq]
  rw[decide_eq_decide]
  repeat' split
  all_goals omega
 refine Zaa Tryz.func248 rfl rfl rfl rfl ?_
 repeat (first|(apply RL_pu;rfl;(apply ZlJ;rfl;rfl))|refine walk1 ?_)
 exact ret_2 _ _ [] (.tmp rfl) (.tmp rfl) .nil ⟨by rw[hd],rfl⟩
theorem ZtA (A:Option Addr)(c:Nat)(l:List ByteArray)(w:World)(hR:(It.row (.slice A l.length c) 9 1 l.length (l.flatMap Za2)).sat w)(hn:l.length<=1000000)(hlen:(Lib.join (l.map (·.data.toList)) [47]).length<=140737488355328) :
  Does Tryz.prog 249 [.slice A l.length c,.string ⟨#[47]⟩] w (fun v O=>v = .string ⟨(Lib.join (l.map (·.data.toList)) [47]).toArray⟩/\O=[]):=by
 have hcl:=fun j x hj=>Za0 hR (u:=x) (j:=j) hj
 obtain⟨hxl,⟨hv,_⟩|⟨b,cap,cur,hval,hb0,hg,hmc,hcm,hsz,hcur⟩⟩:=id hR
 ·injection hv with h1 h2 h3
  obtain rfl:=List.eq_nil_of_length_eq_zero h2
  subst h1 h3
  exact ZbF ((Any.strings_Join_none ZtB ZmM none 0 ⟨#[47]⟩ w).mono fun e w' ⟨he,hw⟩=>⟨he,hw▸Below.refl _ _⟩)
 injection hval with hA h2 h3
 subst hA h3
 have hbw:b<w.heap.size:=(Array.getElem?_eq_some_iff.1 hg).1
 exact ZbF (Any.strings_Join ZtB ZmM b 0 c l ⟨#[47]⟩ w (fun j x hj=>by
  have hg:=ZaF (enc:=Za2) (fun _=>rfl) l j x 0 (.string x) hj rfl
  have:=(hcl _ _ hg).2
  rw[show adr (some (⟨b,0,none⟩:Addr))=⟨b,0,none⟩ from rfl,Zcd]at this
  simpa using this) hbw (by omega) (by omega) hlen)
theorem Zlb:∀ (l:List (List UInt8)),Lib.join l [47]=Zc5 l
 | []=>rfl
 | [x]=>by simp[Lib.join,Zc5]
 | x::y::l=>by
  have ih:=Zlb (y::l)
  unfold Lib.join at ih ⊢
  rw[show Zc5 (x::y::l)=x++47::Zc5 (y::l) from rfl,<- ih]
  simp[List.intercalate,List.intersperse]
def bsE (l:List (List UInt8)):List ByteArray:=l.map fun t=>⟨t.toArray⟩
theorem Zqq (l:List (List UInt8)):(bsE l).map (·.data.toList)=l:=by
 rw[bsE,List.map_map]
 exact(List.map_congr_left fun _ _=>rfl).trans (List.map_id l)
theorem Zil:∀ (l:List (List UInt8)),(∀ t∈l,t.length<=1000)->(Zc5 l).length<=1001*l.length
 | [],_=>Nat.le_refl _
 | [x],h=>by have:=h x List.mem_cons_self;simp only[Zc5,List.length_cons,List.length_nil];omega
 | x::y::l,h=>by
  have ih:=Zil (y::l) fun t ht=>h t (List.mem_cons_of_mem _ ht)
  have:=h x List.mem_cons_self
  simp only[Zc5,List.length_append,List.length_cons]at ih ⊢
  omega
def jnV:Option (List (List UInt8))->Value
 | none => .tuple #[.string ByteArray.empty,.int .i64 3]
 | some r => .tuple #[.string ⟨(Zc5 r).toArray⟩,.int .i64 0]
structure JG where
 k:Nat
 A:Option Addr
 c:Nat
 m:Nat
 ys:List Value
 acc:List (List UInt8)
theorem Zig (n:Int):(ZbS n).length<=7:=by
 unfold ZbS
 split
 ·simp
 ·simp only[List.length_cons,List.length_append,dig2,List.length_nil]
  repeat' split
  all_goals simp
theorem Zvm {G:Prop}(h:G:=by(first|exact PuI|(apply ZcY;rfl;rfl;exact hb))):G:=h
theorem ZiH (A:Option Addr)(c:Nat)(off:Int)(xs:List Int)(w:World)(hA:RdSl w A c iEnc 1 xs)(hoff:I64 off)(hxs:∀ x∈xs,I64 x)(hn:xs.length<=1000000) :
  Does Tryz.prog 232 [.int .i64 off,.slice A xs.length c] w (fun v O=>v=jnV (Zfz off xs)/\O=[]):=by
 obtain⟨res,hres⟩:∃ res,Zfz off xs=res:=⟨_,rfl⟩
 rw[hres]
 refine Zaa Tryz.func232 rfl rfl rfl rfl ?_
 repeat (first|(refine js ?_;(refine bx ?_;intro bk))|refine walk ?_)
 refine ZfA 9 1 ?_
 refine Zao [(0,.int .i64 off),(12,.slice A xs.length c),(13,.int .i64 xs.length)] [] (fun g:JG=>[(6,.slice g.A g.m g.c),(14,.int .i64 g.k)]) (fun g=>[.row (.slice g.A g.m g.c) 9 1 g.m g.ys])
  (fun g=>g.k<=xs.length/\g.m=g.k/\g.m=g.acc.length/\g.ys=(bsE g.acc).flatMap Za2/\(∀ t∈g.acc,t.length<=1000)/\(Zfz off (xs.drop g.k)).map (g.acc++·)=res) (fun g=>xs.length - g.k) ⟨0,none,0,0,[],[]⟩ SFA SOA ⟨Nat.zero_le _,rfl,rfl,rfl,nofun,by rw[<- hres];dsimp only;rw[List.drop_zero];cases Zfz off xs <;> rfl⟩ ?_
 rintro⟨k,A1,c1,m,ys,acc⟩ ⟨hk,hmk,hm,hy,ht,hi⟩
 dsimp only at hk hmk hm hy ht hi ⊢
 repeat (first|(refine js ?_;(refine bx ?_;intro bk))|refine walk ?_)
 refine Zaf rfl (fun hc=>?_) (fun hc=>?_)
 ·simp only[decide_eq_true_eq,Int.ofNat_lt]at hc
  obtain⟨hna,hca⟩:=hA.rd k _ (List.getElem?_eq_getElem hc)
  have hxk:=hxs _ (List.getElem_mem hc)
  rw[Zap hc,Zfz]at hi
  generalize xs[k]=x at *
  have hsm:=fun w'=>Zn3 off x hoff hxk w'
  have htl:=Zig (off+x)
  cases hok:Zdr (off+x) with
  | false =>
   rw[if_pos (.inl hok)]at hi
   subst hi
   rw[hok]at hsm
   have htx:=fun w'=>ZeE (IntKind.i64.wrap (off+x)) w'
   repeat (first|(apply RL_pu;rfl;exact PuI)|(refine js ?_;(first|(refine Zac (fun w' hw=>hsm w') ?_)|(refine Zac (fun w' hw=>htx w') ?_)|(refine bx ?_;intro bk)))|refine walk1 ?_)
   exact rtB
  | true =>
   have hwr:IntKind.i64.wrap (off+x)=off+x:=ZbB (by simpa[Zdr] using hok)
   rw[hok,hwr]at hsm
   have htx:=fun w'=>ZeE (off+x) w'
   generalize ZbS (off+x)=tt at *
   by_cases he:tt=[]
   ·rw[if_pos (.inr he)]at hi
    subst hi
    subst he
    have hb:decide ((⟨([]:List UInt8).toArray⟩:ByteArray)=ByteArray.empty)=true:=by decide
    repeat (first|(apply RL_pu;rfl;exact Zvm)|(refine js ?_;(first|(refine Zac (fun w' hw=>hsm w') ?_)|(refine Zac (fun w' hw=>htx w') ?_)|(refine bx ?_;intro bk)))|refine walk1 ?_)
    exact rtB
   ·rw[if_neg (by rintro(h|h);rw[hok]at h;cases h;exact he h)]at hi
    have hb:decide ((⟨tt.toArray⟩:ByteArray)=ByteArray.empty)=false:=decide_eq_false (fun h=>he (by simpa using congrArg (fun b:ByteArray=>b.data.toList) h))
    repeat (first|(apply RL_pu;rfl;exact Zvm)|(refine js ?_;(first|(refine Zac (fun w' hw=>hsm w') ?_)|(refine Zac (fun w' hw=>htx w') ?_)|(apply ZaE;rfl;rfl;(intro A' c';(focus repeat' constructor));(intro w' _ hO;exact ZbP (hO.of (by repeat' constructor)));rfl;rfl;(simp only[maxLen];omega);omega;intro A' c' hc1 hc2 hc3)|(refine bx ?_;intro bk)))|refine walk1 ?_)
    exact⟨⟨k+1,A',c',m+1,ys++[.string ⟨tt.toArray⟩],acc++[tt]⟩,OA,⟨OA,OA,by simp[hm],by rw[hy];simp[bsE,Za2],by
     intro t htm
     rcases List.mem_append.1 htm with h|h
     ·exact ht t h
     ·simp only[List.mem_singleton]at h;subst h;omega,by
     rw[<- hi]
     cases Zfz off (xs.drop (k+1)) with
     | none=>rfl
     | some r=>simp⟩,SFA,SOA⟩
 ·simp only[decide_eq_false_iff_not,Int.ofNat_lt]at hc
  rw[List.drop_eq_nil_of_le (by omega),Zfz]at hi
  simp only[Option.map_some,List.append_nil]at hi
  subst hi hy
  have hbl:(bsE acc).length=m:=by rw[hm];simp[bsE]
  have hj:=fun w' h=>ZtA A1 c1 (bsE acc) w' h (by omega) (by
   rw[Zqq,Zlb]
   have:=Zil acc ht
   omega)
  rw[Zqq,Zlb,hbl]at hj
  repeat (first|(refine js ?_;(first|(refine Za1 (fun w' hw hO=>hj w' (hO.of (A := .row (.slice A1 m c1) 9 1 m ((bsE acc).flatMap Za2)) (by repeat' constructor))) ?_)|(refine bx ?_;intro bk)))|refine walk ?_)
  exact rtB
def xpV (x:List UInt8 × Int):Value := .tuple #[.string ⟨x.1.toArray⟩,.int .i64 x.2]
theorem Zkb:∀ (l:List Zab) (x:Int),(∀ r∈l,I64 r.save)->I64 x->I64 (ZcJ l x).1
 | [],_,_,hx=>hx
 | r::l,x,h,hx=>by
  have hr:=h r List.mem_cons_self
  have ht:=fun y=>Zkb l y fun s hs=>h s (List.mem_cons_of_mem _ hs)
  unfold ZcJ
  split
  ·exact ht x hx
  ·split
   ·exact⟨by decide,by decide⟩
   ·exact ht _ hr
def anyS (l:List Zab):Bool:=l.any fun r => !decide (r.save=0)
theorem Zpk {G:Prop}(h:G:=by(apply Zaw;rfl;rfl;exact hb0)):G:=h
theorem ZlK {G:Prop}(h:G:=by(first|exact Zpk|(apply Zaw;rfl;rfl;exact hb1))):G:=h
theorem ZoG (e:DEra)(A:Option Addr)(c:Nat)(l:List Zab)(w:World)(hA:RdSl w A c Zab.enc 11 l)(ho:I64 e.off)(hs:I64 e.save)(hr:∀ r∈l,I64 r.save)(hn:l.length<=1000000) :
  Does Tryz.prog 217 [.agg e.enc.toArray,.slice A l.length c] w (fun v O=>v=xpV (Zf6 e l)/\O=[]):=by
 have h1:=fun(x:Int) (hx:I64 x) (bk:Nat) w' (hc:Zal w' ⟨bk,0,none⟩ [.int .i64 x])=>ZiH (some ⟨bk,0,none⟩) 1 e.off [x] w' (ZoP (fun _=>rfl) (Nat.le_refl 1) (by decide) hc) ho (fun y hy=>by simp only[List.mem_singleton]at hy;subst hy;exact hx) (by simp)
 have h2:=fun(x:Int) (hx:I64 x) (bk:Nat) w' (hc:Zal w' ⟨bk,0,none⟩ [.int .i64 0,.int .i64 x])=>ZiH (some ⟨bk,0,none⟩) 2 e.off [0,x] w' (ZoP (fun _=>rfl) (Nat.le_refl 2) (by decide) hc) ho (fun y hy=>by
  simp only[List.mem_cons,List.not_mem_nil,or_false]at hy
  rcases hy with rfl|rfl
  ·exact⟨by decide,by decide⟩
  ·exact hx) (by simp)
 have hot:=fun w' (hw:Bel w.heap.size w w')=>Zka A c l w' (hA.up hw)
 have hx:=Zkb l 0 hr ⟨by decide,by decide⟩
 rw[show ZcJ l 0=Zdc l from rfl]at hx
 obtain⟨off,kind,save,set,format,til⟩:=e
 unfold Zf6
 dsimp only at ho hs h1 h2 ⊢
 refine Zaa Tryz.func217 rfl rfl rfl rfl ?_
 simp only[DEra.enc]
 by_cases hk0:kind=0
 ·subst hk0
  rw[if_pos rfl]
  have hj1:=h1 0 ⟨by decide,by decide⟩
  generalize Zfz off [0]=j at *
  cases j with
  | none =>
   simp only[jnV]at hj1
   repeat (first|(refine js ?_;(first|(apply Zag (h:=fun w' _ hH=>hj1 _ w' (hH.cells (by repeat' constructor)));rfl;rintro v O' ⟨rfl,rfl⟩)|(refine bx ?_;intro bk)))|refine walk ?_)
   exact rtB
  | some r =>
   simp only[jnV]at hj1
   repeat (first|(refine js ?_;(first|(apply Zag (h:=fun w' _ hH=>hj1 _ w' (hH.cells (by repeat' constructor)));rfl;rintro v O' ⟨rfl,rfl⟩)|(refine bx ?_;intro bk)))|refine walk ?_)
   exact rtB
 have hb0:decide (kind=0)=false:=decide_eq_false hk0
 rw[if_neg hk0]
 by_cases hk1:kind=1
 ·subst hk1
  rw[if_pos rfl]
  have hj1:=h1 save hs
  generalize Zfz off [save]=j at *
  cases j with
  | none =>
   simp only[jnV]at hj1
   repeat (first|(apply RL_pu;rfl;exact Zpk)|(refine js ?_;(first|(apply Zag (h:=fun w' _ hH=>hj1 _ w' (hH.cells (by repeat' constructor)));rfl;rintro v O' ⟨rfl,rfl⟩)|(refine bx ?_;intro bk)))|refine walk1 ?_)
   exact rtB
  | some r =>
   simp only[jnV]at hj1
   repeat (first|(apply RL_pu;rfl;exact Zpk)|(refine js ?_;(first|(apply Zag (h:=fun w' _ hH=>hj1 _ w' (hH.cells (by repeat' constructor)));rfl;rintro v O' ⟨rfl,rfl⟩)|(refine bx ?_;intro bk)))|refine walk1 ?_)
   exact rtB
 have hb1:decide (kind=1)=false:=decide_eq_false hk1
 rw[if_neg hk1]
 by_cases hk2:kind=2
 ·subst hk2
  rw[if_pos rfl]
  generalize Zdc l=od at *
  obtain⟨ox,ob⟩:=od
  dsimp only at hx hot ⊢
  cases ob with
  | true =>
   have hj1:=h2 ox hx
   rw[if_pos rfl]
   generalize Zfz off [0,ox]=j at *
   cases j with
   | none =>
    simp only[jnV]at hj1
    repeat (first|(apply RL_pu;rfl;exact ZlK)|(refine js ?_;(first|(refine Zac hot ?_)|(apply Zag (h:=fun w' _ hH=>hj1 _ w' (hH.cells (by repeat' constructor)));rfl;rintro v O' ⟨rfl,rfl⟩)|(refine bx ?_;intro bk)))|refine walk1 ?_)
    exact rtB
   | some r =>
    simp only[jnV]at hj1
    repeat (first|(apply RL_pu;rfl;exact ZlK)|(refine js ?_;(first|(refine Zac hot ?_)|(apply Zag (h:=fun w' _ hH=>hj1 _ w' (hH.cells (by repeat' constructor)));rfl;rintro v O' ⟨rfl,rfl⟩)|(refine bx ?_;intro bk)))|refine walk1 ?_)
    exact rtB
  | false =>
   rw[if_neg (by decide)]
   obtain⟨an,han⟩:∃ an,anyS l=an:=⟨_,rfl⟩
   rw[show(l.any fun r => !decide (r.save=0))=an from han]
   repeat (first|(apply RL_pu;rfl;exact ZlK)|(refine js ?_;(first|(refine Zac hot ?_)|(refine bx ?_;intro bk)))|refine walk1 ?_)
   obtain⟨b2,hb2⟩:∃ b2,bk=b2:=⟨_,rfl⟩
   rw[hb2]
   clear hb2 bk
   refine Zao [(2,.pointer (some ⟨b2,0,none⟩)),(45,.slice A l.length c),(46,.int .i64 l.length)] [.blk b2 [.int .i64 off,.int .i64 2,.int .i64 save,.string set,.string format,.bool til.is,.int .i64 til.year,.int .i64 til.month,.int .i64 til.day.kind,.int .i64 til.day.week,.int .i64 til.day.day,.int .i64 til.at_.sec,.int .i64 til.at_.base] 75] (fun k:Nat=>[(47,.int .i64 k)]) (fun _=>[]) (fun k=>k<=l.length/\anyS (l.drop k)=an) (fun k=>l.length - k) 0 SFA SOA ⟨Nat.zero_le _,han⟩ ?_
   rintro k ⟨hk,hi⟩
   repeat (first|(refine js ?_;(refine bx ?_;intro bk))|refine walk ?_)
   refine Zaf rfl (fun hc=>?_) (fun hc=>?_)
   ·simp only[decide_eq_true_eq,Int.ofNat_lt]at hc
    obtain⟨hna,hca⟩:=hA.rd k _ (List.getElem?_eq_getElem hc)
    rw[Zap hc,anyS,List.any_cons]at hi
    generalize l[k]=r at *
    repeat (first|(apply RL_pu;rfl;exact PuI)|(refine js ?_;(refine bx ?_;intro bk))|refine walk1 ?_)
    refine Zaf rfl (fun h3=>?_) (fun h3=>?_)
    ·rw[h3]at hi
     simp only[Bool.true_or]at hi
     subst hi
     rw[if_pos rfl]
     repeat (first|(refine js ?_;(refine bx ?_;intro bk))|refine walk ?_)
     exact rtB
    ·rw[h3,Bool.false_or]at hi
     repeat (first|(refine js ?_;(refine bx ?_;intro bk))|refine walk ?_)
     exact⟨k+1,OA,⟨OA,hi⟩,SFA,SOA⟩
   ·simp only[decide_eq_false_iff_not,Int.ofNat_lt]at hc
    rw[List.drop_eq_nil_of_le (by omega)]at hi
    subst hi
    rw[show anyS []=false from rfl,if_neg (by decide)]
    have hj1:=h1 0 ⟨by decide,by decide⟩
    generalize Zfz off [0]=j at *
    cases j with
    | none =>
     simp only[jnV]at hj1
     repeat (first|(refine js ?_;(first|(apply Zag (h:=fun w' _ hH=>hj1 _ w' (hH.cells (by repeat' constructor)));rfl;rintro v O' ⟨rfl,rfl⟩)|(refine bx ?_;intro bk)))|refine walk ?_)
     exact rtB
    | some r =>
     simp only[jnV]at hj1
     repeat (first|(refine js ?_;(first|(apply Zag (h:=fun w' _ hH=>hj1 _ w' (hH.cells (by repeat' constructor)));rfl;rintro v O' ⟨rfl,rfl⟩)|(refine bx ?_;intro bk)))|refine walk ?_)
     exact rtB
 have hb2:decide (kind=2)=false:=decide_eq_false hk2
 rw[if_neg hk2]
 repeat (first|(apply RL_pu;rfl;(first|exact ZlK|(apply Zaw;rfl;rfl;exact hb2)))|(refine js ?_;(refine bx ?_;intro bk))|refine walk1 ?_)
 exact rtB
end Go.Proofs.YtdlmhmmhdbbliaaGreatDoor
