/- Parts of the proof. -/
import Derived.Test.YtpipekfmecikmaaGreatDoorA13
set_option maxHeartbeats 0
set_option linter.all false
namespace Go.Wk
open Go Go.RowKit
section
variable {P:Program}{n:Nat}{wr:World}{fr:Fr}{O:List It}{ty:TypeId}
theorem Zfk {t:TypeId}{x y z:Operand}{s r:ByteArray}{k c:IntKind}{i j:Int}[hS:StringT P t](l:ev fr x=some (.string s))(m:ev fr y=some (.int k i))(o:ev fr z=some (.int c j))(d:0<=i)(e:i<=j)(f:j<=s.size)(g:s.extract i.toNat j.toNat=r) :
  Pu P n wr fr O (.slice t x (some y) (some z) none) ty (.string r):=fun a w b _ _ _ _=>by
 have h:=run_slice_string (P:=P) w t s k c i j hS.h d e f
 rw[g]at h
 simp[execOp,b.sim.ev l,b.sim.ev m,b.sim.ev o,Instr.sliceAt,run_underlying hS.h,h]
theorem Zhz {t len e:Nat}{x f:Operand}{z:IntKind}{i:Int}{cs:List Value}{v:Value}[hA:ArrT P t len e 1 false](u:ev fr x=some (.agg cs.toArray))(p:ev fr f=some (.int z i))(l:0<=i)(m:i<len)(s:cs[i.toNat]?=some v) :
  Pu P n wr fr O (.index t x f) ty v:=fun a w c _ _ _ _=>by
 have h:=hA.h
 unfold Zks at h
 split at h
 ·rename_i g k r
  split at h
  ·rename_i A j d
   simp only[Option.some.injEq,Prod.mk.injEq]at h
   obtain⟨rfl,rfl,rfl,rfl⟩:=h
   obtain⟨y,dd,b,q,o,_⟩:=Ty.parts d
   have:Ty P k 1 false:=⟨d⟩
   simp only[execOp,c.sim.ev u,c.sim.ev p,Instr.index,asIntOf,Sem.run_bind,Sem.run_pure,Result.andThen_ok,run_underlying r,l,m,and_self,if_true,part,ZeC,ZdE]
   simp[s]
  ·cases h
 ·cases h
theorem ZkD {t t':TypeId}{x:Operand}{v:Value}{b:Bool}(e:∃ g,P.underlying t=some (.interface g))(m:ev fr x=some v)(f:(v = .nilIface/\b=false)\/(b=true/\∃ c p,v = .iface c (.pointer p))):Pu P n wr fr O (.binOp .neq t x (.const .nilIface) t') ty (.bool b):=fun a w l _ _ _ _=>by
 obtain⟨g,e⟩:=e
 have j:a.eval (.const .nilIface) = .nilIface:=rfl
 have h:(binOp .neq t v .nilIface).run P w = .ok (.bool b) w:=by
  have:∀ d,(Op.equalIn (d+1) t v .nilIface).run P w = .ok (!b) w:=fun d=>by
   rcases f with⟨rfl,rfl⟩|⟨rfl,c,p,rfl⟩ <;> simp[Op.equalIn,run_underlying e]
  have i:binOp .neq t v .nilIface=(do pure (.bool (!(<- Op.equal t v .nilIface)))):=by rcases f with⟨rfl,rfl⟩|⟨rfl,c,p,rfl⟩ <;> rfl
  rw[i,show Op.equal t v .nilIface=Op.equalIn (9999+1) t v .nilIface from rfl]
  simp only[Sem.run_bind,this 9999,Result.andThen_ok,Sem.run_pure,Bool.not_not]
 have k:(eqGuard .neq t x (.const .nilIface) v .nilIface).run P w = .ok () w:=by
  rcases f with⟨rfl,rfl⟩|⟨rfl,c,p,rfl⟩ <;> simp[eqGuard]
 simp only[execOp,l.sim.ev m,j,Sem.run_bind,k,Result.andThen_ok,h,Sem.run_pure]
theorem Zva {t t':TypeId}{x y:Operand}{i j m:Int}(b:ev fr x=some (.int .i64 i))(c:ev fr y=some (.int .i64 j))(a:i*j=m)(h : -9223372036854775808<=m/\m<=9223372036854775807):Pu P n wr fr O (.binOp .mul t x y t') ty (.int .i64 m):=a▸Zeo b c (a▸h)
theorem ZA5 {c:Code}{Q:Exit->Fr->List It->Prop}{K':Fr->List It->Prop}(I:Fr->List It->Prop)(a:W P n wr c (Zaq I Q) fr O)(b:∀ fr' O',I fr' O'->K' fr' O'):W P n wr c (Zaq K' Q) fr O :=
 Zx7 a fun e fr' O' h=>by
  cases e with
  | normal=>exact b fr' O' h
  | _=>exact h
end
theorem ZxK (s:ByteArray)(a:Nat):(s.extract a (min (a+2) s.size)).data.toList=(s.data.toList.drop a).take 2:=by
 rw[ByteArray.data_extract]
 have b:s.size=s.data.toList.length:=by simp
 rw[b]
 simp only[Array.toList_extract,List.extract_eq_take_drop]
 apply List.ext_getElem?
 intro i
 simp only[List.getElem?_take,List.getElem?_drop]
 by_cases h:i<2
 ·rw[if_pos h]
  by_cases c:a+i<s.data.toList.length
  ·rw[if_pos (by omega)]
  ·rw[List.getElem?_eq_none (by omega)];simp
 ·rw[if_neg h,if_neg (by omega)]
end Go.Wk
namespace Go.Proofs.YtpipekfmecikmaaGreatDoor
open Go Go.RowKit Go.Wk Tryz
attribute [local irreducible] W RL Does Zaq Zai retQ Calls Pu Stp RD Qy Ay Zaj RW
structure PG where
 k:Nat
 off:Int
def prV:Option Int->Value
 | none => .tuple #[.int .i64 0,.int .i64 5]
 | some o => .tuple #[.int .i64 o,.int .i64 0]
def us60:List Int:=[3600,60,1]
theorem ZAb {k:Nat}{u:Int}(h:us60[k]?=some u):1<=u/\u<=3600:=by
 unfold us60 at h
 match k,h with
 | 0,h=>simp only[List.getElem?_cons_zero,Option.some.injEq]at h;omega
 | 1,h=>simp only[List.getElem?_cons_succ,List.getElem?_cons_zero,Option.some.injEq]at h;omega
 | 2,h=>simp only[List.getElem?_cons_succ,List.getElem?_cons_zero,Option.some.injEq]at h;omega
 | k+3,h=>simp at h
theorem ZAq (l:List UInt8)(h:l.length<=2){n:Int}(a:numU l=some n):0<=n/\n<=99:=by
 have:=Zmt l h
 rw[a]at this
 obtain⟨u,_,rfl,b⟩:=this
 omega
theorem ZvL {G:Prop}(h:G:=by(first|(apply Zau;rfl;rfl;exact hb3)|(apply Zhz;rfl;rfl;omega;omega;exact huv)|(apply Zeo;rfl;rfl;(constructor <;> omega))|(apply ZbF;rfl;rfl;exact hbg))):G:=h
theorem ZvK {G:Prop}(h:G:=by(apply Zci;rfl;rfl;exact hb)):G:=h
theorem ZvJ {G:Prop}(h:G:=by(first|exact ZvK|(apply ZcT;rfl;rfl;exact hb2))):G:=h
theorem Zry (s:ByteArray)(w:World)(X:∀ w',Bel w.heap.size w w'->LibW w')(hs:s.size<=1000000000000) :
  Does prog 262 [.string s] w (fun v O=>v=prV (ZaV s.data.toList)/\O=[]):=by
 have d:=fun w'=>Zs9 s ⟨#[45]⟩ w'
 have Y:s.size=s.data.toList.length:=by simp
 have t:s=ByteArray.empty↔s.data.toList=[]:=⟨fun h=>by rw[h];rfl,fun h=>by
  apply ByteArray.ext
  rw[<- Array.toArray_toList (xs:=s.data),h]
  rfl⟩
 have S:([45]:List UInt8).isPrefixOf s.data.toList=decide (s.data.toList.head?=some 45):=by
  cases s.data.toList with
  | nil=>rfl
  | cons c l =>
   by_cases h:c=45
   ·subst h;simp
   ·rw[List.isPrefixOf,show((45:UInt8)==c)=false from beq_false_of_ne fun e=>h e.symm];simp[h]
 rw[show(⟨#[45]⟩:ByteArray).data.toList=[45] from rfl,S]at d
 obtain⟨Q,x⟩:∃ Q,Zc6 s.data.toList [3600,60,1] 0 0=Q:=⟨_,rfl⟩
 unfold ZaV
 rw[x]
 refine Zaa func262 rfl rfl rfl rfl ?_
 repeat (first|(apply RL_pu;rfl;(apply ZfQ;rfl;rfl;(focus repeat (first|exact Nf.nil|apply Nf.cons))))|refine walkB1 ?_)
 refine ZA5 (fun fr' O'=>∃ o:Int,Q=some o/\(0<=o/\o<=1200000)/\Sub [(0,.string s),(4,.int .i64 o)] fr') ?_ ?_
 ·apply W_block
  refine Zah [(0,.string s),(9,.agg (us60.map (Value.int .i64)).toArray)] [] (fun g:PG=>[(4,.int .i64 g.off),(10,.int .i64 g.k)]) (fun _=>[]) (fun g=>g.k<=3/\(0<=g.off/\g.off<=400000*g.k)/\Zc6 s.data.toList (us60.drop g.k) g.k g.off=Q) (fun g=>3 - g.k) ⟨0,0⟩ SFA .nil ⟨Nat.zero_le _,⟨Int.le_refl _,Int.le_refl _⟩,x⟩ ?_
  rintro⟨k,off⟩ ⟨hk,M,hi⟩
  dsimp only at hk M hi ⊢
  by_cases R:k<3
  ·have hb3:decide ((k:Int)<3)=true:=dT_ (by omega)
   have B:k<us60.length:=R
   have W:=List.getElem?_eq_getElem B
   rw[Zag B,Zc6]at hi
   generalize us60[k]=u at *
   have U:=ZAb W
   have huv:(us60.map (Value.int .i64))[k]?=some (.int .i64 u):=by rw[List.getElem?_map,W];rfl
   by_cases A:s.data.toList.length<=1+2*k
   ·rw[if_pos A]at hi
    have hbg:decide ((s.size:Int)<=1+2*k)=true:=dT_ (by omega)
    repeat (first|(apply RL_pu;rfl;exact ZvL)|refine walk1 ?_)
    exact⟨off,hi.symm,⟨M.1,OA⟩,SFA⟩
   ·rw[if_neg A]at hi
    have hbg:decide ((s.size:Int)<=1+2*k)=false:=dF_ (by omega)
    obtain⟨r,V⟩:∃ r,s.extract (1+2*k) (min (1+2*k+2) s.size)=r:=⟨_,rfl⟩
    have I:r.data.toList=(s.data.toList.drop (1+2*k)).take 2:=by rw[<- V];exact ZxK s _
    have T:r.size<=2:=by
     have:r.size=r.data.toList.length:=by simp
     rw[this,I,List.length_take]
     omega
    have f:=fun w' (q:Bel w.heap.size w w')=>Zwy r w' (X w' q) T
    rw[I]at f
    have E:(if (s.size:Int)<3+2*k then (s.size:Int) else 3+2*k)=((min (1+2*k+2) s.size:Nat):Int):=by split <;> omega
    have z:s.extract (1+2*(k:Int)).toNat ((min (1+2*k+2) s.size:Nat):Int).toNat=r:=by
     rw[<- V]
     congr 1
    have C:1+2*(k:Int)<=((min (1+2*k+2) s.size:Nat):Int):=by omega
    have D:((min (1+2*k+2) s.size:Nat):Int)<=s.size:=by omega
    generalize min (1+2*k+2) s.size=mm at *
    cases hn:numU ((s.data.toList.drop (1+2*k)).take 2) with
    | none =>
     rw[hn]at hi f
     dsimp only at hi f
     subst hi
     repeat (first|(apply RL_pu;rfl;(first|exact ZvL|(apply Zg7;rfl;rfl;exact E)|(apply Zfk;rfl;rfl;rfl;omega;exact C;exact D;exact z)|(apply ZkD;exact⟨_,underlying299⟩;rfl;exact .inr ⟨rfl,_,_,rfl⟩)))|(refine js ?_;(apply Zad (h:=fun w' q _=>f w' q);rfl;rintro v O' ⟨⟨tt,pp,rfl⟩,rfl⟩))|refine walk1 ?_)
     exact rtB
    | some n =>
     rw[hn]at hi f
     dsimp only at hi f
     have H:0<=n/\n<=99:=ZAq _ (List.length_take_le _ _) hn
     ·have Z:0<=n*u:=Int.mul_nonneg H.1 (by omega)
      have h2:n*u<=99*3600:=Int.mul_le_mul H.2 U.2 (by omega) (by omega)
      have F : -9223372036854775808<=n*u/\n*u<=9223372036854775807:=by omega
      generalize hnu:n*u=m at *
      repeat (first|(apply RL_pu;rfl;(first|(apply Zau;rfl;rfl;exact hb3)|(apply Zhz;rfl;rfl;omega;omega;exact huv)|(apply Zva;rfl;rfl;exact hnu;exact F)|(apply Zeo;rfl;rfl;(constructor <;> omega))|(apply ZbF;rfl;rfl;exact hbg)|(apply Zg7;rfl;rfl;exact E)|(apply Zfk;rfl;rfl;rfl;omega;exact C;exact D;exact z)|(apply ZkD;exact⟨_,underlying299⟩;rfl;exact .inl ⟨rfl,rfl⟩)))|(refine js ?_;(apply Zad (h:=fun w' q _=>f w' q);rfl;rintro v O' ⟨⟨rfl,_,_⟩,rfl⟩))|refine walk1 ?_)
      exact⟨⟨k+1,off+m⟩,OA,⟨OA,⟨by dsimp only;omega,by dsimp only;omega⟩,hi⟩,SFA,.nil⟩
  ·obtain rfl:k=3:=by omega
   have hb3:decide (((3:Nat):Int)<3)=false:=by decide
   rw[show us60.drop 3=[] from rfl,Zc6]at hi
   repeat (first|(apply RL_pu;rfl;(apply Zau;rfl;rfl;exact hb3))|refine walk1 ?_)
   exact⟨off,hi.symm,⟨M.1,OA⟩,SFA⟩
 rintro fr' O' ⟨o,rfl,M,j⟩
 refine ZcG j .nil ?_
 clear j fr' O' x
 dsimp only
 obtain⟨y,i⟩:∃ y,(if s.data.toList.head?=some 45 then -o else o)=y:=⟨_,rfl⟩
 rw[i]
 refine W_seq ?_
 refine ZA5 (fun fr' O'=>Sub [(0,.string s),(4,.int .i64 y)] fr') ?_ ?_
 ·by_cases L:s.data.toList.head?=some 45
  ·rw[if_pos L]at i
   subst i
   rw[dT_ L]at d
   repeat (first|(apply RL_pu;rfl;(apply Zgz;rfl;(constructor <;> omega)))|(refine js ?_;(refine Zab (fun w' q=>d w') ?_))|refine walk1 ?_)
   exact SFA
  ·rw[if_neg L]at i
   subst i
   rw[dF_ L]at d
   repeat (first|(refine js ?_;(refine Zab (fun w' q=>d w') ?_))|refine walk ?_)
   exact SFA
 intro fr' O' j
 refine ZcG j .nil ?_
 clear j fr' O' i
 have J:=fun w'=>Zev y w'
 by_cases K:s.data.toList=[]
 ·have hb:decide (s=ByteArray.empty)=true:=dT_ (t.2 K)
  rw[if_pos (.inl (by rw[K];rfl))]
  repeat (first|(apply RL_pu;rfl;exact ZvK)|refine walk1 ?_)
  exact rtB
 ·have hb:decide (s=ByteArray.empty)=false:=dF_ (fun h=>K (t.1 h))
  by_cases N:ZaM y=s.data.toList
  ·have hb2:(!decide ((⟨(ZaM y).toArray⟩:ByteArray)=s))=false:=by
    rw[dT_ (by rw[N])];rfl
   rw[if_neg (by rintro(h|h);exact K (List.isEmpty_iff.1 h);exact h N)]
   repeat (first|(apply RL_pu;rfl;exact ZvJ)|(refine js ?_;(refine Zab (fun w' q=>J w') ?_))|refine walk1 ?_)
   exact rtB
  ·have hb2:(!decide ((⟨(ZaM y).toArray⟩:ByteArray)=s))=true:=by
    rw[dF_ (fun h=>N (by rw[<- h]))];rfl
   rw[if_pos (.inr N)]
   repeat (first|(apply RL_pu;rfl;exact ZvJ)|(refine js ?_;(refine Zab (fun w' q=>J w') ?_))|refine walk1 ?_)
   exact rtB
open Go Go.RowKit Go.Wk Go.Lib
def I64 (n:Int):Prop := -9223372036854775808<=n/\n<=9223372036854775807
theorem Zn2 (a b:Int)(c:I64 a)(d:I64 b)(w:World):Does prog 316 [.int .i64 a,.int .i64 b] w (fun v O=>v = .tuple #[.int .i64 (IntKind.i64.wrap (a+b)),.bool (ZcQ (a+b))]/\O=[]):=by
 unfold I64 at c d
 have e:(decide (a<IntKind.i64.wrap (a+b))==decide (0<b))=ZcQ (a+b):=by
  unfold ZcQ
  have f:IntKind.i64.wrap (a+b)=if a+b < -9223372036854775808 then a+b+18446744073709551616 else if 9223372036854775807<a+b then a+b - 18446744073709551616 else a+b:=by
   rw[IntKind.wrap_i64]
   repeat' split
   all_goals omega
  rw[f]
  rw[Bool.eq_iff_iff]
  simp only[beq_iff_eq,Bool.and_eq_true,decide_eq_true_eq]
  rw[decide_eq_decide]
  repeat' split
  all_goals omega
 refine Zaa func316 rfl rfl rfl rfl ?_
 repeat (first|(apply RL_pu;rfl;(apply ZlJ;rfl;rfl))|refine walk1 ?_)
 exact ret_2 _ _ [] (.tmp rfl) (.tmp rfl) .nil ⟨by rw[e],rfl⟩
theorem ZtI (A:Option Addr)(c:Nat)(l:List ByteArray)(w:World)(k:(It.row (.slice A l.length c) 9 1 l.length (l.flatMap ZaR)).sat w)(B:l.length<=1000000)(a:(Lib.join (l.map (·.data.toList)) [47]).length<=140737488355328) :
  Does prog 317 [.slice A l.length c,.string ⟨#[47]⟩] w (fun v O=>v = .string ⟨(Lib.join (l.map (·.data.toList)) [47]).toArray⟩/\O=[]):=by
 have g:=fun j x i=>Zbc k (u:=x) (j:=j) i
 obtain⟨z,⟨t,_⟩|⟨b,cap,n,d,o,h,r,p,s,m⟩⟩:=id k
 ·injection t with h1 h2 h3
  obtain rfl:=List.eq_nil_of_length_eq_zero h2
  subst h1 h3
  exact ZiS ((Any.strings_Join_none ZtJ ZmP none 0 ⟨#[47]⟩ w).mono fun e w' ⟨q,y⟩=>⟨q,y▸Below.refl _ _⟩)
 injection d with hA h2 h3
 subst hA h3
 have f:b<w.heap.size:=(Array.getElem?_eq_some_iff.1 h).1
 exact ZiS (Any.strings_Join ZtJ ZmP b 0 c l ⟨#[47]⟩ w (fun j x i=>by
  have h:=ZaD (enc:=ZaR) (fun _=>rfl) l j x 0 (.string x) i rfl
  have:=(g _ _ h).2
  rw[show adr (some (⟨b,0,none⟩:Addr))=⟨b,0,none⟩ from rfl,Zcl]at this
  simpa using this) f (by omega) (by omega) a)
theorem Zk8:∀ (l:List (List UInt8)),Lib.join l [47]=Zc2 l
 | []=>rfl
 | [x]=>by simp[Lib.join,Zc2]
 | x::y::l=>by
  have a:=Zk8 (y::l)
  unfold Lib.join at a ⊢
  rw[show Zc2 (x::y::l)=x++47::Zc2 (y::l) from rfl,<- a]
  simp[List.intercalate,List.intersperse]
def bsE (l:List (List UInt8)):List ByteArray:=l.map fun t=>⟨t.toArray⟩
theorem Zqo (l:List (List UInt8)):(bsE l).map (·.data.toList)=l:=by
 rw[bsE,List.map_map]
 exact(List.map_congr_left fun _ _=>rfl).trans (List.map_id l)
theorem ZhX:∀ (l:List (List UInt8)),(∀ t∈l,t.length<=1000)->(Zc2 l).length<=1001*l.length
 | [],_=>Nat.le_refl _
 | [x],h=>by have:=h x List.mem_cons_self;simp only[Zc2,List.length_cons,List.length_nil];omega
 | x::y::l,h=>by
  have b:=ZhX (y::l) fun t a=>h t (List.mem_cons_of_mem _ a)
  have:=h x List.mem_cons_self
  simp only[Zc2,List.length_append,List.length_cons]at b ⊢
  omega
def jnV:Option (List (List UInt8))->Value
 | none => .tuple #[.string ByteArray.empty,.int .i64 3]
 | some r => .tuple #[.string ⟨(Zc2 r).toArray⟩,.int .i64 0]
structure JG where
 k:Nat
 A:Option Addr
 c:Nat
 m:Nat
 ys:List Value
 acc:List (List UInt8)
theorem Zew (n:Int):(ZaM n).length<=7:=by
 unfold ZaM
 split
 ·simp
 ·simp only[List.length_cons,List.length_append,dig2,List.length_nil]
  repeat' split
  all_goals simp
theorem ZvI {G:Prop}(h:G:=by(first|exact PuI|(apply Zci;rfl;rfl;exact hb))):G:=h
theorem Zis (A:Option Addr)(c:Nat)(d:Int)(xs:List Int)(w:World)(I:RdSl w A c iEnc 1 xs)(u:I64 d)(F:∀ x∈xs,I64 x)(Q:xs.length<=1000000) :
  Does prog 292 [.int .i64 d,.slice A xs.length c] w (fun v O=>v=jnV (Zd5 d xs)/\O=[]):=by
 obtain⟨j,i⟩:∃ j,Zd5 d xs=j:=⟨_,rfl⟩
 rw[i]
 refine Zaa func292 rfl rfl rfl rfl ?_
 repeat (refine walk ?_)
 refine Zdy 9 1 ?_
 refine Zah [(0,.int .i64 d),(12,.slice A xs.length c),(13,.int .i64 xs.length)] [] (fun g:JG=>[(6,.slice g.A g.m g.c),(14,.int .i64 g.k)]) (fun g=>[.row (.slice g.A g.m g.c) 9 1 g.m g.ys])
  (fun g=>g.k<=xs.length/\g.m=g.k/\g.m=g.acc.length/\g.ys=(bsE g.acc).flatMap ZaR/\(∀ t∈g.acc,t.length<=1000)/\(Zd5 d (xs.drop g.k)).map (g.acc++·)=j) (fun g=>xs.length - g.k) ⟨0,none,0,0,[],[]⟩ SFA SOA ⟨Nat.zero_le _,rfl,rfl,rfl,nofun,by rw[<- i];dsimp only;rw[List.drop_zero];cases Zd5 d xs <;> rfl⟩ ?_
 rintro⟨k,A1,c1,m,ys,acc⟩ ⟨hk,hmk,hm,hy,ht,hi⟩
 dsimp only at hk hmk hm hy ht hi ⊢
 repeat (refine walk ?_)
 refine Zaf rfl (fun q=>?_) (fun q=>?_)
 ·simp only[decide_eq_true_eq,Int.ofNat_lt]at q
  obtain⟨hna,hca⟩:=I.rd k _ (List.getElem?_eq_getElem q)
  have E:=F _ (List.getElem_mem q)
  rw[Zag q,Zd5]at hi
  generalize xs[k]=x at *
  have e:=fun w'=>Zn2 d x u E w'
  have M:=Zew (d+x)
  cases hok:ZcQ (d+x) with
  | false =>
   rw[if_pos (.inl hok)]at hi
   subst hi
   rw[hok]at e
   have f:=fun w'=>Zev (IntKind.i64.wrap (d+x)) w'
   repeat (first|(apply RL_pu;rfl;exact PuI)|(refine js ?_;(first|(refine Zab (fun w' s=>e w') ?_)|(refine Zab (fun w' s=>f w') ?_)))|refine walk1 ?_)
   exact rtB
  | true =>
   have D:IntKind.i64.wrap (d+x)=d+x:=Zcw (by simpa[ZcQ] using hok)
   rw[hok,D]at e
   have f:=fun w'=>Zev (d+x) w'
   generalize ZaM (d+x)=tt at *
   by_cases y:tt=[]
   ·rw[if_pos (.inr y)]at hi
    subst hi
    subst y
    have hb:decide ((⟨([]:List UInt8).toArray⟩:ByteArray)=ByteArray.empty)=true:=by decide
    repeat (first|(apply RL_pu;rfl;exact ZvI)|(refine js ?_;(first|(refine Zab (fun w' s=>e w') ?_)|(refine Zab (fun w' s=>f w') ?_)))|refine walk1 ?_)
    exact rtB
   ·rw[if_neg (by rintro(h|h);rw[hok]at h;cases h;exact y h)]at hi
    have hb:decide ((⟨tt.toArray⟩:ByteArray)=ByteArray.empty)=false:=dF_ (fun h=>y (by simpa using congrArg (fun b:ByteArray=>b.data.toList) h))
    repeat (first|(apply RL_pu;rfl;exact ZvI)|(refine js ?_;(first|(refine Zab (fun w' s=>e w') ?_)|(refine Zab (fun w' s=>f w') ?_)|(apply ZaC;rfl;rfl;(intro A' c';(focus repeat' constructor));(intro w' _ z;exact Zbr (z.of cS_));rfl;rfl;(simp only[maxLen];omega);omega;intro A' c' J K L)|(refine bx ?_;intro N)))|refine walk1 ?_)
    exact⟨⟨k+1,A',c',m+1,ys++[.string ⟨tt.toArray⟩],acc++[tt]⟩,OA,⟨OA,OA,by simp[hm],by rw[hy];simp[bsE,ZaR],by
     intro t C
     rcases List.mem_append.1 C with h|h
     ·exact ht t h
     ·simp only[List.mem_singleton]at h;subst h;omega,by
     rw[<- hi]
     cases Zd5 d (xs.drop (k+1)) with
     | none=>rfl
     | some r=>simp⟩,SFA,SOA⟩
 ·simp only[decide_eq_false_iff_not,Int.ofNat_lt]at q
  rw[List.drop_eq_nil_of_le (by omega),Zd5]at hi
  simp only[Option.map_some,List.append_nil]at hi
  subst hi hy
  have B:(bsE acc).length=m:=by rw[hm];simp[bsE]
  have H:=fun w' h=>ZtI A1 c1 (bsE acc) w' h (by omega) (by
   rw[Zqo,Zk8]
   have:=ZhX acc ht
   omega)
  rw[Zqo,Zk8,B]at H
  repeat (first|(refine js ?_;((refine ZaH (fun w' s z=>H w' (z.of (A := .row (.slice A1 m c1) 9 1 m ((bsE acc).flatMap ZaR)) cS_)) ?_)))|refine walk ?_)
  exact rtB
def xpV (x:List UInt8 × Int):Value := .tuple #[.string ⟨x.1.toArray⟩,.int .i64 x.2]
theorem ZgN:∀ (l:List DRule) (x:Int),(∀ r∈l,I64 r.save)->I64 x->I64 (Zcp l x).1
 | [],_,_,hx=>hx
 | r::l,x,h,hx=>by
  have b:=h r List.mem_cons_self
  have a:=fun y=>ZgN l y fun s c=>h s (List.mem_cons_of_mem _ c)
  unfold Zcp
  split
  ·exact a x hx
  ·split
   ·exact⟨by decide,by decide⟩
   ·exact a _ b
def anyS (l:List DRule):Bool:=l.any fun r => !decide (r.save=0)
theorem Zpp {G:Prop}(h:G:=by(apply Zap;rfl;rfl;exact hb0)):G:=h
theorem ZlK {G:Prop}(h:G:=by(first|exact Zpp|(apply Zap;rfl;rfl;exact hb1))):G:=h
theorem ZoP (e:DEra)(A:Option Addr)(c:Nat)(l:List DRule)(w:World)(L:RdSl w A c DRule.enc 11 l)(J:I64 e.off)(M:I64 e.save)(Q:∀ r∈l,I64 r.save)(U:l.length<=1000000) :
  Does prog 277 [.agg e.enc.toArray,.slice A l.length c] w (fun v O=>v=xpV (Zd9 e l)/\O=[]):=by
 have H:=fun(x:Int) (hx:I64 x) (f:Nat) w' (q:Zat w' ⟨f,0,none⟩ [.int .i64 x])=>Zis (some ⟨f,0,none⟩) 1 e.off [x] w' (ZoX (fun _=>rfl) (Nat.le_refl 1) (by decide) q) J (fun y D=>by simp only[List.mem_singleton]at D;subst D;exact hx) (by simp)
 have K:=fun(x:Int) (hx:I64 x) (f:Nat) w' (q:Zat w' ⟨f,0,none⟩ [.int .i64 0,.int .i64 x])=>Zis (some ⟨f,0,none⟩) 2 e.off [0,x] w' (ZoX (fun _=>rfl) (Nat.le_refl 2) (by decide) q) J (fun y D=>by
  simp only[List.mem_cons,List.not_mem_nil,or_false]at D
  rcases D with rfl|rfl
  ·exact⟨by decide,by decide⟩
  ·exact hx) (by simp)
 have s:=fun w' (R:Bel w.heap.size w w')=>ZjT A c l w' (L.up R)
 have hx:=ZgN l 0 Q ⟨by decide,by decide⟩
 rw[show Zcp l 0=Zb1 l from rfl]at hx
 obtain⟨off,kind,save,set,i,til⟩:=e
 unfold Zd9
 dsimp only at J M H K ⊢
 refine Zaa func277 rfl rfl rfl rfl ?_
 simp only[DEra.enc]
 by_cases u:kind=0
 ·subst u
  rw[if_pos rfl]
  have d:=H 0 ⟨by decide,by decide⟩
  generalize Zd5 off [0]=j at *
  cases j with
  | none =>
   simp only[jnV]at d
   repeat (first|(refine js ?_;(first|(apply Zad (h:=fun w' _ g=>d _ w' (g.cells cS_));rfl;rintro v O' ⟨rfl,rfl⟩)|(refine bx ?_;intro f)))|refine walk ?_)
   exact rtB
  | some r =>
   simp only[jnV]at d
   repeat (first|(refine js ?_;(first|(apply Zad (h:=fun w' _ g=>d _ w' (g.cells cS_));rfl;rintro v O' ⟨rfl,rfl⟩)|(refine bx ?_;intro f)))|refine walk ?_)
   exact rtB
 have hb0:decide (kind=0)=false:=dF_ u
 rw[if_neg u]
 by_cases z:kind=1
 ·subst z
  rw[if_pos rfl]
  have d:=H save M
  generalize Zd5 off [save]=j at *
  cases j with
  | none =>
   simp only[jnV]at d
   repeat (first|(apply RL_pu;rfl;exact Zpp)|(refine js ?_;(first|(apply Zad (h:=fun w' _ g=>d _ w' (g.cells cS_));rfl;rintro v O' ⟨rfl,rfl⟩)|(refine bx ?_;intro f)))|refine walk1 ?_)
   exact rtB
  | some r =>
   simp only[jnV]at d
   repeat (first|(apply RL_pu;rfl;exact Zpp)|(refine js ?_;(first|(apply Zad (h:=fun w' _ g=>d _ w' (g.cells cS_));rfl;rintro v O' ⟨rfl,rfl⟩)|(refine bx ?_;intro f)))|refine walk1 ?_)
   exact rtB
 have hb1:decide (kind=1)=false:=dF_ z
 rw[if_neg z]
 by_cases B:kind=2
 ·subst B
  rw[if_pos rfl]
  generalize Zb1 l=od at *
  obtain⟨N,S⟩:=od
  dsimp only at hx s ⊢
  cases S with
  | true =>
   have d:=K N hx
   rw[if_pos rfl]
   generalize Zd5 off [0,N]=j at *
   cases j with
   | none =>
    simp only[jnV]at d
    repeat (first|(apply RL_pu;rfl;exact ZlK)|(refine js ?_;(first|(refine Zab s ?_)|(apply Zad (h:=fun w' _ g=>d _ w' (g.cells cS_));rfl;rintro v O' ⟨rfl,rfl⟩)|(refine bx ?_;intro f)))|refine walk1 ?_)
    exact rtB
   | some r =>
    simp only[jnV]at d
    repeat (first|(apply RL_pu;rfl;exact ZlK)|(refine js ?_;(first|(refine Zab s ?_)|(apply Zad (h:=fun w' _ g=>d _ w' (g.cells cS_));rfl;rintro v O' ⟨rfl,rfl⟩)|(refine bx ?_;intro f)))|refine walk1 ?_)
    exact rtB
  | false =>
   rw[if_neg (by decide)]
   obtain⟨E,C⟩:∃ E,anyS l=E:=⟨_,rfl⟩
   rw[show(l.any fun r => !decide (r.save=0))=E from C]
   repeat (first|(apply RL_pu;rfl;exact ZlK)|(refine js ?_;(first|(refine Zab s ?_)|(refine bx ?_;intro f)))|refine walk1 ?_)
   obtain⟨F,m⟩:∃ F,f=F:=⟨_,rfl⟩
   rw[m]
   clear m f
   refine Zah [(2,.pointer (some ⟨F,0,none⟩)),(45,.slice A l.length c),(46,.int .i64 l.length)] [.blk F [.int .i64 off,.int .i64 2,.int .i64 save,.string set,.string i,.bool til.is,.int .i64 til.year,.int .i64 til.month,.int .i64 til.day.kind,.int .i64 til.day.week,.int .i64 til.day.day,.int .i64 til.at_.sec,.int .i64 til.at_.base] 75] (fun k:Nat=>[(47,.int .i64 k)]) (fun _=>[]) (fun k=>k<=l.length/\anyS (l.drop k)=E) (fun k=>l.length - k) 0 SFA SOA ⟨Nat.zero_le _,C⟩ ?_
   rintro k ⟨T,t⟩
   repeat (refine walk ?_)
   refine Zaf rfl (fun q=>?_) (fun q=>?_)
   ·simp only[decide_eq_true_eq,Int.ofNat_lt]at q
    obtain⟨hna,hca⟩:=L.rd k _ (List.getElem?_eq_getElem q)
    rw[Zag q,anyS,List.any_cons]at t
    generalize l[k]=r at *
    repeat (first|(apply RL_pu;rfl;exact PuI)|(refine js ?_;(refine bx ?_;intro f))|refine walk1 ?_)
    refine Zaf rfl (fun I=>?_) (fun I=>?_)
    ·rw[I]at t
     simp only[Bool.true_or]at t
     subst t
     rw[if_pos rfl]
     repeat (refine walk ?_)
     exact rtB
    ·rw[I,Bool.false_or]at t
     repeat (refine walk ?_)
     exact⟨k+1,OA,⟨OA,t⟩,SFA,SOA⟩
   ·simp only[decide_eq_false_iff_not,Int.ofNat_lt]at q
    rw[List.drop_eq_nil_of_le (by omega)]at t
    subst t
    rw[show anyS []=false from rfl,if_neg (by decide)]
    have d:=H 0 ⟨by decide,by decide⟩
    generalize Zd5 off [0]=j at *
    cases j with
    | none =>
     simp only[jnV]at d
     repeat (first|(refine js ?_;(first|(apply Zad (h:=fun w' _ g=>d _ w' (g.cells cS_));rfl;rintro v O' ⟨rfl,rfl⟩)|(refine bx ?_;intro f)))|refine walk ?_)
     exact rtB
    | some r =>
     simp only[jnV]at d
     repeat (first|(refine js ?_;(first|(apply Zad (h:=fun w' _ g=>d _ w' (g.cells cS_));rfl;rintro v O' ⟨rfl,rfl⟩)|(refine bx ?_;intro f)))|refine walk ?_)
     exact rtB
 have m:decide (kind=2)=false:=dF_ B
 rw[if_neg B]
 repeat (first|(apply RL_pu;rfl;(first|exact ZlK|(apply Zap;rfl;rfl;exact m)))|(refine js ?_;(refine bx ?_;intro f))|refine walk1 ?_)
 exact rtB
theorem LibW.up {w w':World}(h:LibW w)(b:Bel w.heap.size w w'):LibW w' where
 mxl:=by
  obtain⟨m,c⟩:=h.mxl
  exact⟨m,(b.cell (World.block_lt_of_cell? w _ c)).trans c⟩
 syn:=by
  obtain⟨ev,a,d⟩:=h.syn
  exact⟨ev,(b.cell (World.block_lt_of_cell? w _ a)).trans a,d⟩
theorem Zlb (s:ByteArray)(w:World)(c:LibW w)(d:s.size<=1000000000000):Does prog 212 [.string s] w (fun v O=>v = .bool (ZaV s.data.toList).isSome/\O=[]):=by
 have a:=fun w' (e:Bel w.heap.size w w')=>Zry s w' (fun f b=>(c.up e).up b) d
 refine Zaa func212 rfl rfl rfl rfl ?_
 generalize ZaV s.data.toList=o at *
 cases o with
 | none =>
  simp only[prV]at a
  repeat (first|(refine js ?_;(refine Zab a ?_))|refine walk ?_)
  exact rtA
 | some x =>
  simp only[prV]at a
  repeat (first|(refine js ?_;(refine Zab a ?_))|refine walk ?_)
  exact rtA
theorem Zgn (f p:List UInt8):(cutV f p).1.length+(cutV f p).2.1.length<=f.length:=by
 unfold cutV
 split
 ·rename_i a b h
  have:=Znh h
  simp only[List.length_nil]at this
  dsimp only
  omega
 ·simp
def arV (l:List UInt8):Value := .tuple #[.string ⟨(cutV l [37,115]).1.toArray⟩,.string ⟨(cutV l [37,115]).2.1.toArray⟩,.bool (Zbq l).isSome]
theorem ZB8 (l:List UInt8):(Zbq l).isSome=((cutV l [37,115]).2.2&&(Zcq ((cutV l [37,115]).1++(cutV l [37,115]).2.1)&&decide (((cutV l [37,115]).1++(cutV l [37,115]).2.1).length<=5))):=by
 unfold Zbq cutV
 cases Zbn [37,115] l [] with
 | none=>rfl
 | some ab =>
  obtain⟨a,b⟩:=ab
  dsimp only
  by_cases c:Zcq (a++b)=true
  ·by_cases d:(a++b).length<=5
   ·rw[if_pos ⟨c,d⟩,c,dT_ d];rfl
   ·rw[if_neg (fun h=>d h.2),dF_ d,Bool.and_false,Bool.and_false];rfl
  ·rw[if_neg (fun h=>c h.1),show Zcq (a++b)=false from by simpa using c,Bool.false_and,Bool.and_false];rfl
theorem ZBu {G:Prop}(h:G:=by(first|(apply Zg9;rfl;rfl;exact hss)|(apply Zau;rfl;rfl;exact hil)|(apply Zbl;rfl;rfl;exact h5))):G:=h
theorem ZnT {G G':Prop}(k:G')(h:Hold G'->G:=by intro k9;(first|(apply RL_pu;rfl;exact ZBu)|(refine js ?_;(first|(refine Zab hc ?_)|(refine Zab (fun w' hw=>hix w') ?_)))|refine walk1 ?_);exact k9.out):G:=h ⟨k⟩
theorem Zi6 (f:ByteArray)(w:World)(q:LibW w)(u:f.size<=1000000000):Does prog 148 [.string f] w (fun v O=>v=arV f.data.toList/\O=[]):=by
 have hc:=fun w' (hw:Bel w.heap.size w w')=>Zln f ⟨#[37,115]⟩ w' (q.up hw) (by omega)
 rw[show(⟨#[37,115]⟩:ByteArray).data.toList=[37,115] from rfl]at hc
 have j:=Zgn f.data.toList [37,115]
 have g:f.data.toList.length=f.size:=by simp
 rw[g]at j
 unfold arV
 rw[ZB8]
 obtain⟨c,e⟩:∃ c,cutV f.data.toList [37,115]=c:=⟨_,rfl⟩
 rw[e]at hc j ⊢
 obtain⟨a,b,ok⟩:=c
 dsimp only at hc j ⊢
 have hix:=fun w'=>ZwT (⟨a.toArray⟩++⟨b.toArray⟩) w'
 have s:((⟨a.toArray⟩:ByteArray)++⟨b.toArray⟩).data.toList=a++b:=by simp
 have m:(⟨a.toArray⟩:ByteArray).size=a.length:=by show a.toArray.size=a.length;simp
 have p:(⟨b.toArray⟩:ByteArray).size=b.length:=by show b.toArray.size=b.length;simp
 have t:((⟨a.toArray⟩:ByteArray)++⟨b.toArray⟩).size=(a++b).length:=by rw[ByteArray.size_append,m,p,List.length_append]
 have d:=ZtM ((⟨a.toArray⟩:ByteArray)++⟨b.toArray⟩) ((⟨a.toArray⟩:ByteArray)++⟨b.toArray⟩).size 0 (by omega)
 rw[List.drop_zero,s]at d
 have hil:decide (idxFunc (fun r=>ZdJ (r:Int)) true ((⟨a.toArray⟩:ByteArray)++⟨b.toArray⟩)<0)=Zcq (a++b):=by
  rw[Bool.eq_iff_iff,decide_eq_true_eq]
  exact d
 have h5:decide (((((⟨a.toArray⟩:ByteArray)++⟨b.toArray⟩).size:Nat):Int)<=5)=decide ((a++b).length<=5):=by
  rw[decide_eq_decide]
  omega
 have hss:(⟨a.toArray⟩:ByteArray).size+(⟨b.toArray⟩:ByteArray).size<=9223372036854775807:=by omega
 clear d
 generalize idxFunc (fun r=>ZdJ (r:Int)) true ((⟨a.toArray⟩:ByteArray)++⟨b.toArray⟩)=i at *
 generalize Zcq (a++b)=lt at *
 generalize decide ((a++b).length<=5)=l5 at *
 refine Zaa func148 rfl rfl rfl rfl ?_
 cases ok with
 | false =>
  repeat refine ZnT ?_
  exact Zcj _ _ _ [] (.tmp rfl) (.tmp rfl) (.tmp rfl) .nil ⟨rfl,rfl⟩
 | true =>
  cases lt with
  | false =>
   repeat refine ZnT ?_
   exact Zcj _ _ _ [] (.tmp rfl) (.tmp rfl) (.tmp rfl) .nil ⟨rfl,rfl⟩
  | true =>
   repeat refine ZnT ?_
   exact Zcj _ _ _ [] (.tmp rfl) (.tmp rfl) (.tmp rfl) .nil ⟨rfl,rfl⟩
def Zk5 (ab0 ok ab1 ab2 ar q4 i0 i1 i2:Bool):Int:=if ab0 then 1 else if ok&&(ab1&&ab2) then 2 else if ar then 3 else if q4 then 4 else if i0||(ok&&(i1&&i2)) then 5 else 0
theorem ZhF (l:List UInt8):ZaP l=Zk5 (ZbD l) (cutV l [47]).2.2 (ZbD (cutV l [47]).1) (ZbD (cutV l [47]).2.1) (Zbq l).isSome (decide (l=[37,122])) (ZaV l).isSome (ZaV (cutV l [47]).1).isSome (ZaV (cutV l [47]).2.1).isSome:=by
 unfold ZaP Zk5 cutV
 cases Zbn [47] l [] with
 | none=>simp
 | some ab=>simp
theorem Zir (f:ByteArray)(w:World)(e:LibW w)(t:f.size<=1000000000):Does prog 147 [.string f] w (fun v O=>v = .int .i64 (ZaP f.data.toList)/\O=[]):=by
 have d:=fun w' (c:Bel w.heap.size w w')=>Zln f ⟨#[47]⟩ w' (e.up c) (by omega)
 rw[show(⟨#[47]⟩:ByteArray).data.toList=[47] from rfl]at d
 have p:=Zgn f.data.toList [47]
 have m:f.data.toList.length=f.size:=by simp
 rw[m]at p
 have g:=fun w' (c:Bel w.heap.size w w')=>Zi6 f w' (e.up c) t
 unfold arV at g
 rw[ZhF]
 have s:decide (f=⟨#[37,122]⟩)=decide (f.data.toList=[37,122]):=by
  rw[decide_eq_decide]
  exact⟨fun h=>by rw[h],fun h=>by
   apply ByteArray.ext
   rw[<- Array.toArray_toList (xs:=f.data),h]⟩
 obtain⟨i,j⟩:∃ i,cutV f.data.toList [47]=i:=⟨_,rfl⟩
 rw[j]at d p ⊢
 obtain⟨a,b,ok⟩:=i
 dsimp only at d p ⊢
 have u:(⟨a.toArray⟩:ByteArray).size=a.length:=by show a.toArray.size=a.length;simp
 have x:(⟨b.toArray⟩:ByteArray).size=b.length:=by show b.toArray.size=b.length;simp
 have a0:=fun w'=>Zgv f (by omega) w'
 have q:=fun w'=>Zgv ⟨a.toArray⟩ (by omega) w'
 have a2:=fun w'=>Zgv ⟨b.toArray⟩ (by omega) w'
 have i0:=fun w' (c:Bel w.heap.size w w')=>Zlb f w' (e.up c) (by omega)
 have r:=fun w' (c:Bel w.heap.size w w')=>Zlb ⟨a.toArray⟩ w' (e.up c) (by omega)
 have i2:=fun w' (c:Bel w.heap.size w w')=>Zlb ⟨b.toArray⟩ w' (e.up c) (by omega)
 rw[show ZhB f=ZbD f.data.toList from rfl]at a0
 rw[show ZhB ⟨a.toArray⟩=ZbD a from rfl]at q
 rw[show ZhB ⟨b.toArray⟩=ZbD b from rfl]at a2
 rw[show(⟨a.toArray⟩:ByteArray).data.toList=a from rfl]at r
 rw[show(⟨b.toArray⟩:ByteArray).data.toList=b from rfl]at i2
 generalize ZbD f.data.toList=A0 at *
 generalize ZbD a=A1 at *
 generalize ZbD b=A2 at *
 generalize (ZaV f.data.toList).isSome=I0 at *
 generalize (ZaV a).isSome=I1 at *
 generalize (ZaV b).isSome=I2 at *
 generalize (Zbq f.data.toList).isSome=ar at *
 generalize decide (f.data.toList=[37,122])=q4 at *
 refine Zaa func147 rfl rfl rfl rfl ?_
 repeat' (first|(apply RL_pu;rfl;(apply Zci;rfl;rfl;exact s))|(refine js ?_;(first|(refine Zab d ?_)|(refine Zab g ?_)|(refine Zab (fun w' c=>a0 w') ?_)|(refine Zab (fun w' c=>q w') ?_)|(refine Zab (fun w' c=>a2 w') ?_)|(refine Zab i0 ?_)|(refine Zab r ?_)|(refine Zab i2 ?_)))|refine walk1 ?_|(refine Zas rfl rfl rfl (fun d=>?_) (fun d=>?_))|(refine Zaf rfl (fun d=>?_) (fun d=>?_)))
 all_goals (refine ret_1 _ [] (.tmp rfl) .nil ⟨?_,rfl⟩;(simp_all [Zk5];done))
end Go.Proofs.YtpipekfmecikmaaGreatDoor
namespace Go.Wk
open Go Go.RowKit
end Go.Wk
namespace Go.Proofs.YtpipekfmecikmaaGreatDoor
open Go Go.RowKit Go.Wk Go.Lib Tryz
attribute [local irreducible] W RL Does Zaq Zai retQ Calls Pu Stp RD Qy Ay Zaj RW
def ptsV:Option (List UInt8 × List UInt8)->Value
 | none => .tuple #[.string ByteArray.empty,.string ByteArray.empty,.bool false]
 | some (a,b) => .tuple #[.string ⟨a.toArray⟩,.string ⟨b.toArray⟩,.bool true]
theorem Zf8 (l:List UInt8):Zc5 l=if (cutV l [47]).2.2=true/\(ZaP l=2\/ZaP l=5) then some ((cutV l [47]).1,(cutV l [47]).2.1) else none:=by
 unfold Zc5 cutV
 cases Zbn [47] l [] with
 | none=>simp
 | some ab=>simp
theorem Zk6 (l:List UInt8)(h:ZaP l=3):Zbq l=some ((cutV l [37,115]).1,(cutV l [37,115]).2.1):=by
 have a:(Zbq l).isSome=true:=by
  rw[ZhF]at h
  unfold Zk5 at h
  cases hx:(Zbq l).isSome with
  | true=>rfl
  | false =>
   rw[hx]at h
   exfalso
   revert h
   repeat' split
   all_goals first|decide|simp_all
 unfold Zbq cutV at *
 cases hc:Zbn [37,115] l [] with
 | none=>rw[hc]at a;cases a
 | some ab =>
  rw[hc]at a
  dsimp only at a ⊢
  split at a
  ·rename_i b;rw[if_pos b]
  ·cases a
theorem ZvU {G:Prop}(h:G:=by(first|(apply ZhJ;rfl;rfl;exact hw)|(apply Zav;rfl;rfl;exact b1)|(apply Zav;rfl;rfl;exact b2)|(apply Zal;rfl;rfl;exact b3))):G:=h
theorem ZvT {G:Prop}(h:G:=by(first|(apply ZhJ;rfl;rfl;exact hw)|(apply Zav;rfl;rfl;exact b1)|(apply Zav;rfl;rfl;exact b2))):G:=h
theorem Zjb (a b:Int)(g:I64 a)(i:I64 b)(w:World):Does prog 151 [.int .i64 a,.int .i64 b] w (fun v O=>v = .tuple #[.int .i64 (if ZcQ (a+b) then a+b else 0),.bool (ZcQ (a+b))]/\O=[]):=by
 unfold I64 at g i
 have hw:IntKind.i64.wrap (a+b)=if a+b < -9223372036854775808 then a+b+18446744073709551616 else if 9223372036854775807<a+b then a+b - 18446744073709551616 else a+b:=by
  rw[IntKind.wrap_i64]
  repeat' split
  all_goals omega
 refine Zaa func151 rfl rfl rfl rfl ?_
 by_cases e:a+b < -9223372036854775808
 ·rw[if_pos e]at hw
  have c:ZcQ (a+b)=false:=by unfold ZcQ;rw[dF_ (by omega)];rfl
  have b1:decide (a<a+b+18446744073709551616)=true:=dT_ (by omega)
  have b2:decide (0<b)=false:=dF_ (by omega)
  have b3:(!decide (b=0))=true:=by rw[dF_ (by omega)];rfl
  rw[c]
  repeat (first|(apply RL_pu;rfl;exact ZvU)|refine walk1 ?_)
  exact rtB
 rw[if_neg e]at hw
 by_cases d:9223372036854775807<a+b
 ·rw[if_pos d]at hw
  have c:ZcQ (a+b)=false:=by unfold ZcQ;rw[dF_ (show ¬ a+b<=9223372036854775807 by omega),Bool.and_false]
  have b1:decide (a<a+b - 18446744073709551616)=false:=dF_ (by omega)
  have b2:decide (0<b)=true:=dT_ (by omega)
  have b3:(!decide (b=0))=true:=by rw[dF_ (by omega)];rfl
  rw[c]
  repeat (first|(apply RL_pu;rfl;exact ZvU)|refine walk1 ?_)
  exact rtB
 rw[if_neg d]at hw
 have c:ZcQ (a+b)=true:=by unfold ZcQ;rw[dT_ (by omega),dT_ (by omega)];rfl
 rw[c,if_pos rfl]
 by_cases f:0<b
 ·have b1:decide (a<a+b)=true:=dT_ (by omega)
  have b2:decide (0<b)=true:=dT_ f
  repeat (first|(apply RL_pu;rfl;exact ZvT)|refine walk1 ?_)
  exact rtB
 ·have b1:decide (a<a+b)=false:=dF_ (by omega)
  have b2:decide (0<b)=false:=dF_ f
  repeat (first|(apply RL_pu;rfl;exact ZvT)|refine walk1 ?_)
  exact rtB
theorem ZvS {G:Prop}(h:G:=by(apply Zal;rfl;rfl;exact b2)):G:=h
theorem Zrv (f:ByteArray)(w:World)(j:LibW w)(p:f.size<=1000000000):Does prog 146 [.string f] w (fun v O=>v=ptsV (Zc5 f.data.toList)/\O=[]):=by
 have c:=fun w' (i:Bel w.heap.size w w')=>Zln f ⟨#[47]⟩ w' (j.up i) (by omega)
 rw[show(⟨#[47]⟩:ByteArray).data.toList=[47] from rfl]at c
 have d:=fun w' (i:Bel w.heap.size w w')=>Zir f w' (j.up i) p
 rw[Zf8]
 generalize ZaP f.data.toList=K at *
 generalize cutV f.data.toList [47]=ab at *
 obtain⟨a,b,ok⟩:=ab
 dsimp only at c ⊢
 refine Zaa func146 rfl rfl rfl rfl ?_
 cases ok with
 | false =>
  rw[if_neg (by rintro⟨h,_⟩;cases h)]
  repeat (first|refine und ?_|(refine js ?_;(first|(refine Zab c ?_)|(refine Zab d ?_)))|refine walk ?_)
  exact Zcj _ _ _ [] (.tmp rfl) (.tmp rfl) (.tmp rfl) .nil ⟨rfl,rfl⟩
 | true =>
  by_cases e:K=2
  ·subst e
   rw[if_pos ⟨rfl,.inl rfl⟩]
   repeat (first|(refine js ?_;(first|(refine Zab c ?_)|(refine Zab d ?_)))|refine walk ?_)
   exact Zcj _ _ _ [] (.tmp rfl) (.tmp rfl) (.tmp rfl) .nil ⟨rfl,rfl⟩
  ·have b2:(!decide (K=2))=true:=by rw[dF_ e];rfl
   by_cases g:K=5
   ·subst g
    rw[if_pos ⟨rfl,.inr rfl⟩]
    repeat (first|(apply RL_pu;rfl;exact ZvS)|(refine js ?_;(first|(refine Zab c ?_)|(refine Zab d ?_)))|refine walk1 ?_)
    exact Zcj _ _ _ [] (.tmp rfl) (.tmp rfl) (.tmp rfl) .nil ⟨rfl,rfl⟩
   ·have m:(!decide (K=5))=true:=by rw[dF_ g];rfl
    rw[if_neg (by rintro⟨_,h|h⟩;exact e h;exact g h)]
    repeat (first|(apply RL_pu;rfl;(first|exact ZvS|(apply Zal;rfl;rfl;exact m)))|(refine js ?_;(first|(refine Zab c ?_)|(refine Zab d ?_)))|refine walk1 ?_)
    exact Zcj _ _ _ [] (.tmp rfl) (.tmp rfl) (.tmp rfl) .nil ⟨rfl,rfl⟩
theorem Zfi (s:ByteArray):(⟨s.data.toList.toArray⟩:ByteArray)=s:=by
 apply ByteArray.ext
 simp
theorem ZBt {G:Prop}(h:G:=by(apply Zap;rfl;rfl;exact hb0)):G:=h
theorem ZBs {G:Prop}(h:G:=by(first|(apply Zg9;rfl;rfl;exact q1)|(apply Zg9;rfl;rfl;exact q2))):G:=h
theorem Zph {G:Prop}(h:G:=by first|(apply Qy_y;rfl;exact ZBs)|exact QyA):G:=h
theorem ZlF {G:Prop}(h:G:=by repeat (first|exact QF.nil|(apply QF.mk;rfl;rfl;decide +kernel;exact Zph))):G:=h
theorem ZvR {G:Prop}(h:G:=by(apply ZcT;rfl;rfl;exact hb)):G:=h
theorem ZBr {G:Prop}(h:G:=by(first|(apply Zap;rfl;rfl;exact hb3)|(apply Zap;rfl;rfl;exact hb4)|(apply Zap;rfl;rfl;exact hb1)|(apply Zap;rfl;rfl;exact hb5))):G:=h
theorem ZgU (f c:ByteArray)(e d:Int)(w:World)(M:LibW w)(R:f.size<=1000000000)(Z:c.size<=1000000000)(T:I64 e)(X:I64 d) :
  Does prog 99 [.string f,.int .i64 e,.agg #[.int .i64 d,.string c]] w (fun v O=>v=xpV (Zdx f.data.toList e d c.data.toList)/\O=[]):=by
 have m:=fun w' (g:Bel w.heap.size w w')=>Zrv f w' (M.up g) R
 have u:=fun w' (g:Bel w.heap.size w w')=>Zir f w' (M.up g) R
 have E:=fun w' (g:Bel w.heap.size w w')=>Zi6 f w' (M.up g) R
 have p:=fun w'=>Zjb e d T X w'
 have S:=Zk6 f.data.toList
 have N:=Zgn f.data.toList [37,115]
 have Q:f.data.toList.length=f.size:=by simp
 rw[Q]at N
 have I:=Zfi f
 unfold arV at E
 unfold Zdx
 refine Zaa func99 rfl rfl rfl rfl ?_
 cases hP:Zc5 f.data.toList with
 | some ab =>
  obtain⟨a,b⟩:=ab
  rw[hP]at m
  simp only[ptsV]at m
  dsimp only
  by_cases L:d=0
  ·subst L
   rw[if_pos rfl]
   repeat (first|refine walk ?_|(refine jg ?_;(try intro F);(first|(refine Zab m ?_)|(refine bx ?_;intro q));refine fin ?_))
   exact rtB
  ·rw[if_neg L]
   have hb0:decide (d=0)=false:=dF_ L
   repeat (first|(apply RL_pu;rfl;exact ZBt)|refine walk1 ?_|(refine jg ?_;(try intro F);(first|(refine Zab m ?_)|(refine bx ?_;intro q));first|refine⟨_,EndsA,QFFmtC4,?_⟩|refine fin ?_))
   exact rtB
 | none =>
 rw[hP]at m
 simp only[ptsV]at m
 dsimp only
 generalize ZaP f.data.toList=K at *
 by_cases y:K=3
 ·subst y
  rw[if_pos rfl,S rfl]
  dsimp only
  generalize (cutV f.data.toList [37,115]).1=a at *
  generalize (cutV f.data.toList [37,115]).2.1=b at *
  have U:(⟨a.toArray⟩:ByteArray).size=a.length:=by show a.toArray.size=a.length;simp
  have W:(⟨b.toArray⟩:ByteArray).size=b.length:=by show b.toArray.size=b.length;simp
  have q1:(⟨a.toArray⟩:ByteArray).size+c.size<=9223372036854775807:=by omega
  have q2:((⟨a.toArray⟩:ByteArray)++c).size+(⟨b.toArray⟩:ByteArray).size<=9223372036854775807:=by rw[ByteArray.size_append];omega
  have Y:(((⟨a.toArray⟩:ByteArray)++c++⟨b.toArray⟩).size:Int)<=9223372036854775807:=by rw[ByteArray.size_append,ByteArray.size_append];omega
  have hx:((⟨a.toArray⟩:ByteArray)++c++⟨b.toArray⟩).data.toList=a++c.data.toList++b:=by simp
  have H:=Zfi ((⟨a.toArray⟩:ByteArray)++c++⟨b.toArray⟩)
  have r:=fun w'=>Zgv ((⟨a.toArray⟩:ByteArray)++c++⟨b.toArray⟩) Y w'
  rw[show ZhB ((⟨a.toArray⟩:ByteArray)++c++⟨b.toArray⟩)=ZbD (a++c.data.toList++b) from by unfold ZhB ZbD;rw[hx]]at r
  rw[hx]at H
  have j:=fun w'=>ZgK ((⟨a.toArray⟩:ByteArray)++c++⟨b.toArray⟩) (ZbD (a++c.data.toList++b)) w'
  cases hok:ZbD (a++c.data.toList++b) with
  | false =>
   rw[hok]at r j
   rw[if_neg (by decide)]
   repeat (first|(apply RD_Q;rfl;rfl;decide +kernel;rfl;rfl;exact Zph)|refine walk1 ?_|(refine jg ?_;(try intro F);(first|(refine Zab m ?_)|(refine Zab u ?_)|(refine Zab E ?_)|(refine Zab (fun w' g=>r w') ?_)|(refine Zab (fun w' g=>j w') ?_)|(refine bx ?_;intro q));first|refine⟨_,EndsA,ZlF,?_⟩|refine fin ?_)|(refine jn ?_;(try intro F);(first|(refine bx ?_;intro q)|(apply Zan;exact PuA));first|refine⟨_,EndsA,ZlF,?_⟩|refine fin ?_))
   exact rtB
  | true =>
   rw[hok]at r j
   rw[if_pos rfl]
   unfold xpV
   dsimp only
   rw[H]
   repeat (first|(apply RD_Q;rfl;rfl;decide +kernel;rfl;rfl;exact Zph)|refine walk1 ?_|(refine jg ?_;(try intro F);(first|(refine Zab m ?_)|(refine Zab u ?_)|(refine Zab E ?_)|(refine Zab (fun w' g=>r w') ?_)|(refine Zab (fun w' g=>j w') ?_)|(refine bx ?_;intro q));first|refine⟨_,EndsA,ZlF,?_⟩|refine fin ?_)|(refine jn ?_;(try intro F);(first|(refine bx ?_;intro q)|(apply Zan;exact PuA));first|refine⟨_,EndsA,ZlF,?_⟩|refine fin ?_))
   exact rtB
 have hb3:decide (K=3)=false:=dF_ y
 rw[if_neg y]
 by_cases z:K=4
 ·subst z
  rw[if_pos rfl]
  cases hok:ZcQ (e+d) with
  | false =>
   rw[hok]at p
   rw[if_neg (by rintro⟨h,_⟩;cases h)]
   have t:=fun w'=>Zev 0 w'
   have s:=fun w'=>ZgK ⟨(ZaM 0).toArray⟩ false w'
   rw[if_neg (by decide)]at p
   repeat (first|refine walk ?_|(refine jg ?_;(try intro F);(first|(refine Zab m ?_)|(refine Zab u ?_)|(refine Zab (fun w' g=>p w') ?_)|(refine Zab (fun w' g=>t w') ?_)|(refine Zab (fun w' g=>s w') ?_)|(refine bx ?_;intro q));refine fin ?_))
   exact rtB
  | true =>
   rw[hok,if_pos rfl]at p
   have t:=fun w'=>Zev (e+d) w'
   have j:=fun ok w'=>ZgK ⟨(ZaM (e+d)).toArray⟩ ok w'
   by_cases J:ZaM (e+d)=[]
   ·rw[if_neg (by rintro⟨_,h⟩;exact h J)]
    have s:=j false
    have hb:(!decide ((⟨(ZaM (e+d)).toArray⟩:ByteArray)=ByteArray.empty))=false:=by rw[J];decide
    repeat (first|(apply RL_pu;rfl;exact ZvR)|refine walk1 ?_|(refine jg ?_;(try intro F);(first|(refine Zab m ?_)|(refine Zab u ?_)|(refine Zab (fun w' g=>p w') ?_)|(refine Zab (fun w' g=>t w') ?_)|(refine Zab (fun w' g=>s w') ?_)|(refine bx ?_;intro q));first|refine⟨_,EndsA,QFFmtC6,?_⟩|refine fin ?_))
    exact rtB
   ·rw[if_pos ⟨rfl,J⟩]
    have s:=j true
    have hb:(!decide ((⟨(ZaM (e+d)).toArray⟩:ByteArray)=ByteArray.empty))=true:=by
     rw[dF_ (fun h=>J (by simpa using congrArg (fun b:ByteArray=>b.data.toList) h))];rfl
    repeat (first|(apply RL_pu;rfl;exact ZvR)|refine walk1 ?_|(refine jg ?_;(try intro F);(first|(refine Zab m ?_)|(refine Zab u ?_)|(refine Zab (fun w' g=>p w') ?_)|(refine Zab (fun w' g=>t w') ?_)|(refine Zab (fun w' g=>s w') ?_)|(refine bx ?_;intro q));first|refine⟨_,EndsA,QFFmtC6,?_⟩|refine fin ?_))
    exact rtB
 have hb4:decide (K=4)=false:=dF_ z
 rw[if_neg z]
 by_cases x:K=1
 ·subst x
  rw[if_pos (.inl rfl)]
  unfold xpV
  dsimp only
  rw[I]
  repeat (first|refine walk ?_|(refine jg ?_;(try intro F);(first|(refine Zab m ?_)|(refine Zab u ?_)|(refine bx ?_;intro q));refine fin ?_))
  exact rtB
 have hb1:decide (K=1)=false:=dF_ x
 by_cases D:K=5
 ·subst D
  rw[if_pos (.inr rfl)]
  unfold xpV
  dsimp only
  rw[I]
  repeat (first|refine walk ?_|(refine jg ?_;(try intro F);(first|(refine Zab m ?_)|(refine Zab u ?_)|(refine bx ?_;intro q));refine fin ?_))
  exact rtB
 have hb5:decide (K=5)=false:=dF_ D
 rw[if_neg (by rintro(h|h);exact x h;exact D h)]
 repeat (first|(apply RL_pu;rfl;exact ZBr)|refine walk1 ?_|(refine jg ?_;(try intro F);(first|(refine Zab m ?_)|(refine Zab u ?_)|(refine bx ?_;intro q));first|refine⟨_,EndsA,QFFmtC7,?_⟩|refine fin ?_))
 exact rtB
end Go.Proofs.YtpipekfmecikmaaGreatDoor
namespace Go.Proofs.YtpipekfmecikmaaGreatDoor
open Go Go.RowKit Go.Wk
attribute [local irreducible] W RL Does Zaq Zai retQ Calls Pu Stp RD Qy Ay Zaj
