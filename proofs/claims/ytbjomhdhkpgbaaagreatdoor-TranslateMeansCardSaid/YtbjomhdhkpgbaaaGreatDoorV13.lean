/- Parts of the proof. -/
import Derived.Test.YtbjomhdhkpgbaaaGreatDoorV12
import Derived.Test.YtbjomhdhkpgbaaaGreatDoorV08
set_option maxHeartbeats 4000000
set_option linter.unusedVariables false
set_option linter.unusedSimpArgs false
namespace Go.Wk
open Go Go.RowKit
section
variable {P:Program}{n:Nat}{wr:World}{fr:Fr}{O:List It}{ty:TypeId}
theorem Zln {t:TypeId}{x y z:Operand}{s r:ByteArray}{k k':IntKind}{i j:Int}[hS:StringT P t](hx:ev fr x=some (.string s))(hy:ev fr y=some (.int k i))(hz:ev fr z=some (.int k' j))(h0:0<=i)(h1:i<=j)(h2:j<=s.size)(hr:s.extract i.toNat j.toNat=r) :
  Pu P n wr fr O (.slice t x (some y) (some z) none) ty (.string r):=fun a w hs _ _ _ _=>by
 have h:=run_slice_string (P:=P) w t s k k' i j hS.h h0 h1 h2
 rw[hr]at h
 simp[execOp,hs.sim.ev hx,hs.sim.ev hy,hs.sim.ev hz,Instr.sliceAt,run_underlying hS.h,h]
theorem Zid {t len e:Nat}{x ix:Operand}{kk:IntKind}{i:Int}{cs:List Value}{v:Value}[hA:ArrT P t len e 1 false](hx:ev fr x=some (.agg cs.toArray))(hi:ev fr ix=some (.int kk i))(h0:0<=i)(h1:i<len)(hv:cs[i.toNat]?=some v) :
  Pu P n wr fr O (.index t x ix) ty v:=fun a w hs _ _ _ _=>by
 have h:=hA.h
 unfold Zlf at h
 split at h
 ·rename_i len' e' hu
  split at h
  ·rename_i sz' ag' ht
   simp only[Option.some.injEq,Prod.mk.injEq]at h
   obtain⟨rfl,rfl,rfl,rfl⟩:=h
   obtain⟨inf,dd,hinf,hsz,hag,_⟩:=Ty.parts ht
   have:Ty P e' 1 false:=⟨ht⟩
   simp only[execOp,hs.sim.ev hx,hs.sim.ev hi,Instr.index,asIntOf,Sem.run_bind,Sem.run_pure,Result.andThen_ok,run_underlying hu,h0,h1,and_self,if_true,part,Zea,Zdo]
   simp[hv]
  ·cases h
 ·cases h
theorem ZhO {t t':TypeId}{x:Operand}{v:Value}{b:Bool}(hu:∃ ms,P.underlying t=some (.interface ms))(hx:ev fr x=some v)(hv:(v = .nilIface/\b=false)\/(b=true/\∃ te p,v = .iface te (.pointer p))):Pu P n wr fr O (.binOp .neq t x (.const .nilIface) t') ty (.bool b):=fun a w hs _ _ _ _=>by
 obtain⟨ms,hu⟩:=hu
 have hc:a.eval (.const .nilIface) = .nilIface:=rfl
 have h:(binOp .neq t v .nilIface).run P w = .ok (.bool b) w:=by
  have:∀ d,(Op.equalIn (d+1) t v .nilIface).run P w = .ok (!b) w:=fun d=>by
   rcases hv with⟨rfl,rfl⟩|⟨rfl,te,p,rfl⟩ <;> simp[Op.equalIn,run_underlying hu]
  have hb:binOp .neq t v .nilIface=(do pure (.bool (!(<- Op.equal t v .nilIface)))):=by rcases hv with⟨rfl,rfl⟩|⟨rfl,te,p,rfl⟩ <;> rfl
  rw[hb,show Op.equal t v .nilIface=Op.equalIn (9999+1) t v .nilIface from rfl]
  simp only[Sem.run_bind,this 9999,Result.andThen_ok,Sem.run_pure,Bool.not_not]
 have hg:(eqGuard .neq t x (.const .nilIface) v .nilIface).run P w = .ok () w:=by
  rcases hv with⟨rfl,rfl⟩|⟨rfl,te,p,rfl⟩ <;> simp[eqGuard]
 simp only[execOp,hs.sim.ev hx,hc,Sem.run_bind,hg,Result.andThen_ok,h,Sem.run_pure]
theorem ZBO {t t':TypeId}{x y:Operand}{i j m:Int}(hx:ev fr x=some (.int .i64 i))(hy:ev fr y=some (.int .i64 j))(hm:i*j=m)(h : -9223372036854775808<=m/\m<=9223372036854775807):Pu P n wr fr O (.binOp .mul t x y t') ty (.int .i64 m):=hm▸ZeX hx hy (hm▸h)
theorem ZBA {c:Code}{Q:Exit->Fr->List It->Prop}{K':Fr->List It->Prop}(I:Fr->List It->Prop)(h1:W P n wr c (Zar I Q) fr O)(h2:∀ fr' O',I fr' O'->K' fr' O'):W P n wr c (Zar K' Q) fr O :=
 ZzL h1 fun e fr' O' h=>by
  cases e with
  | normal=>exact h2 fr' O' h
  | _=>exact h
end
theorem Zzk (s:ByteArray)(a:Nat):(s.extract a (min (a+2) s.size)).data.toList=(s.data.toList.drop a).take 2:=by
 rw[ByteArray.data_extract]
 have hsz:s.size=s.data.toList.length:=by simp
 rw[hsz]
 simp only[Array.toList_extract,List.extract_eq_take_drop]
 apply List.ext_getElem?
 intro i
 simp only[List.getElem?_take,List.getElem?_drop]
 by_cases h:i<2
 ·rw[if_pos h]
  by_cases h2:a+i<s.data.toList.length
  ·rw[if_pos (by omega)]
  ·rw[List.getElem?_eq_none (by omega)];simp
 ·rw[if_neg h,if_neg (by omega)]
end Go.Wk
namespace Go.Proofs.YtbjomhdhkpgbaaaGreatDoor
open Go Go.RowKit Go.Wk
attribute [local irreducible] W RL Does Zar Zal retQ Calls Pu Stp RD Qy Ay Zak RW
structure PG where
 k:Nat
 off:Int
def prV:Option Int->Value
 | none => .tuple #[.int .i64 0,.int .i64 5]
 | some o => .tuple #[.int .i64 o,.int .i64 0]
def us60:List Int:=[3600,60,1]
theorem ZAz {k:Nat}{u:Int}(h:us60[k]?=some u):1<=u/\u<=3600:=by
 unfold us60 at h
 match k,h with
 | 0,h=>simp only[List.getElem?_cons_zero,Option.some.injEq]at h;omega
 | 1,h=>simp only[List.getElem?_cons_succ,List.getElem?_cons_zero,Option.some.injEq]at h;omega
 | 2,h=>simp only[List.getElem?_cons_succ,List.getElem?_cons_zero,Option.some.injEq]at h;omega
 | k+3,h=>simp at h
theorem ZA0 (l:List UInt8)(h:l.length<=2){n:Int}(hn:numU l=some n):0<=n/\n<=99:=by
 have:=Znf l h
 rw[hn]at this
 obtain⟨u,_,rfl,h3⟩:=this
 omega
theorem Zw1 {G:Prop}(h:G:=by(first|(apply Za2;rfl;rfl;exact hb3)|(apply Zid;rfl;rfl;omega;omega;exact huv)|(apply ZeX;rfl;rfl;(constructor <;> omega))|(apply ZcJ;rfl;rfl;exact hbg))):G:=h
theorem Zw0 {G:Prop}(h:G:=by(apply Zhg;rfl;rfl;exact hb)):G:=h
theorem ZwZ {G:Prop}(h:G:=by(first|exact Zw0|(apply ZeN;rfl;rfl;exact hb2))):G:=h
theorem ZsI (s:ByteArray)(w:World)(hL:∀ w',Bel w.heap.size w w'->LibW w')(hs:s.size<=1000000000000) :
  Does Tryz.prog 143 [.string s] w (fun v O=>v=prV (Zb2 s.data.toList)/\O=[]):=by
 have hpre:=fun w'=>ZuF s ⟨#[45]⟩ w'
 have hsl:s.size=s.data.toList.length:=by simp
 have hemp:s=ByteArray.empty↔s.data.toList=[]:=⟨fun h=>by rw[h];rfl,fun h=>by
  apply ByteArray.ext
  rw[<- Array.toArray_toList (xs:=s.data),h]
  rfl⟩
 have hp0:([45]:List UInt8).isPrefixOf s.data.toList=decide (s.data.toList.head?=some 45):=by
  cases s.data.toList with
  | nil=>rfl
  | cons c l =>
   by_cases h:c=45
   ·subst h;simp
   ·rw[List.isPrefixOf,show((45:UInt8)==c)=false from beq_false_of_ne fun e=>h e.symm];simp[h]
 rw[show(⟨#[45]⟩:ByteArray).data.toList=[45] from rfl,hp0]at hpre
 obtain⟨r0,hr0⟩:∃ r0,Zgp s.data.toList [3600,60,1] 0 0=r0:=⟨_,rfl⟩
 unfold Zb2
 rw[hr0]
 refine Zaa Tryz.func143 rfl rfl rfl rfl ?_
 repeat (first|(apply RL_pu;rfl;(apply Zj8;rfl;rfl;(focus repeat (first|exact Nf.nil|apply Nf.cons))))|refine walkB1 ?_)
 refine ZBA (fun fr' O'=>∃ o:Int,r0=some o/\(0<=o/\o<=1200000)/\Sub [(0,.string s),(4,.int .i64 o)] fr') ?_ ?_
 ·apply W_block
  refine Zaq [(0,.string s),(9,.agg (us60.map (Value.int .i64)).toArray)] [] (fun g:PG=>[(4,.int .i64 g.off),(10,.int .i64 g.k)]) (fun _=>[]) (fun g=>g.k<=3/\(0<=g.off/\g.off<=400000*g.k)/\Zgp s.data.toList (us60.drop g.k) g.k g.off=r0) (fun g=>3 - g.k) ⟨0,0⟩ SFA .nil ⟨Nat.zero_le _,⟨Int.le_refl _,Int.le_refl _⟩,hr0⟩ ?_
  rintro⟨k,off⟩ ⟨hk,ho,hi⟩
  dsimp only at hk ho hi ⊢
  by_cases hk3:k<3
  ·have hb3:decide ((k:Int)<3)=true:=decide_eq_true (by omega)
   have hku:k<us60.length:=hk3
   have hu:=List.getElem?_eq_getElem hku
   rw[Zao hku,Zgp]at hi
   generalize us60[k]=u at *
   have hub:=ZAz hu
   have huv:(us60.map (Value.int .i64))[k]?=some (.int .i64 u):=by rw[List.getElem?_map,hu];rfl
   by_cases hge:s.data.toList.length<=1+2*k
   ·rw[if_pos hge]at hi
    have hbg:decide ((s.size:Int)<=1+2*k)=true:=decide_eq_true (by omega)
    repeat (first|(apply RL_pu;rfl;exact Zw1)|refine walk1 ?_)
    exact⟨off,hi.symm,⟨ho.1,OA⟩,SFA⟩
   ·rw[if_neg hge]at hi
    have hbg:decide ((s.size:Int)<=1+2*k)=false:=decide_eq_false (by omega)
    obtain⟨r,hr⟩:∃ r,s.extract (1+2*k) (min (1+2*k+2) s.size)=r:=⟨_,rfl⟩
    have hrl:r.data.toList=(s.data.toList.drop (1+2*k)).take 2:=by rw[<- hr];exact Zzk s _
    have hrs:r.size<=2:=by
     have:r.size=r.data.toList.length:=by simp
     rw[this,hrl,List.length_take]
     omega
    have hpu:=fun w' (hw:Bel w.heap.size w w')=>ZxY r w' (hL w' hw) hrs
    rw[hrl]at hpu
    have hmn:(if (s.size:Int)<3+2*k then (s.size:Int) else 3+2*k)=((min (1+2*k+2) s.size:Nat):Int):=by split <;> omega
    have hex:s.extract (1+2*(k:Int)).toNat ((min (1+2*k+2) s.size:Nat):Int).toNat=r:=by
     rw[<- hr]
     congr 1
    have hm1:1+2*(k:Int)<=((min (1+2*k+2) s.size:Nat):Int):=by omega
    have hm2:((min (1+2*k+2) s.size:Nat):Int)<=s.size:=by omega
    generalize min (1+2*k+2) s.size=mm at *
    cases hn:numU ((s.data.toList.drop (1+2*k)).take 2) with
    | none =>
     rw[hn]at hi hpu
     dsimp only at hi hpu
     subst hi
     repeat (first|(apply RL_pu;rfl;(first|exact Zw1|(apply Zj5;rfl;rfl;exact hmn)|(apply Zln;rfl;rfl;rfl;omega;exact hm1;exact hm2;exact hex)|(apply ZhO;exact⟨_,Tryz.underlying271⟩;rfl;exact .inr ⟨rfl,_,_,rfl⟩)))|(refine js ?_;(apply Zad (h:=fun w' hw _=>hpu w' hw);rfl;rintro v O' ⟨⟨tt,pp,rfl⟩,rfl⟩))|refine walk1 ?_)
     exact rtB
    | some n =>
     rw[hn]at hi hpu
     dsimp only at hi hpu
     have hnb:0<=n/\n<=99:=ZA0 _ (List.length_take_le _ _) hn
     ·have h1:0<=n*u:=Int.mul_nonneg hnb.1 (by omega)
      have h2:n*u<=99*3600:=Int.mul_le_mul hnb.2 hub.2 (by omega) (by omega)
      have hmul : -9223372036854775808<=n*u/\n*u<=9223372036854775807:=by omega
      generalize hnu:n*u=m at *
      repeat (first|(apply RL_pu;rfl;(first|(apply Za2;rfl;rfl;exact hb3)|(apply Zid;rfl;rfl;omega;omega;exact huv)|(apply ZBO;rfl;rfl;exact hnu;exact hmul)|(apply ZeX;rfl;rfl;(constructor <;> omega))|(apply ZcJ;rfl;rfl;exact hbg)|(apply Zj5;rfl;rfl;exact hmn)|(apply Zln;rfl;rfl;rfl;omega;exact hm1;exact hm2;exact hex)|(apply ZhO;exact⟨_,Tryz.underlying271⟩;rfl;exact .inl ⟨rfl,rfl⟩)))|(refine js ?_;(apply Zad (h:=fun w' hw _=>hpu w' hw);rfl;rintro v O' ⟨⟨rfl,_,_⟩,rfl⟩))|refine walk1 ?_)
      exact⟨⟨k+1,off+m⟩,OA,⟨OA,⟨by dsimp only;omega,by dsimp only;omega⟩,hi⟩,SFA,.nil⟩
  ·obtain rfl:k=3:=by omega
   have hb3:decide (((3:Nat):Int)<3)=false:=by decide
   rw[show us60.drop 3=[] from rfl,Zgp]at hi
   repeat (first|(apply RL_pu;rfl;(apply Za2;rfl;rfl;exact hb3))|refine walk1 ?_)
   exact⟨off,hi.symm,⟨ho.1,OA⟩,SFA⟩
 rintro fr' O' ⟨o,rfl,ho,hfr⟩
 refine ZcH hfr .nil ?_
 clear hfr fr' O' hr0
 dsimp only
 obtain⟨o2,ho2⟩:∃ o2,(if s.data.toList.head?=some 45 then -o else o)=o2:=⟨_,rfl⟩
 rw[ho2]
 refine W_seq ?_
 refine ZBA (fun fr' O'=>Sub [(0,.string s),(4,.int .i64 o2)] fr') ?_ ?_
 ·by_cases hm:s.data.toList.head?=some 45
  ·rw[if_pos hm]at ho2
   subst ho2
   rw[decide_eq_true hm]at hpre
   repeat (first|(apply RL_pu;rfl;(apply Zhe;rfl;(constructor <;> omega)))|(refine js ?_;(refine Zae (fun w' hw=>hpre w') ?_))|refine walk1 ?_)
   exact SFA
  ·rw[if_neg hm]at ho2
   subst ho2
   rw[decide_eq_false hm]at hpre
   repeat (first|(refine js ?_;(refine Zae (fun w' hw=>hpre w') ?_))|refine walk ?_)
   exact SFA
 intro fr' O' hfr
 refine ZcH hfr .nil ?_
 clear hfr fr' O' ho2
 have htx:=fun w'=>Ze9 o2 w'
 by_cases hE:s.data.toList=[]
 ·have hb:decide (s=ByteArray.empty)=true:=decide_eq_true (hemp.2 hE)
  rw[if_pos (.inl (by rw[hE];rfl))]
  repeat (first|(apply RL_pu;rfl;exact Zw0)|refine walk1 ?_)
  exact rtB
 ·have hb:decide (s=ByteArray.empty)=false:=decide_eq_false (fun h=>hE (hemp.1 h))
  by_cases ht:ZaT o2=s.data.toList
  ·have hb2:(!decide ((⟨(ZaT o2).toArray⟩:ByteArray)=s))=false:=by
    rw[decide_eq_true (by rw[ht])];rfl
   rw[if_neg (by rintro(h|h);exact hE (List.isEmpty_iff.1 h);exact h ht)]
   repeat (first|(apply RL_pu;rfl;exact ZwZ)|(refine js ?_;(refine Zae (fun w' hw=>htx w') ?_))|refine walk1 ?_)
   exact rtB
  ·have hb2:(!decide ((⟨(ZaT o2).toArray⟩:ByteArray)=s))=true:=by
    rw[decide_eq_false (fun h=>ht (by rw[<- h]))];rfl
   rw[if_pos (.inr ht)]
   repeat (first|(apply RL_pu;rfl;exact ZwZ)|(refine js ?_;(refine Zae (fun w' hw=>htx w') ?_))|refine walk1 ?_)
   exact rtB
open Go Go.RowKit Go.Wk Go.Lib
def I64 (n:Int):Prop := -9223372036854775808<=n/\n<=9223372036854775807
theorem Zo2 (a b:Int)(ha:I64 a)(hb:I64 b)(w:World):Does Tryz.prog 245 [.int .i64 a,.int .i64 b] w (fun v O=>v = .tuple #[.int .i64 (IntKind.i64.wrap (a+b)),.bool (ZdD (a+b))]/\O=[]):=by
 unfold I64 at ha hb
 have hd:(decide (a<IntKind.i64.wrap (a+b))==decide (0<b))=ZdD (a+b):=by
  unfold ZdD
  have hw:IntKind.i64.wrap (a+b)=if a+b < -9223372036854775808 then a+b+18446744073709551616 else if 9223372036854775807<a+b then a+b - 18446744073709551616 else a+b:=by
   rw[IntKind.wrap_i64]
   repeat' split
   all_goals omega
  rw[hw]
  rw[Bool.eq_iff_iff]
  simp only[beq_iff_eq,Bool.and_eq_true,decide_eq_true_eq]
  rw[decide_eq_decide]
  repeat' split
  all_goals omega
 refine Zaa Tryz.func245 rfl rfl rfl rfl ?_
 repeat (first|(apply RL_pu;rfl;(apply Zj9;rfl;rfl))|refine walk1 ?_)
 exact ret_2 _ _ [] (.tmp rfl) (.tmp rfl) .nil ⟨by rw[hd],rfl⟩
theorem Zvk (A:Option Addr)(c:Nat)(l:List ByteArray)(w:World)(hR:(It.row (.slice A l.length c) 9 1 l.length (l.flatMap Zav)).sat w)(hn:l.length<=1000000)(hlen:(Lib.join (l.map (·.data.toList)) [47]).length<=140737488355328) :
  Does Tryz.prog 246 [.slice A l.length c,.string ⟨#[47]⟩] w (fun v O=>v = .string ⟨(Lib.join (l.map (·.data.toList)) [47]).toArray⟩/\O=[]):=by
 have hcl:=fun j x hj=>Zcb hR (u:=x) (j:=j) hj
 obtain⟨hxl,⟨hv,_⟩|⟨b,cap,cur,hval,hb0,hg,hmc,hcm,hsz,hcur⟩⟩:=id hR
 ·injection hv with h1 h2 h3
  obtain rfl:=List.eq_nil_of_length_eq_zero h2
  subst h1 h3
  exact ZjI ((Any.strings_Join_none Zvl ZnJ none 0 ⟨#[47]⟩ w).mono fun e w' ⟨he,hw⟩=>⟨he,hw▸Below.refl _ _⟩)
 injection hval with hA h2 h3
 subst hA h3
 have hbw:b<w.heap.size:=(Array.getElem?_eq_some_iff.1 hg).1
 exact ZjI (Any.strings_Join Zvl ZnJ b 0 c l ⟨#[47]⟩ w (fun j x hj=>by
  have hg:=ZaK (enc:=Zav) (fun _=>rfl) l j x 0 (.string x) hj rfl
  have:=(hcl _ _ hg).2
  rw[show adr (some (⟨b,0,none⟩:Addr))=⟨b,0,none⟩ from rfl,Zcv]at this
  simpa using this) hbw (by omega) (by omega) hlen)
theorem ZlU:∀ (l:List (List UInt8)),Lib.join l [47]=Zcn l
 | []=>rfl
 | [x]=>by simp[Lib.join,Zcn]
 | x::y::l=>by
  have ih:=ZlU (y::l)
  unfold Lib.join at ih ⊢
  rw[show Zcn (x::y::l)=x++47::Zcn (y::l) from rfl,<- ih]
  simp[List.intercalate,List.intersperse]
def bsX (l:List (List UInt8)):List ByteArray:=l.map fun t=>⟨t.toArray⟩
theorem ZrN (l:List (List UInt8)):(bsX l).map (·.data.toList)=l:=by
 rw[bsX,List.map_map]
 exact(List.map_congr_left fun _ _=>rfl).trans (List.map_id l)
theorem ZiP:∀ (l:List (List UInt8)),(∀ t∈l,t.length<=1000)->(Zcn l).length<=1001*l.length
 | [],_=>Nat.le_refl _
 | [x],h=>by have:=h x List.mem_cons_self;simp only[Zcn,List.length_cons,List.length_nil];omega
 | x::y::l,h=>by
  have ih:=ZiP (y::l) fun t ht=>h t (List.mem_cons_of_mem _ ht)
  have:=h x List.mem_cons_self
  simp only[Zcn,List.length_append,List.length_cons]at ih ⊢
  omega
def jnV:Option (List (List UInt8))->Value
 | none => .tuple #[.string ByteArray.empty,.int .i64 3]
 | some r => .tuple #[.string ⟨(Zcn r).toArray⟩,.int .i64 0]
structure JG where
 k:Nat
 A:Option Addr
 c:Nat
 m:Nat
 ys:List Value
 acc:List (List UInt8)
theorem ZiJ (n:Int):(ZaT n).length<=7:=by
 unfold ZaT
 split
 ·simp
 ·simp only[List.length_cons,List.length_append,dig2,List.length_nil]
  repeat' split
  all_goals simp
theorem ZwY {G:Prop}(h:G:=by(first|exact PuI|(apply Zhg;rfl;rfl;exact hb))):G:=h
theorem Zjc (A:Option Addr)(c:Nat)(off:Int)(xs:List Int)(w:World)(hA:RdSl w A c iEnc 1 xs)(hoff:I64 off)(hxs:∀ x∈xs,I64 x)(hn:xs.length<=1000000) :
  Does Tryz.prog 206 [.int .i64 off,.slice A xs.length c] w (fun v O=>v=jnV (ZeB off xs)/\O=[]):=by
 obtain⟨res,hres⟩:∃ res,ZeB off xs=res:=⟨_,rfl⟩
 rw[hres]
 refine Zaa Tryz.func206 rfl rfl rfl rfl ?_
 repeat (first|(refine js ?_;(refine bx ?_;intro bk))|refine walk ?_)
 refine Zdj 9 1 ?_
 refine Zaq [(0,.int .i64 off),(12,.slice A xs.length c),(13,.int .i64 xs.length)] [] (fun g:JG=>[(6,.slice g.A g.m g.c),(14,.int .i64 g.k)]) (fun g=>[.row (.slice g.A g.m g.c) 9 1 g.m g.ys])
  (fun g=>g.k<=xs.length/\g.m=g.k/\g.m=g.acc.length/\g.ys=(bsX g.acc).flatMap Zav/\(∀ t∈g.acc,t.length<=1000)/\(ZeB off (xs.drop g.k)).map (g.acc++·)=res) (fun g=>xs.length - g.k) ⟨0,none,0,0,[],[]⟩ SFA SOA ⟨Nat.zero_le _,rfl,rfl,rfl,nofun,by rw[<- hres];dsimp only;rw[List.drop_zero];cases ZeB off xs <;> rfl⟩ ?_
 rintro⟨k,A1,c1,m,ys,acc⟩ ⟨hk,hmk,hm,hy,ht,hi⟩
 dsimp only at hk hmk hm hy ht hi ⊢
 repeat (first|(refine js ?_;(refine bx ?_;intro bk))|refine walk ?_)
 refine Zah rfl (fun hc=>?_) (fun hc=>?_)
 ·simp only[decide_eq_true_eq,Int.ofNat_lt]at hc
  obtain⟨hna,hca⟩:=hA.rd k _ (List.getElem?_eq_getElem hc)
  have hxk:=hxs _ (List.getElem_mem hc)
  rw[Zao hc,ZeB]at hi
  generalize xs[k]=x at *
  have hsm:=fun w'=>Zo2 off x hoff hxk w'
  have htl:=ZiJ (off+x)
  cases hok:ZdD (off+x) with
  | false =>
   rw[if_pos (.inl hok)]at hi
   subst hi
   rw[hok]at hsm
   have htx:=fun w'=>Ze9 (IntKind.i64.wrap (off+x)) w'
   repeat (first|(apply RL_pu;rfl;exact PuI)|(refine js ?_;(first|(refine Zae (fun w' hw=>hsm w') ?_)|(refine Zae (fun w' hw=>htx w') ?_)|(refine bx ?_;intro bk)))|refine walk1 ?_)
   exact rtB
  | true =>
   have hwr:IntKind.i64.wrap (off+x)=off+x:=ZbS (by simpa[ZdD] using hok)
   rw[hok,hwr]at hsm
   have htx:=fun w'=>Ze9 (off+x) w'
   generalize ZaT (off+x)=tt at *
   by_cases he:tt=[]
   ·rw[if_pos (.inr he)]at hi
    subst hi
    subst he
    have hb:decide ((⟨([]:List UInt8).toArray⟩:ByteArray)=ByteArray.empty)=true:=by decide
    repeat (first|(apply RL_pu;rfl;exact ZwY)|(refine js ?_;(first|(refine Zae (fun w' hw=>hsm w') ?_)|(refine Zae (fun w' hw=>htx w') ?_)|(refine bx ?_;intro bk)))|refine walk1 ?_)
    exact rtB
   ·rw[if_neg (by rintro(h|h);rw[hok]at h;cases h;exact he h)]at hi
    have hb:decide ((⟨tt.toArray⟩:ByteArray)=ByteArray.empty)=false:=decide_eq_false (fun h=>he (by simpa using congrArg (fun b:ByteArray=>b.data.toList) h))
    repeat (first|(apply RL_pu;rfl;exact ZwY)|(refine js ?_;(first|(refine Zae (fun w' hw=>hsm w') ?_)|(refine Zae (fun w' hw=>htx w') ?_)|(apply Zay;rfl;rfl;(intro A' c';(focus repeat' constructor));(intro w' _ hO;exact Zbv (hO.of (by repeat' constructor)));rfl;rfl;(simp only[maxLen];omega);omega;intro A' c' hc1 hc2 hc3)|(refine bx ?_;intro bk)))|refine walk1 ?_)
    exact⟨⟨k+1,A',c',m+1,ys++[.string ⟨tt.toArray⟩],acc++[tt]⟩,OA,⟨OA,OA,by simp[hm],by rw[hy];simp[bsX,Zav],by
     intro t htm
     rcases List.mem_append.1 htm with h|h
     ·exact ht t h
     ·simp only[List.mem_singleton]at h;subst h;omega,by
     rw[<- hi]
     cases ZeB off (xs.drop (k+1)) with
     | none=>rfl
     | some r=>simp⟩,SFA,SOA⟩
 ·simp only[decide_eq_false_iff_not,Int.ofNat_lt]at hc
  rw[List.drop_eq_nil_of_le (by omega),ZeB]at hi
  simp only[Option.map_some,List.append_nil]at hi
  subst hi hy
  have hbl:(bsX acc).length=m:=by rw[hm];simp[bsX]
  have hj:=fun w' h=>Zvk A1 c1 (bsX acc) w' h (by omega) (by
   rw[ZrN,ZlU]
   have:=ZiP acc ht
   omega)
  rw[ZrN,ZlU,hbl]at hj
  repeat (first|(refine js ?_;(first|(refine ZaX (fun w' hw hO=>hj w' (hO.of (A := .row (.slice A1 m c1) 9 1 m ((bsX acc).flatMap Zav)) (by repeat' constructor))) ?_)|(refine bx ?_;intro bk)))|refine walk ?_)
  exact rtB
def xpV (x:List UInt8 × Int):Value := .tuple #[.string ⟨x.1.toArray⟩,.int .i64 x.2]
theorem ZkK:∀ (l:List Zab)(x:Int),(∀ r∈l,I64 r.save)->I64 x->I64 (Zc5 l x).1
 | [],_,_,hx=>hx
 | r::l,x,h,hx=>by
  have hr:=h r List.mem_cons_self
  have ht:=fun y=>ZkK l y fun s hs=>h s (List.mem_cons_of_mem _ hs)
  unfold Zc5
  split
  ·exact ht x hx
  ·split
   ·exact⟨by decide,by decide⟩
   ·exact ht _ hr
def anyS (l:List Zab):Bool:=l.any fun r => !decide (r.save=0)
theorem Zqx {G:Prop}(h:G:=by(apply ZaA;rfl;rfl;exact hb0)):G:=h
theorem Zmw {G:Prop}(h:G:=by(first|exact Zqx|(apply ZaA;rfl;rfl;exact hb1))):G:=h
theorem Zgt (e:DEra)(A:Option Addr)(c:Nat)(l:List Zab)(w:World)(hA:RdSl w A c Zab.enc 11 l)(ho:I64 e.off)(hs:I64 e.save)(hr:∀ r∈l,I64 r.save)(hn:l.length<=1000000) :
  Does Tryz.prog 177 [.agg e.enc.toArray,.slice A l.length c] w (fun v O=>v=xpV (Zbi e l)/\O=[]):=by
 have h1:=fun(x:Int) (hx:I64 x) (bk:Nat) w' (hc:Zam w' ⟨bk,0,none⟩ [.int .i64 x])=>Zjc (some ⟨bk,0,none⟩) 1 e.off [x] w' (Zp3 (fun _=>rfl) (Nat.le_refl 1) (by decide) hc) ho (fun y hy=>by simp only[List.mem_singleton]at hy;subst hy;exact hx) (by simp)
 have h2:=fun(x:Int) (hx:I64 x) (bk:Nat) w' (hc:Zam w' ⟨bk,0,none⟩ [.int .i64 0,.int .i64 x])=>Zjc (some ⟨bk,0,none⟩) 2 e.off [0,x] w' (Zp3 (fun _=>rfl) (Nat.le_refl 2) (by decide) hc) ho (fun y hy=>by
  simp only[List.mem_cons,List.not_mem_nil,or_false]at hy
  rcases hy with rfl|rfl
  ·exact⟨by decide,by decide⟩
  ·exact hx) (by simp)
 have hot:=fun w' (hw:Bel w.heap.size w w')=>Zhu A c l w' (hA.up hw)
 have hx:=ZkK l 0 hr ⟨by decide,by decide⟩
 rw[show Zc5 l 0=Zbo l from rfl]at hx
 obtain⟨off,kind,save,set,format,til⟩:=e
 unfold Zbi
 dsimp only at ho hs h1 h2 ⊢
 refine Zaa Tryz.func177 rfl rfl rfl rfl ?_
 simp only[DEra.enc]
 by_cases hk0:kind=0
 ·subst hk0
  rw[if_pos rfl]
  have hj1:=h1 0 ⟨by decide,by decide⟩
  generalize ZeB off [0]=j at *
  cases j with
  | none =>
   simp only[jnV]at hj1
   repeat (first|(refine js ?_;(first|(apply Zad (h:=fun w' _ hH=>hj1 _ w' (hH.cells (by repeat' constructor)));rfl;rintro v O' ⟨rfl,rfl⟩)|(refine bx ?_;intro bk)))|refine walk ?_)
   exact rtB
  | some r =>
   simp only[jnV]at hj1
   repeat (first|(refine js ?_;(first|(apply Zad (h:=fun w' _ hH=>hj1 _ w' (hH.cells (by repeat' constructor)));rfl;rintro v O' ⟨rfl,rfl⟩)|(refine bx ?_;intro bk)))|refine walk ?_)
   exact rtB
 have hb0:decide (kind=0)=false:=decide_eq_false hk0
 rw[if_neg hk0]
 by_cases hk1:kind=1
 ·subst hk1
  rw[if_pos rfl]
  have hj1:=h1 save hs
  generalize ZeB off [save]=j at *
  cases j with
  | none =>
   simp only[jnV]at hj1
   repeat (first|(apply RL_pu;rfl;exact Zqx)|(refine js ?_;(first|(apply Zad (h:=fun w' _ hH=>hj1 _ w' (hH.cells (by repeat' constructor)));rfl;rintro v O' ⟨rfl,rfl⟩)|(refine bx ?_;intro bk)))|refine walk1 ?_)
   exact rtB
  | some r =>
   simp only[jnV]at hj1
   repeat (first|(apply RL_pu;rfl;exact Zqx)|(refine js ?_;(first|(apply Zad (h:=fun w' _ hH=>hj1 _ w' (hH.cells (by repeat' constructor)));rfl;rintro v O' ⟨rfl,rfl⟩)|(refine bx ?_;intro bk)))|refine walk1 ?_)
   exact rtB
 have hb1:decide (kind=1)=false:=decide_eq_false hk1
 rw[if_neg hk1]
 by_cases hk2:kind=2
 ·subst hk2
  rw[if_pos rfl]
  generalize Zbo l=od at *
  obtain⟨ox,ob⟩:=od
  dsimp only at hx hot ⊢
  cases ob with
  | true =>
   have hj1:=h2 ox hx
   rw[if_pos rfl]
   generalize ZeB off [0,ox]=j at *
   cases j with
   | none =>
    simp only[jnV]at hj1
    repeat (first|(apply RL_pu;rfl;exact Zmw)|(refine js ?_;(first|(refine Zae hot ?_)|(apply Zad (h:=fun w' _ hH=>hj1 _ w' (hH.cells (by repeat' constructor)));rfl;rintro v O' ⟨rfl,rfl⟩)|(refine bx ?_;intro bk)))|refine walk1 ?_)
    exact rtB
   | some r =>
    simp only[jnV]at hj1
    repeat (first|(apply RL_pu;rfl;exact Zmw)|(refine js ?_;(first|(refine Zae hot ?_)|(apply Zad (h:=fun w' _ hH=>hj1 _ w' (hH.cells (by repeat' constructor)));rfl;rintro v O' ⟨rfl,rfl⟩)|(refine bx ?_;intro bk)))|refine walk1 ?_)
    exact rtB
  | false =>
   rw[if_neg (by decide)]
   obtain⟨an,han⟩:∃ an,anyS l=an:=⟨_,rfl⟩
   rw[show(l.any fun r => !decide (r.save=0))=an from han]
   repeat (first|(apply RL_pu;rfl;exact Zmw)|(refine js ?_;(first|(refine Zae hot ?_)|(refine bx ?_;intro bk)))|refine walk1 ?_)
   obtain⟨b2,hb2⟩:∃ b2,bk=b2:=⟨_,rfl⟩
   rw[hb2]
   clear hb2 bk
   refine Zaq [(2,.pointer (some ⟨b2,0,none⟩)),(45,.slice A l.length c),(46,.int .i64 l.length)] [.blk b2 [.int .i64 off,.int .i64 2,.int .i64 save,.string set,.string format,.bool til.is,.int .i64 til.year,.int .i64 til.month,.int .i64 til.day.kind,.int .i64 til.day.week,.int .i64 til.day.day,.int .i64 til.at_.sec,.int .i64 til.at_.base] 54] (fun k:Nat=>[(47,.int .i64 k)]) (fun _=>[]) (fun k=>k<=l.length/\anyS (l.drop k)=an) (fun k=>l.length - k) 0 SFA SOA ⟨Nat.zero_le _,han⟩ ?_
   rintro k ⟨hk,hi⟩
   repeat (first|(refine js ?_;(refine bx ?_;intro bk))|refine walk ?_)
   refine Zah rfl (fun hc=>?_) (fun hc=>?_)
   ·simp only[decide_eq_true_eq,Int.ofNat_lt]at hc
    obtain⟨hna,hca⟩:=hA.rd k _ (List.getElem?_eq_getElem hc)
    rw[Zao hc,anyS,List.any_cons]at hi
    generalize l[k]=r at *
    repeat (first|(apply RL_pu;rfl;exact PuI)|(refine js ?_;(refine bx ?_;intro bk))|refine walk1 ?_)
    refine Zah rfl (fun h3=>?_) (fun h3=>?_)
    ·rw[h3]at hi
     simp only[Bool.true_or]at hi
     subst hi
     rw[if_pos rfl]
     repeat (first|(refine js ?_;(refine bx ?_;intro bk))|refine walk ?_)
     exact rtB
    ·rw[h3,Bool.false_or]at hi
     repeat (first|(refine js ?_;(refine bx ?_;intro bk))|refine walk ?_)
     exact⟨k+1,OA,⟨OA,hi⟩,SFA,SOA⟩
   ·simp only[decide_eq_false_iff_not,Int.ofNat_lt]at hc
    rw[List.drop_eq_nil_of_le (by omega)]at hi
    subst hi
    rw[show anyS []=false from rfl,if_neg (by decide)]
    have hj1:=h1 0 ⟨by decide,by decide⟩
    generalize ZeB off [0]=j at *
    cases j with
    | none =>
     simp only[jnV]at hj1
     repeat (first|(refine js ?_;(first|(apply Zad (h:=fun w' _ hH=>hj1 _ w' (hH.cells (by repeat' constructor)));rfl;rintro v O' ⟨rfl,rfl⟩)|(refine bx ?_;intro bk)))|refine walk ?_)
     exact rtB
    | some r =>
     simp only[jnV]at hj1
     repeat (first|(refine js ?_;(first|(apply Zad (h:=fun w' _ hH=>hj1 _ w' (hH.cells (by repeat' constructor)));rfl;rintro v O' ⟨rfl,rfl⟩)|(refine bx ?_;intro bk)))|refine walk ?_)
     exact rtB
 have hb2:decide (kind=2)=false:=decide_eq_false hk2
 rw[if_neg hk2]
 repeat (first|(apply RL_pu;rfl;(first|exact Zmw|(apply ZaA;rfl;rfl;exact hb2)))|(refine js ?_;(refine bx ?_;intro bk))|refine walk1 ?_)
 exact rtB
theorem LibW.up {w w':World}(h:LibW w)(hb:Bel w.heap.size w w'):LibW w' where
 mxl:=by
  obtain⟨m,hm⟩:=h.mxl
  exact⟨m,(hb.cell (World.block_lt_of_cell? w _ hm)).trans hm⟩
 syn:=by
  obtain⟨ev,h1,h2⟩:=h.syn
  exact⟨ev,(hb.cell (World.block_lt_of_cell? w _ h1)).trans h1,h2⟩
theorem ZlV (s:ByteArray)(w:World)(hL:LibW w)(hs:s.size<=1000000000000):Does Tryz.prog 101 [.string s] w (fun v O=>v = .bool (Zb2 s.data.toList).isSome/\O=[]):=by
 have hp:=fun w' (hw:Bel w.heap.size w w')=>ZsI s w' (fun w2 hw2=>(hL.up hw).up hw2) hs
 refine Zaa Tryz.func101 rfl rfl rfl rfl ?_
 generalize Zb2 s.data.toList=o at *
 cases o with
 | none =>
  simp only[prV]at hp
  repeat (first|(refine js ?_;(refine Zae hp ?_))|refine walk ?_)
  exact rtA
 | some x =>
  simp only[prV]at hp
  repeat (first|(refine js ?_;(refine Zae hp ?_))|refine walk ?_)
  exact rtA
theorem Zl5 (f p:List UInt8):(cutV f p).1.length+(cutV f p).2.1.length<=f.length:=by
 unfold cutV
 split
 ·rename_i a b h
  have:=Zn5 h
  simp only[List.length_nil]at this
  dsimp only
  omega
 ·simp
def arV (l:List UInt8):Value := .tuple #[.string ⟨(cutV l [37,115]).1.toArray⟩,.string ⟨(cutV l [37,115]).2.1.toArray⟩,.bool (Zcu l).isSome]
theorem ZCE (l:List UInt8):(Zcu l).isSome=((cutV l [37,115]).2.2&&(ZdB ((cutV l [37,115]).1++(cutV l [37,115]).2.1)&&decide (((cutV l [37,115]).1++(cutV l [37,115]).2.1).length<=5))):=by
 unfold Zcu cutV
 cases Zc8 [37,115] l [] with
 | none=>rfl
 | some ab =>
  obtain⟨a,b⟩:=ab
  dsimp only
  by_cases h1:ZdB (a++b)=true
  ·by_cases h2:(a++b).length<=5
   ·rw[if_pos ⟨h1,h2⟩,h1,decide_eq_true h2];rfl
   ·rw[if_neg (fun h=>h2 h.2),decide_eq_false h2,Bool.and_false,Bool.and_false];rfl
  ·rw[if_neg (fun h=>h1 h.1),show ZdB (a++b)=false from by simpa using h1,Bool.false_and,Bool.and_false];rfl
theorem ZBT {G:Prop}(h:G:=by(first|(apply Zfz;rfl;rfl;exact hss)|(apply Za2;rfl;rfl;exact hil)|(apply ZeP;rfl;rfl;exact h5))):G:=h
theorem ZoO {G G':Prop}(k:G')(h:Hold G'->G:=by intro k9;(first|(apply RL_pu;rfl;exact ZBT)|(refine js ?_;(first|(refine Zae hc ?_)|(refine Zae (fun w' hw=>hix w') ?_)))|refine walk1 ?_);exact k9.out):G:=h ⟨k⟩
theorem ZjZ (f:ByteArray)(w:World)(hL:LibW w)(hs:f.size<=1000000000):Does Tryz.prog 99 [.string f] w (fun v O=>v=arV f.data.toList/\O=[]):=by
 have hc:=fun w' (hw:Bel w.heap.size w w')=>Zl4 f ⟨#[37,115]⟩ w' (hL.up hw) (by omega)
 rw[show(⟨#[37,115]⟩:ByteArray).data.toList=[37,115] from rfl]at hc
 have hl:=Zl5 f.data.toList [37,115]
 have hfs:f.data.toList.length=f.size:=by simp
 rw[hfs]at hl
 unfold arV
 rw[ZCE]
 obtain⟨ab,hab⟩:∃ ab,cutV f.data.toList [37,115]=ab:=⟨_,rfl⟩
 rw[hab]at hc hl ⊢
 obtain⟨a,b,ok⟩:=ab
 dsimp only at hc hl ⊢
 have hix:=fun w'=>Zyw (⟨a.toArray⟩++⟨b.toArray⟩) w'
 have hd:((⟨a.toArray⟩:ByteArray)++⟨b.toArray⟩).data.toList=a++b:=by simp
 have hs1:(⟨a.toArray⟩:ByteArray).size=a.length:=by show a.toArray.size=a.length;simp
 have hs2:(⟨b.toArray⟩:ByteArray).size=b.length:=by show b.toArray.size=b.length;simp
 have hsz:((⟨a.toArray⟩:ByteArray)++⟨b.toArray⟩).size=(a++b).length:=by rw[ByteArray.size_append,hs1,hs2,List.length_append]
 have h1:=Zvr ((⟨a.toArray⟩:ByteArray)++⟨b.toArray⟩) ((⟨a.toArray⟩:ByteArray)++⟨b.toArray⟩).size 0 (by omega)
 rw[List.drop_zero,hd]at h1
 have hil:decide (idxFunc (fun r=>Zec (r:Int)) true ((⟨a.toArray⟩:ByteArray)++⟨b.toArray⟩)<0)=ZdB (a++b):=by
  rw[Bool.eq_iff_iff,decide_eq_true_eq]
  exact h1
 have h5:decide (((((⟨a.toArray⟩:ByteArray)++⟨b.toArray⟩).size:Nat):Int)<=5)=decide ((a++b).length<=5):=by
  rw[decide_eq_decide]
  omega
 have hss:(⟨a.toArray⟩:ByteArray).size+(⟨b.toArray⟩:ByteArray).size<=9223372036854775807:=by omega
 clear h1
 generalize idxFunc (fun r=>Zec (r:Int)) true ((⟨a.toArray⟩:ByteArray)++⟨b.toArray⟩)=i at *
 generalize ZdB (a++b)=lt at *
 generalize decide ((a++b).length<=5)=l5 at *
 refine Zaa Tryz.func99 rfl rfl rfl rfl ?_
 cases ok with
 | false =>
  repeat refine ZoO ?_
  exact Zgn _ _ _ [] (.tmp rfl) (.tmp rfl) (.tmp rfl) .nil ⟨rfl,rfl⟩
 | true =>
  cases lt with
  | false =>
   repeat refine ZoO ?_
   exact Zgn _ _ _ [] (.tmp rfl) (.tmp rfl) (.tmp rfl) .nil ⟨rfl,rfl⟩
  | true =>
   repeat refine ZoO ?_
   exact Zgn _ _ _ [] (.tmp rfl) (.tmp rfl) (.tmp rfl) .nil ⟨rfl,rfl⟩
def ZnF (ab0 ok ab1 ab2 ar q4 i0 i1 i2:Bool):Int:=if ab0 then 1 else if ok&&(ab1&&ab2) then 2 else if ar then 3 else if q4 then 4 else if i0||(ok&&(i1&&i2)) then 5 else 0
theorem Zri (l:List UInt8):ZaP l=ZnF (Zdi l) (cutV l [47]).2.2 (Zdi (cutV l [47]).1) (Zdi (cutV l [47]).2.1) (Zcu l).isSome (decide (l=[37,122])) (Zb2 l).isSome (Zb2 (cutV l [47]).1).isSome (Zb2 (cutV l [47]).2.1).isSome:=by
 unfold ZaP ZnF cutV
 cases Zc8 [47] l [] with
 | none=>simp
 | some ab=>simp
theorem Zfo (f:ByteArray)(w:World)(hL:LibW w)(hs:f.size<=1000000000):Does Tryz.prog 59 [.string f] w (fun v O=>v = .int .i64 (ZaP f.data.toList)/\O=[]):=by
 have hc:=fun w' (hw:Bel w.heap.size w w')=>Zl4 f ⟨#[47]⟩ w' (hL.up hw) (by omega)
 rw[show(⟨#[47]⟩:ByteArray).data.toList=[47] from rfl]at hc
 have hl:=Zl5 f.data.toList [47]
 have hfs:f.data.toList.length=f.size:=by simp
 rw[hfs]at hl
 have har:=fun w' (hw:Bel w.heap.size w w')=>ZjZ f w' (hL.up hw) hs
 unfold arV at har
 rw[Zri]
 have hq:decide (f=⟨#[37,122]⟩)=decide (f.data.toList=[37,122]):=by
  rw[decide_eq_decide]
  exact⟨fun h=>by rw[h],fun h=>by
   apply ByteArray.ext
   rw[<- Array.toArray_toList (xs:=f.data),h]⟩
 obtain⟨ab,hab⟩:∃ ab,cutV f.data.toList [47]=ab:=⟨_,rfl⟩
 rw[hab]at hc hl ⊢
 obtain⟨a,b,ok⟩:=ab
 dsimp only at hc hl ⊢
 have hs1:(⟨a.toArray⟩:ByteArray).size=a.length:=by show a.toArray.size=a.length;simp
 have hs2:(⟨b.toArray⟩:ByteArray).size=b.length:=by show b.toArray.size=b.length;simp
 have a0:=fun w'=>Zg7 f (by omega) w'
 have a1:=fun w'=>Zg7 ⟨a.toArray⟩ (by omega) w'
 have a2:=fun w'=>Zg7 ⟨b.toArray⟩ (by omega) w'
 have i0:=fun w' (hw:Bel w.heap.size w w')=>ZlV f w' (hL.up hw) (by omega)
 have i1:=fun w' (hw:Bel w.heap.size w w')=>ZlV ⟨a.toArray⟩ w' (hL.up hw) (by omega)
 have i2:=fun w' (hw:Bel w.heap.size w w')=>ZlV ⟨b.toArray⟩ w' (hL.up hw) (by omega)
 rw[show Ztw f=Zdi f.data.toList from rfl]at a0
 rw[show Ztw ⟨a.toArray⟩=Zdi a from rfl]at a1
 rw[show Ztw ⟨b.toArray⟩=Zdi b from rfl]at a2
 rw[show(⟨a.toArray⟩:ByteArray).data.toList=a from rfl]at i1
 rw[show(⟨b.toArray⟩:ByteArray).data.toList=b from rfl]at i2
 generalize Zdi f.data.toList=A0 at *
 generalize Zdi a=A1 at *
 generalize Zdi b=A2 at *
 generalize (Zb2 f.data.toList).isSome=I0 at *
 generalize (Zb2 a).isSome=I1 at *
 generalize (Zb2 b).isSome=I2 at *
 generalize (Zcu f.data.toList).isSome=ar at *
 generalize decide (f.data.toList=[37,122])=q4 at *
 refine Zaa Tryz.func59 rfl rfl rfl rfl ?_
 repeat' (first|(apply RL_pu;rfl;(apply Zhg;rfl;rfl;exact hq))|(refine js ?_;(first|(refine Zae hc ?_)|(refine Zae har ?_)|(refine Zae (fun w' hw=>a0 w') ?_)|(refine Zae (fun w' hw=>a1 w') ?_)|(refine Zae (fun w' hw=>a2 w') ?_)|(refine Zae i0 ?_)|(refine Zae i1 ?_)|(refine Zae i2 ?_)))|refine walk1 ?_|refine und ?_|(refine Zax rfl rfl rfl (fun hc=>?_) (fun hc=>?_))|(refine Zaw rfl rfl rfl (fun hc=>?_) (fun hc=>?_))|(refine Zah rfl (fun hc=>?_) (fun hc=>?_)))
 all_goals first|(refine ret_1 _ [] (.tmp rfl) .nil ⟨?_,rfl⟩;first|rfl|(simp only[*,Bool.true_and,Bool.false_and,Bool.true_or,Bool.false_or,Bool.not_true,Bool.not_false];done)|(simp_all [ZnF];done)|(simp_all [ZnF];omega)|(simp_all [ZnF];rw[Bool.eq_iff_iff];simp;omega))|(exfalso;simp_all [ZnF];done)|(exfalso;simp_all [ZnF];omega)|(exfalso;omega)
end Go.Proofs.YtbjomhdhkpgbaaaGreatDoor
namespace Go.Wk
open Go Go.RowKit
end Go.Wk
namespace Go.Proofs.YtbjomhdhkpgbaaaGreatDoor
open Go Go.RowKit Go.Wk Go.Lib
attribute [local irreducible] W RL Does Zar Zal retQ Calls Pu Stp RD Qy Ay Zak RW
def ptsV:Option (List UInt8 × List UInt8)->Value
 | none => .tuple #[.string ByteArray.empty,.string ByteArray.empty,.bool false]
 | some (a,b) => .tuple #[.string ⟨a.toArray⟩,.string ⟨b.toArray⟩,.bool true]
theorem ZuH (l:List UInt8):Zbk l=if (cutV l [47]).2.2=true/\(ZaP l=2\/ZaP l=5) then some ((cutV l [47]).1,(cutV l [47]).2.1) else none:=by
 unfold Zbk cutV
 cases Zc8 [47] l [] with
 | none=>simp
 | some ab=>simp
theorem Zyt (l:List UInt8)(h:ZaP l=3):Zcu l=some ((cutV l [37,115]).1,(cutV l [37,115]).2.1):=by
 have hs:(Zcu l).isSome=true:=by
  rw[Zri]at h
  unfold ZnF at h
  cases hx:(Zcu l).isSome with
  | true=>rfl
  | false =>
   rw[hx]at h
   exfalso
   revert h
   repeat' split
   all_goals first|decide|(intro h;omega)|simp_all
 unfold Zcu cutV at *
 cases hc:Zc8 [37,115] l [] with
 | none=>rw[hc]at hs;cases hs
 | some ab =>
  rw[hc]at hs
  dsimp only at hs ⊢
  split at hs
  ·rename_i h1;rw[if_pos h1]
  ·cases hs
theorem Zxg {G:Prop}(h:G:=by(first|(apply Zmu;rfl;rfl;exact hw)|(apply Za3;rfl;rfl;exact b1)|(apply Za3;rfl;rfl;exact b2)|(apply ZaH;rfl;rfl;exact b3))):G:=h
theorem Zxf {G:Prop}(h:G:=by(first|(apply Zmu;rfl;rfl;exact hw)|(apply Za3;rfl;rfl;exact b1)|(apply Za3;rfl;rfl;exact b2))):G:=h
theorem Zj2 (a b:Int)(ha:I64 a)(hb:I64 b)(w:World):Does Tryz.prog 116 [.int .i64 a,.int .i64 b] w (fun v O=>v = .tuple #[.int .i64 (if ZdD (a+b) then a+b else 0),.bool (ZdD (a+b))]/\O=[]):=by
 unfold I64 at ha hb
 have hw:IntKind.i64.wrap (a+b)=if a+b < -9223372036854775808 then a+b+18446744073709551616 else if 9223372036854775807<a+b then a+b - 18446744073709551616 else a+b:=by
  rw[IntKind.wrap_i64]
  repeat' split
  all_goals omega
 refine Zaa Tryz.func116 rfl rfl rfl rfl ?_
 by_cases hlo:a+b < -9223372036854775808
 ·rw[if_pos hlo]at hw
  have hok:ZdD (a+b)=false:=by unfold ZdD;rw[decide_eq_false (by omega)];rfl
  have b1:decide (a<a+b+18446744073709551616)=true:=decide_eq_true (by omega)
  have b2:decide (0<b)=false:=decide_eq_false (by omega)
  have b3:(!decide (b=0))=true:=by rw[decide_eq_false (by omega)];rfl
  rw[hok]
  repeat (first|(apply RL_pu;rfl;exact Zxg)|refine walk1 ?_)
  exact rtB
 rw[if_neg hlo]at hw
 by_cases hhi:9223372036854775807<a+b
 ·rw[if_pos hhi]at hw
  have hok:ZdD (a+b)=false:=by unfold ZdD;rw[decide_eq_false (show ¬ a+b<=9223372036854775807 by omega),Bool.and_false]
  have b1:decide (a<a+b - 18446744073709551616)=false:=decide_eq_false (by omega)
  have b2:decide (0<b)=true:=decide_eq_true (by omega)
  have b3:(!decide (b=0))=true:=by rw[decide_eq_false (by omega)];rfl
  rw[hok]
  repeat (first|(apply RL_pu;rfl;exact Zxg)|refine walk1 ?_)
  exact rtB
 rw[if_neg hhi]at hw
 have hok:ZdD (a+b)=true:=by unfold ZdD;rw[decide_eq_true (by omega),decide_eq_true (by omega)];rfl
 rw[hok,if_pos rfl]
 by_cases hp:0<b
 ·have b1:decide (a<a+b)=true:=decide_eq_true (by omega)
  have b2:decide (0<b)=true:=decide_eq_true hp
  repeat (first|(apply RL_pu;rfl;exact Zxf)|refine walk1 ?_)
  exact rtB
 ·have b1:decide (a<a+b)=false:=decide_eq_false (by omega)
  have b2:decide (0<b)=false:=decide_eq_false hp
  repeat (first|(apply RL_pu;rfl;exact Zxf)|refine walk1 ?_)
  exact rtB
theorem Zxe {G:Prop}(h:G:=by(apply ZaH;rfl;rfl;exact b2)):G:=h
theorem ZkJ (f:ByteArray)(w:World)(hL:LibW w)(hs:f.size<=1000000000):Does Tryz.prog 114 [.string f] w (fun v O=>v=ptsV (Zbk f.data.toList)/\O=[]):=by
 have hc:=fun w' (hw:Bel w.heap.size w w')=>Zl4 f ⟨#[47]⟩ w' (hL.up hw) (by omega)
 rw[show(⟨#[47]⟩:ByteArray).data.toList=[47] from rfl]at hc
 have hk:=fun w' (hw:Bel w.heap.size w w')=>Zfo f w' (hL.up hw) hs
 rw[ZuH]
 generalize ZaP f.data.toList=K at *
 generalize cutV f.data.toList [47]=ab at *
 obtain⟨a,b,ok⟩:=ab
 dsimp only at hc ⊢
 refine Zaa Tryz.func114 rfl rfl rfl rfl ?_
 cases ok with
 | false =>
  rw[if_neg (by rintro⟨h,_⟩;cases h)]
  repeat (first|refine und ?_|(refine js ?_;(first|(refine Zae hc ?_)|(refine Zae hk ?_)))|refine walk ?_)
  exact Zgn _ _ _ [] (.tmp rfl) (.tmp rfl) (.tmp rfl) .nil ⟨rfl,rfl⟩
 | true =>
  by_cases h2:K=2
  ·subst h2
   rw[if_pos ⟨rfl,.inl rfl⟩]
   repeat (first|(refine js ?_;(first|(refine Zae hc ?_)|(refine Zae hk ?_)))|refine walk ?_)
   exact Zgn _ _ _ [] (.tmp rfl) (.tmp rfl) (.tmp rfl) .nil ⟨rfl,rfl⟩
  ·have b2:(!decide (K=2))=true:=by rw[decide_eq_false h2];rfl
   by_cases h5:K=5
   ·subst h5
    rw[if_pos ⟨rfl,.inr rfl⟩]
    repeat (first|(apply RL_pu;rfl;exact Zxe)|(refine js ?_;(first|(refine Zae hc ?_)|(refine Zae hk ?_)))|refine walk1 ?_)
    exact Zgn _ _ _ [] (.tmp rfl) (.tmp rfl) (.tmp rfl) .nil ⟨rfl,rfl⟩
   ·have b5:(!decide (K=5))=true:=by rw[decide_eq_false h5];rfl
    rw[if_neg (by rintro⟨_,h|h⟩;exact h2 h;exact h5 h)]
    repeat (first|(apply RL_pu;rfl;(first|exact Zxe|(apply ZaH;rfl;rfl;exact b5)))|(refine js ?_;(first|(refine Zae hc ?_)|(refine Zae hk ?_)))|refine walk1 ?_)
    exact Zgn _ _ _ [] (.tmp rfl) (.tmp rfl) (.tmp rfl) .nil ⟨rfl,rfl⟩
theorem Zlc (s:ByteArray):(⟨s.data.toList.toArray⟩:ByteArray)=s:=by
 apply ByteArray.ext
 simp
theorem Zxd {G:Prop}(h:G:=by(apply ZaA;rfl;rfl;exact hb0)):G:=h
theorem Zkd {G:Prop}(h:G:=by(first|(apply Zfz;rfl;rfl;exact q1)|(apply Zfz;rfl;rfl;exact q2))):G:=h
theorem Zqj {G:Prop}(h:G:=by first|(apply Qy_y;rfl;exact Zkd)|exact QyA):G:=h
theorem Zmp {G:Prop}(h:G:=by repeat (first|exact QF.nil|(apply QF.mk;rfl;rfl;decide +kernel;exact Zqj))):G:=h
theorem Zmy {G:Prop}(h:G:=by(apply ZeN;rfl;rfl;exact hb)):G:=h
theorem Zxc {G:Prop}(h:G:=by(first|(apply ZaA;rfl;rfl;exact hb3)|(apply ZaA;rfl;rfl;exact hb4)|(apply ZaA;rfl;rfl;exact hb1)|(apply ZaA;rfl;rfl;exact hb5))):G:=h
theorem ZhC (f letter:ByteArray)(off save:Int)(w:World)(hL:LibW w)(hs:f.size<=1000000000)(hl:letter.size<=1000000000)(ho:I64 off)(hv:I64 save) :
  Does Tryz.prog 80 [.string f,.int .i64 off,.agg #[.int .i64 save,.string letter]] w (fun v O=>v=xpV (ZbO f.data.toList off save letter.data.toList)/\O=[]):=by
 have hp:=fun w' (hw:Bel w.heap.size w w')=>ZkJ f w' (hL.up hw) hs
 have hk:=fun w' (hw:Bel w.heap.size w w')=>Zfo f w' (hL.up hw) hs
 have har:=fun w' (hw:Bel w.heap.size w w')=>ZjZ f w' (hL.up hw) hs
 have hsm:=fun w'=>Zj2 off save ho hv w'
 have h3:=Zyt f.data.toList
 have hcl:=Zl5 f.data.toList [37,115]
 have hfs:f.data.toList.length=f.size:=by simp
 rw[hfs]at hcl
 have hfb:=Zlc f
 unfold arV at har
 unfold ZbO
 refine Zaa Tryz.func80 rfl rfl rfl rfl ?_
 cases hP:Zbk f.data.toList with
 | some ab =>
  obtain⟨a,b⟩:=ab
  rw[hP]at hp
  simp only[ptsV]at hp
  dsimp only
  by_cases h0:save=0
  ·subst h0
   rw[if_pos rfl]
   repeat (first|refine walk ?_|(refine jg ?_;(try intro F);(first|(refine Zae hp ?_)|(refine bx ?_;intro bk));refine fin ?_)|(refine jn ?_;(try intro F);(first|(refine bx ?_;intro bk)|(apply Zag;exact PuA));refine fin ?_))
   exact rtB
  ·rw[if_neg h0]
   have hb0:decide (save=0)=false:=decide_eq_false h0
   repeat (first|(apply RL_pu;rfl;exact Zxd)|(apply RD_Q;rfl;rfl;decide +kernel;rfl;rfl;exact QyFmtC4)|refine walk1 ?_|(refine jg ?_;(try intro F);(first|(refine Zae hp ?_)|(refine bx ?_;intro bk));first|refine⟨_,EndsA,QFFmtC4,?_⟩|refine fin ?_)|(refine jn ?_;(try intro F);(first|(refine bx ?_;intro bk)|(apply Zag;first|exact Zxd|exact PuA));first|refine⟨_,EndsA,QFFmtC4,?_⟩|refine fin ?_))
   exact rtB
 | none =>
 rw[hP]at hp
 simp only[ptsV]at hp
 dsimp only
 generalize ZaP f.data.toList=K at *
 by_cases hK3:K=3
 ·subst hK3
  rw[if_pos rfl,h3 rfl]
  dsimp only
  generalize (cutV f.data.toList [37,115]).1=a at *
  generalize (cutV f.data.toList [37,115]).2.1=b at *
  have hs1:(⟨a.toArray⟩:ByteArray).size=a.length:=by show a.toArray.size=a.length;simp
  have hs2:(⟨b.toArray⟩:ByteArray).size=b.length:=by show b.toArray.size=b.length;simp
  have q1:(⟨a.toArray⟩:ByteArray).size+letter.size<=9223372036854775807:=by omega
  have q2:((⟨a.toArray⟩:ByteArray)++letter).size+(⟨b.toArray⟩:ByteArray).size<=9223372036854775807:=by rw[ByteArray.size_append];omega
  have q3:(((⟨a.toArray⟩:ByteArray)++letter++⟨b.toArray⟩).size:Int)<=9223372036854775807:=by rw[ByteArray.size_append,ByteArray.size_append];omega
  have hx:((⟨a.toArray⟩:ByteArray)++letter++⟨b.toArray⟩).data.toList=a++letter.data.toList++b:=by simp
  have hXb:=Zlc ((⟨a.toArray⟩:ByteArray)++letter++⟨b.toArray⟩)
  have hab:=fun w'=>Zg7 ((⟨a.toArray⟩:ByteArray)++letter++⟨b.toArray⟩) q3 w'
  rw[show Ztw ((⟨a.toArray⟩:ByteArray)++letter++⟨b.toArray⟩)=Zdi (a++letter.data.toList++b) from by unfold Ztw Zdi;rw[hx]]at hab
  rw[hx]at hXb
  have hri:=fun w'=>Zht ((⟨a.toArray⟩:ByteArray)++letter++⟨b.toArray⟩) (Zdi (a++letter.data.toList++b)) w'
  cases hok:Zdi (a++letter.data.toList++b) with
  | false =>
   rw[hok]at hab hri
   rw[if_neg (by decide)]
   repeat (first|(apply RL_pu;rfl;exact Zkd)|(apply RD_Q;rfl;rfl;decide +kernel;rfl;rfl;exact Zqj)|refine walk1 ?_|(refine jg ?_;(try intro F);(first|(refine Zae hp ?_)|(refine Zae hk ?_)|(refine Zae har ?_)|(refine Zae (fun w' hw=>hab w') ?_)|(refine Zae (fun w' hw=>hri w') ?_)|(refine bx ?_;intro bk));first|refine⟨_,EndsA,Zmp,?_⟩|refine fin ?_)|(refine jn ?_;(try intro F);(first|(refine bx ?_;intro bk)|(apply Zag;first|exact Zkd|exact PuA));first|refine⟨_,EndsA,Zmp,?_⟩|refine fin ?_))
   exact rtB
  | true =>
   rw[hok]at hab hri
   rw[if_pos rfl]
   unfold xpV
   dsimp only
   rw[hXb]
   repeat (first|(apply RL_pu;rfl;exact Zkd)|(apply RD_Q;rfl;rfl;decide +kernel;rfl;rfl;exact Zqj)|refine walk1 ?_|(refine jg ?_;(try intro F);(first|(refine Zae hp ?_)|(refine Zae hk ?_)|(refine Zae har ?_)|(refine Zae (fun w' hw=>hab w') ?_)|(refine Zae (fun w' hw=>hri w') ?_)|(refine bx ?_;intro bk));first|refine⟨_,EndsA,Zmp,?_⟩|refine fin ?_)|(refine jn ?_;(try intro F);(first|(refine bx ?_;intro bk)|(apply Zag;first|exact Zkd|exact PuA));first|refine⟨_,EndsA,Zmp,?_⟩|refine fin ?_))
   exact rtB
 have hb3:decide (K=3)=false:=decide_eq_false hK3
 rw[if_neg hK3]
 by_cases hK4:K=4
 ·subst hK4
  rw[if_pos rfl]
  cases hok:ZdD (off+save) with
  | false =>
   rw[hok]at hsm
   rw[if_neg (by rintro⟨h,_⟩;cases h)]
   have htx:=fun w'=>Ze9 0 w'
   have hr2:=fun w'=>Zht ⟨(ZaT 0).toArray⟩ false w'
   rw[if_neg (by decide)]at hsm
   repeat (first|refine walk ?_|(refine jg ?_;(try intro F);(first|(refine Zae hp ?_)|(refine Zae hk ?_)|(refine Zae (fun w' hw=>hsm w') ?_)|(refine Zae (fun w' hw=>htx w') ?_)|(refine Zae (fun w' hw=>hr2 w') ?_)|(refine bx ?_;intro bk));refine fin ?_)|(refine jn ?_;(try intro F);(first|(refine bx ?_;intro bk)|(apply Zag;exact PuA));refine fin ?_))
   exact rtB
  | true =>
   rw[hok,if_pos rfl]at hsm
   have htx:=fun w'=>Ze9 (off+save) w'
   have hri:=fun ok w'=>Zht ⟨(ZaT (off+save)).toArray⟩ ok w'
   by_cases he:ZaT (off+save)=[]
   ·rw[if_neg (by rintro⟨_,h⟩;exact h he)]
    have hr2:=hri false
    have hb:(!decide ((⟨(ZaT (off+save)).toArray⟩:ByteArray)=ByteArray.empty))=false:=by rw[he];decide
    repeat (first|(apply RL_pu;rfl;exact Zmy)|(apply RD_Q;rfl;rfl;decide +kernel;rfl;rfl;exact QyFmtC6)|refine walk1 ?_|(refine jg ?_;(try intro F);(first|(refine Zae hp ?_)|(refine Zae hk ?_)|(refine Zae (fun w' hw=>hsm w') ?_)|(refine Zae (fun w' hw=>htx w') ?_)|(refine Zae (fun w' hw=>hr2 w') ?_)|(refine bx ?_;intro bk));first|refine⟨_,EndsA,QFFmtC6,?_⟩|refine fin ?_)|(refine jn ?_;(try intro F);(first|(refine bx ?_;intro bk)|(apply Zag;first|exact Zmy|exact PuA));first|refine⟨_,EndsA,QFFmtC6,?_⟩|refine fin ?_))
    exact rtB
   ·rw[if_pos ⟨rfl,he⟩]
    have hr2:=hri true
    have hb:(!decide ((⟨(ZaT (off+save)).toArray⟩:ByteArray)=ByteArray.empty))=true:=by
     rw[decide_eq_false (fun h=>he (by simpa using congrArg (fun b:ByteArray=>b.data.toList) h))];rfl
    repeat (first|(apply RL_pu;rfl;exact Zmy)|(apply RD_Q;rfl;rfl;decide +kernel;rfl;rfl;exact QyFmtC6)|refine walk1 ?_|(refine jg ?_;(try intro F);(first|(refine Zae hp ?_)|(refine Zae hk ?_)|(refine Zae (fun w' hw=>hsm w') ?_)|(refine Zae (fun w' hw=>htx w') ?_)|(refine Zae (fun w' hw=>hr2 w') ?_)|(refine bx ?_;intro bk));first|refine⟨_,EndsA,QFFmtC6,?_⟩|refine fin ?_)|(refine jn ?_;(try intro F);(first|(refine bx ?_;intro bk)|(apply Zag;first|exact Zmy|exact PuA));first|refine⟨_,EndsA,QFFmtC6,?_⟩|refine fin ?_))
    exact rtB
 have hb4:decide (K=4)=false:=decide_eq_false hK4
 rw[if_neg hK4]
 by_cases hK1:K=1
 ·subst hK1
  rw[if_pos (.inl rfl)]
  unfold xpV
  dsimp only
  rw[hfb]
  repeat (first|refine walk ?_|(refine jg ?_;(try intro F);(first|(refine Zae hp ?_)|(refine Zae hk ?_)|(refine bx ?_;intro bk));refine fin ?_)|(refine jn ?_;(try intro F);(first|(refine bx ?_;intro bk)|(apply Zag;exact PuA));refine fin ?_))
  exact rtB
 have hb1:decide (K=1)=false:=decide_eq_false hK1
 by_cases hK5:K=5
 ·subst hK5
  rw[if_pos (.inr rfl)]
  unfold xpV
  dsimp only
  rw[hfb]
  repeat (first|refine walk ?_|(refine jg ?_;(try intro F);(first|(refine Zae hp ?_)|(refine Zae hk ?_)|(refine bx ?_;intro bk));refine fin ?_)|(refine jn ?_;(try intro F);(first|(refine bx ?_;intro bk)|(apply Zag;exact PuA));refine fin ?_))
  exact rtB
 have hb5:decide (K=5)=false:=decide_eq_false hK5
 rw[if_neg (by rintro(h|h);exact hK1 h;exact hK5 h)]
 repeat (first|(apply RL_pu;rfl;exact Zxc)|(apply RD_Q;rfl;rfl;decide +kernel;rfl;rfl;exact QyFmtC7)|refine walk1 ?_|(refine jg ?_;(try intro F);(first|(refine Zae hp ?_)|(refine Zae hk ?_)|(refine bx ?_;intro bk));first|refine⟨_,EndsA,QFFmtC7,?_⟩|refine fin ?_)|(refine jn ?_;(try intro F);(first|(refine bx ?_;intro bk)|(apply Zag;first|exact Zxc|exact PuA));first|refine⟨_,EndsA,QFFmtC7,?_⟩|refine fin ?_))
 exact rtB
end Go.Proofs.YtbjomhdhkpgbaaaGreatDoor
