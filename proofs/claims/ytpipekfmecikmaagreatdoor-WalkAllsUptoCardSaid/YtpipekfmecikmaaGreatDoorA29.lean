/- Parts of the proof. -/
import Derived.Test.YtpipekfmecikmaaGreatDoorA28
set_option maxHeartbeats 0
set_option linter.all false
namespace Go.Wk
open Go Go.RowKit
section
variable {P:Program}{n:Nat}{wr:World}{fr:Fr}{O:List It}{ty:TypeId}
theorem Zjh {t:TypeId}{x z:Operand}{s:ByteArray}{l:List UInt8}{g:IntKind}{j:Int}[hS:StringT P t](d:ev fr x=some (.string s))(f:ev fr z=some (.int g j))(a:0<=j)(b:j<=s.size)(c:s.data.toList.take j.toNat=l):Pu P n wr fr O (.slice t x none (some z) none) ty (.string ⟨l.toArray⟩):=by
 have:=Zg6 (P:=P) (n:=n) (wr:=wr) (O:=O) (ty:=ty) (t:=t) d f a b
 have e:s.extract 0 j.toNat=⟨l.toArray⟩:=by
  apply ByteArray.ext
  rw[ByteArray.data_extract,<- c]
  apply Array.ext'
  simp
 rwa[e]at this
theorem Zjg {t:TypeId}{x y:Operand}{s:ByteArray}{l:List UInt8}{k:IntKind}{i:Int}[hS:StringT P t](d:ev fr x=some (.string s))(f:ev fr y=some (.int k i))(a:0<=i)(b:i<=s.size)(c:s.data.toList.drop i.toNat=l):Pu P n wr fr O (.slice t x (some y) none none) ty (.string ⟨l.toArray⟩):=by
 have:=Zg5 (P:=P) (n:=n) (wr:=wr) (O:=O) (ty:=ty) (t:=t) d f a b
 have e:s.extract i.toNat s.size=⟨l.toArray⟩:=by
  apply ByteArray.ext
  rw[ByteArray.data_extract,<- c]
  apply Array.ext'
  have g:s.data.toList.length=s.size:=rfl
  simp only[Array.toList_extract]
  rw[List.extract_eq_take_drop,List.take_of_length_le (by rw[List.length_drop];omega)]
 rwa[e]at this
end
def Zcx (l:List UInt8):List UInt8 × List UInt8 × Bool:=match Zbn [47] l [] with|some (a,b)=>(a,b,true)|none=>([],[],false)
def slV (r:List UInt8 × List UInt8 × Bool):Value := .tuple #[.string ⟨r.1.toArray⟩,.string ⟨r.2.1.toArray⟩,.bool r.2.2]
theorem ZBZ (c:UInt8)(l a:List UInt8):Zbn [47] (c::l) a=if c=47 then some (a,l) else Zbn [47] l (a++[c]):=by
 rw[Zbn]
 by_cases h:c=47
 ·subst h;rfl
 ·rw[if_neg h,if_neg]
  simp only[List.isPrefixOf,Bool.and_true,beq_iff_eq]
  exact fun e=>h e.symm
theorem Zkg (c d:UInt8)(l a:List UInt8):Zbn [37,115] (c::d::l) a=if c=37/\d=115 then some (a,l) else Zbn [37,115] (d::l) (a++[c]):=by
 rw[Zbn]
 by_cases h:c=37/\d=115
 ·obtain⟨rfl,rfl⟩:=h;rfl
 ·rw[if_neg h,if_neg]
  simp only[List.isPrefixOf,Bool.and_true,Bool.and_eq_true,beq_iff_eq]
  exact fun e=>h ⟨e.1.symm,e.2.symm⟩
theorem Zkh (l a:List UInt8)(h:l.length<=1):Zbn [37,115] l a=none:=by
 match l,h with
 | [],_=>rfl
 | [c],_=>rw[Zbn,if_neg (by simp[List.isPrefixOf])];rfl
 | _::_::_,h=>simp at h
theorem ZjZ (l:List UInt8):Zcq l=l.all fun c=>letC c.toNat:=by
 unfold Zcq
 congr 1
 funext c
 rw[Zty]
end Go.Wk
namespace Go.Proofs.YtpipekfmecikmaaGreatDoor
open Go Go.RowKit Go.Wk Tryz
attribute [local irreducible] W RL Does Zaq Zai retQ Calls Pu Stp RD Qy Ay Zaj
theorem Zra (l:List UInt8):(Zcx l).1.length<=l.length/\(Zcx l).2.1.length<=l.length:=by
 have h:=Zgn l [47]
 unfold Zcx
 unfold cutV at h
 cases hc:Zbn [47] l [] with
 | none=>exact⟨Nat.zero_le _,Nat.zero_le _⟩
 | some ab=>rw[hc]at h;dsimp only at h ⊢;omega
theorem ZtH (l:List UInt8):ZaP l=Zk5 (ZbD l) (Zcx l).2.2 (ZbD (Zcx l).1) (ZbD (Zcx l).2.1) (Zbq l).isSome (decide (l=[37,122])) (ZaV l).isSome (ZaV (Zcx l).1).isSome (ZaV (Zcx l).2.1).isSome:=by
 rw[ZhF]
 unfold Zcx cutV
 cases Zbn [47] l [] with
 | none=>unfold Zk5;simp
 | some ab=>rfl
theorem Zjy {G G':Prop}(k:G')(h:Hold G'->G:=by intro k9;(refine walk ?_);exact k9.out):G:=h ⟨k⟩
theorem ZvA {G:Prop}(h:G:=by(first|(apply Za3;rfl;rfl;omega;omega;exact hgc)|(apply Zap;rfl;rfl;exact b1)|(apply Zjh;rfl;rfl;omega;omega;rfl)|(apply Zjg;rfl;rfl;omega;omega;exact hdr))):G:=h
theorem Zyz {G:Prop}(h:G:=by first|(apply Qy_y;rfl;exact ZvA)|exact QyA):G:=h
theorem ZCK {G:Prop}(h:G:=by repeat (first|exact QF.nil|(apply QF.mk;rfl;rfl;decide +kernel;exact Zyz))):G:=h
theorem ZzH {G:Prop}(h:G:=by(first|(apply Za3;rfl;rfl;omega;omega;exact hgc)|(apply Zap;rfl;rfl;exact b1))):G:=h
theorem Zh1 (s:ByteArray)(r:(s.size:Int)<=9223372036854775000)(w:World):Does prog 201 [.string s] w (fun v O=>v=slV (Zcx s.data.toList)/\O=[]):=by
 have m:s.data.toList.length=s.size:=rfl
 unfold Zcx
 obtain⟨R,f⟩:∃ R,Zbn [47] s.data.toList []=R:=⟨_,rfl⟩
 rw[f]
 refine Zaa func201 rfl rfl rfl rfl ?_
 repeat refine Zjy ?_
 refine Zah [(0,.string s)] [] (fun k:Nat=>[(5,.int .i64 k)]) (fun _=>[]) (fun k=>k<=s.size/\Zbn [47] (s.data.toList.drop k) (s.data.toList.take k)=R) (fun k=>s.size - k) 0 SFA SOA ⟨Nat.zero_le _,f⟩ ?_
 clear f
 rintro k ⟨q,d⟩
 repeat refine Zjy ?_
 refine Zaf rfl (fun g=>?_) (fun g=>?_)
 ·simp only[decide_eq_true_eq,Int.ofNat_lt]at g
  have hgc:s.data.toList.getD ((k:Int)).toNat 0=s.data.toList[k]:=Zdw (by omega)
  have j:=List.take_append_getElem (show k<s.data.toList.length by omega)
  rw[Zag (show k<s.data.toList.length by omega),ZBZ]at d
  have hdr:s.data.toList.drop ((k:Int)+1).toNat=s.data.toList.drop (k+1):=by rw[show((k:Int)+1).toNat=k+1 by omega]
  generalize s.data.toList[k]=c at *
  by_cases h:c=47
  ·have b1:decide ((c.toNat:Int)=47)=true:=by rw[h];rfl
   rw[if_pos h]at d
   subst d
   repeat (first|(apply RL_pu;rfl;exact ZvA)|(apply RD_Q;rfl;rfl;decide +kernel;rfl;rfl;exact Zyz)|refine walk1 ?_|(refine jn ?_;(try intro F);(apply Zan;first|exact ZvA|exact PuA);first|refine⟨_,EndsA,ZCK,?_⟩|refine fin ?_))
   exact Zcj _ _ _ [] (.tmp rfl) (.tmp rfl) (.tmp rfl) .nil ⟨rfl,rfl⟩
  ·have b1:decide ((c.toNat:Int)=47)=false:=dF_ (fun e=>h (UInt8.toNat_inj.1 (by show c.toNat=47;omega)))
   rw[if_neg h,j]at d
   repeat (first|(apply RL_pu;rfl;exact ZzH)|(apply RD_Q;rfl;rfl;decide +kernel;rfl;rfl;exact QyRfM1)|refine walk1 ?_|(refine jn ?_;(try intro F);(apply Zan;first|exact ZzH|exact PuA);first|refine⟨_,EndsA,QFRfM1,?_⟩|refine fin ?_))
   exact⟨k+1,OA,⟨OA,d⟩,SFA,SOA⟩
 ·simp only[decide_eq_false_iff_not,Int.ofNat_lt]at g
  rw[List.drop_eq_nil_of_le (by omega)]at d
  rw[show Zbn [47] [] (s.data.toList.take k)=none from rfl]at d
  subst d
  repeat refine Zjy ?_
  exact Zcj _ _ _ [] (.tmp rfl) (.tmp rfl) (.tmp rfl) .nil ⟨rfl,rfl⟩
def LetR (f:List UInt8)(v:Value)(O:List It):Prop:=(∃ x y,v=slV (x,y,(Zbq f).isSome)/\∀ a b,Zbq f=some (a,b)->x=a/\y=b)/\O=[]
def notL (c:Int):Bool:=(decide (c<65)||decide (90<c))&&(decide (c<97)||decide (122<c))
theorem ZAr (c:Int):notL c = !letC c:=by
 unfold notL letC
 rw[Bool.eq_iff_iff]
 simp only[Bool.and_eq_true,Bool.or_eq_true,decide_eq_true_eq,Bool.not_eq_true',Bool.or_eq_false_iff,Bool.and_eq_false_iff,decide_eq_false_iff_not]
 omega
theorem Zvz {G:Prop}(h:G:=by(first|(apply Za3;rfl;rfl;omega;omega;first|exact hgc|exact hgd)|(apply Zal;rfl;rfl;first|exact b1|exact b2)|(apply Zjh;rfl;rfl;omega;omega;exact ha)|(apply Zjg;rfl;rfl;omega;omega;exact hdr)|(apply ZlI;rfl;rfl;exact hap))):G:=h
theorem Zyy {G:Prop}(h:G:=by first|(apply Qy_y;rfl;exact Zvz)|exact QyA):G:=h
theorem ZCJ {G:Prop}(h:G:=by repeat (first|exact QF.nil|(apply QF.mk;rfl;rfl;decide +kernel;exact Zyy))):G:=h
theorem ZnO {G:Prop}(h:G:=by(first|(apply Za3;rfl;rfl;omega;omega;exact hge)|(apply Zau;rfl;rfl;first|exact bj|exact e1|exact e3)|(apply Zav;rfl;rfl;first|exact e2|exact e4))):G:=h
theorem Zvy {G:Prop}(h:G:=by(first|exact ZnO|(apply Zbl;rfl;rfl;exact b5)|(apply Zjh;rfl;rfl;omega;omega;exact ha)|(apply Zjg;rfl;rfl;omega;omega;exact hdr))):G:=h
theorem Zyx {G:Prop}(h:G:=by first|(apply Qy_y;rfl;exact Zvy)|exact QyA):G:=h
theorem ZCI {G:Prop}(h:G:=by repeat (first|exact QF.nil|(apply QF.mk;rfl;rfl;decide +kernel;exact Zyx))):G:=h
theorem ZqS {G:Prop}(h:G:=by(first|(apply Za3;rfl;rfl;omega;omega;first|exact hgc|exact hgd)|(apply Zal;rfl;rfl;first|exact b1|exact b2))):G:=h
set_option maxHeartbeats 0 in
theorem Zh6 (s:ByteArray)(hs:(s.size:Int)<=9223372036854775000)(w:World):Does prog 136 [.string s] w (LetR s.data.toList):=by
 have X:s.data.toList.length=s.size:=rfl
 unfold LetR Zbq
 obtain⟨R,M⟩:∃ R,Zbn [37,115] s.data.toList []=R:=⟨_,rfl⟩
 rw[M]
 refine Zaa func136 rfl rfl rfl rfl ?_
 repeat refine Zjy ?_
 refine Zah [(0,.string s)] [] (fun k:Nat=>[(5,.int .i64 k)]) (fun _=>[]) (fun k=>k<=s.size/\Zbn [37,115] (s.data.toList.drop k) (s.data.toList.take k)=R) (fun k=>s.size - k) 0 SFA SOA ⟨Nat.zero_le _,M⟩ ?_
 clear M
 rintro k ⟨hk,f⟩
 repeat refine Zjy ?_
 refine Zaf rfl (fun r=>?_) (fun r=>?_)
 ·have r:k+1<s.size:=by have:=of_decide_eq_true r;omega
  have hgc:s.data.toList.getD ((k:Int)).toNat 0=s.data.toList[k]:=Zdw (by omega)
  have hgd:s.data.toList.getD ((k:Int)+1).toNat 0=s.data.toList[k+1]:=by rw[show((k:Int)+1).toNat=k+1 by omega];exact Zdw (by omega)
  have q:=List.take_append_getElem (show k<s.data.toList.length by omega)
  have m:s.data.toList.drop (k+1)=s.data.toList[k+1]::s.data.toList.drop (k+1+1):=Zag (show k+1<s.data.toList.length by omega)
  rw[Zag (show k<s.data.toList.length by omega),m,Zkg,<- m]at f
  have hdr:s.data.toList.drop ((k:Int)+2).toNat=s.data.toList.drop (k+1+1):=by rw[show((k:Int)+2).toNat=k+1+1 by omega]
  have S:(s.data.toList.take k).length=k:=by rw[List.length_take];omega
  have N:(s.data.toList.drop (k+1+1)).length=s.size - (k+1+1):=by rw[List.length_drop,X]
  clear m
  generalize s.data.toList[k]=c at *
  generalize s.data.toList[k+1]=d at *
  have u:((c.toNat:Int)=37)↔c=37:=⟨fun h=>UInt8.toNat_inj.1 (by show c.toNat=37;omega),fun h=>by rw[h];rfl⟩
  have g:((d.toNat:Int)=115)↔d=115:=⟨fun h=>UInt8.toNat_inj.1 (by show d.toNat=115;omega),fun h=>by rw[h];rfl⟩
  by_cases D:c=37
  ·have b1:(!decide ((c.toNat:Int)=37))=false:=by rw[dT_ (u.2 D)];rfl
   by_cases E:d=115
   ·have b2:(!decide ((d.toNat:Int)=115))=false:=by rw[dT_ (g.2 E)];rfl
    rw[if_pos ⟨D,E⟩]at f
    subst f
    dsimp only
    clear q
    obtain⟨a,ha⟩:∃ a,s.data.toList.take k=a:=⟨_,rfl⟩
    obtain⟨b,W⟩:∃ b,s.data.toList.drop (k+1+1)=b:=⟨_,rfl⟩
    rw[W]at hdr N
    rw[ha]at S
    rw[ha,W]
    have hap:a.length+b.length<=9223372036854775807:=by omega
    have J:(a++b).length+2=s.size:=by rw[List.length_append];omega
    repeat (first|refine und ?_|(apply RL_pu;rfl;exact Zvz)|(apply RD_Q;rfl;rfl;decide +kernel;rfl;rfl;exact Zyy)|refine walk1 ?_|(refine jn ?_;(try intro F);(apply Zan;first|exact Zvz|exact PuA);first|refine⟨_,EndsA,ZCJ,?_⟩|refine fin ?_))
    obtain⟨L,I⟩:∃ L,a++b=L:=⟨_,rfl⟩
    obtain⟨Q,K⟩:∃ Q,(L.all fun c=>letC c.toNat)=Q:=⟨_,rfl⟩
    rw[I]at J ⊢
    rw[ZjZ,K]
    have Y:(⟨L.toArray⟩:ByteArray).size=L.length:=by show L.toArray.size=_;simp
    refine Zah [(0,.string s),(5,.int .i64 k),(6,.string ⟨L.toArray⟩)] [] (fun j:Nat=>[(7,.int .i64 j)]) (fun _=>[]) (fun j=>j<=L.length/\((L.drop j).all fun c=>letC c.toNat)=Q) (fun j=>L.length - j) 0 SFA SOA ⟨Nat.zero_le _,K⟩ ?_
    clear K
    rintro j ⟨Z,f⟩
    by_cases t:j<L.length
    ·have bj:decide ((j:Int)<((⟨L.toArray⟩:ByteArray).size:Int))=true:=dT_ (by omega)
     have hge:(⟨L.toArray⟩:ByteArray).data.toList.getD ((j:Int)).toNat 0=L[j]:=Zdw (l:=L) t
     rw[Zag t,List.all_cons]at f
     generalize L[j]=e at *
     obtain⟨T,e1⟩:∃ z,decide ((e.toNat:Int)<65)=z:=⟨_,rfl⟩
     obtain⟨z2,e2⟩:∃ z,decide (90<(e.toNat:Int))=z:=⟨_,rfl⟩
     obtain⟨z3,e3⟩:∃ z,decide ((e.toNat:Int)<97)=z:=⟨_,rfl⟩
     obtain⟨z4,e4⟩:∃ z,decide (122<(e.toNat:Int))=z:=⟨_,rfl⟩
     have H:((T||z2)&&(z3||z4)) = !letC e.toNat:=by rw[<- ZAr,<- e1,<- e2,<- e3,<- e4];rfl
     cases hq:letC e.toNat with
     | true =>
      rw[hq]at H f
      rw[Bool.true_and]at f
      cases T <;> cases z2 <;> cases z3 <;> cases z4
      all_goals first|exact absurd H (by decide)|skip
      all_goals
       repeat (first|refine und ?_|(apply RL_pu;rfl;exact ZnO)|(apply RD_Q;rfl;rfl;decide +kernel;rfl;rfl;exact QyRfM3)|refine walk1 ?_|(refine jn ?_;(try intro F);(apply Zan;first|exact ZnO|exact PuA);first|refine⟨_,EndsA,QFRfM3,?_⟩|refine fin ?_))
       exact⟨j+1,OA,⟨OA,f⟩,SFA,SOA⟩
     | false =>
      rw[hq]at H f
      rw[Bool.false_and]at f
      subst f
      rw[if_neg (fun h=>by cases h.1)]
      cases T <;> cases z2 <;> cases z3 <;> cases z4
      all_goals first|exact absurd H (by decide)|skip
      all_goals
       repeat (first|refine und ?_|(apply RL_pu;rfl;exact ZnO)|(apply RD_Q;rfl;rfl;decide +kernel;rfl;rfl;exact QyRfM3)|refine walk1 ?_|(refine jn ?_;(try intro F);(apply Zan;first|exact ZnO|exact PuA);first|refine⟨_,EndsA,QFRfM3,?_⟩|refine fin ?_))
       exact Zcj _ _ _ [] (.tmp rfl) (.tmp rfl) (.tmp rfl) .nil ⟨⟨[],[],rfl,fun _ _ h=>by cases h⟩,rfl⟩
    ·have bj:decide ((j:Int)<((⟨L.toArray⟩:ByteArray).size:Int))=false:=dF_ (by omega)
     rw[List.drop_eq_nil_of_le (by omega),List.all_nil]at f
     subst f
     have b5:decide (((⟨L.toArray⟩:ByteArray).size:Int)<=5)=(if true=true/\L.length<=5 then some (a,b) else none).isSome:=by
      by_cases U:L.length<=5
      ·rw[if_pos ⟨rfl,U⟩];exact dT_ (by omega)
      ·rw[if_neg (fun h=>U h.2)];exact dF_ (by omega)
     repeat (first|refine und ?_|(apply RL_pu;rfl;exact Zvy)|(apply RD_Q;rfl;rfl;decide +kernel;rfl;rfl;exact Zyx)|refine walk1 ?_|(refine jn ?_;(try intro F);(apply Zan;first|exact Zvy|exact PuA);first|refine⟨_,EndsA,ZCI,?_⟩|refine fin ?_))
     exact Zcj _ _ _ [] (.tmp rfl) (.tmp rfl) (.tmp rfl) .nil ⟨⟨a,b,rfl,fun x y h=>by
      split at h
      ·simp only[Option.some.injEq,Prod.mk.injEq]at h;exact h
      ·cases h⟩,rfl⟩
   ·have b2:(!decide ((d.toNat:Int)=115))=true:=by rw[dF_ (fun e=>E (g.1 e))];rfl
    rw[if_neg (fun h=>E h.2),q]at f
    repeat (first|refine und ?_|(apply RL_pu;rfl;exact ZqS)|(apply RD_Q;rfl;rfl;decide +kernel;rfl;rfl;exact QyRfM5)|refine walk1 ?_|(refine jn ?_;(try intro F);(apply Zan;first|exact ZqS|exact PuA);first|refine⟨_,EndsA,QFRfM5,?_⟩|refine fin ?_))
    exact⟨k+1,OA,⟨OA,f⟩,SFA,SOA⟩
  ·have b1:(!decide ((c.toNat:Int)=37))=true:=by rw[dF_ (fun e=>D (u.1 e))];rfl
   rw[if_neg (fun h=>D h.1),q]at f
   repeat (first|refine und ?_|(apply RL_pu;rfl;exact ZqS)|(apply RD_Q;rfl;rfl;decide +kernel;rfl;rfl;exact QyRfM5)|refine walk1 ?_|(refine jn ?_;(try intro F);(apply Zan;first|exact ZqS|exact PuA);first|refine⟨_,EndsA,QFRfM5,?_⟩|refine fin ?_))
   exact⟨k+1,OA,⟨OA,f⟩,SFA,SOA⟩
 ·have r:s.size<=k+1:=by have:=of_decide_eq_false r;omega
  rw[Zkh _ _ (by rw[List.length_drop];omega)]at f
  subst f
  repeat refine Zjy ?_
  exact Zcj _ _ _ [] (.tmp rfl) (.tmp rfl) (.tmp rfl) .nil ⟨⟨[],[],rfl,fun _ _ h=>by cases h⟩,rfl⟩
theorem ZfG (s:ByteArray)(b:s.size<=1000000000000)(w:World):Does prog 202 [.string s] w (fun v O=>v = .bool (ZaV s.data.toList).isSome/\O=[]):=by
 have a:=fun w'=>Zoe s b w'
 unfold parV at a
 generalize ZaV s.data.toList=o at *
 refine Zaa func202 rfl rfl rfl rfl ?_
 cases o with
 | none =>
  repeat (first|(refine js ?_;(refine Zab (fun w' _=>a w') ?_))|refine walk ?_)
  exact rtA
 | some n =>
  repeat (first|(refine js ?_;(refine Zab (fun w' _=>a w') ?_))|refine walk ?_)
  exact rtA
