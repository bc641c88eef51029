/- Parts of the proof. -/
import Derived.Test.YtpipekfmecikmaaGreatDoorV27
import Derived.Test.YtpipekfmecikmaaGreatDoorV15
set_option maxHeartbeats 4000000
set_option linter.unusedVariables false
set_option linter.unusedSimpArgs false
namespace Go.Wk
open Go Go.RowKit
section
variable {P:Program}{n:Nat}{wr:World}{fr:Fr}{O:List It}{ty:TypeId}
theorem ZiC {t:TypeId}{x z:Operand}{s:ByteArray}{l:List UInt8}{k':IntKind}{j:Int}[hS:StringT P t](hx:ev fr x=some (.string s))(hz:ev fr z=some (.int k' j))(h1:0<=j)(h2:j<=s.size)(hl:s.data.toList.take j.toNat=l):Pu P n wr fr O (.slice t x none (some z) none) ty (.string ⟨l.toArray⟩):=by
 have:=Zgo (P:=P) (n:=n) (wr:=wr) (O:=O) (ty:=ty) (t:=t) hx hz h1 h2
 have e:s.extract 0 j.toNat=⟨l.toArray⟩:=by
  apply ByteArray.ext
  rw[ByteArray.data_extract,<- hl]
  apply Array.ext'
  simp
 rwa[e]at this
theorem ZiB {t:TypeId}{x y:Operand}{s:ByteArray}{l:List UInt8}{k:IntKind}{i:Int}[hS:StringT P t](hx:ev fr x=some (.string s))(hy:ev fr y=some (.int k i))(h0:0<=i)(h1:i<=s.size)(hl:s.data.toList.drop i.toNat=l):Pu P n wr fr O (.slice t x (some y) none none) ty (.string ⟨l.toArray⟩):=by
 have:=Zgn (P:=P) (n:=n) (wr:=wr) (O:=O) (ty:=ty) (t:=t) hx hy h0 h1
 have e:s.extract i.toNat s.size=⟨l.toArray⟩:=by
  apply ByteArray.ext
  rw[ByteArray.data_extract,<- hl]
  apply Array.ext'
  have h2:s.data.toList.length=s.size:=rfl
  simp only[Array.toList_extract]
  rw[List.extract_eq_take_drop,List.take_of_length_le (by rw[List.length_drop];omega)]
 rwa[e]at this
end
def Zcg (l:List UInt8):List UInt8 × List UInt8 × Bool:=match Zbg [47] l [] with|some (a,b)=>(a,b,true)|none=>([],[],false)
def slV (r:List UInt8 × List UInt8 × Bool):Value := .tuple #[.string ⟨r.1.toArray⟩,.string ⟨r.2.1.toArray⟩,.bool r.2.2]
theorem Zzz (c:UInt8)(l acc:List UInt8):Zbg [47] (c::l) acc=if c=47 then some (acc,l) else Zbg [47] l (acc++[c]):=by
 rw[Zbg]
 by_cases h:c=47
 ·subst h;rfl
 ·rw[if_neg h,if_neg]
  simp only[List.isPrefixOf,Bool.and_true,beq_iff_eq]
  exact fun e=>h e.symm
theorem ZjA (c d:UInt8)(l acc:List UInt8):Zbg [37,115] (c::d::l) acc=if c=37/\d=115 then some (acc,l) else Zbg [37,115] (d::l) (acc++[c]):=by
 rw[Zbg]
 by_cases h:c=37/\d=115
 ·obtain⟨rfl,rfl⟩:=h;rfl
 ·rw[if_neg h,if_neg]
  simp only[List.isPrefixOf,Bool.and_true,Bool.and_eq_true,beq_iff_eq]
  exact fun e=>h ⟨e.1.symm,e.2.symm⟩
theorem ZjB (l acc:List UInt8)(h:l.length<=1):Zbg [37,115] l acc=none:=by
 match l,h with
 | [],_=>rfl
 | [c],_=>rw[Zbg,if_neg (by simp[List.isPrefixOf])];rfl
 | _::_::_,h=>simp at h
theorem Zjk (l:List UInt8):Zb3 l=l.all fun c=>letC c.toNat:=by
 unfold Zb3
 congr 1
 funext c
 rw[Zse]
end Go.Wk
namespace Go.Proofs.YtpipekfmecikmaaGreatDoor
open Go Go.RowKit Go.Wk
attribute [local irreducible] W RL Does Zat Zaj retQ Calls Pu Stp RD Qy Ay Zak
theorem Zp7 (l:List UInt8):(Zcg l).1.length<=l.length/\(Zcg l).2.1.length<=l.length:=by
 have h:=ZfF l [47]
 unfold Zcg
 unfold cutV at h
 cases hc:Zbg [47] l [] with
 | none=>exact⟨Nat.zero_le _,Nat.zero_le _⟩
 | some ab=>rw[hc]at h;dsimp only at h ⊢;omega
theorem Zsn (l:List UInt8):Za6 l=Zf7 (Zbq l) (Zcg l).2.2 (Zbq (Zcg l).1) (Zbq (Zcg l).2.1) (Zbh l).isSome (decide (l=[37,122])) (ZaY l).isSome (ZaY (Zcg l).1).isSome (ZaY (Zcg l).2.1).isSome:=by
 rw[Zg0]
 unfold Zcg cutV
 cases Zbg [47] l [] with
 | none=>unfold Zf7;simp
 | some ab=>rfl
theorem ZiW {G G':Prop}(k:G')(h:Hold G'->G:=by intro k9;(first|refine walk ?_|(refine jn ?_;(try intro F);(apply Zac;exact PuA);refine fin ?_));exact k9.out):G:=h ⟨k⟩
theorem ZtW {G:Prop}(h:G:=by(first|(apply Za3;rfl;rfl;omega;omega;first|exact hgc|exact hgd)|(apply Zan;rfl;rfl;exact b1)|(apply ZiC;rfl;rfl;omega;omega;rfl)|(apply ZiB;rfl;rfl;omega;omega;exact hdr))):G:=h
theorem ZwA {G:Prop}(h:G:=by first|(apply Qy_y;rfl;exact ZtW)|exact QyA):G:=h
theorem Zz3 {G:Prop}(h:G:=by repeat (first|exact QF.nil|(apply QF.mk;rfl;rfl;decide +kernel;exact ZwA))):G:=h
theorem Zxv {G:Prop}(h:G:=by(first|(apply Za3;rfl;rfl;omega;omega;first|exact hgc|exact hgd)|(apply Zan;rfl;rfl;exact b1))):G:=h
theorem Zhx (s:ByteArray)(hs:(s.size:Int)<=9223372036854775000)(w:World):Does Tryz.prog 201 [.string s] w (fun v O=>v=slV (Zcg s.data.toList)/\O=[]):=by
 have hL:s.data.toList.length=s.size:=rfl
 unfold Zcg
 obtain⟨R,hR⟩:∃ R,Zbg [47] s.data.toList []=R:=⟨_,rfl⟩
 rw[hR]
 refine Zaa Tryz.func201 rfl rfl rfl rfl ?_
 repeat refine ZiW ?_
 refine Zai [(0,.string s)] [] (fun k:Nat=>[(5,.int .i64 k)]) (fun _=>[]) (fun k=>k<=s.size/\Zbg [47] (s.data.toList.drop k) (s.data.toList.take k)=R) (fun k=>s.size - k) 0 SFA SOA ⟨Nat.zero_le _,hR⟩ ?_
 clear hR
 rintro k ⟨hk,hi⟩
 repeat refine ZiW ?_
 refine Zaf rfl (fun hc=>?_) (fun hc=>?_)
 ·simp only[decide_eq_true_eq,Int.ofNat_lt]at hc
  have hgc:s.data.toList.getD ((k:Int)).toNat 0=s.data.toList[k]:=Zc5 (by omega)
  have htk:=List.take_append_getElem (show k<s.data.toList.length by omega)
  rw[Zag (show k<s.data.toList.length by omega),Zzz]at hi
  have hdr:s.data.toList.drop ((k:Int)+1).toNat=s.data.toList.drop (k+1):=by rw[show((k:Int)+1).toNat=k+1 by omega]
  generalize s.data.toList[k]=c at *
  by_cases h:c=47
  ·have b1:decide ((c.toNat:Int)=47)=true:=by rw[h];rfl
   rw[if_pos h]at hi
   subst hi
   repeat (first|(apply RL_pu;rfl;exact ZtW)|(apply RD_Q;rfl;rfl;decide +kernel;rfl;rfl;exact ZwA)|refine walk1 ?_|(refine jn ?_;(try intro F);(apply Zac;first|exact ZtW|exact PuA);first|refine⟨_,EndsA,Zz3,?_⟩|refine fin ?_))
   exact Zck _ _ _ [] (.tmp rfl) (.tmp rfl) (.tmp rfl) .nil ⟨rfl,rfl⟩
  ·have b1:decide ((c.toNat:Int)=47)=false:=decide_eq_false (fun e=>h (UInt8.toNat_inj.1 (by show c.toNat=47;omega)))
   rw[if_neg h,htk]at hi
   repeat (first|(apply RL_pu;rfl;exact Zxv)|(apply RD_Q;rfl;rfl;decide +kernel;rfl;rfl;exact QyRfM1)|refine walk1 ?_|(refine jn ?_;(try intro F);(apply Zac;first|exact Zxv|exact PuA);first|refine⟨_,EndsA,QFRfM1,?_⟩|refine fin ?_))
   exact⟨k+1,OA,⟨OA,hi⟩,SFA,SOA⟩
 ·simp only[decide_eq_false_iff_not,Int.ofNat_lt]at hc
  rw[List.drop_eq_nil_of_le (by omega)]at hi
  rw[show Zbg [47] [] (s.data.toList.take k)=none from rfl]at hi
  subst hi
  repeat refine ZiW ?_
  exact Zck _ _ _ [] (.tmp rfl) (.tmp rfl) (.tmp rfl) .nil ⟨rfl,rfl⟩
def LetR (f:List UInt8)(v:Value)(O:List It):Prop:=(∃ x y,v=slV (x,y,(Zbh f).isSome)/\∀ a b,Zbh f=some (a,b)->x=a/\y=b)/\O=[]
def notL (c:Int):Bool:=(decide (c<65)||decide (90<c))&&(decide (c<97)||decide (122<c))
theorem Zyc (c:Int):notL c = !letC c:=by
 unfold notL letC
 rw[Bool.eq_iff_iff]
 simp only[Bool.and_eq_true,Bool.or_eq_true,decide_eq_true_eq,Bool.not_eq_true',Bool.or_eq_false_iff,Bool.and_eq_false_iff,decide_eq_false_iff_not]
 omega
theorem ZtV {G:Prop}(h:G:=by(first|(apply Za3;rfl;rfl;omega;omega;first|exact hgc|exact hgd)|(apply Zal;rfl;rfl;first|exact b1|exact b2)|(apply ZiC;rfl;rfl;omega;omega;exact ha)|(apply ZiB;rfl;rfl;omega;omega;exact hdr)|(apply ZkM;rfl;rfl;exact hap))):G:=h
theorem Zwz {G:Prop}(h:G:=by first|(apply Qy_y;rfl;exact ZtV)|exact QyA):G:=h
theorem Zz2 {G:Prop}(h:G:=by repeat (first|exact QF.nil|(apply QF.mk;rfl;rfl;decide +kernel;exact Zwz))):G:=h
theorem ZmH {G:Prop}(h:G:=by(first|(apply Za3;rfl;rfl;omega;omega;exact hge)|(apply Zaz;rfl;rfl;first|exact bj|exact e1|exact e3)|(apply Zaw;rfl;rfl;first|exact e2|exact e4))):G:=h
theorem ZtU {G:Prop}(h:G:=by(first|exact ZmH|(apply Zew;rfl;rfl;exact b5)|(apply ZiC;rfl;rfl;omega;omega;exact ha)|(apply ZiB;rfl;rfl;omega;omega;exact hdr))):G:=h
theorem Zwy {G:Prop}(h:G:=by first|(apply Qy_y;rfl;exact ZtU)|exact QyA):G:=h
theorem Zz1 {G:Prop}(h:G:=by repeat (first|exact QF.nil|(apply QF.mk;rfl;rfl;decide +kernel;exact Zwy))):G:=h
theorem ZpP {G:Prop}(h:G:=by(first|(apply Za3;rfl;rfl;omega;omega;first|exact hgc|exact hgd)|(apply Zal;rfl;rfl;first|exact b1|exact b2))):G:=h
set_option maxHeartbeats 2000000 in
theorem ZhC (s:ByteArray)(hs:(s.size:Int)<=9223372036854775000)(w:World):Does Tryz.prog 136 [.string s] w (LetR s.data.toList):=by
 have hL:s.data.toList.length=s.size:=rfl
 unfold LetR Zbh
 obtain⟨R,hR⟩:∃ R,Zbg [37,115] s.data.toList []=R:=⟨_,rfl⟩
 rw[hR]
 refine Zaa Tryz.func136 rfl rfl rfl rfl ?_
 repeat refine ZiW ?_
 refine Zai [(0,.string s)] [] (fun k:Nat=>[(5,.int .i64 k)]) (fun _=>[]) (fun k=>k<=s.size/\Zbg [37,115] (s.data.toList.drop k) (s.data.toList.take k)=R) (fun k=>s.size - k) 0 SFA SOA ⟨Nat.zero_le _,hR⟩ ?_
 clear hR
 rintro k ⟨hk,hi⟩
 repeat refine ZiW ?_
 refine Zaf rfl (fun hc=>?_) (fun hc=>?_)
 ·have hc:k+1<s.size:=by have:=of_decide_eq_true hc;omega
  have hgc:s.data.toList.getD ((k:Int)).toNat 0=s.data.toList[k]:=Zc5 (by omega)
  have hgd:s.data.toList.getD ((k:Int)+1).toNat 0=s.data.toList[k+1]:=by rw[show((k:Int)+1).toNat=k+1 by omega];exact Zc5 (by omega)
  have htk:=List.take_append_getElem (show k<s.data.toList.length by omega)
  have hd2:s.data.toList.drop (k+1)=s.data.toList[k+1]::s.data.toList.drop (k+1+1):=Zag (show k+1<s.data.toList.length by omega)
  rw[Zag (show k<s.data.toList.length by omega),hd2,ZjA,<- hd2]at hi
  have hdr:s.data.toList.drop ((k:Int)+2).toNat=s.data.toList.drop (k+1+1):=by rw[show((k:Int)+2).toNat=k+1+1 by omega]
  have htl:(s.data.toList.take k).length=k:=by rw[List.length_take];omega
  have hdl:(s.data.toList.drop (k+1+1)).length=s.size - (k+1+1):=by rw[List.length_drop,hL]
  clear hd2
  generalize s.data.toList[k]=c at *
  generalize s.data.toList[k+1]=d at *
  have u37:((c.toNat:Int)=37)↔c=37:=⟨fun h=>UInt8.toNat_inj.1 (by show c.toNat=37;omega),fun h=>by rw[h];rfl⟩
  have u115:((d.toNat:Int)=115)↔d=115:=⟨fun h=>UInt8.toNat_inj.1 (by show d.toNat=115;omega),fun h=>by rw[h];rfl⟩
  by_cases h1:c=37
  ·have b1:(!decide ((c.toNat:Int)=37))=false:=by rw[decide_eq_true (u37.2 h1)];rfl
   by_cases h2:d=115
   ·have b2:(!decide ((d.toNat:Int)=115))=false:=by rw[decide_eq_true (u115.2 h2)];rfl
    rw[if_pos ⟨h1,h2⟩]at hi
    subst hi
    dsimp only
    clear htk
    obtain⟨a,ha⟩:∃ a,s.data.toList.take k=a:=⟨_,rfl⟩
    obtain⟨b,hb⟩:∃ b,s.data.toList.drop (k+1+1)=b:=⟨_,rfl⟩
    rw[hb]at hdr hdl
    rw[ha]at htl
    rw[ha,hb]
    have hap:a.length+b.length<=9223372036854775807:=by omega
    have hLn:(a++b).length+2=s.size:=by rw[List.length_append];omega
    repeat (first|refine und ?_|(apply RL_pu;rfl;exact ZtV)|(apply RD_Q;rfl;rfl;decide +kernel;rfl;rfl;exact Zwz)|refine walk1 ?_|(refine jn ?_;(try intro F);(apply Zac;first|exact ZtV|exact PuA);first|refine⟨_,EndsA,Zz2,?_⟩|refine fin ?_))
    obtain⟨L,hLL⟩:∃ L,a++b=L:=⟨_,rfl⟩
    obtain⟨Q,hQ⟩:∃ Q,(L.all fun c=>letC c.toNat)=Q:=⟨_,rfl⟩
    rw[hLL]at hLn ⊢
    rw[Zjk,hQ]
    have hLs:(⟨L.toArray⟩:ByteArray).size=L.length:=by show L.toArray.size=_;simp
    refine Zai [(0,.string s),(5,.int .i64 k),(6,.string ⟨L.toArray⟩)] [] (fun j:Nat=>[(7,.int .i64 j)]) (fun _=>[]) (fun j=>j<=L.length/\((L.drop j).all fun c=>letC c.toNat)=Q) (fun j=>L.length - j) 0 SFA SOA ⟨Nat.zero_le _,hQ⟩ ?_
    clear hQ
    rintro j ⟨hj,hi⟩
    by_cases hjl:j<L.length
    ·have bj:decide ((j:Int)<((⟨L.toArray⟩:ByteArray).size:Int))=true:=decide_eq_true (by omega)
     have hge:(⟨L.toArray⟩:ByteArray).data.toList.getD ((j:Int)).toNat 0=L[j]:=Zc5 (l:=L) hjl
     rw[Zag hjl,List.all_cons]at hi
     generalize L[j]=e at *
     obtain⟨z1,e1⟩:∃ z,decide ((e.toNat:Int)<65)=z:=⟨_,rfl⟩
     obtain⟨z2,e2⟩:∃ z,decide (90<(e.toNat:Int))=z:=⟨_,rfl⟩
     obtain⟨z3,e3⟩:∃ z,decide ((e.toNat:Int)<97)=z:=⟨_,rfl⟩
     obtain⟨z4,e4⟩:∃ z,decide (122<(e.toNat:Int))=z:=⟨_,rfl⟩
     have hz:((z1||z2)&&(z3||z4)) = !letC e.toNat:=by rw[<- Zyc,<- e1,<- e2,<- e3,<- e4];rfl
     cases hq:letC e.toNat with
     | true =>
      rw[hq]at hz hi
      rw[Bool.true_and]at hi
      cases z1 <;> cases z2 <;> cases z3 <;> cases z4
      all_goals first|exact absurd hz (by decide)|skip
      all_goals
       repeat (first|refine und ?_|(apply RL_pu;rfl;exact ZmH)|(apply RD_Q;rfl;rfl;decide +kernel;rfl;rfl;exact QyRfM3)|refine walk1 ?_|(refine jn ?_;(try intro F);(apply Zac;first|exact ZmH|exact PuA);first|refine⟨_,EndsA,QFRfM3,?_⟩|refine fin ?_))
       exact⟨j+1,OA,⟨OA,hi⟩,SFA,SOA⟩
     | false =>
      rw[hq]at hz hi
      rw[Bool.false_and]at hi
      subst hi
      rw[if_neg (fun h=>by cases h.1)]
      cases z1 <;> cases z2 <;> cases z3 <;> cases z4
      all_goals first|exact absurd hz (by decide)|skip
      all_goals
       repeat (first|refine und ?_|(apply RL_pu;rfl;exact ZmH)|(apply RD_Q;rfl;rfl;decide +kernel;rfl;rfl;exact QyRfM3)|refine walk1 ?_|(refine jn ?_;(try intro F);(apply Zac;first|exact ZmH|exact PuA);first|refine⟨_,EndsA,QFRfM3,?_⟩|refine fin ?_))
       exact Zck _ _ _ [] (.tmp rfl) (.tmp rfl) (.tmp rfl) .nil ⟨⟨[],[],rfl,fun _ _ h=>by cases h⟩,rfl⟩
    ·have bj:decide ((j:Int)<((⟨L.toArray⟩:ByteArray).size:Int))=false:=decide_eq_false (by omega)
     rw[List.drop_eq_nil_of_le (by omega),List.all_nil]at hi
     subst hi
     have b5:decide (((⟨L.toArray⟩:ByteArray).size:Int)<=5)=(if true=true/\L.length<=5 then some (a,b) else none).isSome:=by
      by_cases h5:L.length<=5
      ·rw[if_pos ⟨rfl,h5⟩];exact decide_eq_true (by omega)
      ·rw[if_neg (fun h=>h5 h.2)];exact decide_eq_false (by omega)
     repeat (first|refine und ?_|(apply RL_pu;rfl;exact ZtU)|(apply RD_Q;rfl;rfl;decide +kernel;rfl;rfl;exact Zwy)|refine walk1 ?_|(refine jn ?_;(try intro F);(apply Zac;first|exact ZtU|exact PuA);first|refine⟨_,EndsA,Zz1,?_⟩|refine fin ?_))
     exact Zck _ _ _ [] (.tmp rfl) (.tmp rfl) (.tmp rfl) .nil ⟨⟨a,b,rfl,fun x y h=>by
      split at h
      ·simp only[Option.some.injEq,Prod.mk.injEq]at h;exact h
      ·cases h⟩,rfl⟩
   ·have b2:(!decide ((d.toNat:Int)=115))=true:=by rw[decide_eq_false (fun e=>h2 (u115.1 e))];rfl
    rw[if_neg (fun h=>h2 h.2),htk]at hi
    repeat (first|refine und ?_|(apply RL_pu;rfl;exact ZpP)|(apply RD_Q;rfl;rfl;decide +kernel;rfl;rfl;exact QyRfM5)|refine walk1 ?_|(refine jn ?_;(try intro F);(apply Zac;first|exact ZpP|exact PuA);first|refine⟨_,EndsA,QFRfM5,?_⟩|refine fin ?_))
    exact⟨k+1,OA,⟨OA,hi⟩,SFA,SOA⟩
  ·have b1:(!decide ((c.toNat:Int)=37))=true:=by rw[decide_eq_false (fun e=>h1 (u37.1 e))];rfl
   rw[if_neg (fun h=>h1 h.1),htk]at hi
   repeat (first|refine und ?_|(apply RL_pu;rfl;exact ZpP)|(apply RD_Q;rfl;rfl;decide +kernel;rfl;rfl;exact QyRfM5)|refine walk1 ?_|(refine jn ?_;(try intro F);(apply Zac;first|exact ZpP|exact PuA);first|refine⟨_,EndsA,QFRfM5,?_⟩|refine fin ?_))
   exact⟨k+1,OA,⟨OA,hi⟩,SFA,SOA⟩
 ·have hc:s.size<=k+1:=by have:=of_decide_eq_false hc;omega
  rw[ZjB _ _ (by rw[List.length_drop];omega)]at hi
  subst hi
  repeat refine ZiW ?_
  exact Zck _ _ _ [] (.tmp rfl) (.tmp rfl) (.tmp rfl) .nil ⟨⟨[],[],rfl,fun _ _ h=>by cases h⟩,rfl⟩
theorem Zfd (s:ByteArray)(hs:s.size<=1000000000000)(w:World):Does Tryz.prog 202 [.string s] w (fun v O=>v = .bool (ZaY s.data.toList).isSome/\O=[]):=by
 have hp:=fun w'=>Zm7 s hs w'
 unfold parV at hp
 generalize ZaY s.data.toList=o at *
 refine Zaa Tryz.func202 rfl rfl rfl rfl ?_
 cases o with
 | none =>
  repeat (first|(refine js ?_;(refine Zab (fun w' _=>hp w') ?_))|refine walk ?_)
  exact rtA
 | some n =>
  repeat (first|(refine js ?_;(refine Zab (fun w' _=>hp w') ?_))|refine walk ?_)
  exact rtA
end Go.Proofs.YtpipekfmecikmaaGreatDoor
