/- Parts of the proof. -/
import Derived.Test.YtpipekfmecikmaaGreatDoorA22
set_option maxHeartbeats 0
set_option linter.all false
namespace Go.Proofs.YtpipekfmecikmaaGreatDoor
open Go Go.RowKit Go.Wk Tryz
attribute [local irreducible] W RL Does Zaq Zai retQ Calls Pu Stp RD Qy Ay Zaj
theorem ZAw {y m:Int}(h:1<=m/\m<=12):1<=lenM y m:=by
 unfold lenM
 rw[if_neg (by omega)]
 split
 ·split <;> omega
 ·split <;> omega
theorem ZvG {G:Prop}(h:G:=by(apply Zau;rfl;rfl;exact b1)):G:=h
theorem ZzW {G:Prop}(h:G:=by(first|exact ZvG|(apply Zav;rfl;rfl;exact b2))):G:=h
theorem ZzV {G:Prop}(h:G:=by(first|exact ZvG|(apply Zav;rfl;rfl;first|exact b2|exact b3))):G:=h
theorem ZyC {G:Prop}(h:G:=by first|(apply Qy_y;rfl;exact ZzV)|exact QyA):G:=h
theorem ZCO {G:Prop}(h:G:=by repeat (first|exact QF.nil|(apply QF.mk;rfl;rfl;decide +kernel;exact ZyC))):G:=h
theorem ZlX {G G':Prop}(k:G')(h:Hold G'->G:=by intro k9;(first|(apply RL_pu;rfl;exact ZzV)|(apply RD_Q;rfl;rfl;decide +kernel;rfl;rfl;exact ZyC)|refine walk1 ?_|(refine jg ?_;(try intro F);(first|(refine Zab (fun w' _=>h1 w') ?_)|(refine Zab (fun w' _=>h2 w') ?_)|(refine Zab (fun w' _=>h3 w') ?_)|(refine Zab (fun w' _=>h4 w') ?_));first|refine⟨_,EndsA,ZCO,?_⟩|refine fin ?_));exact k9.out):G:=h ⟨k⟩
theorem ZkU (y m:Int)(d:DDay)(w:World):Does prog 132 [.int .i64 y,.int .i64 m,.agg (DDay.enc d).toArray] w (fun v O=>v = .tuple #[.int .i64 (onD y m d).1,.int .i64 (onD y m d).2]/\O=[]):=by
 have h1:=fun w'=>Zf3 m 1 12 w'
 have h2:=fun w'=>ZjM d w'
 have h3:=fun w'=>ZfZ y m w'
 have h4:=fun w'=>Zrn y m 1 w'
 have J:=ZeO y m
 unfold onD
 cases hm:inB m 1 12 with
 | false =>
  have hok:Zbh y m 1=false:=by
   cases hh:Zbh y m 1 with
   | false=>rfl
   | true =>
    have:=(ZdQ hh).2.1
    unfold inB at hm
    rw[dT_ this.1,dT_ this.2]at hm
    cases hm
  rw[hok,if_pos rfl]
  rw[hm]at h1
  obtain⟨k,wk,n⟩:=d
  show Does _ _ [.int .i64 y,.int .i64 m,.agg #[.int .i64 k,.int .i64 wk,.int .i64 n]] w _
  refine Zaa func132 rfl rfl rfl rfl ?_
  repeat (first|refine walk ?_|(refine jg ?_;(try intro F);(first|(refine Zab (fun w' _=>h1 w') ?_)|(refine bx ?_;intro g));refine fin ?_))
  exact rtB
 | true =>
 have s:=hm
 unfold inB at s
 simp only[Bool.and_eq_true,decide_eq_true_eq]at s
 rw[hm]at h1
 by_cases D:y < -2000000000
 ·have b1:decide (y < -2000000000)=true:=dT_ D
  have hok:Zbh y m 1=false:=by
   cases hh:Zbh y m 1 with
   | false=>rfl
   | true=>have:=(ZdQ hh).1;omega
  rw[hok,if_pos rfl]
  obtain⟨k,wk,n⟩:=d
  show Does _ _ [.int .i64 y,.int .i64 m,.agg #[.int .i64 k,.int .i64 wk,.int .i64 n]] w _
  refine Zaa func132 rfl rfl rfl rfl ?_
  repeat (first|(apply RL_pu;rfl;exact ZvG)|refine walk1 ?_|(refine jg ?_;(try intro F);(first|(refine Zab (fun w' _=>h1 w') ?_)|(refine Zab (fun w' _=>h2 w') ?_)|(refine bx ?_;intro g));first|refine⟨_,EndsA,QFRfC0,?_⟩|refine fin ?_))
  exact rtB
 have b1:decide (y < -2000000000)=false:=dF_ D
 by_cases E:2000000000<y
 ·have b2:decide (2000000000<y)=true:=dT_ E
  have hok:Zbh y m 1=false:=by
   cases hh:Zbh y m 1 with
   | false=>rfl
   | true=>have:=(ZdQ hh).1;omega
  rw[hok,if_pos rfl]
  obtain⟨k,wk,n⟩:=d
  show Does _ _ [.int .i64 y,.int .i64 m,.agg #[.int .i64 k,.int .i64 wk,.int .i64 n]] w _
  refine Zaa func132 rfl rfl rfl rfl ?_
  repeat (first|(apply RL_pu;rfl;exact ZzW)|refine walk1 ?_|(refine jg ?_;(try intro F);(first|(refine Zab (fun w' _=>h1 w') ?_)|(refine Zab (fun w' _=>h2 w') ?_)|(refine bx ?_;intro g));first|refine⟨_,EndsA,QFRfC1,?_⟩|refine fin ?_))
  exact rtB
 have b2:decide (2000000000<y)=false:=dF_ E
 have hok:Zbh y m 1=true:=by
  have:=ZAw (y:=y) s
  unfold Zbh inY
  rw[dT_ (show -2000000000<=y by omega),dT_ (show y<=2000000000 by omega),dT_ (show 1<=lenM y m from this)]
  rfl
 rw[hok,if_neg (by decide)]
 rw[if_pos hok,if_pos hok]at h4
 have I:=Zlm hok
 cases e:ZbH d with
 | false =>
  rw[if_pos rfl]
  rw[e]at h2
  obtain⟨k,wk,n⟩:=d
  show Does _ _ [.int .i64 y,.int .i64 m,.agg #[.int .i64 k,.int .i64 wk,.int .i64 n]] w _
  refine Zaa func132 rfl rfl rfl rfl ?_
  repeat (first|(apply RL_pu;rfl;exact ZzW)|refine walk1 ?_|(refine jg ?_;(try intro F);(first|(refine Zab (fun w' _=>h1 w') ?_)|(refine Zab (fun w' _=>h2 w') ?_)|(refine bx ?_;intro g));first|refine⟨_,EndsA,QFRfC1,?_⟩|refine fin ?_))
  exact rtB
 | true =>
 rw[if_neg (by decide)]
 have j:=ZeY e
 rw[e]at h2
 generalize ZaW y m 1=f at *
 generalize lenM y m=L at *
 obtain⟨k,wk,n⟩:=d
 dsimp only at j ⊢
 replace h2:∀ w',Does prog 92 [.agg #[.int .i64 k,.int .i64 wk,.int .i64 n]] w' (fun v O=>v = .int .i64 0/\O=[]):=h2
 show Does _ _ [.int .i64 y,.int .i64 m,.agg #[.int .i64 k,.int .i64 wk,.int .i64 n]] w _
 refine Zaa func132 rfl rfl rfl rfl ?_
 by_cases H:L<n
 ·have b3:decide (L<n)=true:=dT_ H
  rw[if_pos H]
  repeat (first|refine ZlX ?_|(refine jg ?_;(try intro F);(refine bx ?_;intro g);refine fin ?_))
  exact rtB
 have b3:decide (L<n)=false:=dF_ H
 rw[if_neg H]
 unfold Zd8
 dsimp only
 obtain rfl|rfl|rfl|rfl:k=1\/k=2\/k=3\/k=4:=by omega
 ·repeat (first|refine ZlX ?_|(refine jg ?_;(try intro F);(refine bx ?_;intro g);refine fin ?_))
  exact rtB
 ·rw[if_neg (by decide),if_pos rfl]
  repeat (first|refine ZlX ?_|(refine jg ?_;(try intro F);(refine bx ?_;intro g);refine fin ?_))
  have c:ZaX (f+L - 1) wk<=f+L - 1/\f+L - 8<=ZaX (f+L - 1) wk:=by unfold ZaX;omega
  obtain⟨B,q⟩:∃ B,ZaX (f+L - 1) wk=B:=⟨_,rfl⟩
  rw[q]at c ⊢
  refine Zah [(5,.pointer (some ⟨g,0,none⟩))] [.blk g [.int .i64 2,.int .i64 wk,.int .i64 n] 64] (fun x:Int=>[(11,.int .i64 x)]) (fun _=>[]) (fun x=>ZaX x wk=B/\B<=x/\x<=f+L - 1) (fun x=>(x - B).toNat) (f+L - 1) SFA SOA ⟨q,c.1,Int.le_refl _⟩ ?_
  rintro x ⟨r,i2,i3⟩
  have t:=fun w'=>ZfF x w'
  have u:=Zhu x wk j.2.1
  have z:=Zi0 x wk
  repeat (first|refine walk ?_|(refine jg ?_;(try intro F);((refine Zab (fun w' _=>t w') ?_));refine fin ?_))
  refine Zaf rfl (fun e=>?_) (fun e=>?_)
  ·have hx:=u (by simpa using e)
   repeat (refine walk ?_)
   exact⟨x - 1,OA,⟨by rw[hx.1];exact r,OA,OA⟩,SFA,SOA⟩
  ·have hx:=z (by simpa using e)
   repeat (refine walk ?_)
   exact ret_2 _ _ [] (.tmp rfl) (.tmp rfl) .nil ⟨by rw[<- r,hx],rfl⟩
 ·rw[if_neg (by decide),if_neg (by decide),if_pos rfl]
  repeat (first|refine ZlX ?_|(refine jg ?_;(try intro F);(refine bx ?_;intro g);refine fin ?_))
  have c:f+n - 1<=Zbx (f+n - 1) wk/\Zbx (f+n - 1) wk<=f+n+6:=by unfold Zbx;omega
  obtain⟨B,q⟩:∃ B,Zbx (f+n - 1) wk=B:=⟨_,rfl⟩
  rw[q]at c ⊢
  refine Zah [(5,.pointer (some ⟨g,0,none⟩))] [.blk g [.int .i64 3,.int .i64 wk,.int .i64 n] 64] (fun x:Int=>[(10,.int .i64 x)]) (fun _=>[]) (fun x=>Zbx x wk=B/\x<=B/\f+n - 1<=x) (fun x=>(B - x).toNat) (f+n - 1) SFA SOA ⟨q,c.1,Int.le_refl _⟩ ?_
  rintro x ⟨r,i2,i3⟩
  have t:=fun w'=>ZfF x w'
  have u:=Znt x wk j.2.1
  have z:=Zo3 x wk
  repeat (first|refine walk ?_|(refine jg ?_;(try intro F);((refine Zab (fun w' _=>t w') ?_));refine fin ?_))
  refine Zaf rfl (fun e=>?_) (fun e=>?_)
  ·have hx:=u (by simpa using e)
   repeat (refine walk ?_)
   exact⟨x+1,OA,⟨by rw[hx.1];exact r,OA,OA⟩,SFA,SOA⟩
  ·have hx:=z (by simpa using e)
   repeat (refine walk ?_)
   exact ret_2 _ _ [] (.tmp rfl) (.tmp rfl) .nil ⟨by rw[<- r,hx],rfl⟩
 ·rw[if_neg (by decide),if_neg (by decide),if_neg (by decide)]
  repeat (first|refine ZlX ?_|(refine jg ?_;(try intro F);(refine bx ?_;intro g);refine fin ?_))
  have c:ZaX (f+n - 1) wk<=f+n - 1/\f+n - 8<=ZaX (f+n - 1) wk:=by unfold ZaX;omega
  obtain⟨B,q⟩:∃ B,ZaX (f+n - 1) wk=B:=⟨_,rfl⟩
  rw[q]at c ⊢
  refine Zah [(5,.pointer (some ⟨g,0,none⟩))] [.blk g [.int .i64 4,.int .i64 wk,.int .i64 n] 64] (fun x:Int=>[(11,.int .i64 x)]) (fun _=>[]) (fun x=>ZaX x wk=B/\B<=x/\x<=f+n - 1) (fun x=>(x - B).toNat) (f+n - 1) SFA SOA ⟨q,c.1,Int.le_refl _⟩ ?_
  rintro x ⟨r,i2,i3⟩
  have t:=fun w'=>ZfF x w'
  have u:=Zhu x wk j.2.1
  have z:=Zi0 x wk
  repeat (first|refine walk ?_|(refine jg ?_;(try intro F);((refine Zab (fun w' _=>t w') ?_));refine fin ?_))
  refine Zaf rfl (fun e=>?_) (fun e=>?_)
  ·have hx:=u (by simpa using e)
   repeat (refine walk ?_)
   exact⟨x - 1,OA,⟨by rw[hx.1];exact r,OA,OA⟩,SFA,SOA⟩
  ·have hx:=z (by simpa using e)
   repeat (refine walk ?_)
   exact ret_2 _ _ [] (.tmp rfl) (.tmp rfl) .nil ⟨by rw[<- r,hx],rfl⟩
end Go.Proofs.YtpipekfmecikmaaGreatDoor
namespace Go.Wk
open Go Go.RowKit
def letC (c:Int):Bool:=(decide (65<=c)&&decide (c<=90))||(decide (97<=c)&&decide (c<=122))
def digC (c:Int):Bool:=decide (48<=c)&&decide (c<=57)
theorem Zty (c:Nat):letC c=decide (ZbX c=1):=by
 unfold letC ZbX
 by_cases h:(65<=c/\c<=90)\/(97<=c/\c<=122)
 ·rw[if_pos h,Bool.eq_iff_iff]
  simp only[Bool.or_eq_true,Bool.and_eq_true,decide_eq_true_eq]
  constructor
  ·intro;trivial
  ·intro;omega
 ·rw[if_neg h,Bool.eq_iff_iff]
  simp only[Bool.or_eq_true,Bool.and_eq_true,decide_eq_true_eq]
  constructor
  ·intro;omega
  ·intro a
   exfalso
   revert a
   repeat' split
   all_goals decide
def Zrc (c:Int):Bool:=letC c||(digC c||(decide (c=95)||decide (c=45)))
def Zot (c:Int):Bool:=letC c||(digC c||(decide (c=46)||(decide (c=95)||(decide (c=43)||decide (c=45)))))
theorem Znq (c:Nat):(!decide (ZbX c &&& 1=0))=letC c:=by
 rw[Zty]
 rcases List.mem_cons.1 (Znr c) with h|h
 ·rw[h];rfl
 ·simp only[List.mem_cons,List.mem_nil_iff,or_false]at h
  rcases h with h|h|h|h|h <;> rw[h] <;> rfl
theorem Zns:∀ c:Fin 256,(!decide (ZbX c.val &&& 15=0))=Zrc (c.val:Nat)/\(!decide (ZbX c.val &&& 31=0))=Zot (c.val:Nat):=by decide +kernel
theorem Zum (c:UInt8):(!decide (ZbX c.toNat &&& 15=0))=Zrc c.toNat:=(Zns ⟨c.toNat,c.toNat_lt⟩).1
theorem Zr5 (c:UInt8):(!decide (ZbX c.toNat &&& 31=0))=Zot c.toNat:=(Zns ⟨c.toNat,c.toNat_lt⟩).2
end Go.Wk
namespace Go.Proofs.YtpipekfmecikmaaGreatDoor
open Go Go.RowKit Go.Wk Tryz
attribute [local irreducible] W RL Does Zaq Zai retQ Calls Pu Stp RD Qy Ay Zaj
theorem Zcz (c:Int)(w:World):Does prog 243 [.int .u8 c] w (fun v O=>v = .bool (letC c)/\O=[]):=by
 refine Zaa func243 rfl rfl rfl rfl ?_
 repeat' (first|refine walk ?_|refine und ?_|(refine Zas rfl rfl rfl (fun a=>?_) (fun a=>?_)))
 all_goals (refine ret_1 _ [] (.tmp rfl) .nil ⟨?_,rfl⟩;first|(simp_all [letC];done)|(simp_all [letC];omega))
theorem Zh9 (c:Int)(w:World):Does prog 244 [.int .u8 c] w (fun v O=>v = .bool (digC c)/\O=[]):=by
 refine Zaa func244 rfl rfl rfl rfl ?_
 repeat' (first|refine walk ?_|refine und ?_|(refine Zas rfl rfl rfl (fun a=>?_) (fun a=>?_)))
 all_goals (refine ret_1 _ [] (.tmp rfl) .nil ⟨?_,rfl⟩;first|(simp_all [digC];done)|(simp_all [digC];omega))
theorem Zdw {l:List UInt8}{k:Nat}(h:k<l.length):l.getD k 0=l[k]:=by rw[List.getD_eq_getElem?_getD,List.getElem?_eq_getElem h];rfl
theorem ZnP {G:Prop}(h:G:=by(apply Za3;rfl;rfl;omega;omega;exact hgc)):G:=h
theorem ZfY (s:ByteArray)(a b:Nat)(r:(s.size:Int)<=9223372036854775807)(w:World):Does prog 203 [.string s,.int .i64 a,.int .i64 b] w (fun v O=>v = .bool (Zb7 a b 1 s.data.toList)/\O=[]):=by
 have j:s.data.toList.length=s.size:=rfl
 obtain⟨R,i⟩:∃ R,(s.data.toList.all fun c=>letC c.toNat)=R:=⟨_,rfl⟩
 have m:Zb7 a b 1 s.data.toList=(decide (a<=s.size)&&(decide (s.size<=b)&&R)):=by
  unfold Zb7 ZbO
  rw[<- i,j,Bool.and_assoc]
  congr 3
  funext c
  exact Znq c.toNat
 rw[m]
 refine Zaa func203 rfl rfl rfl rfl ?_
 repeat (refine walk ?_)
 refine Zah [(0,.string s),(1,.int .i64 a),(2,.int .i64 b)] [] (fun k:Nat=>[(7,.int .i64 k)]) (fun _=>[]) (fun k=>k<=s.size/\((s.data.toList.drop k).all fun c=>letC c.toNat)=R) (fun k=>s.size - k) 0 SFA SOA ⟨Nat.zero_le _,i⟩ ?_
 rintro k ⟨q,d⟩
 repeat (refine walk ?_)
 refine Zaf rfl (fun e=>?_) (fun e=>?_)
 ·simp only[decide_eq_true_eq,Int.ofNat_lt]at e
  have hgc:s.data.toList.getD ((k:Int)).toNat 0=s.data.toList[k]:=Zdw (by omega)
  rw[Zag (show k<s.data.toList.length by omega),List.all_cons]at d
  generalize s.data.toList[k]=c at *
  repeat (first|(apply RL_pu;rfl;exact ZnP)|(refine js ?_;(refine Zab (fun w' _=>Zcz c.toNat w') ?_))|refine walk1 ?_)
  refine Zaf rfl (fun f=>?_) (fun f=>?_)
  ·have g:letC c.toNat=false:=by simpa using f
   rw[g,Bool.false_and]at d
   subst d
   repeat (refine walk ?_)
   exact ret_1 _ [] (.tmp rfl) .nil ⟨by simp,rfl⟩
  ·have g:letC c.toNat=true:=by simpa using f
   rw[g,Bool.true_and]at d
   repeat (refine walk ?_)
   exact⟨k+1,OA,⟨OA,d⟩,SFA,SOA⟩
 ·simp only[decide_eq_false_iff_not,Int.ofNat_lt]at e
  rw[List.drop_eq_nil_of_le (by omega),List.all_nil]at d
  subst d
  rw[show decide (a<=s.size)=decide ((a:Int)<=s.size) by rw[decide_eq_decide];omega,show decide (s.size<=b)=decide ((s.size:Int)<=b) by rw[decide_eq_decide];omega,Bool.and_true]
  repeat' (first|refine walk ?_|refine und ?_|(refine Zas rfl rfl rfl (fun e=>?_) (fun e=>?_)))
  all_goals exact clo1
theorem Zmm (s:ByteArray)(a:(s.size:Int)<=9223372036854775807)(w:World):Does prog 281 [.string s] w (fun v O=>v = .bool (ZeN s)/\O=[]):=by
 refine Zaa func281 rfl rfl rfl rfl ?_
 repeat (first|(refine js ?_;(refine Zab (fun w' _=>ZfY s 1 4 a w') ?_))|refine walk ?_)
 exact rtA
theorem Ze9 (s:ByteArray)(a:(s.size:Int)<=9223372036854775807)(w:World):Does prog 137 [.string s] w (fun v O=>v = .bool (ZhB s)/\O=[]):=by
 refine Zaa func137 rfl rfl rfl rfl ?_
 repeat (first|(refine js ?_;(refine Zab (fun w' _=>ZfY s 3 6 a w') ?_))|refine walk ?_)
 exact rtA
theorem ZzU {G:Prop}(h:G:=by(apply Zau;rfl;rfl;exact b1)):G:=h
theorem ZzT {G:Prop}(h:G:=by(first|exact ZnP|(apply Zau;rfl;rfl;exact b1)|(apply Zav;rfl;rfl;exact b2))):G:=h
theorem ZDG {G:Prop}(h:G:=by(first|exact ZnP|(apply Zal;rfl;rfl;first|exact e1|exact e2))):G:=h
theorem Zst {G G':Prop}(k:G')(h:Hold G'->G:=by intro k9;(first|(apply RL_pu;rfl;exact ZDG)|(refine js ?_;(first|(refine Zab (fun w' _=>hcl w') ?_)|(refine Zab (fun w' _=>hcd w') ?_)))|refine walk1 ?_);exact k9.out):G:=h ⟨k⟩
theorem Zs3 (s:ByteArray)(B:(s.size:Int)<=9223372036854775807)(w:World):Does prog 188 [.string s] w (fun v O=>v = .bool (setB s)/\O=[]):=by
 have i:s.data.toList.length=s.size:=rfl
 obtain⟨R,m⟩:∃ R,(s.data.toList.all fun c=>Zrc c.toNat)=R:=⟨_,rfl⟩
 have d:setB s=((decide (1<=s.size)&&decide (s.size<=30)&&R)&&letC (s.data.toList.getD 0 0).toNat):=by
  unfold setB Zb7 ZbO
  rw[<- m,i]
  by_cases r:1<=s.size
  ·rw[show s.data.toList.take 1=[s.data.toList.getD 0 0] by
    obtain⟨x,l,hx⟩:∃ x l,s.data.toList=x::l:=by
     cases hd:s.data.toList with
     | nil=>rw[hd]at i;simp at i;omega
     | cons x l=>exact⟨x,l,rfl⟩
    rw[hx];rfl]
   congr 1
   ·congr 1
    congr 1
    funext c
    exact Zum c
   ·show((!decide (ZbX (s.data.toList.getD 0 0).toNat &&& 1=0))&&true)=_
    rw[Bool.and_true,Znq]
  ·rw[dF_ r];rfl
 refine Zaa func188 rfl rfl rfl rfl ?_
 by_cases u:s.size<1
 ·have b1:decide ((s.size:Int)<1)=true:=dT_ (by omega)
  rw[show setB s=false by rw[d,dF_ (show ¬ 1<=s.size by omega)];rfl]
  repeat (first|(apply RL_pu;rfl;exact ZzU)|refine walk1 ?_)
  exact rtA
 have b1:decide ((s.size:Int)<1)=false:=dF_ (by omega)
 by_cases z:30<s.size
 ·have b2:decide (30<(s.size:Int))=true:=dT_ (by omega)
  rw[show setB s=false by rw[d,dF_ (show ¬ s.size<=30 by omega),Bool.and_false];rfl]
  repeat (first|(apply RL_pu;rfl;(first|exact ZzU|(apply Zav;rfl;rfl;exact b2)))|refine walk1 ?_)
  exact rtA
 have b2:decide (30<(s.size:Int))=false:=dF_ (by omega)
 obtain⟨c,hgc⟩:∃ c,s.data.toList.getD ((0:Int)).toNat 0=c:=⟨_,rfl⟩
 rw[show s.data.toList.getD 0 0=c from hgc,dT_ (show 1<=s.size by omega),dT_ (show s.size<=30 by omega)]at d
 cases hl:letC c.toNat with
 | false =>
  have hcl:=fun w'=>Zcz c.toNat w'
  rw[hl]at hcl d
  rw[d,Bool.and_false]
  repeat (first|(apply RL_pu;rfl;exact ZzT)|(refine js ?_;(refine Zab (fun w' _=>hcl w') ?_))|refine walk1 ?_)
  exact rtA
 | true =>
 have hcl:=fun w'=>Zcz c.toNat w'
 rw[hl]at hcl d
 rw[show setB s=R by rw[d,Bool.and_true];rfl]
 repeat (first|(apply RL_pu;rfl;exact ZzT)|(refine js ?_;(refine Zab (fun w' _=>hcl w') ?_))|refine walk1 ?_)
 clear hgc hl hcl d
 refine Zah [(0,.string s)] [] (fun k:Nat=>[(3,.int .i64 k)]) (fun _=>[]) (fun k=>k<=s.size/\((s.data.toList.drop k).all fun c=>Zrc c.toNat)=R) (fun k=>s.size - k) 0 SFA SOA ⟨Nat.zero_le _,m⟩ ?_
 rintro k ⟨A,e⟩
 repeat (refine walk ?_)
 refine Zaf rfl (fun j=>?_) (fun j=>?_)
 ·simp only[decide_eq_true_eq,Int.ofNat_lt]at j
  have hgc:s.data.toList.getD ((k:Int)).toNat 0=s.data.toList[k]:=Zdw (by omega)
  rw[Zag (show k<s.data.toList.length by omega),List.all_cons]at e
  generalize s.data.toList[k]=c at *
  unfold Zrc at e
  have hcl:=fun w'=>Zcz c.toNat w'
  have hcd:=fun w'=>Zh9 c.toNat w'
  generalize letC c.toNat=x at *
  generalize digC c.toNat=y at *
  obtain⟨g,e1⟩:∃ g,(!decide ((c.toNat:Int)=95))=g:=⟨_,rfl⟩
  obtain⟨z2,e2⟩:∃ z2,(!decide ((c.toNat:Int)=45))=z2:=⟨_,rfl⟩
  rw[show decide ((c.toNat:Int)=95) = !g by rw[<- e1,Bool.not_not],show decide ((c.toNat:Int)=45) = !z2 by rw[<- e2,Bool.not_not]]at e
  have f:∀ q:Bool,(x||(y||(!g||!z2)))=q->(q&&(s.data.toList.drop (k+1)).all fun c=>Zrc c.toNat)=R:=fun q t=>by rw[<- t];exact e
  cases x with
  | true =>
   repeat (first|(apply RL_pu;rfl;exact ZnP)|(refine js ?_;(refine Zab (fun w' _=>hcl w') ?_))|refine walk1 ?_)
   exact⟨k+1,OA,⟨OA,by simpa using f true rfl⟩,SFA,SOA⟩
  | false =>
  cases y with
  | true =>
   repeat (first|(apply RL_pu;rfl;exact ZnP)|(refine js ?_;(first|(refine Zab (fun w' _=>hcl w') ?_)|(refine Zab (fun w' _=>hcd w') ?_)))|refine walk1 ?_)
   exact⟨k+1,OA,⟨OA,by simpa using f true rfl⟩,SFA,SOA⟩
  | false =>
  cases g with
  | false =>
   repeat refine Zst ?_
   exact⟨k+1,OA,⟨OA,by simpa using f true rfl⟩,SFA,SOA⟩
  | true =>
  cases z2 with
  | false =>
   repeat refine Zst ?_
   exact⟨k+1,OA,⟨OA,by simpa using f true rfl⟩,SFA,SOA⟩
  | true =>
   have:=f false rfl
   rw[Bool.false_and]at this
   subst this
   repeat refine Zst ?_
   exact rtA
 ·simp only[decide_eq_false_iff_not,Int.ofNat_lt]at j
  rw[List.drop_eq_nil_of_le (by omega),List.all_nil]at e
  subst e
  repeat (refine walk ?_)
  exact rtA
end Go.Proofs.YtpipekfmecikmaaGreatDoor
namespace Go.Wk
open Go Go.RowKit
def ZjP (m:Int)(d:DDay):Bool:=if d.kind=2 then true else if d.kind=3 then decide (d.day.tmod 7=1)&&decide (d.day<29) else if d.kind=1 then !decide (m=2)||!decide (d.day=29) else false
theorem Zru (n:Int):(decide (n.tmod 7=1)&&decide (n<29))=(decide (n=1)||decide (n=8)||decide (n=15)||decide (n=22)):=by
 rw[Bool.eq_iff_iff]
 simp only[Bool.or_eq_true,Bool.and_eq_true,decide_eq_true_eq]
 by_cases b:0<=n
 ·rw[Int.tmod_eq_emod_of_nonneg b]
  omega
 ·have c:n.tmod 7<=0:=by
   have:=Int.tmod_nonneg (a := -n) 7 (by omega)
   rw[Int.neg_tmod]at this
   omega
  generalize n.tmod 7=q at *
  omega
end Go.Wk
namespace Go.Proofs.YtpipekfmecikmaaGreatDoor
open Go Go.RowKit Go.Wk Tryz
attribute [local irreducible] W RL Does Zaq Zai retQ Calls Pu Stp RD Qy Ay Zaj Zb7
theorem Zh5 (y:Int)(w:World):Does prog 278 [.int .i64 y] w (fun v O=>v = .bool (ZbJ y)/\O=[]):=by
 refine Zaa func278 rfl rfl rfl rfl ?_
 repeat' (first|refine walk ?_|(refine Zas rfl rfl rfl (fun a=>?_) (fun a=>?_)))
 all_goals (refine ret_1 _ [] (.tmp rfl) .nil ⟨?_,rfl⟩;first|(simp_all [ZbJ];done)|(simp_all [ZbJ];omega))
theorem ZvE {G:Prop}(h:G:=by(apply ZbF;rfl;rfl;exact b1)):G:=h
theorem ZzP {G:Prop}(h:G:=by(first|exact ZvE|(apply Zal;rfl;rfl;exact b2))):G:=h
theorem Zri (c:DClock)(least:Int)(g : -9223372036854775808<=least/\least<=0)(w:World):Does prog 280 [.agg (DClock.enc c).toArray,.int .i64 least] w (fun v O=>v = .bool (Zek c least)/\O=[]):=by
 have a:=fun w'=>ZjL c w'
 unfold Zek
 cases hc:ZaL c with
 | false =>
  rw[hc]at a
  obtain⟨s,b⟩:=c
  show Does _ _ [.agg #[.int .i64 s,.int .i64 b],.int .i64 least] w _
  refine Zaa func280 rfl rfl rfl rfl ?_
  repeat (first|(refine js ?_;(first|(refine Zab (fun w' _=>a w') ?_)|(refine bx ?_;intro e)))|refine walk ?_)
  exact rtA
 | true =>
  rw[hc]at a
  have f : -604799<=c.sec/\c.sec<=604799:=by
   simp only[ZaL,Bool.and_eq_true,decide_eq_true_eq]at hc
   omega
  obtain⟨s,b⟩:=c
  dsimp only at f ⊢
  rw[Bool.true_and]
  show Does _ _ [.agg #[.int .i64 s,.int .i64 b],.int .i64 least] w _
  refine Zaa func280 rfl rfl rfl rfl ?_
  by_cases d:b=1
  ·subst d
   rw[if_pos rfl]
   by_cases h1 : -86400 - least<=s
   ·have b1:decide (-86400 - least<=s)=true:=dT_ h1
    rw[show decide (-86400<=s+least)=true from dT_ (by omega),show decide (s+least<=172800)=decide (s<=172800 - least) by rw[decide_eq_decide];omega,Bool.true_and]
    repeat (first|(apply RL_pu;rfl;exact ZvE)|(refine js ?_;(first|(refine Zab (fun w' _=>a w') ?_)|(refine bx ?_;intro e)))|refine walk1 ?_)
    exact rtA
   ·have b1:decide (-86400 - least<=s)=false:=dF_ h1
    rw[show decide (-86400<=s+least)=false from dF_ (by omega),Bool.false_and]
    repeat (first|(apply RL_pu;rfl;exact ZvE)|(refine js ?_;(first|(refine Zab (fun w' _=>a w') ?_)|(refine bx ?_;intro e)))|refine walk1 ?_)
    exact rtA
  ·rw[if_neg d]
   have b2:(!decide (b=1))=true:=by rw[dF_ d];rfl
   by_cases h1 : -86400<=s
   ·have b1:decide (-86400<=s)=true:=dT_ h1
    rw[b1,Bool.true_and]
    repeat (first|(apply RL_pu;rfl;exact ZzP)|(refine js ?_;(first|(refine Zab (fun w' _=>a w') ?_)|(refine bx ?_;intro e)))|refine walk1 ?_)
    exact rtA
   ·have b1:decide (-86400<=s)=false:=dF_ h1
    rw[b1,Bool.false_and]
    repeat (first|(apply RL_pu;rfl;exact ZzP)|(refine js ?_;(first|(refine Zab (fun w' _=>a w') ?_)|(refine bx ?_;intro e)))|refine walk1 ?_)
    exact rtA
theorem Zh2 (m:Int)(d:DDay)(w:World):Does prog 282 [.int .i64 m,.agg (DDay.enc d).toArray] w (fun v O=>v = .bool (ZjP m d)/\O=[]):=by
 unfold ZjP
 rw[Zru]
 obtain⟨k,wk,n⟩:=d
 show Does _ _ [.int .i64 m,.agg #[.int .i64 k,.int .i64 wk,.int .i64 n]] w _
 refine Zaa func282 rfl rfl rfl rfl ?_
 repeat' (first|(refine js ?_;(refine bx ?_;intro b))|refine walk ?_|(refine Zas rfl rfl rfl (fun a=>?_) (fun a=>?_))|(refine Zaf rfl (fun a=>?_) (fun a=>?_)))
 all_goals exact clo1
set_option maxHeartbeats 0 in
theorem Zrk (r:DRule)(least:Int)(s : -9223372036854775808<=least/\least<=0)(t:(r.letter.size:Int)<=9223372036854775807)(w:World):Does prog 245 [.agg (DRule.enc r).toArray,.int .i64 least] w (fun v O=>v = .int .i64 (Zbu r least)/\O=[]):=by
 have i:=fun w'=>Zh5 r.from_ w'
 have j:=fun w'=>Zh5 r.to w'
 have m:=fun w'=>Zml r.from_ r.to r.month r.day w'
 have p:=fun w'=>Zri r.at_ least s w'
 have q:=fun w'=>Zmm r.letter t w'
 unfold Zbu
 generalize ZbJ r.from_=n1 at *
 generalize ZbJ r.to=n2 at *
 generalize Zcf r.from_ r.to r.month r.day=al at *
 generalize Zek r.at_ least=ti at *
 generalize ZeN r.letter=lb at *
 obtain⟨x,fr,to,u,⟨f,g,dd⟩,⟨cs,e⟩,sv,le⟩:=r
 simp only at *
 show Does _ _ [.agg #[.string x,.int .i64 fr,.int .i64 to,.int .i64 u,.int .i64 f,.int .i64 g,.int .i64 dd,.int .i64 cs,.int .i64 e,.int .i64 sv,.string le],.int .i64 least] w _
 obtain⟨c,a⟩:∃ c,decide (to=1048576)=c:=⟨_,rfl⟩
 rw[a]
 have b:(!decide (to=1048576)) = !c:=by rw[a]
 rw[show decide (le=ByteArray.empty)=decide (le=(⟨#[]⟩:ByteArray)) from rfl]
 refine Zaa func245 rfl rfl rfl rfl ?_
 repeat' (first|(apply RL_pu;rfl;(apply Zal;rfl;rfl;exact b))|(refine js ?_;(first|(refine Zab (fun w' _=>i w') ?_)|(refine Zab (fun w' _=>j w') ?_)|(refine Zab (fun w' _=>m w') ?_)|(refine Zab (fun w' _=>p w') ?_)|(refine Zab (fun w' _=>q w') ?_)|(refine bx ?_;intro y)))|refine walk1 ?_|refine und ?_|(refine Zas rfl rfl rfl (fun d=>?_) (fun d=>?_))|(refine Zaf rfl (fun d=>?_) (fun d=>?_)))
 all_goals exact clo1
end Go.Proofs.YtpipekfmecikmaaGreatDoor
namespace Go.Wk
open Go Go.RowKit
def ZBO:List DRule->Bool
 | []=>true
 | [a,b]=>(decide (a.save=0) != decide (b.save=0))&&!decide (a.month=b.month)&&ZjP a.month a.day&&ZjP b.month b.day
 | _=>false
theorem ZwO (l:List DRule):ZgQ l=ZBO (l.filter fun r=>decide (r.to=1048576)):=by
 unfold ZgQ
 generalize l.filter (fun r=>decide (r.to=1048576))=F
 match F with
 | []=>rfl
 | [a]=>rfl
 | [a,b]=>rfl
 | a::b::c::t=>rfl
def chkT (L:Int)(lb:Bool):List DRule->Nat->Bool->Bool->Nat × Int
 | [],_,z,s=>if z=false\/(L<0/\s=false) then (0,14) else if lb=false then (0,16) else (0,0)
 | r::l,k,z,s=>if Zbu r L=0 then chkT L lb l (k+1) (z||decide (r.save=0)) (s&&(decide (r.save=0)||decide (r.save=L))) else (k,Zbu r L)
theorem Zug (L:Int)(lb:Bool):∀ (l:List DRule) (k:Nat) (z s:Bool),chkT L lb l k z s =
  match ZaS L l k with
  | some x=>x
  | none=>if (z||l.any fun r=>decide (r.save=0))=false\/(L<0/\(!s||l.any fun r => !decide (r.save=0)&&!decide (r.save=L))=true) then (0,14) else if lb=false then (0,16) else (0,0)
 | [],k,z,s=>by
  rw[chkT,ZaS]
  simp only[List.any_nil,Bool.or_false,Bool.not_eq_true']
 | r::l,k,z,s=>by
  rw[chkT,ZaS]
  by_cases h:Zbu r L=0
  ·rw[if_pos h,if_pos h,Zug L lb l (k+1)]
   cases ZaS L l (k+1) with
   | some x=>rfl
   | none =>
    dsimp only
    rw[List.any_cons,List.any_cons,Bool.or_assoc]
    congr 3
    cases s <;> cases decide (r.save=0) <;> cases decide (r.save=L) <;> rfl
  ·rw[if_neg h,if_neg h]
theorem ZAO (l:List DRule):chkT (Zae l) (ZgQ l) l 0 false true=ZcE l:=by
 rw[Zug]
 unfold ZcE
 cases ZaS (Zae l) l 0 <;> rfl
end Go.Wk
namespace Go.Proofs.YtpipekfmecikmaaGreatDoor
open Go Go.RowKit Go.Wk Tryz
attribute [local irreducible] W RL Does Zaq Zai retQ Calls Pu Stp RD Qy Ay Zaj Zb7
theorem Zco (A:Option Addr)(c:Nat)(l:List DRule)(w:World)(f:RdSl w A c DRule.enc 11 l):Does prog 158 [.slice A l.length c] w (fun v O=>v = .int .i64 (Zae l)/\O=[]):=by
 have s:=f.le
 have i:=f.cap
 unfold maxLen at i
 generalize hres:Zae l=res
 unfold Zae at hres
 refine Zaa func158 rfl rfl rfl rfl ?_
 repeat (refine walk ?_)
 refine Zah [(0,.slice A l.length c)] [] (fun g:Nat × Int=>[(3,.int .i64 g.2),(4,.int .i64 g.1)]) (fun _=>[]) (fun g=>g.1<=l.length/\(l.drop g.1).foldl (fun m r=>min m r.save) g.2=res) (fun g=>l.length - g.1) (0,0) SFA SOA ⟨Nat.zero_le _,hres⟩ ?_
 rintro⟨k,m⟩ ⟨hk,hi⟩
 dsimp only at hk hi ⊢
 repeat (refine walk ?_)
 refine Zaf rfl (fun h=>?_) (fun h=>?_)
 ·have d:k<l.length:=by simpa using h
  obtain⟨hna,hca⟩:=f.rd k _ (List.getElem?_eq_getElem d)
  rw[Zag d,List.foldl_cons]at hi
  generalize l[k]=r at *
  simp only[DRule.enc]at hca
  repeat (first|(apply RL_pu;rfl;exact PuI)|refine walk1 ?_)
  refine Zaf rfl (fun e=>?_) (fun e=>?_)
  ·have q:r.save<m:=by simpa using e
   rw[show min m r.save=r.save by omega]at hi
   repeat (first|(apply RL_pu;rfl;exact PuI)|refine walk1 ?_)
   exact⟨(k+1,r.save),OA,⟨OA,hi⟩,SFA,SOA⟩
  ·have q:¬ r.save<m:=by simpa using e
   rw[show min m r.save=m by omega]at hi
   repeat (refine walk ?_)
   exact⟨(k+1,m),OA,⟨OA,hi⟩,SFA,SOA⟩
 ·have j:k=l.length:=by
   have:=of_decide_eq_false h
   omega
  subst j
  rw[List.drop_length]at hi
  repeat (refine walk ?_)
  exact ret_1 _ [] (.tmp rfl) .nil ⟨by rw[<- hi];rfl,rfl⟩
theorem ZzO {G:Prop}(h:G:=by(first|exact PuI|(apply Zal;rfl;rfl;exact b1))):G:=h
theorem ZzN {G:Prop}(h:G:=by(first|exact PuI|(apply Zal;rfl;rfl;first|exact b1|exact b2|exact b3))):G:=h
theorem Zh3 (A:Option Addr)(c:Nat)(l:List DRule)(w:World)(q:RdSl w A c DRule.enc 11 l):Does prog 192 [.slice A l.length c] w (fun v O=>v = .tuple #[.int .i64 (Zb1 l).1,.bool (Zb1 l).2]/\O=[]):=by
 have u:=q.le
 have s:=q.cap
 unfold maxLen at s
 generalize hres:Zb1 l=res
 unfold Zb1 at hres
 refine Zaa func192 rfl rfl rfl rfl ?_
 repeat (refine walk ?_)
 refine Zah [(0,.slice A l.length c)] [] (fun g:Nat × Int=>[(4,.int .i64 g.2),(5,.int .i64 g.1)]) (fun _=>[]) (fun g=>g.1<=l.length/\Zcp (l.drop g.1) g.2=res) (fun g=>l.length - g.1) (0,0) SFA SOA ⟨Nat.zero_le _,hres⟩ ?_
 rintro⟨k,m⟩ ⟨hk,hi⟩
 dsimp only at hk hi ⊢
 repeat (refine walk ?_)
 refine Zaf rfl (fun h=>?_) (fun h=>?_)
 ·have d:k<l.length:=by simpa using h
  obtain⟨hna,hca⟩:=q.rd k _ (List.getElem?_eq_getElem d)
  rw[Zag d,Zcp]at hi
  generalize l[k]=r at *
  simp only[DRule.enc]at hca
  by_cases f:r.save=0
  ·rw[if_pos f]at hi
   have b1:(!decide (r.save=0))=false:=by rw[dT_ f];rfl
   repeat (first|(apply RL_pu;rfl;exact ZzO)|refine walk1 ?_)
   exact⟨(k+1,m),OA,⟨OA,hi⟩,SFA,SOA⟩
  rw[if_neg f]at hi
  have b1:(!decide (r.save=0))=true:=by rw[dF_ f];rfl
  by_cases i:m=0
  ·have b2:(!decide (m=0))=false:=by rw[dT_ i];rfl
   rw[if_neg (fun e=>e.1 i)]at hi
   repeat (first|(apply RL_pu;rfl;(first|exact PuI|(apply Zal;rfl;rfl;first|exact b1|exact b2)))|refine walk1 ?_)
   exact⟨(k+1,r.save),OA,⟨OA,hi⟩,SFA,SOA⟩
  have b2:(!decide (m=0))=true:=by rw[dF_ i];rfl
  by_cases j:r.save=m
  ·have b3:(!decide (r.save=m))=false:=by rw[dT_ j];rfl
   rw[if_neg (fun e=>e.2 j)]at hi
   repeat (first|(apply RL_pu;rfl;exact ZzN)|refine walk1 ?_)
   exact⟨(k+1,r.save),OA,⟨OA,hi⟩,SFA,SOA⟩
  ·have b3:(!decide (r.save=m))=true:=by rw[dF_ j];rfl
   rw[if_pos ⟨i,j⟩]at hi
   repeat (first|(apply RL_pu;rfl;exact ZzN)|refine walk1 ?_)
   exact ret_2 _ _ [] (.tmp rfl) (.tmp rfl) .nil ⟨by rw[<- hi],rfl⟩
 ·have t:k=l.length:=by
   have:=of_decide_eq_false h
   omega
  subst t
  rw[List.drop_length,Zcp]at hi
  repeat (refine walk ?_)
  exact ret_2 _ _ [] (.tmp rfl) (.tmp rfl) .nil ⟨by rw[<- hi],rfl⟩
theorem ZDE {G:Prop}(h:G:=by(first|(apply Zap;rfl;rfl;exact b1)|(apply Zal;rfl;rfl;exact b2))):G:=h
theorem ZzM {G:Prop}(h:G:=by(first|(apply ZaG;rfl;rfl;decide;(show(_:Int)<((2:Nat):Int);decide);(intro w' _ hO;exact(Zbc (hO.of (A := .row (.slice A1 2 c1) 68 11 2 ([x,y].flatMap DRule.enc)) cS_) hg0).1))|(apply Zch;rfl;(focus repeat' constructor);(first|exact hn0|exact hn1);rfl)|(apply Zap;rfl;rfl;first|exact e1|exact e2))):G:=h
theorem ZyB {G:Prop}(h:G:=by first|(apply Qy_y;rfl;exact ZzM)|exact QyA):G:=h
theorem ZCN {G:Prop}(h:G:=by repeat (first|exact QF.nil|(apply QF.mk;rfl;rfl;decide +kernel;exact ZyB))):G:=h
theorem ZDD {G:Prop}(h:G:=by(apply Zal;rfl;rfl;exact e4)):G:=h
set_option maxHeartbeats 0 in
theorem Zrl (A:Option Addr)(c:Nat)(l:List DRule)(w:World)(I:RdSl w A c DRule.enc 11 l)(Q:l.length<=1000000):Does prog 246 [.slice A l.length c] w (fun v O=>v = .bool (ZgQ l)/\O=[]):=by
 rw[ZwO]
 generalize hres:l.filter (fun r=>decide (r.to=1048576))=res
 refine Zaa func246 rfl rfl rfl rfl ?_
 repeat (refine walk ?_)
 refine Zdy 68 11 ?_
 refine Zah [(0,.slice A l.length c)] [] (fun g:AG DRule=>[(3,.slice g.A g.m g.c),(4,.int .i64 g.k)]) (fun g=>[.row (.slice g.A g.m g.c) 68 11 g.m g.xs]) (fun g=>g.k<=l.length/\g.m=g.acc.length/\g.xs=g.acc.flatMap DRule.enc/\g.m<=g.k/\g.acc++(l.drop g.k).filter (fun r=>decide (r.to=1048576))=res) (fun g=>l.length - g.k) ⟨0,none,0,0,[],[]⟩ SFA SOA ⟨Nat.zero_le _,rfl,rfl,Nat.le_refl _,by simpa using hres⟩ ?_
 rintro⟨k,A1,c1,m,xs,acc⟩ ⟨hk,hm,hx,hmk,hi⟩
 dsimp only at hk hm hx hmk hi ⊢
 repeat (refine walk ?_)
 refine Zaf rfl (fun d=>?_) (fun d=>?_)
 ·simp only[decide_eq_true_eq,Int.ofNat_lt]at d
  obtain⟨hna,hca⟩:=I.rd k _ (List.getElem?_eq_getElem d)
  rw[Zag d,List.filter_cons]at hi
  generalize l[k]=r at *
  repeat (first|(apply RL_pu;rfl;exact PuI)|refine walk1 ?_)
  refine Zaf rfl (fun f=>?_) (fun f=>?_)
  ·rw[if_pos f]at hi
   repeat (first|(apply RL_pu;rfl;exact PuI)|refine walk1 ?_|(refine jn ?_;(try intro F);(first|(apply ZaC;rfl;rfl;(intro A' c';(focus repeat' constructor));(intro w' _ hO;exact Zbr (hO.of cS_));rfl;rfl;(simp only[maxLen];omega);omega;intro A' c' J K L)|(refine bx ?_;intro e));first|refine⟨_,EndsA,QFI,?_⟩|refine fin ?_))
   exact⟨⟨k+1,A',c',m+1,xs++r.enc,acc++[r]⟩,OA,⟨OA,by simp[hm],by rw[hx];exact ZbB acc r,OA,by rw[<- hi];simp⟩,SFA,SOA⟩
  rw[f]at hi
  repeat (refine walk ?_)
  exact⟨⟨k+1,A1,c1,m,xs,acc⟩,OA,⟨OA,hm,hx,OA,hi⟩,SFA,SOA⟩
 simp only[decide_eq_false_iff_not,Int.ofNat_lt]at d
 rw[List.drop_eq_nil_of_le (by omega),List.filter_nil,List.append_nil]at hi
 subst hi hx hm
 match acc,hmk with
 | [],_ =>
  repeat (refine walk ?_)
  exact ret_1 _ [] (.tmp rfl) SOA ⟨rfl,rfl⟩
 | [x],_ =>
  repeat (refine walk ?_)
  exact ret_1 _ [] (.tmp rfl) SOA ⟨rfl,rfl⟩
 | x::y::z::t,_ =>
  have b1:decide (((x::y::z::t).length:Int)=0)=false:=dF_ (by simp only[List.length_cons];omega)
  have b2:(!decide (((x::y::z::t).length:Int)=2))=true:=by rw[dF_ (by simp only[List.length_cons];omega)];rfl
  repeat (first|(apply RL_pu;rfl;exact ZDE)|(apply RD_Q;rfl;rfl;decide +kernel;rfl;rfl;exact QyRfG3)|refine walk1 ?_|(refine jn ?_;(try intro F);(first|(refine bx ?_;intro e)|(refine stA ?_));first|refine⟨_,EndsA,QFRfG3,?_⟩|refine fin ?_)|(apply RD_W;rfl;intro e))
  exact ret_1 _ [] (.tmp rfl) SOA ⟨rfl,rfl⟩
 | [x,y],_ =>
  have hg0:=ZaD DRule.len [x,y] 0 _ 0 _ rfl rfl
  have M:=ZaD DRule.len [x,y] 1 _ 0 _ rfl rfl
  have hn0:∀ i v,(DRule.enc x)[i]?=some v->([x,y].flatMap DRule.enc)[0+i]?=some v:=fun i v s=>by simpa using ZaD DRule.len [x,y] 0 _ i v rfl s
  have hn1:∀ i v,(DRule.enc y)[i]?=some v->([x,y].flatMap DRule.enc)[11+i]?=some v:=fun i v s=>by simpa using ZaD DRule.len [x,y] 1 _ i v rfl s
  have j:=fun w'=>Zh2 x.month x.day w'
  have q:=fun w'=>Zh2 y.month y.day w'
  rw[ZBO]
  generalize ZjP x.month x.day=p1 at *
  generalize ZjP y.month y.day=p2 at *
  simp only[DRule.enc]at hn0 hn1
  obtain⟨N,e1⟩:∃ z,decide (x.save=0)=z:=⟨_,rfl⟩
  obtain⟨z2,e2⟩:∃ z,decide (y.save=0)=z:=⟨_,rfl⟩
  obtain⟨z3,E⟩:∃ z,decide (x.month=y.month)=z:=⟨_,rfl⟩
  have e4:(!decide (x.month=y.month)) = !z3:=by rw[E]
  rw[e1,e2,E]
  repeat (first|(apply RL_pu;rfl;exact ZzM)|(apply RD_Q;rfl;rfl;decide +kernel;rfl;rfl;exact ZyB)|refine walk1 ?_|(refine jn ?_;(try intro F);(first|(refine bx ?_;intro e)|(refine stA ?_));first|refine⟨_,EndsA,ZCN,?_⟩|refine fin ?_)|(apply RD_W;rfl;intro e))
  have H:∀ b1 b2 u D:Bool,(b1&&b2&&u&&D)=(if b1 then (if b2 then (if u then D else false) else false) else false):=by decide
  rw[H]
  cases N <;> cases z2 <;> cases z3 <;> cases p1
  all_goals
   repeat (first|(apply RL_pu;rfl;exact ZDD)|refine walk1 ?_|(refine jg ?_;(try intro F);(first|(refine Zab (fun w' _=>j w') ?_)|(refine Zab (fun w' _=>q w') ?_));first|refine⟨_,EndsA,QFRfG5,?_⟩|refine fin ?_))
   exact rtA
set_option maxHeartbeats 0 in
theorem Zop (A:Option Addr)(c:Nat)(l:List DRule)(w:World)(B:RdSl w A c DRule.enc 11 l)(I:l.length<=1000000)(H:∀ r∈l,(-9223372036854775808<=r.save/\r.save<=9223372036854775807)/\(r.letter.size:Int)<=9223372036854775807) :
  Does prog 190 [.slice A l.length c] w (fun v O=>v = .tuple #[.int .i64 (ZcE l).1,.int .i64 (ZcE l).2]/\O=[]):=by
 have u:=Ziq l 0 (by omega) (by omega) fun r J=>(H r J).1
 change -9223372036854775808<=Zae l/\Zae l<=0 at u
 have e:=fun w' (E:Bel w.heap.size w w')=>Zrl A c l w' (B.up E) I
 have x:=fun w' (E:Bel w.heap.size w w')=>Zco A c l w' (B.up E)
 obtain⟨j,d⟩:∃ j,ZcE l=j:=⟨_,rfl⟩
 rw[d]
 rw[<- ZAO]at d
 generalize ZgQ l=lb at *
 generalize Zae l=L at *
 refine Zaa func190 rfl rfl rfl rfl ?_
 repeat (first|(refine js ?_;(refine Zab x ?_))|refine walk ?_)
 refine Zah [(0,.slice A l.length c),(4,.int .i64 L)] [] (fun g:Nat × Bool × Bool=>[(5,.bool g.2.1),(6,.bool g.2.2),(7,.int .i64 g.1)]) (fun _=>[]) (fun g=>g.1<=l.length/\chkT L lb (l.drop g.1) g.1 g.2.1 g.2.2=j) (fun g=>l.length - g.1) (0,false,true) SFA SOA ⟨Nat.zero_le _,d⟩ ?_
 clear d
 rintro⟨k,z,s⟩ ⟨hk,hi⟩
 dsimp only at hk hi ⊢
 repeat (refine walk ?_)
 refine Zaf rfl (fun h=>?_) (fun h=>?_)
 ·have f:k<l.length:=by simpa using h
  obtain⟨hna,hca⟩:=B.rd k _ (List.getElem?_eq_getElem f)
  have C:=H l[k] (List.getElem_mem f)
  rw[Zag f,chkT]at hi
  generalize l[k]=r at *
  have i:=fun w'=>Zrk r L u C.2 w'
  generalize Zbu r L=er at *
  simp only[DRule.enc]at hca i
  by_cases y:er=0
  ·rw[if_pos y]at hi
   subst y
   obtain⟨m,q⟩:∃ m,decide (r.save=0)=m:=⟨_,rfl⟩
   obtain⟨z2,F⟩:∃ z2,decide (r.save=L)=z2:=⟨_,rfl⟩
   rw[q,F]at hi
   cases z <;> cases s <;> cases m
   all_goals
    repeat (first|refine und ?_|(apply RL_pu;rfl;(first|exact PuI|(apply Zap;rfl;rfl;first|exact q|exact F)))|(refine js ?_;(refine Zab (fun w' _=>i w') ?_))|refine walk1 ?_)
    exact⟨(k+1,_,_),OA,⟨OA,hi⟩,SFA,SOA⟩
  ·rw[if_neg y]at hi
   subst hi
   have b1:(!decide (er=0))=true:=by rw[dF_ y];rfl
   repeat (first|(apply RL_pu;rfl;exact ZzO)|(refine js ?_;(refine Zab (fun w' _=>i w') ?_))|refine walk1 ?_)
   exact rtB
 ·have D:k=l.length:=by
   have:=of_decide_eq_false h
   omega
  subst D
  rw[List.drop_length,chkT]at hi
  obtain⟨m,q⟩:∃ m,decide (L<0)=m:=⟨_,rfl⟩
  subst hi
  cases z <;> cases s <;> cases m
  all_goals
   first|(have t:L<0:=of_decide_eq_true q)|(have t:¬ L<0:=of_decide_eq_false q)
   cases lb
   all_goals
    simp only[t,Bool.false_eq_true,Bool.true_eq_false,or_true,or_false,true_or,false_or,and_true,and_false,if_true,if_false,reduceCtorEq]
    repeat (first|refine und ?_|(apply RL_pu;rfl;(apply Zau;rfl;rfl;exact q))|(refine js ?_;(refine Zab e ?_))|refine walk1 ?_)
    exact rtB
end Go.Proofs.YtpipekfmecikmaaGreatDoor
namespace Go.Wk
open Go Go.RowKit
def farI (L n y:Int):List DRule->Nat->Bool
 | [],_=>true
 | r::l,i=>match onR L r i y with
  | some e=>if e.nominal<n+259200/\n - 259200<e.nominal then false else farI L n y l (i+1)
  | none=>farI L n y l (i+1)
def farY (L n:Int)(l:List DRule)(y:Int):Nat->Bool
 | 0=>true
 | k+1=>farI L n y l 0&&farY L n l (y+1) k
def farR (l:List DRule)(n:Int):Bool:=farY (Zae l) n l (Zay n - 1) 3
end Go.Wk
namespace Go.Proofs.YtpipekfmecikmaaGreatDoor
open Go Go.RowKit Go.Wk Tryz
attribute [local irreducible] W RL Does Zaq Zai retQ Calls Pu Stp RD Qy Ay Zaj
theorem ZcY (l:List DRule):Zae l<=0:=by
 have a:∀ (l:List DRule) (m:Int),l.foldl (fun m r=>min m r.save) m<=m:=fun l=>by
  induction l with
  | nil=>intro m;exact Int.le_refl _
  | cons r l ih=>intro m;have:=ih (min m r.save);simp only[List.foldl_cons];omega
 exact a l 0
theorem Zro (A:Option Addr)(c:Nat)(l:List DRule)(w:World)(b:RdSl w A c DRule.enc 11 l):Does prog 133 [.slice A l.length c] w (fun v O=>v = .int .i64 (max (Zae l) (-10800))/\O=[]):=by
 have a:=fun w' (e:Bel w.heap.size w w')=>Zco A c l w' (b.up e)
 generalize Zae l=L at *
 rw[show max L (-10800)=if L < -10800 then -10800 else L by split <;> omega]
 refine Zaa func133 rfl rfl rfl rfl ?_
 repeat' (first|(refine js ?_;(refine Zab a ?_))|refine walk ?_|(refine Zaf rfl (fun d=>?_) (fun d=>?_)))
 all_goals exact clo1
theorem ZDC {G:Prop}(h:G:=by(first|exact PuI|(apply Zau;rfl;rfl;first|exact bi0|exact b1|exact b3)|(apply ZbF;rfl;rfl;exact bi1)|(apply Zav;rfl;rfl;first|exact b2|exact b4)|(apply Zal;rfl;rfl;first|exact b5|exact b7)|(apply Zap;rfl;rfl;exact b8)|(apply Zeo;rfl;rfl;(constructor <;> omega)))):G:=h
theorem Zhe {G G':Prop}(k:G')(h:Hold G'->G:=by intro k9;(first|refine und ?_|(apply RL_pu;rfl;exact ZDC)|(refine js ?_;(first|(refine Zab (fun w' _=>hcc w') ?_)|(refine Zab (fun w' _=>ho w') ?_)|(refine Zab hbs ?_)))|refine walk1 ?_);exact k9.out):G:=h ⟨k⟩
set_option maxHeartbeats 0 in
theorem Zf2 (A:Option Addr)(c:Nat)(l:List DRule)(i:Nat)(y:Int)(r:DRule)(w:World)(J:RdSl w A c DRule.enc 11 l)(C:l[i]?=some r) :
  Does prog 89 [.slice A l.length c,.int .i64 i,.int .i64 y] w (fun v O=>v = .tuple #[evV (onR (Zae l) r i y),.bool (onR (Zae l) r i y).isSome]/\O=[]):=by
 have L:i<l.length:=(List.getElem?_eq_some_iff.1 C).1
 have hbs:=fun w' (Q:Bel w.heap.size w w')=>Zro A c l w' (J.up Q)
 have hcc:=fun w'=>ZjL r.at_ w'
 have hcb:ZaL r.at_=true -> -604799<=r.at_.sec/\r.at_.sec<=604799:=fun K=>by
  simp only[ZaL,Bool.and_eq_true,decide_eq_true_eq]at K
  omega
 have ho:=fun w'=>ZkU y r.month r.day w'
 have N:=ZeF y r.month r.day
 obtain⟨hna,hca⟩:=J.rd i _ C
 obtain⟨b,a⟩:∃ b,onR (Zae l) r i y=b:=⟨_,rfl⟩
 rw[a]
 unfold onR lastY at a
 clear C
 have M : -10800<=max (Zae l) (-10800)/\max (Zae l) (-10800)<=0:=by
  have:=ZcY l
  omega
 generalize max (Zae l) (-10800)=mx at *
 generalize onD y r.month r.day=x at *
 generalize ZaL r.at_=z at *
 obtain⟨W,E⟩:=x
 obtain⟨V,fr,d,U,⟨R,S,dd⟩,⟨cs,u⟩,sv,le⟩:=r
 simp only[DRule.enc]at *
 have bi0:decide ((i:Int)<0)=false:=dF_ (by omega)
 have bi1:decide ((l.length:Int)<=(i:Int))=false:=dF_ (by omega)
 refine Zaa func89 rfl rfl rfl rfl ?_
 by_cases F:y < -2000000000
 ·have b1:decide (y < -2000000000)=true:=dT_ F
  obtain rfl:none=b:=by rw[<- a,if_pos (.inl (by omega))]
  repeat (first|refine Zhe ?_|(refine js ?_;(refine bx ?_;intro f)))
  exact rtC
 have b1:decide (y < -2000000000)=false:=dF_ F
 by_cases H:2000000000<y
 ·have b2:decide (2000000000<y)=true:=dT_ H
  obtain rfl:none=b:=by rw[<- a,if_pos (.inr (.inl (by split <;> omega)))]
  repeat (first|refine Zhe ?_|(refine js ?_;(refine bx ?_;intro f)))
  exact rtC
 have b2:decide (2000000000<y)=false:=dF_ H
 by_cases I:y<fr
 ·have b3:decide (y<fr)=true:=dT_ I
  obtain rfl:none=b:=by rw[<- a,if_pos (.inl (by omega))]
  repeat (first|refine Zhe ?_|(refine js ?_;(refine bx ?_;intro f)))
  exact rtC
 have b3:decide (y<fr)=false:=dF_ I
 obtain⟨p,b5⟩:∃ e,(!decide (d=1048576))=e:=⟨_,rfl⟩
 obtain⟨m,b4⟩:∃ e,decide (d<y)=e:=⟨_,rfl⟩
 by_cases j:p=true/\m=true
 ·obtain⟨rfl,rfl⟩:=j
  have q:d≠1048576:=by simpa using b5
  have B:=of_decide_eq_true b4
  obtain rfl:none=b:=by rw[<- a,if_pos (.inr (.inl (by rw[if_neg q];omega)))]
  repeat (first|refine Zhe ?_|(refine js ?_;(refine bx ?_;intro f)))
  exact rtC
 have g:¬ (if d=1048576 then 2000000000 else min d 2000000000)<y:=by
  by_cases q:d=1048576
  ·rw[if_pos q];omega
  ·rw[if_neg q]
   have B:¬ d<y:=fun B=>j ⟨by rw[<- b5,dF_ q];rfl,by rw[<- b4,dT_ B]⟩
   omega
 cases z with
 | false =>
  obtain rfl:none=b:=by rw[<- a,if_pos (.inr (.inr rfl))]
  cases p <;> cases m <;> first|exact absurd ⟨rfl,rfl⟩ j|skip
  all_goals
   repeat (first|refine Zhe ?_|(refine js ?_;(refine bx ?_;intro f)))
   exact rtC
 | true =>
  have T:=hcb rfl
  have D:¬ (y<max fr (-2000000000)\/(if d=1048576 then 2000000000 else min d 2000000000)<y\/true=false):=by
   rintro(h|h|h)
   ·omega
   ·exact g h
   ·cases h
  rw[if_neg D]at a
  by_cases s:E=0
  ·rw[if_neg (fun h=>h s)]at a
   have b7:(!decide (E=0))=false:=by rw[dT_ s];rfl
   rw[Int.mul_comm]at a
   by_cases t:u=1
   ·rw[if_pos t]at a
    subst a
    have b8:decide (u=1)=true:=dT_ t
    cases p <;> cases m <;> first|exact absurd ⟨rfl,rfl⟩ j|skip
    all_goals
     repeat (first|refine Zhe ?_|(refine js ?_;(refine bx ?_;intro f)))
     exact rtC
   ·rw[if_neg t,Int.add_zero]at a
    subst a
    have b8:decide (u=1)=false:=dF_ t
    cases p <;> cases m <;> first|exact absurd ⟨rfl,rfl⟩ j|skip
    all_goals
     repeat (first|refine Zhe ?_|(refine js ?_;(refine bx ?_;intro f)))
     exact rtC
  ·rw[if_pos s]at a
   subst a
   have b7:(!decide (E=0))=true:=by rw[dF_ s];rfl
   cases p <;> cases m <;> first|exact absurd ⟨rfl,rfl⟩ j|skip
   all_goals
    repeat (first|refine Zhe ?_|(refine js ?_;(refine bx ?_;intro f)))
    exact rtC
theorem ZzL {G:Prop}(h:G:=by((apply Zbl;rfl;rfl;exact bz))):G:=h
theorem ZvD {G:Prop}(h:G:=by(first|(apply Zau;rfl;rfl;exact b3)|(apply Zav;rfl;rfl;exact b4))):G:=h
set_option maxHeartbeats 0 in
theorem ZsR (A:Option Addr)(c:Nat)(l:List DRule)(n:Int)(w:World)(E:RdSl w A c DRule.enc 11 l)(Q:l.length<=1000000)(S : -1000000000000000000<=n/\n<=1000000000000000000) :
  Does prog 256 [.slice A l.length c,.int .i64 n] w (fun v O=>v = .bool (farR l n)/\O=[]):=by
 unfold farR
 have t:=ZcY l
 have J:=Zet n
 have B:=fun w'=>ZgL n (by omega) w'
 have j:=fun(i:Nat) (y:Int) (r:DRule) (d:l[i]?=some r) w' (I:Bel w.heap.size w w')=>Zf2 A c l i y r w' (E.up I) d
 generalize Zae l=L at *
 generalize Zay n=y at *
 obtain⟨R,u⟩:∃ R,farY L n l (y - 1) 3=R:=⟨_,rfl⟩
 rw[u]
 have C:decide (1152921504606846976<n)=false:=dF_ (by omega)
 have D:decide (n < -1152921504606846976)=false:=dF_ (by omega)
 refine Zaa func256 rfl rfl rfl rfl ?_
 repeat (first|(apply RL_pu;rfl;(first|(apply Zau;rfl;rfl;exact D)|(apply Zav;rfl;rfl;exact C)))|(refine js ?_;((refine Zab (fun w' _=>B w') ?_)))|refine walk1 ?_)
 refine Zah [(0,.slice A l.length c),(1,.int .i64 n),(5,.int .i64 y)] [] (fun k:Nat=>[(6,.int .i64 (y - 1+(k:Int)))]) (fun _=>[]) (fun k=>k<=3/\farY L n l (y - 1+(k:Int)) (3 - k)=R) (fun k=>3 - k) 0 (by simpa using SFA) SOA ⟨by omega,by simpa using u⟩ ?_
 clear u
 rintro k ⟨N,d⟩
 obtain⟨z,K⟩:∃ z,y - 1+(k:Int)=z:=⟨_,rfl⟩
 rw[K]at d ⊢
 by_cases H:k<3
 ·have bz:decide (z<=y+1)=true:=dT_ (by omega)
  rw[show 3 - k=(2 - k)+1 by omega,farY]at d
  generalize hF:farY L n l (z+1) (2 - k)=F2 at d
  repeat (first|(apply RL_pu;rfl;exact ZzL)|refine walk1 ?_)
  refine Zah [(0,.slice A l.length c),(1,.int .i64 n),(5,.int .i64 y),(6,.int .i64 z)] [] (fun i:Nat=>[(7,.int .i64 i)]) (fun _=>[]) (fun i=>i<=l.length/\(farI L n z (l.drop i) i&&F2)=R) (fun i=>l.length - i) 0 SFA SOA ⟨Nat.zero_le _,d⟩ ?_
  clear d
  rintro i ⟨F,d⟩
  repeat (refine walk ?_)
  refine Zaf rfl (fun g=>?_) (fun g=>?_)
  ·simp only[decide_eq_true_eq,Int.ofNat_lt]at g
   have f:=j i z l[i] (List.getElem?_eq_getElem g)
   rw[Zag g,farI]at d
   have x:EvOk (onR L l[i] i z):=Zp3 L t l[i] i z
   generalize onR L l[i] i z=o at *
   cases o with
   | none =>
    simp only[evV,Zac.enc,dEv0,Option.isSome]at f
    repeat (first|(apply RL_pu;rfl;exact PuRfH3)|(refine js ?_;(first|(refine Zab f ?_)|(refine bx ?_;intro s)))|refine walk1 ?_)
    exact⟨i+1,OA,⟨OA,d⟩,SFA,SOA⟩
   | some e =>
    have M:=x e rfl
    simp only[evV,Zac.enc,Option.isSome]at f
    dsimp only at d
    by_cases m:e.nominal<n+259200
    ·have b3:decide (e.nominal<n+259200)=true:=dT_ m
     by_cases q:n - 259200<e.nominal
     ·have b4:decide (n - 259200<e.nominal)=true:=dT_ q
      rw[if_pos ⟨m,q⟩,Bool.false_and]at d
      subst d
      repeat (first|(apply RL_pu;rfl;exact ZvD)|(refine js ?_;(first|(refine Zab f ?_)|(refine bx ?_;intro s)))|refine walk1 ?_)
      exact rtA
     ·have b4:decide (n - 259200<e.nominal)=false:=dF_ q
      rw[if_neg (fun h=>q h.2)]at d
      repeat (first|(apply RL_pu;rfl;exact ZvD)|(refine js ?_;(first|(refine Zab f ?_)|(refine bx ?_;intro s)))|refine walk1 ?_)
      exact⟨i+1,OA,⟨OA,d⟩,SFA,SOA⟩
    ·have b3:decide (e.nominal<n+259200)=false:=dF_ m
     rw[if_neg (fun h=>m h.1)]at d
     repeat (first|(apply RL_pu;rfl;exact ZvD)|(refine js ?_;(first|(refine Zab f ?_)|(refine bx ?_;intro s)))|refine walk1 ?_)
     exact⟨i+1,OA,⟨OA,d⟩,SFA,SOA⟩
  ·simp only[decide_eq_false_iff_not,Int.ofNat_lt]at g
   rw[List.drop_eq_nil_of_le (by omega),farI,Bool.true_and]at d
   subst d
   repeat (first|(apply RL_pu;rfl;exact PuRfH3)|refine walk1 ?_)
   exact⟨k+1,OA,⟨OA,by rw[show y - 1+((k+1:Nat):Int)=z+1 by omega,show 3 - (k+1)=2 - k by omega];exact hF⟩,by simpa[show y - 1+((k:Int)+1)=z+1 by omega] using SFA,SOA⟩
 ·obtain rfl:k=3:=by omega
  have bz:decide (z<=y+1)=false:=dF_ (by omega)
  rw[show 3 - 3=0 from rfl,farY]at d
  subst d
  repeat (first|(apply RL_pu;rfl;exact ZzL)|refine walk1 ?_)
  exact rtA
