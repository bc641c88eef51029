/- Parts of the proof. -/
import Derived.Test.YtpipekfmecikmaaGreatDoorV21
import Derived.Test.YtpipekfmecikmaaGreatDoorV10
import Derived.Test.YtpipekfmecikmaaGreatDoorV07
import Derived.Test.YtpipekfmecikmaaGreatDoorV09
import Derived.Test.YtpipekfmecikmaaGreatDoorV06
set_option maxHeartbeats 4000000
set_option linter.unusedVariables false
set_option linter.unusedSimpArgs false
namespace Go.Proofs.YtpipekfmecikmaaGreatDoor
open Go Go.RowKit Go.Wk
attribute [local irreducible] W RL Does Zat Zaj retQ Calls Pu Stp RD Qy Ay Zak
theorem Zyg {y m:Int}(h:1<=m/\m<=12):1<=lenM y m:=by
 unfold lenM
 rw[if_neg (by omega)]
 split
 ·split <;> omega
 ·split <;> omega
theorem ZpS {G:Prop}(h:G:=by(apply Zaz;rfl;rfl;exact b1)):G:=h
theorem ZpR {G:Prop}(h:G:=by(first|exact ZpS|(apply Zaw;rfl;rfl;exact b2))):G:=h
theorem Zt3 {G:Prop}(h:G:=by(first|exact ZpS|(apply Zaw;rfl;rfl;first|exact b2|exact b3))):G:=h
theorem ZwD {G:Prop}(h:G:=by first|(apply Qy_y;rfl;exact Zt3)|exact QyA):G:=h
theorem ZdV {G:Prop}(h:G:=by repeat (first|exact QF.nil|(apply QF.mk;rfl;rfl;decide +kernel;exact ZwD))):G:=h
theorem Zk3 {G G':Prop}(k:G')(h:Hold G'->G:=by intro k9;(first|(apply RL_pu;rfl;exact Zt3)|(apply RD_Q;rfl;rfl;decide +kernel;rfl;rfl;exact ZwD)|refine walk1 ?_|(refine jg ?_;(try intro F);(first|(refine Zab (fun w' _=>h1 w') ?_)|(refine Zab (fun w' _=>h2 w') ?_)|(refine Zab (fun w' _=>h3 w') ?_)|(refine Zab (fun w' _=>h4 w') ?_));first|refine⟨_,EndsA,ZdV,?_⟩|refine fin ?_)|(refine jn ?_;(try intro F);(apply Zac;first|exact Zt3|exact PuA);first|refine⟨_,EndsA,ZdV,?_⟩|refine fin ?_));exact k9.out):G:=h ⟨k⟩
theorem Zka (y m:Int)(d:DDay)(w:World):Does Tryz.prog 132 [.int .i64 y,.int .i64 m,.agg (DDay.enc d).toArray] w (fun v O=>v = .tuple #[.int .i64 (onD y m d).1,.int .i64 (onD y m d).2]/\O=[]):=by
 have h1:=fun w'=>Zfu m 1 12 w'
 have h2:=fun w'=>ZeF d w'
 have h3:=fun w'=>Zdf y m w'
 have h4:=fun w'=>Zqm y m 1 w'
 have hlb:=Zc4 y m
 unfold onD
 cases hm:inB m 1 12 with
 | false =>
  have hok:ZaN y m 1=false:=by
   cases hh:ZaN y m 1 with
   | false=>rfl
   | true =>
    have:=(Zdl hh).2.1
    unfold inB at hm
    rw[decide_eq_true this.1,decide_eq_true this.2]at hm
    cases hm
  rw[hok,if_pos rfl]
  rw[hm]at h1
  obtain⟨k,wk,n⟩:=d
  show Does _ _ [.int .i64 y,.int .i64 m,.agg #[.int .i64 k,.int .i64 wk,.int .i64 n]] w _
  refine Zaa Tryz.func132 rfl rfl rfl rfl ?_
  repeat (first|refine und ?_|refine walk ?_|(refine jg ?_;(try intro F);(first|(refine Zab (fun w' _=>h1 w') ?_)|(refine Zab (fun w' _=>h2 w') ?_)|(refine Zab (fun w' _=>h3 w') ?_)|(refine Zab (fun w' _=>h4 w') ?_)|(refine bx ?_;intro bk));refine fin ?_)|(refine jn ?_;(try intro F);(first|(refine bx ?_;intro bk)|(apply Zac;exact PuA));refine fin ?_))
  exact rtB
 | true =>
 have hmb:=hm
 unfold inB at hmb
 simp only[Bool.and_eq_true,decide_eq_true_eq]at hmb
 rw[hm]at h1
 by_cases hy1:y < -2000000000
 ·have b1:decide (y < -2000000000)=true:=decide_eq_true hy1
  have hok:ZaN y m 1=false:=by
   cases hh:ZaN y m 1 with
   | false=>rfl
   | true=>have:=(Zdl hh).1;omega
  rw[hok,if_pos rfl]
  obtain⟨k,wk,n⟩:=d
  show Does _ _ [.int .i64 y,.int .i64 m,.agg #[.int .i64 k,.int .i64 wk,.int .i64 n]] w _
  refine Zaa Tryz.func132 rfl rfl rfl rfl ?_
  repeat (first|refine und ?_|(apply RL_pu;rfl;exact ZpS)|(apply RD_Q;rfl;rfl;decide +kernel;rfl;rfl;exact QyRfC0)|refine walk1 ?_|(refine jg ?_;(try intro F);(first|(refine Zab (fun w' _=>h1 w') ?_)|(refine Zab (fun w' _=>h2 w') ?_)|(refine Zab (fun w' _=>h3 w') ?_)|(refine Zab (fun w' _=>h4 w') ?_)|(refine bx ?_;intro bk));first|refine⟨_,EndsA,QFRfC0,?_⟩|refine fin ?_)|(refine jn ?_;(try intro F);(first|(refine bx ?_;intro bk)|(apply Zac;first|exact ZpS|exact PuA));first|refine⟨_,EndsA,QFRfC0,?_⟩|refine fin ?_))
  exact rtB
 have b1:decide (y < -2000000000)=false:=decide_eq_false hy1
 by_cases hy2:2000000000<y
 ·have b2:decide (2000000000<y)=true:=decide_eq_true hy2
  have hok:ZaN y m 1=false:=by
   cases hh:ZaN y m 1 with
   | false=>rfl
   | true=>have:=(Zdl hh).1;omega
  rw[hok,if_pos rfl]
  obtain⟨k,wk,n⟩:=d
  show Does _ _ [.int .i64 y,.int .i64 m,.agg #[.int .i64 k,.int .i64 wk,.int .i64 n]] w _
  refine Zaa Tryz.func132 rfl rfl rfl rfl ?_
  repeat (first|refine und ?_|(apply RL_pu;rfl;exact ZpR)|(apply RD_Q;rfl;rfl;decide +kernel;rfl;rfl;exact QyRfC1)|refine walk1 ?_|(refine jg ?_;(try intro F);(first|(refine Zab (fun w' _=>h1 w') ?_)|(refine Zab (fun w' _=>h2 w') ?_)|(refine Zab (fun w' _=>h3 w') ?_)|(refine Zab (fun w' _=>h4 w') ?_)|(refine bx ?_;intro bk));first|refine⟨_,EndsA,QFRfC1,?_⟩|refine fin ?_)|(refine jn ?_;(try intro F);(first|(refine bx ?_;intro bk)|(apply Zac;first|exact ZpR|exact PuA));first|refine⟨_,EndsA,QFRfC1,?_⟩|refine fin ?_))
  exact rtB
 have b2:decide (2000000000<y)=false:=decide_eq_false hy2
 have hok:ZaN y m 1=true:=by
  have:=Zyg (y:=y) hmb
  unfold ZaN inY
  rw[decide_eq_true (show -2000000000<=y by omega),decide_eq_true (show y<=2000000000 by omega),decide_eq_true (show 1<=lenM y m from this)]
  rfl
 rw[hok,if_neg (by decide)]
 rw[if_pos hok,if_pos hok]at h4
 have hdb:=Zg4 hok
 cases hc:Za8 d with
 | false =>
  rw[if_pos rfl]
  rw[hc]at h2
  obtain⟨k,wk,n⟩:=d
  show Does _ _ [.int .i64 y,.int .i64 m,.agg #[.int .i64 k,.int .i64 wk,.int .i64 n]] w _
  refine Zaa Tryz.func132 rfl rfl rfl rfl ?_
  repeat (first|(apply RL_pu;rfl;exact ZpR)|(apply RD_Q;rfl;rfl;decide +kernel;rfl;rfl;exact QyRfC1)|refine walk1 ?_|(refine jg ?_;(try intro F);(first|(refine Zab (fun w' _=>h1 w') ?_)|(refine Zab (fun w' _=>h2 w') ?_)|(refine Zab (fun w' _=>h3 w') ?_)|(refine Zab (fun w' _=>h4 w') ?_)|(refine bx ?_;intro bk));first|refine⟨_,EndsA,QFRfC1,?_⟩|refine fin ?_)|(refine jn ?_;(try intro F);(first|(refine bx ?_;intro bk)|(apply Zac;first|exact ZpR|exact PuA));first|refine⟨_,EndsA,QFRfC1,?_⟩|refine fin ?_))
  exact rtB
 | true =>
 rw[if_neg (by decide)]
 have hcb:=Zcm hc
 rw[hc]at h2
 generalize ZaP y m 1=f at *
 generalize lenM y m=L at *
 obtain⟨k,wk,n⟩:=d
 dsimp only at hcb ⊢
 replace h2:∀ w',Does Tryz.prog 92 [.agg #[.int .i64 k,.int .i64 wk,.int .i64 n]] w' (fun v O=>v = .int .i64 0/\O=[]):=h2
 show Does _ _ [.int .i64 y,.int .i64 m,.agg #[.int .i64 k,.int .i64 wk,.int .i64 n]] w _
 refine Zaa Tryz.func132 rfl rfl rfl rfl ?_
 by_cases hn:L<n
 ·have b3:decide (L<n)=true:=decide_eq_true hn
  rw[if_pos hn]
  repeat (first|refine Zk3 ?_|(refine jg ?_;(try intro F);(refine bx ?_;intro bk);first|refine⟨_,EndsA,ZdV,?_⟩|refine fin ?_)|(refine jn ?_;(try intro F);(refine bx ?_;intro bk);first|refine⟨_,EndsA,ZdV,?_⟩|refine fin ?_))
  exact rtB
 have b3:decide (L<n)=false:=decide_eq_false hn
 rw[if_neg hn]
 unfold ZeV
 dsimp only
 obtain rfl|rfl|rfl|rfl:k=1\/k=2\/k=3\/k=4:=by omega
 ·repeat (first|refine Zk3 ?_|(refine jg ?_;(try intro F);(refine bx ?_;intro bk);first|refine⟨_,EndsA,ZdV,?_⟩|refine fin ?_)|(refine jn ?_;(try intro F);(refine bx ?_;intro bk);first|refine⟨_,EndsA,ZdV,?_⟩|refine fin ?_))
  exact rtB
 ·rw[if_neg (by decide),if_pos rfl]
  repeat (first|refine Zk3 ?_|(refine jg ?_;(try intro F);(refine bx ?_;intro bk);first|refine⟨_,EndsA,ZdV,?_⟩|refine fin ?_)|(refine jn ?_;(try intro F);(refine bx ?_;intro bk);first|refine⟨_,EndsA,ZdV,?_⟩|refine fin ?_))
  have hlo:Za1 (f+L - 1) wk<=f+L - 1/\f+L - 8<=Za1 (f+L - 1) wk:=by unfold Za1;omega
  obtain⟨B,hB⟩:∃ B,Za1 (f+L - 1) wk=B:=⟨_,rfl⟩
  rw[hB]at hlo ⊢
  refine Zai [(5,.pointer (some ⟨bk,0,none⟩))] [.blk bk [.int .i64 2,.int .i64 wk,.int .i64 n] 64] (fun x:Int=>[(11,.int .i64 x)]) (fun _=>[]) (fun x=>Za1 x wk=B/\B<=x/\x<=f+L - 1) (fun x=>(x - B).toNat) (f+L - 1) SFA SOA ⟨hB,hlo.1,Int.le_refl _⟩ ?_
  rintro x ⟨i1,i2,i3⟩
  have h5:=fun w'=>Zfc x w'
  have h6:=ZgI x wk hcb.2.1
  have h7:=Zio x wk
  repeat (first|refine walk ?_|(refine jg ?_;(try intro F);(first|(refine Zab (fun w' _=>h5 w') ?_)|(refine bx ?_;intro bk));refine fin ?_)|(refine jn ?_;(try intro F);(first|(refine bx ?_;intro bk)|(apply Zac;exact PuA));refine fin ?_))
  refine Zaf rfl (fun hc=>?_) (fun hc=>?_)
  ·have hx:=h6 (by simpa using hc)
   repeat (first|refine walk ?_|(refine jn ?_;(try intro F);(first|(refine bx ?_;intro bk)|(apply Zac;exact PuA));refine fin ?_))
   exact⟨x - 1,OA,⟨by rw[hx.1];exact i1,OA,OA⟩,SFA,SOA⟩
  ·have hx:=h7 (by simpa using hc)
   repeat (first|refine walk ?_|(refine jn ?_;(try intro F);(first|(refine bx ?_;intro bk)|(apply Zac;exact PuA));refine fin ?_))
   exact ret_2 _ _ [] (.tmp rfl) (.tmp rfl) .nil ⟨by rw[<- i1,hx],rfl⟩
 ·rw[if_neg (by decide),if_neg (by decide),if_pos rfl]
  repeat (first|refine Zk3 ?_|(refine jg ?_;(try intro F);(refine bx ?_;intro bk);first|refine⟨_,EndsA,ZdV,?_⟩|refine fin ?_)|(refine jn ?_;(try intro F);(refine bx ?_;intro bk);first|refine⟨_,EndsA,ZdV,?_⟩|refine fin ?_))
  have hlo:f+n - 1<=Zbp (f+n - 1) wk/\Zbp (f+n - 1) wk<=f+n+6:=by unfold Zbp;omega
  obtain⟨B,hB⟩:∃ B,Zbp (f+n - 1) wk=B:=⟨_,rfl⟩
  rw[hB]at hlo ⊢
  refine Zai [(5,.pointer (some ⟨bk,0,none⟩))] [.blk bk [.int .i64 3,.int .i64 wk,.int .i64 n] 64] (fun x:Int=>[(10,.int .i64 x)]) (fun _=>[]) (fun x=>Zbp x wk=B/\x<=B/\f+n - 1<=x) (fun x=>(B - x).toNat) (f+n - 1) SFA SOA ⟨hB,hlo.1,Int.le_refl _⟩ ?_
  rintro x ⟨i1,i2,i3⟩
  have h5:=fun w'=>Zfc x w'
  have h6:=Zmf x wk hcb.2.1
  have h7:=Zn0 x wk
  repeat (first|refine walk ?_|(refine jg ?_;(try intro F);(first|(refine Zab (fun w' _=>h5 w') ?_)|(refine bx ?_;intro bk));refine fin ?_)|(refine jn ?_;(try intro F);(first|(refine bx ?_;intro bk)|(apply Zac;exact PuA));refine fin ?_))
  refine Zaf rfl (fun hc=>?_) (fun hc=>?_)
  ·have hx:=h6 (by simpa using hc)
   repeat (first|refine walk ?_|(refine jn ?_;(try intro F);(first|(refine bx ?_;intro bk)|(apply Zac;exact PuA));refine fin ?_))
   exact⟨x+1,OA,⟨by rw[hx.1];exact i1,OA,OA⟩,SFA,SOA⟩
  ·have hx:=h7 (by simpa using hc)
   repeat (first|refine walk ?_|(refine jn ?_;(try intro F);(first|(refine bx ?_;intro bk)|(apply Zac;exact PuA));refine fin ?_))
   exact ret_2 _ _ [] (.tmp rfl) (.tmp rfl) .nil ⟨by rw[<- i1,hx],rfl⟩
 ·rw[if_neg (by decide),if_neg (by decide),if_neg (by decide)]
  repeat (first|refine Zk3 ?_|(refine jg ?_;(try intro F);(refine bx ?_;intro bk);first|refine⟨_,EndsA,ZdV,?_⟩|refine fin ?_)|(refine jn ?_;(try intro F);(refine bx ?_;intro bk);first|refine⟨_,EndsA,ZdV,?_⟩|refine fin ?_))
  have hlo:Za1 (f+n - 1) wk<=f+n - 1/\f+n - 8<=Za1 (f+n - 1) wk:=by unfold Za1;omega
  obtain⟨B,hB⟩:∃ B,Za1 (f+n - 1) wk=B:=⟨_,rfl⟩
  rw[hB]at hlo ⊢
  refine Zai [(5,.pointer (some ⟨bk,0,none⟩))] [.blk bk [.int .i64 4,.int .i64 wk,.int .i64 n] 64] (fun x:Int=>[(11,.int .i64 x)]) (fun _=>[]) (fun x=>Za1 x wk=B/\B<=x/\x<=f+n - 1) (fun x=>(x - B).toNat) (f+n - 1) SFA SOA ⟨hB,hlo.1,Int.le_refl _⟩ ?_
  rintro x ⟨i1,i2,i3⟩
  have h5:=fun w'=>Zfc x w'
  have h6:=ZgI x wk hcb.2.1
  have h7:=Zio x wk
  repeat (first|refine walk ?_|(refine jg ?_;(try intro F);(first|(refine Zab (fun w' _=>h5 w') ?_)|(refine bx ?_;intro bk));refine fin ?_)|(refine jn ?_;(try intro F);(first|(refine bx ?_;intro bk)|(apply Zac;exact PuA));refine fin ?_))
  refine Zaf rfl (fun hc=>?_) (fun hc=>?_)
  ·have hx:=h6 (by simpa using hc)
   repeat (first|refine walk ?_|(refine jn ?_;(try intro F);(first|(refine bx ?_;intro bk)|(apply Zac;exact PuA));refine fin ?_))
   exact⟨x - 1,OA,⟨by rw[hx.1];exact i1,OA,OA⟩,SFA,SOA⟩
  ·have hx:=h7 (by simpa using hc)
   repeat (first|refine walk ?_|(refine jn ?_;(try intro F);(first|(refine bx ?_;intro bk)|(apply Zac;exact PuA));refine fin ?_))
   exact ret_2 _ _ [] (.tmp rfl) (.tmp rfl) .nil ⟨by rw[<- i1,hx],rfl⟩
end Go.Proofs.YtpipekfmecikmaaGreatDoor
namespace Go.Wk
open Go Go.RowKit
def letC (c:Int):Bool:=(decide (65<=c)&&decide (c<=90))||(decide (97<=c)&&decide (c<=122))
def digC (c:Int):Bool:=decide (48<=c)&&decide (c<=57)
theorem Zse (c:Nat):letC c=decide (ZbE c=1):=by
 unfold letC ZbE
 by_cases h:(65<=c/\c<=90)\/(97<=c/\c<=122)
 ·rw[if_pos h,Bool.eq_iff_iff]
  simp only[Bool.or_eq_true,Bool.and_eq_true,decide_eq_true_eq]
  constructor
  ·intro;trivial
  ·intro;omega
 ·rw[if_neg h,Bool.eq_iff_iff]
  simp only[Bool.or_eq_true,Bool.and_eq_true,decide_eq_true_eq]
  constructor
  ·intro;omega
  ·intro hh
   exfalso
   revert hh
   repeat' split
   all_goals decide
def Zp9 (c:Int):Bool:=letC c||(digC c||(decide (c=95)||decide (c=45)))
def Znq (c:Int):Bool:=letC c||(digC c||(decide (c=46)||(decide (c=95)||(decide (c=43)||decide (c=45)))))
theorem Zmb (c:Nat):(!decide (ZbE c &&& 1=0))=letC c:=by
 rw[Zse]
 rcases List.mem_cons.1 (Zmc c) with h|h
 ·rw[h];rfl
 ·simp only[List.mem_cons,List.mem_nil_iff,or_false]at h
  rcases h with h|h|h|h|h <;> rw[h] <;> rfl
theorem Zmd:∀ c:Fin 256,(!decide (ZbE c.val &&& 15=0))=Zp9 (c.val:Nat)/\(!decide (ZbE c.val &&& 31=0))=Znq (c.val:Nat):=by decide +kernel
theorem ZsR (c:UInt8):(!decide (ZbE c.toNat &&& 15=0))=Zp9 c.toNat:=(Zmd ⟨c.toNat,c.toNat_lt⟩).1
theorem Zq0 (c:UInt8):(!decide (ZbE c.toNat &&& 31=0))=Znq c.toNat:=(Zmd ⟨c.toNat,c.toNat_lt⟩).2
end Go.Wk
namespace Go.Proofs.YtpipekfmecikmaaGreatDoor
open Go Go.RowKit Go.Wk
attribute [local irreducible] W RL Does Zat Zaj retQ Calls Pu Stp RD Qy Ay Zak
theorem Zcj (c:Int)(w:World):Does Tryz.prog 243 [.int .u8 c] w (fun v O=>v = .bool (letC c)/\O=[]):=by
 refine Zaa Tryz.func243 rfl rfl rfl rfl ?_
 repeat' (first|refine walk ?_|refine und ?_|(refine Zam rfl rfl rfl (fun hc=>?_) (fun hc=>?_))|(refine Zas rfl rfl rfl (fun hc=>?_) (fun hc=>?_))|(refine Zaf rfl (fun hc=>?_) (fun hc=>?_)))
 all_goals first|(refine ret_1 _ [] (.tmp rfl) .nil ⟨?_,rfl⟩;first|rfl|(simp only[*,Bool.true_and,Bool.false_and,Bool.true_or,Bool.false_or,Bool.not_true,Bool.not_false];done)|(simp_all [letC];done)|(simp_all [letC];omega)|(simp_all [letC];rw[Bool.eq_iff_iff];simp;omega))|(exfalso;simp_all [letC];done)|(exfalso;simp_all [letC];omega)|(exfalso;omega)
theorem ZhD (c:Int)(w:World):Does Tryz.prog 244 [.int .u8 c] w (fun v O=>v = .bool (digC c)/\O=[]):=by
 refine Zaa Tryz.func244 rfl rfl rfl rfl ?_
 repeat' (first|refine walk ?_|refine und ?_|(refine Zam rfl rfl rfl (fun hc=>?_) (fun hc=>?_))|(refine Zas rfl rfl rfl (fun hc=>?_) (fun hc=>?_))|(refine Zaf rfl (fun hc=>?_) (fun hc=>?_)))
 all_goals first|(refine ret_1 _ [] (.tmp rfl) .nil ⟨?_,rfl⟩;first|rfl|(simp only[*,Bool.true_and,Bool.false_and,Bool.true_or,Bool.false_or,Bool.not_true,Bool.not_false];done)|(simp_all [digC];done)|(simp_all [digC];omega)|(simp_all [digC];rw[Bool.eq_iff_iff];simp;omega))|(exfalso;simp_all [digC];done)|(exfalso;simp_all [digC];omega)|(exfalso;omega)
theorem Zc5 {l:List UInt8}{k:Nat}(h:k<l.length):l.getD k 0=l[k]:=by rw[List.getD_eq_getElem?_getD,List.getElem?_eq_getElem h];rfl
theorem ZmK {G:Prop}(h:G:=by(apply Za3;rfl;rfl;omega;omega;exact hgc)):G:=h
theorem Zft (s:ByteArray)(a b:Nat)(hs:(s.size:Int)<=9223372036854775807)(w:World):Does Tryz.prog 203 [.string s,.int .i64 a,.int .i64 b] w (fun v O=>v = .bool (ZbK a b 1 s.data.toList)/\O=[]):=by
 have hL:s.data.toList.length=s.size:=rfl
 obtain⟨R,hR⟩:∃ R,(s.data.toList.all fun c=>letC c.toNat)=R:=⟨_,rfl⟩
 have hN:ZbK a b 1 s.data.toList=(decide (a<=s.size)&&(decide (s.size<=b)&&R)):=by
  unfold ZbK Zby
  rw[<- hR,hL,Bool.and_assoc]
  congr 3
  funext c
  exact Zmb c.toNat
 rw[hN]
 refine Zaa Tryz.func203 rfl rfl rfl rfl ?_
 repeat (first|refine walk ?_)
 refine Zai [(0,.string s),(1,.int .i64 a),(2,.int .i64 b)] [] (fun k:Nat=>[(7,.int .i64 k)]) (fun _=>[]) (fun k=>k<=s.size/\((s.data.toList.drop k).all fun c=>letC c.toNat)=R) (fun k=>s.size - k) 0 SFA SOA ⟨Nat.zero_le _,hR⟩ ?_
 rintro k ⟨hk,hi⟩
 repeat (first|refine walk ?_)
 refine Zaf rfl (fun hc=>?_) (fun hc=>?_)
 ·simp only[decide_eq_true_eq,Int.ofNat_lt]at hc
  have hgc:s.data.toList.getD ((k:Int)).toNat 0=s.data.toList[k]:=Zc5 (by omega)
  rw[Zag (show k<s.data.toList.length by omega),List.all_cons]at hi
  generalize s.data.toList[k]=c at *
  repeat (first|(apply RL_pu;rfl;exact ZmK)|(refine js ?_;(refine Zab (fun w' _=>Zcj c.toNat w') ?_))|refine walk1 ?_)
  refine Zaf rfl (fun h3=>?_) (fun h3=>?_)
  ·have h4:letC c.toNat=false:=by simpa using h3
   rw[h4,Bool.false_and]at hi
   subst hi
   repeat (first|refine walk ?_)
   exact ret_1 _ [] (.tmp rfl) .nil ⟨by simp,rfl⟩
  ·have h4:letC c.toNat=true:=by simpa using h3
   rw[h4,Bool.true_and]at hi
   repeat (first|refine walk ?_)
   exact⟨k+1,OA,⟨OA,hi⟩,SFA,SOA⟩
 ·simp only[decide_eq_false_iff_not,Int.ofNat_lt]at hc
  rw[List.drop_eq_nil_of_le (by omega),List.all_nil]at hi
  subst hi
  rw[show decide (a<=s.size)=decide ((a:Int)<=s.size) by rw[decide_eq_decide];omega,show decide (s.size<=b)=decide ((s.size:Int)<=b) by rw[decide_eq_decide];omega,Bool.and_true]
  repeat' (first|refine walk ?_|refine und ?_|(refine Zam rfl rfl rfl (fun hc=>?_) (fun hc=>?_))|(refine Zas rfl rfl rfl (fun hc=>?_) (fun hc=>?_))|(refine Zaf rfl (fun hc=>?_) (fun hc=>?_)))
  all_goals exact clo1
theorem Zlq (s:ByteArray)(hs:(s.size:Int)<=9223372036854775807)(w:World):Does Tryz.prog 281 [.string s] w (fun v O=>v = .bool (Zeg s)/\O=[]):=by
 refine Zaa Tryz.func281 rfl rfl rfl rfl ?_
 repeat (first|(refine js ?_;(refine Zab (fun w' _=>Zft s 1 4 hs w') ?_))|refine walk ?_)
 exact rtA
theorem ZeD (s:ByteArray)(hs:(s.size:Int)<=9223372036854775807)(w:World):Does Tryz.prog 137 [.string s] w (fun v O=>v = .bool (ZgU s)/\O=[]):=by
 refine Zaa Tryz.func137 rfl rfl rfl rfl ?_
 repeat (first|(refine js ?_;(refine Zab (fun w' _=>Zft s 3 6 hs w') ?_))|refine walk ?_)
 exact rtA
theorem ZxI {G:Prop}(h:G:=by(apply Zaz;rfl;rfl;exact b1)):G:=h
theorem ZxH {G:Prop}(h:G:=by(first|exact ZmK|(apply Zaz;rfl;rfl;exact b1)|(apply Zaw;rfl;rfl;exact b2))):G:=h
theorem ZAi {G:Prop}(h:G:=by(first|exact ZmK|(apply Zal;rfl;rfl;first|exact e1|exact e2))):G:=h
theorem Zrl {G G':Prop}(k:G')(h:Hold G'->G:=by intro k9;(first|refine und ?_|(apply RL_pu;rfl;exact ZAi)|(refine js ?_;(first|(refine Zab (fun w' _=>hcl w') ?_)|(refine Zab (fun w' _=>hcd w') ?_)))|refine walk1 ?_);exact k9.out):G:=h ⟨k⟩
theorem ZrM (s:ByteArray)(hs:(s.size:Int)<=9223372036854775807)(w:World):Does Tryz.prog 188 [.string s] w (fun v O=>v = .bool (setB s)/\O=[]):=by
 have hL:s.data.toList.length=s.size:=rfl
 obtain⟨R,hR⟩:∃ R,(s.data.toList.all fun c=>Zp9 c.toNat)=R:=⟨_,rfl⟩
 have hN:setB s=((decide (1<=s.size)&&decide (s.size<=30)&&R)&&letC (s.data.toList.getD 0 0).toNat):=by
  unfold setB ZbK Zby
  rw[<- hR,hL]
  by_cases h0:1<=s.size
  ·rw[show s.data.toList.take 1=[s.data.toList.getD 0 0] by
    obtain⟨x,l,hx⟩:∃ x l,s.data.toList=x::l:=by
     cases hd:s.data.toList with
     | nil=>rw[hd]at hL;simp at hL;omega
     | cons x l=>exact⟨x,l,rfl⟩
    rw[hx];rfl]
   congr 1
   ·congr 1
    congr 1
    funext c
    exact ZsR c
   ·show((!decide (ZbE (s.data.toList.getD 0 0).toNat &&& 1=0))&&true)=_
    rw[Bool.and_true,Zmb]
  ·rw[decide_eq_false h0];rfl
 refine Zaa Tryz.func188 rfl rfl rfl rfl ?_
 by_cases h1:s.size<1
 ·have b1:decide ((s.size:Int)<1)=true:=decide_eq_true (by omega)
  rw[show setB s=false by rw[hN,decide_eq_false (show ¬ 1<=s.size by omega)];rfl]
  repeat (first|refine und ?_|(apply RL_pu;rfl;exact ZxI)|refine walk1 ?_)
  exact rtA
 have b1:decide ((s.size:Int)<1)=false:=decide_eq_false (by omega)
 by_cases h2:30<s.size
 ·have b2:decide (30<(s.size:Int))=true:=decide_eq_true (by omega)
  rw[show setB s=false by rw[hN,decide_eq_false (show ¬ s.size<=30 by omega),Bool.and_false];rfl]
  repeat (first|refine und ?_|(apply RL_pu;rfl;(first|exact ZxI|(apply Zaw;rfl;rfl;exact b2)))|refine walk1 ?_)
  exact rtA
 have b2:decide (30<(s.size:Int))=false:=decide_eq_false (by omega)
 obtain⟨c,hgc⟩:∃ c,s.data.toList.getD ((0:Int)).toNat 0=c:=⟨_,rfl⟩
 rw[show s.data.toList.getD 0 0=c from hgc,decide_eq_true (show 1<=s.size by omega),decide_eq_true (show s.size<=30 by omega)]at hN
 cases hl:letC c.toNat with
 | false =>
  have hcl:=fun w'=>Zcj c.toNat w'
  rw[hl]at hcl hN
  rw[hN,Bool.and_false]
  repeat (first|refine und ?_|(apply RL_pu;rfl;exact ZxH)|(refine js ?_;(refine Zab (fun w' _=>hcl w') ?_))|refine walk1 ?_)
  exact rtA
 | true =>
 have hcl:=fun w'=>Zcj c.toNat w'
 rw[hl]at hcl hN
 rw[show setB s=R by rw[hN,Bool.and_true];rfl]
 repeat (first|(apply RL_pu;rfl;exact ZxH)|(refine js ?_;(refine Zab (fun w' _=>hcl w') ?_))|refine walk1 ?_)
 clear hgc hl hcl hN
 refine Zai [(0,.string s)] [] (fun k:Nat=>[(3,.int .i64 k)]) (fun _=>[]) (fun k=>k<=s.size/\((s.data.toList.drop k).all fun c=>Zp9 c.toNat)=R) (fun k=>s.size - k) 0 SFA SOA ⟨Nat.zero_le _,hR⟩ ?_
 rintro k ⟨hk,hi⟩
 repeat (first|refine walk ?_)
 refine Zaf rfl (fun hc=>?_) (fun hc=>?_)
 ·simp only[decide_eq_true_eq,Int.ofNat_lt]at hc
  have hgc:s.data.toList.getD ((k:Int)).toNat 0=s.data.toList[k]:=Zc5 (by omega)
  rw[Zag (show k<s.data.toList.length by omega),List.all_cons]at hi
  generalize s.data.toList[k]=c at *
  unfold Zp9 at hi
  have hcl:=fun w'=>Zcj c.toNat w'
  have hcd:=fun w'=>ZhD c.toNat w'
  generalize letC c.toNat=x at *
  generalize digC c.toNat=y at *
  obtain⟨z1,e1⟩:∃ z1,(!decide ((c.toNat:Int)=95))=z1:=⟨_,rfl⟩
  obtain⟨z2,e2⟩:∃ z2,(!decide ((c.toNat:Int)=45))=z2:=⟨_,rfl⟩
  rw[show decide ((c.toNat:Int)=95) = !z1 by rw[<- e1,Bool.not_not],show decide ((c.toNat:Int)=45) = !z2 by rw[<- e2,Bool.not_not]]at hi
  have go:∀ q:Bool,(x||(y||(!z1||!z2)))=q->(q&&(s.data.toList.drop (k+1)).all fun c=>Zp9 c.toNat)=R:=fun q hq=>by rw[<- hq];exact hi
  cases x with
  | true =>
   repeat (first|refine und ?_|(apply RL_pu;rfl;exact ZmK)|(refine js ?_;(refine Zab (fun w' _=>hcl w') ?_))|refine walk1 ?_)
   exact⟨k+1,OA,⟨OA,by simpa using go true rfl⟩,SFA,SOA⟩
  | false =>
  cases y with
  | true =>
   repeat (first|refine und ?_|(apply RL_pu;rfl;exact ZmK)|(refine js ?_;(first|(refine Zab (fun w' _=>hcl w') ?_)|(refine Zab (fun w' _=>hcd w') ?_)))|refine walk1 ?_)
   exact⟨k+1,OA,⟨OA,by simpa using go true rfl⟩,SFA,SOA⟩
  | false =>
  cases z1 with
  | false =>
   repeat refine Zrl ?_
   exact⟨k+1,OA,⟨OA,by simpa using go true rfl⟩,SFA,SOA⟩
  | true =>
  cases z2 with
  | false =>
   repeat refine Zrl ?_
   exact⟨k+1,OA,⟨OA,by simpa using go true rfl⟩,SFA,SOA⟩
  | true =>
   have:=go false rfl
   rw[Bool.false_and]at this
   subst this
   repeat refine Zrl ?_
   exact rtA
 ·simp only[decide_eq_false_iff_not,Int.ofNat_lt]at hc
  rw[List.drop_eq_nil_of_le (by omega),List.all_nil]at hi
  subst hi
  repeat (first|refine walk ?_)
  exact rtA
end Go.Proofs.YtpipekfmecikmaaGreatDoor
namespace Go.Wk
open Go Go.RowKit
def Zja (m:Int)(d:DDay):Bool:=if d.kind=2 then true else if d.kind=3 then decide (d.day.tmod 7=1)&&decide (d.day<29) else if d.kind=1 then !decide (m=2)||!decide (d.day=29) else false
theorem Zqs (n:Int):(decide (n.tmod 7=1)&&decide (n<29))=(decide (n=1)||decide (n=8)||decide (n=15)||decide (n=22)):=by
 rw[Bool.eq_iff_iff]
 simp only[Bool.or_eq_true,Bool.and_eq_true,decide_eq_true_eq]
 by_cases h0:0<=n
 ·rw[Int.tmod_eq_emod_of_nonneg h0]
  omega
 ·have h5:n.tmod 7<=0:=by
   have:=Int.tmod_nonneg (a := -n) 7 (by omega)
   rw[Int.neg_tmod]at this
   omega
  generalize n.tmod 7=q at *
  omega
end Go.Wk
namespace Go.Proofs.YtpipekfmecikmaaGreatDoor
open Go Go.RowKit Go.Wk
attribute [local irreducible] W RL Does Zat Zaj retQ Calls Pu Stp RD Qy Ay Zak ZbK
theorem ZhB (y:Int)(w:World):Does Tryz.prog 278 [.int .i64 y] w (fun v O=>v = .bool (Zbj y)/\O=[]):=by
 refine Zaa Tryz.func278 rfl rfl rfl rfl ?_
 repeat' (first|refine walk ?_|refine und ?_|(refine Zam rfl rfl rfl (fun hc=>?_) (fun hc=>?_))|(refine Zas rfl rfl rfl (fun hc=>?_) (fun hc=>?_))|(refine Zaf rfl (fun hc=>?_) (fun hc=>?_)))
 all_goals first|(refine ret_1 _ [] (.tmp rfl) .nil ⟨?_,rfl⟩;first|rfl|(simp only[*,Bool.true_and,Bool.false_and,Bool.true_or,Bool.false_or,Bool.not_true,Bool.not_false];done)|(simp_all [Zbj];done)|(simp_all [Zbj];omega)|(simp_all [Zbj];rw[Bool.eq_iff_iff];simp;omega))|(exfalso;simp_all [Zbj];done)|(exfalso;simp_all [Zbj];omega)|(exfalso;omega)
theorem Zt1 {G:Prop}(h:G:=by(apply Zb6;rfl;rfl;exact b1)):G:=h
theorem ZxD {G:Prop}(h:G:=by(first|exact Zt1|(apply Zal;rfl;rfl;exact b2))):G:=h
theorem Zqf (c:DClock)(least:Int)(hl : -9223372036854775808<=least/\least<=0)(w:World):Does Tryz.prog 280 [.agg (DClock.enc c).toArray,.int .i64 least] w (fun v O=>v = .bool (ZdR c least)/\O=[]):=by
 have hcs:=fun w'=>ZeE c w'
 unfold ZdR
 cases hc:ZaH c with
 | false =>
  rw[hc]at hcs
  obtain⟨s,b⟩:=c
  show Does _ _ [.agg #[.int .i64 s,.int .i64 b],.int .i64 least] w _
  refine Zaa Tryz.func280 rfl rfl rfl rfl ?_
  repeat (first|(refine js ?_;(first|(refine Zab (fun w' _=>hcs w') ?_)|(refine bx ?_;intro bk)))|refine walk ?_)
  exact rtA
 | true =>
  rw[hc]at hcs
  have hb : -604799<=c.sec/\c.sec<=604799:=by
   simp only[ZaH,Bool.and_eq_true,decide_eq_true_eq]at hc
   omega
  obtain⟨s,b⟩:=c
  dsimp only at hb ⊢
  rw[Bool.true_and]
  show Does _ _ [.agg #[.int .i64 s,.int .i64 b],.int .i64 least] w _
  refine Zaa Tryz.func280 rfl rfl rfl rfl ?_
  by_cases hb1:b=1
  ·subst hb1
   rw[if_pos rfl]
   by_cases h1 : -86400 - least<=s
   ·have b1:decide (-86400 - least<=s)=true:=decide_eq_true h1
    rw[show decide (-86400<=s+least)=true from decide_eq_true (by omega),show decide (s+least<=172800)=decide (s<=172800 - least) by rw[decide_eq_decide];omega,Bool.true_and]
    repeat (first|(apply RL_pu;rfl;exact Zt1)|(refine js ?_;(first|(refine Zab (fun w' _=>hcs w') ?_)|(refine bx ?_;intro bk)))|refine walk1 ?_)
    exact rtA
   ·have b1:decide (-86400 - least<=s)=false:=decide_eq_false h1
    rw[show decide (-86400<=s+least)=false from decide_eq_false (by omega),Bool.false_and]
    repeat (first|refine und ?_|(apply RL_pu;rfl;exact Zt1)|(refine js ?_;(first|(refine Zab (fun w' _=>hcs w') ?_)|(refine bx ?_;intro bk)))|refine walk1 ?_)
    exact rtA
  ·rw[if_neg hb1]
   have b2:(!decide (b=1))=true:=by rw[decide_eq_false hb1];rfl
   by_cases h1 : -86400<=s
   ·have b1:decide (-86400<=s)=true:=decide_eq_true h1
    rw[b1,Bool.true_and]
    repeat (first|(apply RL_pu;rfl;exact ZxD)|(refine js ?_;(first|(refine Zab (fun w' _=>hcs w') ?_)|(refine bx ?_;intro bk)))|refine walk1 ?_)
    exact rtA
   ·have b1:decide (-86400<=s)=false:=decide_eq_false h1
    rw[b1,Bool.false_and]
    repeat (first|refine und ?_|(apply RL_pu;rfl;exact ZxD)|(refine js ?_;(first|(refine Zab (fun w' _=>hcs w') ?_)|(refine bx ?_;intro bk)))|refine walk1 ?_)
    exact rtA
theorem Zhy (m:Int)(d:DDay)(w:World):Does Tryz.prog 282 [.int .i64 m,.agg (DDay.enc d).toArray] w (fun v O=>v = .bool (Zja m d)/\O=[]):=by
 unfold Zja
 rw[Zqs]
 obtain⟨k,wk,n⟩:=d
 show Does _ _ [.int .i64 m,.agg #[.int .i64 k,.int .i64 wk,.int .i64 n]] w _
 refine Zaa Tryz.func282 rfl rfl rfl rfl ?_
 repeat' (first|(refine js ?_;(refine bx ?_;intro bk))|refine walk ?_|refine und ?_|(refine Zam rfl rfl rfl (fun hc=>?_) (fun hc=>?_))|(refine Zas rfl rfl rfl (fun hc=>?_) (fun hc=>?_))|(refine Zaf rfl (fun hc=>?_) (fun hc=>?_)))
 all_goals exact clo1
set_option maxHeartbeats 1000000 in
theorem Zqh (r:DRule)(least:Int)(hl : -9223372036854775808<=least/\least<=0)(hs:(r.letter.size:Int)<=9223372036854775807)(w:World):Does Tryz.prog 245 [.agg (DRule.enc r).toArray,.int .i64 least] w (fun v O=>v = .int .i64 (Zbm r least)/\O=[]):=by
 have h1:=fun w'=>ZhB r.from_ w'
 have h2:=fun w'=>ZhB r.to w'
 have h3:=fun w'=>Zlp r.from_ r.to r.month r.day w'
 have h4:=fun w'=>Zqf r.at_ least hl w'
 have h5:=fun w'=>Zlq r.letter hs w'
 unfold Zbm
 generalize Zbj r.from_=n1 at *
 generalize Zbj r.to=n2 at *
 generalize ZbU r.from_ r.to r.month r.day=al at *
 generalize ZdR r.at_ least=ti at *
 generalize Zeg r.letter=lb at *
 obtain⟨nm,fr,to,mo,⟨dk,dw,dd⟩,⟨cs,cb⟩,sv,le⟩:=r
 simp only at *
 show Does _ _ [.agg #[.string nm,.int .i64 fr,.int .i64 to,.int .i64 mo,.int .i64 dk,.int .i64 dw,.int .i64 dd,.int .i64 cs,.int .i64 cb,.int .i64 sv,.string le],.int .i64 least] w _
 obtain⟨e1,he1⟩:∃ e1,decide (to=1048576)=e1:=⟨_,rfl⟩
 rw[he1]
 have he1':(!decide (to=1048576)) = !e1:=by rw[he1]
 rw[show decide (le=ByteArray.empty)=decide (le=(⟨#[]⟩:ByteArray)) from rfl]
 refine Zaa Tryz.func245 rfl rfl rfl rfl ?_
 repeat' (first|(apply RL_pu;rfl;(apply Zal;rfl;rfl;exact he1'))|(refine js ?_;(first|(refine Zab (fun w' _=>h1 w') ?_)|(refine Zab (fun w' _=>h2 w') ?_)|(refine Zab (fun w' _=>h3 w') ?_)|(refine Zab (fun w' _=>h4 w') ?_)|(refine Zab (fun w' _=>h5 w') ?_)|(refine bx ?_;intro bk)))|refine walk1 ?_|refine und ?_|(refine Zam rfl rfl rfl (fun hc=>?_) (fun hc=>?_))|(refine Zas rfl rfl rfl (fun hc=>?_) (fun hc=>?_))|(refine Zaf rfl (fun hc=>?_) (fun hc=>?_)))
 all_goals exact clo1
end Go.Proofs.YtpipekfmecikmaaGreatDoor
namespace Go.Wk
open Go Go.RowKit
def Zzn:List DRule->Bool
 | []=>true
 | [a,b]=>(decide (a.save=0) != decide (b.save=0))&&!decide (a.month=b.month)&&Zja a.month a.day&&Zja b.month b.day
 | _=>false
theorem Zvf (l:List DRule):Zff l=Zzn (l.filter fun r=>decide (r.to=1048576)):=by
 unfold Zff
 generalize l.filter (fun r=>decide (r.to=1048576))=F
 match F with
 | []=>rfl
 | [a]=>rfl
 | [a,b]=>rfl
 | a::b::c::t=>rfl
def chkT (L:Int)(lb:Bool):List DRule->Nat->Bool->Bool->Nat × Int
 | [],_,z,s=>if z=false\/(L<0/\s=false) then (0,14) else if lb=false then (0,16) else (0,0)
 | r::l,k,z,s=>if Zbm r L=0 then chkT L lb l (k+1) (z||decide (r.save=0)) (s&&(decide (r.save=0)||decide (r.save=L))) else (k,Zbm r L)
theorem ZsM (L:Int)(lb:Bool):∀ (l:List DRule) (k:Nat) (z s:Bool),chkT L lb l k z s =
  match ZaW L l k with
  | some x=>x
  | none=>if (z||l.any fun r=>decide (r.save=0))=false\/(L<0/\(!s||l.any fun r => !decide (r.save=0)&&!decide (r.save=L))=true) then (0,14) else if lb=false then (0,16) else (0,0)
 | [],k,z,s=>by
  rw[chkT,ZaW]
  simp only[List.any_nil,Bool.or_false,Bool.not_eq_true']
 | r::l,k,z,s=>by
  rw[chkT,ZaW]
  by_cases h:Zbm r L=0
  ·rw[if_pos h,if_pos h,ZsM L lb l (k+1)]
   cases ZaW L l (k+1) with
   | some x=>rfl
   | none =>
    dsimp only
    rw[List.any_cons,List.any_cons,Bool.or_assoc]
    congr 3
    cases s <;> cases decide (r.save=0) <;> cases decide (r.save=L) <;> rfl
  ·rw[if_neg h,if_neg h]
theorem Zyv (l:List DRule):chkT (Zah l) (Zff l) l 0 false true=Zcq l:=by
 rw[ZsM]
 unfold Zcq
 cases ZaW (Zah l) l 0 <;> rfl
end Go.Wk
namespace Go.Proofs.YtpipekfmecikmaaGreatDoor
open Go Go.RowKit Go.Wk
attribute [local irreducible] W RL Does Zat Zaj retQ Calls Pu Stp RD Qy Ay Zak ZbK
theorem ZcF (A:Option Addr)(c:Nat)(l:List DRule)(w:World)(hA:RdSl w A c DRule.enc 11 l):Does Tryz.prog 158 [.slice A l.length c] w (fun v O=>v = .int .i64 (Zah l)/\O=[]):=by
 have hle:=hA.le
 have hcp:=hA.cap
 unfold maxLen at hcp
 generalize hres:Zah l=res
 unfold Zah at hres
 refine Zaa Tryz.func158 rfl rfl rfl rfl ?_
 repeat (first|refine walk ?_)
 refine Zai [(0,.slice A l.length c)] [] (fun g:Nat × Int=>[(3,.int .i64 g.2),(4,.int .i64 g.1)]) (fun _=>[]) (fun g=>g.1<=l.length/\(l.drop g.1).foldl (fun m r=>min m r.save) g.2=res) (fun g=>l.length - g.1) (0,0) SFA SOA ⟨Nat.zero_le _,hres⟩ ?_
 rintro⟨k,m⟩ ⟨hk,hi⟩
 dsimp only at hk hi ⊢
 repeat (first|refine walk ?_)
 refine Zaf rfl (fun h=>?_) (fun h=>?_)
 ·have hlt:k<l.length:=by simpa using h
  obtain⟨hna,hca⟩:=hA.rd k _ (List.getElem?_eq_getElem hlt)
  rw[Zag hlt,List.foldl_cons]at hi
  generalize l[k]=r at *
  simp only[DRule.enc]at hca
  repeat (first|(apply RL_pu;rfl;exact PuI)|refine walk1 ?_)
  refine Zaf rfl (fun h1=>?_) (fun h1=>?_)
  ·have h2:r.save<m:=by simpa using h1
   rw[show min m r.save=r.save by omega]at hi
   repeat (first|(apply RL_pu;rfl;exact PuI)|refine walk1 ?_)
   exact⟨(k+1,r.save),OA,⟨OA,hi⟩,SFA,SOA⟩
  ·have h2:¬ r.save<m:=by simpa using h1
   rw[show min m r.save=m by omega]at hi
   repeat (first|refine walk ?_)
   exact⟨(k+1,m),OA,⟨OA,hi⟩,SFA,SOA⟩
 ·have hkl:k=l.length:=by
   have:=of_decide_eq_false h
   omega
  subst hkl
  rw[List.drop_length]at hi
  repeat (first|refine walk ?_)
  exact ret_1 _ [] (.tmp rfl) .nil ⟨by rw[<- hi];rfl,rfl⟩
theorem ZxC {G:Prop}(h:G:=by(first|exact PuI|(apply Zal;rfl;rfl;exact b1))):G:=h
theorem ZxB {G:Prop}(h:G:=by(first|exact PuI|(apply Zal;rfl;rfl;first|exact b1|exact b2|exact b3))):G:=h
theorem Zhz (A:Option Addr)(c:Nat)(l:List DRule)(w:World)(hA:RdSl w A c DRule.enc 11 l):Does Tryz.prog 192 [.slice A l.length c] w (fun v O=>v = .tuple #[.int .i64 (ZbH l).1,.bool (ZbH l).2]/\O=[]):=by
 have hle:=hA.le
 have hcp:=hA.cap
 unfold maxLen at hcp
 generalize hres:ZbH l=res
 unfold ZbH at hres
 refine Zaa Tryz.func192 rfl rfl rfl rfl ?_
 repeat (first|refine walk ?_)
 refine Zai [(0,.slice A l.length c)] [] (fun g:Nat × Int=>[(4,.int .i64 g.2),(5,.int .i64 g.1)]) (fun _=>[]) (fun g=>g.1<=l.length/\Zb2 (l.drop g.1) g.2=res) (fun g=>l.length - g.1) (0,0) SFA SOA ⟨Nat.zero_le _,hres⟩ ?_
 rintro⟨k,m⟩ ⟨hk,hi⟩
 dsimp only at hk hi ⊢
 repeat (first|refine walk ?_)
 refine Zaf rfl (fun h=>?_) (fun h=>?_)
 ·have hlt:k<l.length:=by simpa using h
  obtain⟨hna,hca⟩:=hA.rd k _ (List.getElem?_eq_getElem hlt)
  rw[Zag hlt,Zb2]at hi
  generalize l[k]=r at *
  simp only[DRule.enc]at hca
  by_cases h1:r.save=0
  ·rw[if_pos h1]at hi
   have b1:(!decide (r.save=0))=false:=by rw[decide_eq_true h1];rfl
   repeat (first|refine und ?_|(apply RL_pu;rfl;exact ZxC)|refine walk1 ?_)
   exact⟨(k+1,m),OA,⟨OA,hi⟩,SFA,SOA⟩
  rw[if_neg h1]at hi
  have b1:(!decide (r.save=0))=true:=by rw[decide_eq_false h1];rfl
  by_cases h2:m=0
  ·have b2:(!decide (m=0))=false:=by rw[decide_eq_true h2];rfl
   rw[if_neg (fun e=>e.1 h2)]at hi
   repeat (first|refine und ?_|(apply RL_pu;rfl;(first|exact PuI|(apply Zal;rfl;rfl;first|exact b1|exact b2)))|refine walk1 ?_)
   exact⟨(k+1,r.save),OA,⟨OA,hi⟩,SFA,SOA⟩
  have b2:(!decide (m=0))=true:=by rw[decide_eq_false h2];rfl
  by_cases h3:r.save=m
  ·have b3:(!decide (r.save=m))=false:=by rw[decide_eq_true h3];rfl
   rw[if_neg (fun e=>e.2 h3)]at hi
   repeat (first|refine und ?_|(apply RL_pu;rfl;exact ZxB)|refine walk1 ?_)
   exact⟨(k+1,r.save),OA,⟨OA,hi⟩,SFA,SOA⟩
  ·have b3:(!decide (r.save=m))=true:=by rw[decide_eq_false h3];rfl
   rw[if_pos ⟨h2,h3⟩]at hi
   repeat (first|refine und ?_|(apply RL_pu;rfl;exact ZxB)|refine walk1 ?_)
   exact ret_2 _ _ [] (.tmp rfl) (.tmp rfl) .nil ⟨by rw[<- hi],rfl⟩
 ·have hkl:k=l.length:=by
   have:=of_decide_eq_false h
   omega
  subst hkl
  rw[List.drop_length,Zb2]at hi
  repeat (first|refine walk ?_)
  exact ret_2 _ _ [] (.tmp rfl) (.tmp rfl) .nil ⟨by rw[<- hi],rfl⟩
theorem ZxA {G:Prop}(h:G:=by(first|(apply Zan;rfl;rfl;exact b1)|(apply Zal;rfl;rfl;exact b2))):G:=h
theorem Zt0 {G:Prop}(h:G:=by(first|(apply Zap;rfl;rfl;decide;(show(_:Int)<((2:Nat):Int);decide);(intro w' _ hO;first|exact(ZaD (hO.of (A := .row (.slice A1 2 c1) 68 11 2 ([x,y].flatMap DRule.enc)) (by repeat' constructor)) hg0).1|exact(ZaD (hO.of (A := .row (.slice A1 2 c1) 68 11 2 ([x,y].flatMap DRule.enc)) (by repeat' constructor)) hg1).1))|(apply ZaS;rfl;(focus repeat' constructor);(first|exact hn0|exact hn1);rfl)|(apply Zan;rfl;rfl;first|exact e1|exact e2))):G:=h
theorem ZwC {G:Prop}(h:G:=by first|(apply Qy_y;rfl;exact Zt0)|exact QyA):G:=h
theorem Zz4 {G:Prop}(h:G:=by repeat (first|exact QF.nil|(apply QF.mk;rfl;rfl;decide +kernel;exact ZwC))):G:=h
theorem Zxz {G:Prop}(h:G:=by(apply Zal;rfl;rfl;exact e4)):G:=h
set_option maxHeartbeats 1000000 in
theorem Zqk (A:Option Addr)(c:Nat)(l:List DRule)(w:World)(hA:RdSl w A c DRule.enc 11 l)(hn:l.length<=1000000):Does Tryz.prog 246 [.slice A l.length c] w (fun v O=>v = .bool (Zff l)/\O=[]):=by
 rw[Zvf]
 generalize hres:l.filter (fun r=>decide (r.to=1048576))=res
 refine Zaa Tryz.func246 rfl rfl rfl rfl ?_
 repeat (first|refine walk ?_|(refine jn ?_;(try intro F);(first|(refine bx ?_;intro bk)|(refine stA ?_)|(apply Zac;exact PuA));refine fin ?_)|(apply RD_W;rfl;intro bk))
 refine ZdN 68 11 ?_
 refine Zai [(0,.slice A l.length c)] [] (fun g:AG DRule=>[(3,.slice g.A g.m g.c),(4,.int .i64 g.k)]) (fun g=>[.row (.slice g.A g.m g.c) 68 11 g.m g.xs]) (fun g=>g.k<=l.length/\g.m=g.acc.length/\g.xs=g.acc.flatMap DRule.enc/\g.m<=g.k/\g.acc++(l.drop g.k).filter (fun r=>decide (r.to=1048576))=res) (fun g=>l.length - g.k) ⟨0,none,0,0,[],[]⟩ SFA SOA ⟨Nat.zero_le _,rfl,rfl,Nat.le_refl _,by simpa using hres⟩ ?_
 rintro⟨k,A1,c1,m,xs,acc⟩ ⟨hk,hm,hx,hmk,hi⟩
 dsimp only at hk hm hx hmk hi ⊢
 repeat (first|refine walk ?_|(refine jn ?_;(try intro F);(first|(refine bx ?_;intro bk)|(refine stA ?_)|(apply Zac;exact PuA));refine fin ?_)|(apply RD_W;rfl;intro bk))
 refine Zaf rfl (fun hc=>?_) (fun hc=>?_)
 ·simp only[decide_eq_true_eq,Int.ofNat_lt]at hc
  obtain⟨hna,hca⟩:=hA.rd k _ (List.getElem?_eq_getElem hc)
  rw[Zag hc,List.filter_cons]at hi
  generalize l[k]=r at *
  repeat (first|(apply RL_pu;rfl;exact PuI)|(apply RD_Q;rfl;rfl;decide +kernel;rfl;rfl;exact QyI)|refine walk1 ?_|(refine jn ?_;(try intro F);(first|(refine bx ?_;intro bk)|(refine stA ?_)|(apply Zac;first|exact PuI|exact PuA));first|refine⟨_,EndsA,QFI,?_⟩|refine fin ?_)|(apply RD_W;rfl;intro bk))
  refine Zaf rfl (fun h3=>?_) (fun h3=>?_)
  ·rw[if_pos h3]at hi
   repeat (first|(apply RL_pu;rfl;exact PuI)|(apply RD_Q;rfl;rfl;decide +kernel;rfl;rfl;exact QyI)|refine walk1 ?_|(refine jn ?_;(try intro F);(first|(apply ZaT;rfl;rfl;(intro A' c';(focus repeat' constructor));(intro w' _ hO;exact Zcu (hO.of (by repeat' constructor)));rfl;rfl;(simp only[maxLen];omega);omega;intro A' c' hc1 hc2 hc3)|(refine bx ?_;intro bk)|(refine stA ?_)|(apply Zac;first|exact PuI|exact PuA));first|refine⟨_,EndsA,QFI,?_⟩|refine fin ?_)|(apply RD_W;rfl;intro bk))
   exact⟨⟨k+1,A',c',m+1,xs++r.enc,acc++[r]⟩,OA,⟨OA,by simp[hm],by rw[hx];exact Zel acc r,OA,by rw[<- hi];simp⟩,SFA,SOA⟩
  rw[h3]at hi
  repeat (first|refine walk ?_|(refine jn ?_;(try intro F);(first|(refine bx ?_;intro bk)|(refine stA ?_)|(apply Zac;exact PuA));refine fin ?_)|(apply RD_W;rfl;intro bk))
  exact⟨⟨k+1,A1,c1,m,xs,acc⟩,OA,⟨OA,hm,hx,OA,hi⟩,SFA,SOA⟩
 simp only[decide_eq_false_iff_not,Int.ofNat_lt]at hc
 rw[List.drop_eq_nil_of_le (by omega),List.filter_nil,List.append_nil]at hi
 subst hi hx hm
 match acc,hmk with
 | [],_ =>
  repeat (first|refine walk ?_|(refine jn ?_;(try intro F);(first|(refine bx ?_;intro bk)|(refine stA ?_)|(apply Zac;exact PuA));refine fin ?_)|(apply RD_W;rfl;intro bk))
  exact ret_1 _ [] (.tmp rfl) SOA ⟨rfl,rfl⟩
 | [x],_ =>
  repeat (first|refine walk ?_|(refine jn ?_;(try intro F);(first|(refine bx ?_;intro bk)|(refine stA ?_)|(apply Zac;exact PuA));refine fin ?_)|(apply RD_W;rfl;intro bk))
  exact ret_1 _ [] (.tmp rfl) SOA ⟨rfl,rfl⟩
 | x::y::z::t,_ =>
  have b1:decide (((x::y::z::t).length:Int)=0)=false:=decide_eq_false (by simp only[List.length_cons];omega)
  have b2:(!decide (((x::y::z::t).length:Int)=2))=true:=by rw[decide_eq_false (by simp only[List.length_cons];omega)];rfl
  repeat (first|(apply RL_pu;rfl;exact ZxA)|(apply RD_Q;rfl;rfl;decide +kernel;rfl;rfl;exact QyRfG3)|refine walk1 ?_|(refine jn ?_;(try intro F);(first|(refine bx ?_;intro bk)|(refine stA ?_)|(apply Zac;first|exact ZxA|exact PuA));first|refine⟨_,EndsA,QFRfG3,?_⟩|refine fin ?_)|(apply RD_W;rfl;intro bk))
  exact ret_1 _ [] (.tmp rfl) SOA ⟨rfl,rfl⟩
 | [x,y],_ =>
  have hg0:=Zao DRule.len [x,y] 0 _ 0 _ rfl rfl
  have hg1:=Zao DRule.len [x,y] 1 _ 0 _ rfl rfl
  have hn0:∀ i v,(DRule.enc x)[i]?=some v->([x,y].flatMap DRule.enc)[0+i]?=some v:=fun i v hv=>by simpa using Zao DRule.len [x,y] 0 _ i v rfl hv
  have hn1:∀ i v,(DRule.enc y)[i]?=some v->([x,y].flatMap DRule.enc)[11+i]?=some v:=fun i v hv=>by simpa using Zao DRule.len [x,y] 1 _ i v rfl hv
  have hp1:=fun w'=>Zhy x.month x.day w'
  have hp2:=fun w'=>Zhy y.month y.day w'
  rw[Zzn]
  generalize Zja x.month x.day=p1 at *
  generalize Zja y.month y.day=p2 at *
  simp only[DRule.enc]at hn0 hn1
  obtain⟨z1,e1⟩:∃ z,decide (x.save=0)=z:=⟨_,rfl⟩
  obtain⟨z2,e2⟩:∃ z,decide (y.save=0)=z:=⟨_,rfl⟩
  obtain⟨z3,e3⟩:∃ z,decide (x.month=y.month)=z:=⟨_,rfl⟩
  have e4:(!decide (x.month=y.month)) = !z3:=by rw[e3]
  rw[e1,e2,e3]
  repeat (first|(apply RL_pu;rfl;exact Zt0)|(apply RD_Q;rfl;rfl;decide +kernel;rfl;rfl;exact ZwC)|refine walk1 ?_|(refine jn ?_;(try intro F);(first|(refine bx ?_;intro bk)|(refine stA ?_)|(apply Zac;first|exact Zt0|exact PuA));first|refine⟨_,EndsA,Zz4,?_⟩|refine fin ?_)|(apply RD_W;rfl;intro bk))
  have go:∀ b1 b2 b3 b4:Bool,(b1&&b2&&b3&&b4)=(if b1 then (if b2 then (if b3 then b4 else false) else false) else false):=by decide
  rw[go]
  cases z1 <;> cases z2 <;> cases z3 <;> cases p1
  all_goals
   repeat (first|refine und ?_|(apply RL_pu;rfl;exact Zxz)|(apply RD_Q;rfl;rfl;decide +kernel;rfl;rfl;exact QyRfG5)|refine walk1 ?_|(refine jg ?_;(try intro F);(first|(refine Zab (fun w' _=>hp1 w') ?_)|(refine Zab (fun w' _=>hp2 w') ?_)|(refine bx ?_;intro bk)|(refine stA ?_));first|refine⟨_,EndsA,QFRfG5,?_⟩|refine fin ?_)|(refine jn ?_;(try intro F);(first|(refine bx ?_;intro bk)|(refine stA ?_)|(apply Zac;first|exact Zxz|exact PuA));first|refine⟨_,EndsA,QFRfG5,?_⟩|refine fin ?_)|(apply RD_W;rfl;intro bk))
   exact rtA
set_option maxHeartbeats 1000000 in
theorem Znm (A:Option Addr)(c:Nat)(l:List DRule)(w:World)(hA:RdSl w A c DRule.enc 11 l)(hn:l.length<=1000000)(hR:∀ r∈l,(-9223372036854775808<=r.save/\r.save<=9223372036854775807)/\(r.letter.size:Int)<=9223372036854775807) :
  Does Tryz.prog 190 [.slice A l.length c] w (fun v O=>v = .tuple #[.int .i64 (Zcq l).1,.int .i64 (Zcq l).2]/\O=[]):=by
 have hls:=ZhU l 0 (by omega) (by omega) fun r hr=>(hR r hr).1
 change -9223372036854775808<=Zah l/\Zah l<=0 at hls
 have hlast:=fun w' (hw:Bel w.heap.size w w')=>Zqk A c l w' (hA.up hw) hn
 have hlst:=fun w' (hw:Bel w.heap.size w w')=>ZcF A c l w' (hA.up hw)
 obtain⟨res,hres⟩:∃ res,Zcq l=res:=⟨_,rfl⟩
 rw[hres]
 rw[<- Zyv]at hres
 generalize Zff l=lb at *
 generalize Zah l=L at *
 refine Zaa Tryz.func190 rfl rfl rfl rfl ?_
 repeat (first|(refine js ?_;(refine Zab hlst ?_))|refine walk ?_)
 refine Zai [(0,.slice A l.length c),(4,.int .i64 L)] [] (fun g:Nat × Bool × Bool=>[(5,.bool g.2.1),(6,.bool g.2.2),(7,.int .i64 g.1)]) (fun _=>[]) (fun g=>g.1<=l.length/\chkT L lb (l.drop g.1) g.1 g.2.1 g.2.2=res) (fun g=>l.length - g.1) (0,false,true) SFA SOA ⟨Nat.zero_le _,hres⟩ ?_
 clear hres
 rintro⟨k,z,s⟩ ⟨hk,hi⟩
 dsimp only at hk hi ⊢
 repeat (first|refine walk ?_)
 refine Zaf rfl (fun h=>?_) (fun h=>?_)
 ·have hlt:k<l.length:=by simpa using h
  obtain⟨hna,hca⟩:=hA.rd k _ (List.getElem?_eq_getElem hlt)
  have hRr:=hR l[k] (List.getElem_mem hlt)
  rw[Zag hlt,chkT]at hi
  generalize l[k]=r at *
  have hru:=fun w'=>Zqh r L hls hRr.2 w'
  generalize Zbm r L=er at *
  simp only[DRule.enc]at hca hru
  by_cases h0:er=0
  ·rw[if_pos h0]at hi
   subst h0
   obtain⟨z1,e1⟩:∃ z1,decide (r.save=0)=z1:=⟨_,rfl⟩
   obtain⟨z2,e2⟩:∃ z2,decide (r.save=L)=z2:=⟨_,rfl⟩
   rw[e1,e2]at hi
   cases z <;> cases s <;> cases z1
   all_goals
    repeat (first|refine und ?_|(apply RL_pu;rfl;(first|exact PuI|(apply Zan;rfl;rfl;first|exact e1|exact e2)))|(refine js ?_;(refine Zab (fun w' _=>hru w') ?_))|refine walk1 ?_)
    exact⟨(k+1,_,_),OA,⟨OA,hi⟩,SFA,SOA⟩
  ·rw[if_neg h0]at hi
   subst hi
   have b1:(!decide (er=0))=true:=by rw[decide_eq_false h0];rfl
   repeat (first|(apply RL_pu;rfl;exact ZxC)|(refine js ?_;(refine Zab (fun w' _=>hru w') ?_))|refine walk1 ?_)
   exact rtB
 ·have hkl:k=l.length:=by
   have:=of_decide_eq_false h
   omega
  subst hkl
  rw[List.drop_length,chkT]at hi
  obtain⟨z1,e1⟩:∃ z1,decide (L<0)=z1:=⟨_,rfl⟩
  subst hi
  cases z <;> cases s <;> cases z1
  all_goals
   first|(have hL0:L<0:=of_decide_eq_true e1)|(have hL0:¬ L<0:=of_decide_eq_false e1)
   cases lb
   all_goals
    simp only[hL0,Bool.false_eq_true,Bool.true_eq_false,or_true,or_false,true_or,false_or,and_true,and_false,if_true,if_false,reduceCtorEq]
    repeat (first|refine und ?_|(apply RL_pu;rfl;(apply Zaz;rfl;rfl;exact e1))|(refine js ?_;(refine Zab hlast ?_))|refine walk1 ?_)
    exact rtB
end Go.Proofs.YtpipekfmecikmaaGreatDoor
