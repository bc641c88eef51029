/- Parts of the proof. -/
import Derived.Test.YtpipekfmecikmaaGreatDoorV26
set_option maxHeartbeats 4000000
set_option linter.unusedVariables false
set_option linter.unusedSimpArgs false
namespace Go.Wk
open Go Go.RowKit
def Zhm:Nat->Int
 | 0=>3600
 | 1=>60
 | 2=>1
 | _=>0
theorem ZoJ {i:Nat}(h:i<3):∃ us,([3600,60,1]:List Int).drop i=Zhm i::us/\us=([3600,60,1]:List Int).drop (i+1)/\Zhm (i+1)=Zhm i / 60/\1<=Zhm i/\Zhm i<=3600:=by
 have:i=0\/i=1\/i=2:=by omega
 rcases this with rfl|rfl|rfl
 ·exact⟨_,rfl,rfl,by decide,by decide,by decide⟩
 ·exact⟨_,rfl,rfl,by decide,by decide,by decide⟩
 ·exact⟨_,rfl,rfl,by decide,by decide,by decide⟩
theorem Zx0 {l:List UInt8}{i:Nat}{n:Int}(h:twoR l i=some n):0<=n/\n<=99:=by
 unfold twoR at h
 split at h
 ·rename_i c d _ _
  split at h
  ·rename_i hd
   unfold digC at hd
   simp only[Bool.and_eq_true,decide_eq_true_eq]at hd
   simp only[Option.some.injEq]at h
   omega
  ·cases h
 ·cases h
theorem ZbT (l:List UInt8)(s:ByteArray):(⟨l.toArray⟩:ByteArray)=s↔l=s.data.toList:=by
 constructor
 ·intro h;rw[<- h]
 ·intro h;rw[h]
def oneX (t:List UInt8):List UInt8 × Int:=if t=[] then ([],3) else (t,0)
def twoX (t u:List UInt8):List UInt8 × Int:=if t=[]\/u=[] then ([],3) else (t++47::u,0)
theorem ZgV {n:Int}(h:ZcH n=false):ZaL n=[]:=Zda (by
 unfold ZcH at h
 simp only[Bool.and_eq_false_iff,decide_eq_false_iff_not]at h
 omega)
def jN (off:Int)(s:List Int):List UInt8 × Int:=match ZdE off s with|none=>([],3)|some r=>(ZcD r,0)
theorem Zwc (off s:Int):jN off [s]=oneX (ZaL (off+s)):=by
 unfold jN oneX ZdE ZdE
 by_cases h:ZaL (off+s)=[]
 ·rw[if_pos (.inr h),if_pos h]
 ·rw[if_neg (fun e=>e.elim (fun e=>h (ZgV e)) h),if_neg h]
  rfl
theorem Zzt (off x:Int):jN off [0,x]=twoX (ZaL off) (ZaL (off+x)):=by
 unfold jN twoX ZdE ZdE ZdE
 rw[Int.add_zero]
 by_cases h:ZaL off=[]
 ·rw[if_pos (.inr h),if_pos (.inl h)]
 ·rw[if_neg (fun e=>e.elim (fun e=>h (ZgV e)) h)]
  by_cases h2:ZaL (off+x)=[]
  ·rw[if_pos (.inr h2),if_pos (.inr h2)]
  ·rw[if_neg (fun e=>e.elim (fun e=>h2 (ZgV e)) h2),if_neg (fun e=>e.elim h h2)]
   rfl
theorem ZqL (e:DEra)(l:List DRule):ZdH e l=if e.kind=0 then oneX (ZaL e.off) else if e.kind=1 then oneX (ZaL (e.off+e.save)) else if e.kind=2 then (if (ZbH l).2 then twoX (ZaL e.off) (ZaL (e.off+(ZbH l).1)) else if (l.any fun r => !decide (r.save=0)) then ([],14) else oneX (ZaL e.off)) else ([],2):=by
 have h1:=Zwc e.off 0
 rw[Int.add_zero]at h1
 rw[<- h1,<- Zwc e.off e.save,<- Zzt e.off (ZbH l).1]
 rfl
end Go.Wk
namespace Go.Proofs.YtpipekfmecikmaaGreatDoor
open Go Go.RowKit Go.Wk
attribute [local irreducible] W RL Does Zat Zaj retQ Calls Pu Stp RD Qy Ay Zak
def parV (o:Option Int):Value := .tuple #[.int .i64 (o.getD 0),.int .i64 (if o.isSome then 0 else 5)]
theorem ZpQ {G:Prop}(h:G:=by(first|(apply ZtB;rfl;rfl;exact hm;omega)|(apply Pu_quo64;rfl;rfl;omega;omega;decide)|(apply Zaz;rfl;rfl;first|exact bl|exact bn)|(apply Zaw;rfl;rfl;first|exact bu|exact bs))):G:=h
theorem ZAe {G:Prop}(h:G:=by(first|exact ZpQ|(apply Za3;rfl;rfl;decide;omega;exact hgc)|(apply Zan;rfl;rfl;exact bc)|(apply Zha;rfl;(constructor <;> omega))|(apply ZbX;rfl;rfl;exact be)|(apply Zcc;rfl;rfl;exact bt))):G:=h
theorem ZoH {G G':Prop}(k:G')(h:Hold G'->G:=by intro k9;(first|refine und ?_|(apply RL_pu;rfl;exact ZAe)|(refine js ?_;(refine Zab (fun w' _=>ht w') ?_))|refine walk1 ?_);exact k9.out):G:=h ⟨k⟩
set_option maxHeartbeats 1000000 in
theorem Zm7 (s:ByteArray)(hs:s.size<=1000000000000)(w:World):Does Tryz.prog 259 [.string s] w (fun v O=>v=parV (ZaY s.data.toList)/\O=[]):=by
 have hL:s.data.toList.length=s.size:=rfl
 rw[<- ZrW]
 unfold ZrX
 obtain⟨R,hR⟩:∃ R,ZcT s.data.toList [3600,60,1] 0 0=R:=⟨_,rfl⟩
 rw[hR]
 refine Zaa Tryz.func259 rfl rfl rfl rfl ?_
 repeat (first|refine walk ?_)
 refine Zai [(0,.string s)] [] (fun g:Nat × Int=>[(4,.int .i64 g.2),(5,.int .i64 (Zhm g.1)),(6,.int .i64 ((1+2*g.1:Nat):Int))]) (fun _=>[]) (fun g=>g.1<=3/\ZcT s.data.toList (([3600,60,1]:List Int).drop g.1) g.1 g.2=R/\0<=g.2/\g.2<=g.1*360000) (fun g=>3 - g.1) (0,0) SFA SOA ⟨by omega,hR,Int.le_refl _,by decide⟩ ?_
 clear hR
 rintro⟨i,off⟩ ⟨h1,hi,h3,h4⟩
 dsimp only at h1 hi h3 h4 ⊢
 by_cases hcond:1+2*i<s.size/\i<3
 ·obtain⟨hl,hi3⟩:=hcond
  obtain⟨us,hu1,hu2,hu3,hu4,hu5⟩:=ZoJ hi3
  rw[hu1,ZcT,if_neg (by omega)]at hi
  have bl:decide (((1+2*i:Nat):Int)<(s.size:Int))=true:=decide_eq_true (by omega)
  have bu:decide (0<Zhm i)=true:=decide_eq_true (by omega)
  have ht:=fun w'=>Zqe s (1+2*i) (by omega) (by omega) w'
  have hbd:=fun n => @Zx0 s.data.toList (1+2*i) n
  generalize twoR s.data.toList (1+2*i)=o at *
  cases o with
  | none =>
   dsimp only at hi
   subst hi
   simp only[optN]at ht
   have bn:decide ((-1:Int)<0)=true:=rfl
   repeat (first|(apply RL_pu;rfl;exact ZpQ)|(refine js ?_;(refine Zab (fun w' _=>ht w') ?_))|refine walk1 ?_)
   exact rtB
  | some n =>
   have hnb:=hbd n rfl
   dsimp only at hi
   simp only[optN]at ht
   have bn:decide (n<0)=false:=decide_eq_false (by omega)
   obtain⟨m,hm⟩:∃ m,n*Zhm i=m:=⟨_,rfl⟩
   have hmb:0<=m/\m<=356400:=by
    rw[<- hm]
    refine⟨Int.mul_nonneg hnb.1 (by omega),?_⟩
    have:n*Zhm i<=99*3600:=Int.mul_le_mul hnb.2 hu5 (by omega) (by decide)
    omega
   rw[hm,hu2]at hi
   generalize hun:Zhm i=u at *
   repeat (first|(apply RL_pu;rfl;exact ZpQ)|(refine js ?_;(refine Zab (fun w' _=>ht w') ?_))|refine walk1 ?_)
   refine⟨(i+1,off+m),OA,⟨OA,hi,by dsimp only;omega,by dsimp only;omega⟩,?_,SOA⟩
   dsimp only
   rw[hu3]
   exact SFA
 ·have hend:some off=R:=by
   by_cases hi3:i<3
   ·obtain⟨us,hu1,_⟩:=ZoJ hi3
    rw[hu1,ZcT,if_pos (by omega)]at hi
    exact hi
   ·obtain rfl:i=3:=by omega
    exact hi
  clear hi
  subst hend
  have hd:(s.size:Int)<=((1+2*i:Nat):Int)\/i=3:=by omega
  obtain⟨e1,bl⟩:∃ e,decide (((1+2*i:Nat):Int)<(s.size:Int))=e:=⟨_,rfl⟩
  obtain⟨e2,bu⟩:∃ e,decide (0<Zhm i)=e:=⟨_,rfl⟩
  have he:¬ (e1=true/\e2=true):=by
   rintro⟨rfl,rfl⟩
   have:=of_decide_eq_true bl
   rcases hd with hd|rfl
   ·omega
   ·exact absurd (of_decide_eq_true bu) (by decide)
  have hd2:e1=false\/(e1=true/\e2=false):=by cases e1 <;> cases e2 <;> simp_all
  clear he hd hcond
  by_cases h0:s.size=0
  ·have bs:decide (0<(s.size:Int))=false:=decide_eq_false (by omega)
   have hl0:s.data.toList=[]:=List.eq_nil_of_length_eq_zero (by omega)
   have be:decide (s=(⟨#[]⟩:ByteArray))=true:=decide_eq_true ((ZbT [] s).2 hl0.symm).symm
   have hE:endR s.data.toList (some off)=none:=by unfold endR;dsimp only;rw[if_pos (.inl (by rw[hl0];rfl))]
   rw[hE]
   rcases hd2 with rfl|⟨rfl,rfl⟩
   all_goals
    repeat (first|refine und ?_|(apply RL_pu;rfl;(first|exact ZpQ|(apply ZbX;rfl;rfl;exact be)))|(refine js ?_;(refine Zab (fun w' _=>ht w') ?_))|refine walk1 ?_)
    exact rtB
  have bs:decide (0<(s.size:Int))=true:=decide_eq_true (by omega)
  have hne:s.data.toList≠[]:=fun e=>h0 (by rw[e]at hL;exact hL.symm)
  have be:decide (s=(⟨#[]⟩:ByteArray))=false:=decide_eq_false (fun e=>hne ((ZbT [] s).1 e.symm).symm)
  obtain⟨c,hgc⟩:∃ c,s.data.toList.getD ((0:Int)).toNat 0=c:=⟨_,rfl⟩
  have hh:s.data.toList.head?=some c:=by
   cases hd:s.data.toList with
   | nil=>exact absurd hd hne
   | cons x l=>rw[hd]at hgc;rw[<- hgc];rfl
  have hem:s.data.toList.isEmpty=false:=by
   cases hd:s.data.toList with
   | nil=>exact absurd hd hne
   | cons x l=>rfl
  by_cases hc:c=45
  ·have bc:decide ((c.toNat:Int)=45)=true:=by rw[hc];rfl
   have ht:=fun w'=>ZcB (-off) w'
   by_cases hx:ZaL (-off)=s.data.toList
   ·have bt:(!decide ((⟨(ZaL (-off)).toArray⟩:ByteArray)=s))=false:=by rw[decide_eq_true ((ZbT _ _).2 hx)];rfl
    have hE:endR s.data.toList (some off)=some (-off):=by unfold endR;dsimp only;rw[hh,hc,if_pos rfl,if_neg (fun e=>e.elim (fun e=>by rw[hem]at e;cases e) (fun e=>e hx))]
    rw[hE]
    rcases hd2 with rfl|⟨rfl,rfl⟩
    all_goals
     repeat refine ZoH ?_
     exact rtB
   ·have bt:(!decide ((⟨(ZaL (-off)).toArray⟩:ByteArray)=s))=true:=by rw[decide_eq_false (fun e=>hx ((ZbT _ _).1 e))];rfl
    have hE:endR s.data.toList (some off)=none:=by unfold endR;dsimp only;rw[hh,hc,if_pos rfl,if_pos (.inr hx)]
    rw[hE]
    rcases hd2 with rfl|⟨rfl,rfl⟩
    all_goals
     repeat refine ZoH ?_
     exact rtB
  ·have bc:decide ((c.toNat:Int)=45)=false:=decide_eq_false (fun e=>hc (UInt8.toNat_inj.1 (by show c.toNat=45;omega)))
   have ht:=fun w'=>ZcB off w'
   have hc':¬ (some c=some (45:UInt8)):=fun e=>hc (by injection e)
   by_cases hx:ZaL off=s.data.toList
   ·have bt:(!decide ((⟨(ZaL off).toArray⟩:ByteArray)=s))=false:=by rw[decide_eq_true ((ZbT _ _).2 hx)];rfl
    have hE:endR s.data.toList (some off)=some off:=by unfold endR;dsimp only;rw[hh,if_neg hc',if_neg (fun e=>e.elim (fun e=>by rw[hem]at e;cases e) (fun e=>e hx))]
    rw[hE]
    rcases hd2 with rfl|⟨rfl,rfl⟩
    all_goals
     repeat refine ZoH ?_
     exact rtB
   ·have bt:(!decide ((⟨(ZaL off).toArray⟩:ByteArray)=s))=true:=by rw[decide_eq_false (fun e=>hx ((ZbT _ _).1 e))];rfl
    have hE:endR s.data.toList (some off)=none:=by unfold endR;dsimp only;rw[hh,if_neg hc',if_pos (.inr hx)]
    rw[hE]
    rcases hd2 with rfl|⟨rfl,rfl⟩
    all_goals
     repeat refine ZoH ?_
     exact rtB
theorem ZAd {G:Prop}(h:G:=by(first|(apply Zaw;rfl;rfl;first|exact b1|exact b2)|(apply Zaz;rfl;rfl;first|exact b3|exact b4))):G:=h
theorem Zk1 {G G':Prop}(k:G')(h:Hold G'->G:=by intro k9;(first|refine und ?_|(apply RL_pu;rfl;exact ZAd)|(refine js ?_;(refine Zab (fun w' _=>ht w') ?_))|refine walk1 ?_);exact k9.out):G:=h ⟨k⟩
theorem Zlc (a b:Int)(ha:I64 a)(hb:I64 b)(w:World):Does Tryz.prog 294 [.int .i64 a,.int .i64 b] w (fun v O=>v = .string ⟨(ZaL (a+b)).toArray⟩/\O=[]):=by
 unfold I64 at ha hb
 have ht:=fun w'=>ZcB (a+b) w'
 refine Zaa Tryz.func294 rfl rfl rfl rfl ?_
 by_cases h1:0<b
 ·have b1:decide (0<b)=true:=decide_eq_true h1
  have b3:decide (b<0)=false:=decide_eq_false (by omega)
  by_cases h2:86399 - b<a
  ·have b2:decide (86399 - b<a)=true:=decide_eq_true h2
   rw[Zda (.inr (by omega))]
   repeat refine Zk1 ?_
   exact rtA
  ·have b2:decide (86399 - b<a)=false:=decide_eq_false h2
   repeat refine Zk1 ?_
   exact rtA
 ·have b1:decide (0<b)=false:=decide_eq_false h1
  by_cases h3:b<0
  ·have b3:decide (b<0)=true:=decide_eq_true h3
   by_cases h4:a < -86399 - b
   ·have b4:decide (a < -86399 - b)=true:=decide_eq_true h4
    rw[Zda (.inl (by omega))]
    repeat refine Zk1 ?_
    exact rtA
   ·have b4:decide (a < -86399 - b)=false:=decide_eq_false h4
    repeat refine Zk1 ?_
    exact rtA
  ·have b3:decide (b<0)=false:=decide_eq_false h3
   repeat refine Zk1 ?_
   exact rtA
theorem oneV {t:List UInt8}(h:decide ((⟨t.toArray⟩:ByteArray)=⟨#[]⟩)=true):t=[]:=(ZbT t ⟨#[]⟩).1 (of_decide_eq_true h)
theorem oneF {t:List UInt8}(h:decide ((⟨t.toArray⟩:ByteArray)=⟨#[]⟩)=false):t≠[]:=fun e=>of_decide_eq_false h (by rw[e])
theorem ZAc {G:Prop}(h:G:=by(first|(apply Zaz;rfl;rfl;exact k1)|(apply Zaw;rfl;rfl;exact k2)|(apply Zan;rfl;rfl;first|exact k3|exact k4)|(apply ZbX;rfl;rfl;first|exact s1|exact s2)|(apply ZkM;rfl;rfl;(simp only[List.length_append,List.length_cons,List.length_nil];omega)))):G:=h
theorem ZdQ {G G':Prop}(k:G')(h:Hold G'->G:=by intro k9;(first|refine und ?_|(apply RL_pu;rfl;exact ZAc)|(refine js ?_;(first|(refine Zab (fun w' _=>ht w') ?_)|(refine Zab (fun w' _=>hsm w') ?_)|(refine Zab hot ?_)))|refine walk1 ?_);exact k9.out):G:=h ⟨k⟩
theorem ZtX {G:Prop}(h:G:=by(first|exact PuI|(apply Zal;rfl;rfl;exact hz))):G:=h
set_option maxHeartbeats 2000000 in
theorem ZrF (e:DEra)(A:Option Addr)(c:Nat)(l:List DRule)(w:World)(hA:RdSl w A c DRule.enc 11 l)(ho:I64 e.off)(hs:I64 e.save)(hr:∀ r∈l,I64 r.save)(hn:l.length<=1000000) :
  Does Tryz.prog 283 [.agg (DEra.enc e).toArray,.slice A l.length c] w (fun v O=>v=xpV (ZdH e l)/\O=[]):=by
 rw[ZqL]
 have hx:=Zf4 l 0 hr ⟨by decide,by decide⟩
 rw[show Zb2 l 0=ZbH l from rfl]at hx
 have hot:=fun w' (hw:Bel w.heap.size w w')=>Zhz A c l w' (hA.up hw)
 obtain⟨B,hB⟩:∃ B,(l.any fun r => !decide (r.save=0))=B:=⟨_,rfl⟩
 rw[hB]
 generalize ZbH l=od at *
 obtain⟨x,is⟩:=od
 obtain⟨off,kind,save,set,format,⟨tis,year,month,⟨dk,dw,dd⟩,⟨us,ub⟩⟩⟩:=e
 dsimp only at ho hs hx hot ⊢
 have ht:=fun w'=>ZcB off w'
 have htl:=Zd5 off
 show Does _ _ [.agg #[.int .i64 off,.int .i64 kind,.int .i64 save,.string set,.string format,.bool tis,.int .i64 year,.int .i64 month,.int .i64 dk,.int .i64 dw,.int .i64 dd,.int .i64 us,.int .i64 ub],.slice A l.length c] w _
 refine Zaa Tryz.func283 rfl rfl rfl rfl ?_
 by_cases h1:kind<0
 ·have k1:decide (kind<0)=true:=decide_eq_true h1
  rw[if_neg (by omega),if_neg (by omega),if_neg (by omega)]
  repeat (first|refine ZdQ ?_|(refine js ?_;(refine bx ?_;intro bk)))
  exact rtB
 have k1:decide (kind<0)=false:=decide_eq_false h1
 by_cases h2:2<kind
 ·have k2:decide (2<kind)=true:=decide_eq_true h2
  rw[if_neg (by omega),if_neg (by omega),if_neg (by omega)]
  repeat (first|refine ZdQ ?_|(refine js ?_;(refine bx ?_;intro bk)))
  exact rtB
 have k2:decide (2<kind)=false:=decide_eq_false h2
 by_cases h3:kind=1
 ·have k3:decide (kind=1)=true:=decide_eq_true h3
  have k4:decide (kind=2)=false:=decide_eq_false (by omega)
  have hsm:=fun w'=>Zlc off save ho hs w'
  rw[if_neg (by omega),if_pos h3]
  generalize ZaL (off+save)=t at *
  obtain⟨q,s1⟩:∃ q,decide ((⟨t.toArray⟩:ByteArray)=⟨#[]⟩)=q:=⟨_,rfl⟩
  cases q with
  | true =>
   obtain rfl:=oneV s1
   repeat (first|refine ZdQ ?_|(refine js ?_;(refine bx ?_;intro bk)))
   exact rtB
  | false =>
   unfold oneX
   rw[if_neg (oneF s1)]
   repeat (first|refine ZdQ ?_|(refine js ?_;(refine bx ?_;intro bk)))
   exact rtB
 have k3:decide (kind=1)=false:=decide_eq_false h3
 by_cases h4:kind=2
 ·have k4:decide (kind=2)=true:=decide_eq_true h4
  rw[if_neg (by omega),if_neg h3,if_pos h4]
  have hsm:=fun w'=>Zlc off x ho hx w'
  have hul:=Zd5 (off+x)
  generalize ZaL (off+x)=u at *
  generalize ZaL off=t at *
  repeat (first|refine ZdQ ?_|(refine js ?_;(refine bx ?_;intro bk)))
  refine Zai [(1,.slice A l.length c),(2,.pointer (some ⟨bk,0,none⟩)),(6,.string ⟨t.toArray⟩),(9,.int .i64 x),(10,.bool is)] [.blk bk [.int .i64 off,.int .i64 kind,.int .i64 save,.string set,.string format,.bool tis,.int .i64 year,.int .i64 month,.int .i64 dk,.int .i64 dw,.int .i64 dd,.int .i64 us,.int .i64 ub] 75] (fun k:Nat=>[(11,.int .i64 k)]) (fun _=>[])
   (fun k=>k<=l.length/\(is=true\/((l.drop k).any fun r => !decide (r.save=0))=B)) (fun k=>l.length - k) 0 SFA SOA ⟨Nat.zero_le _,.inr hB⟩ ?_
  clear hB
  rintro k ⟨hk,hi⟩
  repeat (first|(refine js ?_;(refine bx ?_;intro bk))|refine walk ?_)
  refine Zaf rfl (fun hc=>?_) (fun hc=>?_)
  ·simp only[decide_eq_true_eq,Int.ofNat_lt]at hc
   obtain⟨hna,hca⟩:=hA.rd k _ (List.getElem?_eq_getElem hc)
   rw[Zag hc,List.any_cons]at hi
   generalize l[k]=r at *
   simp only[DRule.enc]at hca
   obtain⟨z,hz⟩:∃ z,(!decide (r.save=0))=z:=⟨_,rfl⟩
   rw[hz]at hi
   cases z with
   | false =>
    repeat (first|refine und ?_|(apply RL_pu;rfl;exact ZtX)|(refine js ?_;(refine bx ?_;intro bk))|refine walk1 ?_)
    exact⟨k+1,OA,⟨OA,by simpa using hi⟩,SFA,SOA⟩
   | true =>
    cases is with
    | true =>
     repeat (first|refine und ?_|(apply RL_pu;rfl;exact ZtX)|(refine js ?_;(refine bx ?_;intro bk))|refine walk1 ?_)
     exact⟨k+1,OA,⟨OA,.inl rfl⟩,SFA,SOA⟩
    | false =>
     obtain rfl:true=B:=by simpa using hi
     repeat (first|refine und ?_|(apply RL_pu;rfl;exact ZtX)|(refine js ?_;(refine bx ?_;intro bk))|refine walk1 ?_)
     exact rtB
  ·simp only[decide_eq_false_iff_not,Int.ofNat_lt]at hc
   rw[List.drop_eq_nil_of_le (by omega),List.any_nil]at hi
   obtain⟨q1,s1⟩:∃ q,decide ((⟨t.toArray⟩:ByteArray)=⟨#[]⟩)=q:=⟨_,rfl⟩
   obtain⟨q2,s2⟩:∃ q,decide ((⟨u.toArray⟩:ByteArray)=⟨#[]⟩)=q:=⟨_,rfl⟩
   cases is with
   | true =>
    rw[if_pos rfl]
    unfold twoX
    cases q1 with
    | true =>
     rw[if_pos (.inl (oneV s1))]
     repeat (first|refine ZdQ ?_|(refine js ?_;(refine bx ?_;intro bk)))
     exact rtB
    | false =>
     cases q2 with
     | true =>
      rw[if_pos (.inr (oneV s2))]
      repeat (first|refine ZdQ ?_|(refine js ?_;(refine bx ?_;intro bk)))
      exact rtB
     | false =>
      rw[if_neg (fun h=>h.elim (oneF s1) (oneF s2))]
      repeat (first|refine ZdQ ?_|(refine js ?_;(refine bx ?_;intro bk)))
      exact ret_2 _ _ [] (.tmp rfl) (.tmp rfl) .nil ⟨by simp[xpV],rfl⟩
   | false =>
    obtain rfl:false=B:=by simpa using hi
    rw[if_neg (by decide),if_neg (by decide)]
    unfold oneX
    cases q1 with
    | true =>
     rw[if_pos (oneV s1)]
     repeat (first|refine ZdQ ?_|(refine js ?_;(refine bx ?_;intro bk)))
     exact rtB
    | false =>
     rw[if_neg (oneF s1)]
     repeat (first|refine ZdQ ?_|(refine js ?_;(refine bx ?_;intro bk)))
     exact rtB
 ·have h0:kind=0:=by omega
  have k4:decide (kind=2)=false:=decide_eq_false h4
  rw[if_pos h0]
  generalize ZaL off=t at *
  obtain⟨q,s1⟩:∃ q,decide ((⟨t.toArray⟩:ByteArray)=⟨#[]⟩)=q:=⟨_,rfl⟩
  cases q with
  | true =>
   obtain rfl:=oneV s1
   repeat (first|refine ZdQ ?_|(refine js ?_;(refine bx ?_;intro bk)))
   exact rtB
  | false =>
   unfold oneX
   rw[if_neg (oneF s1)]
   repeat (first|refine ZdQ ?_|(refine js ?_;(refine bx ?_;intro bk)))
   exact rtB
end Go.Proofs.YtpipekfmecikmaaGreatDoor
