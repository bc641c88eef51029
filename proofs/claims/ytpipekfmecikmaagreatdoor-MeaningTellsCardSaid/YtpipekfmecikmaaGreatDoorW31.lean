/- Parts of the proof. -/
import Derived.Test.YtpipekfmecikmaaGreatDoorW30
set_option maxHeartbeats 4000000
set_option linter.unusedVariables false
set_option linter.unusedSimpArgs false
namespace Go.Wk
open Go Go.RowKit
def ZhK:Nat->Int
 | 0=>3600
 | 1=>60
 | 2=>1
 | _=>0
theorem ZpK {i:Nat}(h:i<3):∃ us,([3600,60,1]:List Int).drop i=ZhK i::us/\us=([3600,60,1]:List Int).drop (i+1)/\ZhK (i+1)=ZhK i / 60/\1<=ZhK i/\ZhK i<=3600:=by
 have:i=0\/i=1\/i=2:=by omega
 rcases this with rfl|rfl|rfl
 ·exact⟨_,rfl,rfl,by decide,by decide,by decide⟩
 ·exact⟨_,rfl,rfl,by decide,by decide,by decide⟩
 ·exact⟨_,rfl,rfl,by decide,by decide,by decide⟩
theorem ZzC {l:List UInt8}{i:Nat}{n:Int}(h:twoR l i=some n):0<=n/\n<=99:=by
 unfold twoR at h
 split at h
 ·rename_i c d _ _
  split at h
  ·rename_i a
   unfold digC at a
   simp only[Bool.and_eq_true,decide_eq_true_eq]at a
   simp only[Option.some.injEq]at h
   omega
  ·cases h
 ·cases h
theorem Zb3 (l:List UInt8)(s:ByteArray):(⟨l.toArray⟩:ByteArray)=s↔l=s.data.toList:=by
 constructor
 ·intro h;rw[<- h]
 ·intro h;rw[h]
def oneX (t:List UInt8):List UInt8 × Int:=if t=[] then ([],3) else (t,0)
def twoX (t u:List UInt8):List UInt8 × Int:=if t=[]\/u=[] then ([],3) else (t++47::u,0)
theorem Zho {n:Int}(h:ZcC n=false):ZaL n=[]:=Zdu (by
 unfold ZcC at h
 simp only[Bool.and_eq_false_iff,decide_eq_false_iff_not]at h
 omega)
def jN (off:Int)(s:List Int):List UInt8 × Int:=match ZdR off s with|none=>([],3)|some r=>(ZcM r,0)
theorem ZxF (a s:Int):jN a [s]=oneX (ZaL (a+s)):=by
 unfold jN oneX ZdR ZdR
 by_cases h:ZaL (a+s)=[]
 ·rw[if_pos (.inr h),if_pos h]
 ·rw[if_neg (fun e=>e.elim (fun e=>h (Zho e)) h),if_neg h]
  rfl
theorem ZA6 (a x:Int):jN a [0,x]=twoX (ZaL a) (ZaL (a+x)):=by
 unfold jN twoX ZdR ZdR ZdR
 rw[Int.add_zero]
 by_cases h:ZaL a=[]
 ·rw[if_pos (.inr h),if_pos (.inl h)]
 ·rw[if_neg (fun e=>e.elim (fun e=>h (Zho e)) h)]
  by_cases b:ZaL (a+x)=[]
  ·rw[if_pos (.inr b),if_pos (.inr b)]
  ·rw[if_neg (fun e=>e.elim (fun e=>b (Zho e)) b),if_neg (fun e=>e.elim h b)]
   rfl
theorem ZrX (e:DEra)(l:List DRule):ZdT e l=if e.kind=0 then oneX (ZaL e.off) else if e.kind=1 then oneX (ZaL (e.off+e.save)) else if e.kind=2 then (if (ZbS l).2 then twoX (ZaL e.off) (ZaL (e.off+(ZbS l).1)) else if (l.any fun r => !decide (r.save=0)) then ([],14) else oneX (ZaL e.off)) else ([],2):=by
 have a:=ZxF e.off 0
 rw[Int.add_zero]at a
 rw[<- a,<- ZxF e.off e.save,<- ZA6 e.off (ZbS l).1]
 rfl
end Go.Wk
namespace Go.Proofs.YtpipekfmecikmaaGreatDoor
open Go Go.RowKit Go.Wk
attribute [local irreducible] W RL Does Zat Zaj retQ Calls Pu Stp RD Qy Ay Zak
def parV (o:Option Int):Value := .tuple #[.int .i64 (o.getD 0),.int .i64 (if o.isSome then 0 else 5)]
theorem ZqU {G:Prop}(h:G:=by(first|(apply ZuY;rfl;rfl;exact hm;omega)|(apply Pu_quo64;rfl;rfl;omega;omega;decide)|(apply Zaw;rfl;rfl;first|exact bl|exact bn)|(apply Zay;rfl;rfl;first|exact bu|exact bs))):G:=h
theorem ZB2 {G:Prop}(h:G:=by(first|exact ZqU|(apply Za0;rfl;rfl;decide;omega;exact hgc)|(apply Zap;rfl;rfl;exact bc)|(apply Zf9;rfl;(constructor <;> omega))|(apply Zca;rfl;rfl;exact be)|(apply Zcl;rfl;rfl;exact bt))):G:=h
theorem ZpJ {G G':Prop}(k:G')(h:Hold G'->G:=by intro k9;(first|refine und ?_|(apply RL_pu;rfl;exact ZB2)|(refine js ?_;(refine Zab (fun w' _=>ht w') ?_))|refine walk1 ?_);exact k9.out):G:=h ⟨k⟩
set_option maxHeartbeats 1000000 in
theorem Zoc (s:ByteArray)(X:s.size<=1000000000000)(w:World):Does Tryz.prog 259 [.string s] w (fun v O=>v=parV (ZaT s.data.toList)/\O=[]):=by
 have Q:s.data.toList.length=s.size:=rfl
 rw[<- Zte]
 unfold Ztf
 obtain⟨R,J⟩:∃ R,Zc4 s.data.toList [3600,60,1] 0 0=R:=⟨_,rfl⟩
 rw[J]
 refine Zaa Tryz.func259 rfl rfl rfl rfl ?_
 repeat (first|refine walk ?_)
 refine Zai [(0,.string s)] [] (fun g:Nat × Int=>[(4,.int .i64 g.2),(5,.int .i64 (ZhK g.1)),(6,.int .i64 ((1+2*g.1:Nat):Int))]) (fun _=>[]) (fun g=>g.1<=3/\Zc4 s.data.toList (([3600,60,1]:List Int).drop g.1) g.1 g.2=R/\0<=g.2/\g.2<=g.1*360000) (fun g=>3 - g.1) (0,0) SFA SOA ⟨by omega,J,Int.le_refl _,by decide⟩ ?_
 clear J
 rintro⟨i,off⟩ ⟨h1,hi,h3,h4⟩
 dsimp only at h1 hi h3 h4 ⊢
 by_cases d:1+2*i<s.size/\i<3
 ·obtain⟨W,r⟩:=d
  obtain⟨us,y,L,M,V,N⟩:=ZpK r
  rw[y,Zc4,if_neg (by omega)]at hi
  have bl:decide (((1+2*i:Nat):Int)<(s.size:Int))=true:=decide_eq_true (by omega)
  have bu:decide (0<ZhK i)=true:=decide_eq_true (by omega)
  have ht:=fun w'=>Zrl s (1+2*i) (by omega) (by omega) w'
  have K:=fun n => @ZzC s.data.toList (1+2*i) n
  generalize twoR s.data.toList (1+2*i)=o at *
  cases o with
  | none =>
   dsimp only at hi
   subst hi
   simp only[optN]at ht
   have bn:decide ((-1:Int)<0)=true:=rfl
   repeat (first|(apply RL_pu;rfl;exact ZqU)|(refine js ?_;(refine Zab (fun w' _=>ht w') ?_))|refine walk1 ?_)
   exact rtB
  | some n =>
   have E:=K n rfl
   dsimp only at hi
   simp only[optN]at ht
   have bn:decide (n<0)=false:=decide_eq_false (by omega)
   obtain⟨m,hm⟩:∃ m,n*ZhK i=m:=⟨_,rfl⟩
   have U:0<=m/\m<=356400:=by
    rw[<- hm]
    refine⟨Int.mul_nonneg E.1 (by omega),?_⟩
    have:n*ZhK i<=99*3600:=Int.mul_le_mul E.2 N (by omega) (by decide)
    omega
   rw[hm,L]at hi
   generalize hun:ZhK i=u at *
   repeat (first|(apply RL_pu;rfl;exact ZqU)|(refine js ?_;(refine Zab (fun w' _=>ht w') ?_))|refine walk1 ?_)
   refine⟨(i+1,off+m),OA,⟨OA,hi,by dsimp only;omega,by dsimp only;omega⟩,?_,SOA⟩
   dsimp only
   rw[M]
   exact SFA
 ·have C:some off=R:=by
   by_cases r:i<3
   ·obtain⟨us,y,_⟩:=ZpK r
    rw[y,Zc4,if_pos (by omega)]at hi
    exact hi
   ·obtain rfl:i=3:=by omega
    exact hi
  clear hi
  subst C
  have q:(s.size:Int)<=((1+2*i:Nat):Int)\/i=3:=by omega
  obtain⟨F,bl⟩:∃ e,decide (((1+2*i:Nat):Int)<(s.size:Int))=e:=⟨_,rfl⟩
  obtain⟨I,bu⟩:∃ e,decide (0<ZhK i)=e:=⟨_,rfl⟩
  have T:¬ (F=true/\I=true):=by
   rintro⟨rfl,rfl⟩
   have:=of_decide_eq_true bl
   rcases q with q|rfl
   ·omega
   ·exact absurd (of_decide_eq_true bu) (by decide)
  have f:F=false\/(F=true/\I=false):=by cases F <;> cases I <;> simp_all
  clear T q d
  by_cases S:s.size=0
  ·have bs:decide (0<(s.size:Int))=false:=decide_eq_false (by omega)
   have D:s.data.toList=[]:=List.eq_nil_of_length_eq_zero (by omega)
   have be:decide (s=(⟨#[]⟩:ByteArray))=true:=decide_eq_true ((Zb3 [] s).2 D.symm).symm
   have j:endR s.data.toList (some off)=none:=by unfold endR;dsimp only;rw[if_pos (.inl (by rw[D];rfl))]
   rw[j]
   rcases f with rfl|⟨rfl,rfl⟩
   all_goals
    repeat (first|refine und ?_|(apply RL_pu;rfl;(first|exact ZqU|(apply Zca;rfl;rfl;exact be)))|(refine js ?_;(refine Zab (fun w' _=>ht w') ?_))|refine walk1 ?_)
    exact rtB
  have bs:decide (0<(s.size:Int))=true:=decide_eq_true (by omega)
  have t:s.data.toList≠[]:=fun e=>S (by rw[e]at Q;exact Q.symm)
  have be:decide (s=(⟨#[]⟩:ByteArray))=false:=decide_eq_false (fun e=>t ((Zb3 [] s).1 e.symm).symm)
  obtain⟨c,hgc⟩:∃ c,s.data.toList.getD ((0:Int)).toNat 0=c:=⟨_,rfl⟩
  have H:s.data.toList.head?=some c:=by
   cases q:s.data.toList with
   | nil=>exact absurd q t
   | cons x l=>rw[q]at hgc;rw[<- hgc];rfl
  have B:s.data.toList.isEmpty=false:=by
   cases q:s.data.toList with
   | nil=>exact absurd q t
   | cons x l=>rfl
  by_cases z:c=45
  ·have bc:decide ((c.toNat:Int)=45)=true:=by rw[z];rfl
   have ht:=fun w'=>ZcH (-off) w'
   by_cases hx:ZaL (-off)=s.data.toList
   ·have bt:(!decide ((⟨(ZaL (-off)).toArray⟩:ByteArray)=s))=false:=by rw[decide_eq_true ((Zb3 _ _).2 hx)];rfl
    have j:endR s.data.toList (some off)=some (-off):=by unfold endR;dsimp only;rw[H,z,if_pos rfl,if_neg (fun e=>e.elim (fun e=>by rw[B]at e;cases e) (fun e=>e hx))]
    rw[j]
    rcases f with rfl|⟨rfl,rfl⟩
    all_goals
     repeat refine ZpJ ?_
     exact rtB
   ·have bt:(!decide ((⟨(ZaL (-off)).toArray⟩:ByteArray)=s))=true:=by rw[decide_eq_false (fun e=>hx ((Zb3 _ _).1 e))];rfl
    have j:endR s.data.toList (some off)=none:=by unfold endR;dsimp only;rw[H,z,if_pos rfl,if_pos (.inr hx)]
    rw[j]
    rcases f with rfl|⟨rfl,rfl⟩
    all_goals
     repeat refine ZpJ ?_
     exact rtB
  ·have bc:decide ((c.toNat:Int)=45)=false:=decide_eq_false (fun e=>z (UInt8.toNat_inj.1 (by show c.toNat=45;omega)))
   have ht:=fun w'=>ZcH off w'
   have A:¬ (some c=some (45:UInt8)):=fun e=>z (by injection e)
   by_cases hx:ZaL off=s.data.toList
   ·have bt:(!decide ((⟨(ZaL off).toArray⟩:ByteArray)=s))=false:=by rw[decide_eq_true ((Zb3 _ _).2 hx)];rfl
    have j:endR s.data.toList (some off)=some off:=by unfold endR;dsimp only;rw[H,if_neg A,if_neg (fun e=>e.elim (fun e=>by rw[B]at e;cases e) (fun e=>e hx))]
    rw[j]
    rcases f with rfl|⟨rfl,rfl⟩
    all_goals
     repeat refine ZpJ ?_
     exact rtB
   ·have bt:(!decide ((⟨(ZaL off).toArray⟩:ByteArray)=s))=true:=by rw[decide_eq_false (fun e=>hx ((Zb3 _ _).1 e))];rfl
    have j:endR s.data.toList (some off)=none:=by unfold endR;dsimp only;rw[H,if_neg A,if_pos (.inr hx)]
    rw[j]
    rcases f with rfl|⟨rfl,rfl⟩
    all_goals
     repeat refine ZpJ ?_
     exact rtB
theorem ZB1 {G:Prop}(h:G:=by(first|(apply Zay;rfl;rfl;first|exact b1|exact b2)|(apply Zaw;rfl;rfl;first|exact b3|exact b4))):G:=h
theorem ZlP {G G':Prop}(k:G')(h:Hold G'->G:=by intro k9;(first|refine und ?_|(apply RL_pu;rfl;exact ZB1)|(refine js ?_;(refine Zab (fun w' _=>ht w') ?_))|refine walk1 ?_);exact k9.out):G:=h ⟨k⟩
theorem Zl1 (a b:Int)(g:I64 a)(i:I64 b)(w:World):Does Tryz.prog 294 [.int .i64 a,.int .i64 b] w (fun v O=>v = .string ⟨(ZaL (a+b)).toArray⟩/\O=[]):=by
 unfold I64 at g i
 have ht:=fun w'=>ZcH (a+b) w'
 refine Zaa Tryz.func294 rfl rfl rfl rfl ?_
 by_cases c:0<b
 ·have b1:decide (0<b)=true:=decide_eq_true c
  have b3:decide (b<0)=false:=decide_eq_false (by omega)
  by_cases d:86399 - b<a
  ·have b2:decide (86399 - b<a)=true:=decide_eq_true d
   rw[Zdu (.inr (by omega))]
   repeat refine ZlP ?_
   exact rtA
  ·have b2:decide (86399 - b<a)=false:=decide_eq_false d
   repeat refine ZlP ?_
   exact rtA
 ·have b1:decide (0<b)=false:=decide_eq_false c
  by_cases e:b<0
  ·have b3:decide (b<0)=true:=decide_eq_true e
   by_cases f:a < -86399 - b
   ·have b4:decide (a < -86399 - b)=true:=decide_eq_true f
    rw[Zdu (.inl (by omega))]
    repeat refine ZlP ?_
    exact rtA
   ·have b4:decide (a < -86399 - b)=false:=decide_eq_false f
    repeat refine ZlP ?_
    exact rtA
  ·have b3:decide (b<0)=false:=decide_eq_false e
   repeat refine ZlP ?_
   exact rtA
theorem oneV {t:List UInt8}(h:decide ((⟨t.toArray⟩:ByteArray)=⟨#[]⟩)=true):t=[]:=(Zb3 t ⟨#[]⟩).1 (of_decide_eq_true h)
theorem oneF {t:List UInt8}(h:decide ((⟨t.toArray⟩:ByteArray)=⟨#[]⟩)=false):t≠[]:=fun e=>of_decide_eq_false h (by rw[e])
theorem ZB0 {G:Prop}(h:G:=by(first|(apply Zaw;rfl;rfl;exact k1)|(apply Zay;rfl;rfl;exact k2)|(apply Zap;rfl;rfl;first|exact k3|exact k4)|(apply Zca;rfl;rfl;first|exact s1|exact s2)|(apply Zlz;rfl;rfl;(simp only[List.length_append,List.length_cons,List.length_nil];omega)))):G:=h
theorem Zd3 {G G':Prop}(k:G')(h:Hold G'->G:=by intro k9;(first|refine und ?_|(apply RL_pu;rfl;exact ZB0)|(refine js ?_;(first|(refine Zab (fun w' _=>ht w') ?_)|(refine Zab (fun w' _=>hsm w') ?_)|(refine Zab hot ?_)))|refine walk1 ?_);exact k9.out):G:=h ⟨k⟩
theorem Zvq {G:Prop}(h:G:=by(first|exact PuI|(apply Zan;rfl;rfl;exact hz))):G:=h
set_option maxHeartbeats 2000000 in
theorem Zs0 (e:DEra)(A:Option Addr)(c:Nat)(l:List DRule)(w:World)(M:RdSl w A c DRule.enc 11 l)(H:I64 e.off)(N:I64 e.save)(T:∀ r∈l,I64 r.save)(Z:l.length<=1000000) :
  Does Tryz.prog 283 [.agg (DEra.enc e).toArray,.slice A l.length c] w (fun v O=>v=xpV (ZdT e l)/\O=[]):=by
 rw[ZrX]
 have hx:=Zgp l 0 T ⟨by decide,by decide⟩
 rw[show Zce l 0=ZbS l from rfl]at hx
 have hot:=fun w' (W:Bel w.heap.size w w')=>ZhX A c l w' (M.up W)
 obtain⟨B,F⟩:∃ B,(l.any fun r => !decide (r.save=0))=B:=⟨_,rfl⟩
 rw[F]
 generalize ZbS l=od at *
 obtain⟨x,D⟩:=od
 obtain⟨off,d,save,set,g,⟨y,j,i,⟨I,J,dd⟩,⟨us,R⟩⟩⟩:=e
 dsimp only at H N hx hot ⊢
 have ht:=fun w'=>ZcH off w'
 have U:=Zee off
 show Does _ _ [.agg #[.int .i64 off,.int .i64 d,.int .i64 save,.string set,.string g,.bool y,.int .i64 j,.int .i64 i,.int .i64 I,.int .i64 J,.int .i64 dd,.int .i64 us,.int .i64 R],.slice A l.length c] w _
 refine Zaa Tryz.func283 rfl rfl rfl rfl ?_
 by_cases K:d<0
 ·have k1:decide (d<0)=true:=decide_eq_true K
  rw[if_neg (by omega),if_neg (by omega),if_neg (by omega)]
  repeat (first|refine Zd3 ?_|(refine js ?_;(refine bx ?_;intro f)))
  exact rtB
 have k1:decide (d<0)=false:=decide_eq_false K
 by_cases L:2<d
 ·have k2:decide (2<d)=true:=decide_eq_true L
  rw[if_neg (by omega),if_neg (by omega),if_neg (by omega)]
  repeat (first|refine Zd3 ?_|(refine js ?_;(refine bx ?_;intro f)))
  exact rtB
 have k2:decide (2<d)=false:=decide_eq_false L
 by_cases C:d=1
 ·have k3:decide (d=1)=true:=decide_eq_true C
  have k4:decide (d=2)=false:=decide_eq_false (by omega)
  have hsm:=fun w'=>Zl1 off save H N w'
  rw[if_neg (by omega),if_pos C]
  generalize ZaL (off+save)=t at *
  obtain⟨q,s1⟩:∃ q,decide ((⟨t.toArray⟩:ByteArray)=⟨#[]⟩)=q:=⟨_,rfl⟩
  cases q with
  | true =>
   obtain rfl:=oneV s1
   repeat (first|refine Zd3 ?_|(refine js ?_;(refine bx ?_;intro f)))
   exact rtB
  | false =>
   unfold oneX
   rw[if_neg (oneF s1)]
   repeat (first|refine Zd3 ?_|(refine js ?_;(refine bx ?_;intro f)))
   exact rtB
 have k3:decide (d=1)=false:=decide_eq_false C
 by_cases E:d=2
 ·have k4:decide (d=2)=true:=decide_eq_true E
  rw[if_neg (by omega),if_neg C,if_pos E]
  have hsm:=fun w'=>Zl1 off x H hx w'
  have V:=Zee (off+x)
  generalize ZaL (off+x)=u at *
  generalize ZaL off=t at *
  repeat (first|refine Zd3 ?_|(refine js ?_;(refine bx ?_;intro f)))
  refine Zai [(1,.slice A l.length c),(2,.pointer (some ⟨f,0,none⟩)),(6,.string ⟨t.toArray⟩),(9,.int .i64 x),(10,.bool D)] [.blk f [.int .i64 off,.int .i64 d,.int .i64 save,.string set,.string g,.bool y,.int .i64 j,.int .i64 i,.int .i64 I,.int .i64 J,.int .i64 dd,.int .i64 us,.int .i64 R] 75] (fun k:Nat=>[(11,.int .i64 k)]) (fun _=>[])
   (fun k=>k<=l.length/\(D=true\/((l.drop k).any fun r => !decide (r.save=0))=B)) (fun k=>l.length - k) 0 SFA SOA ⟨Nat.zero_le _,.inr F⟩ ?_
  clear F
  rintro k ⟨Y,m⟩
  repeat (first|(refine js ?_;(refine bx ?_;intro f))|refine walk ?_)
  refine Zaf rfl (fun s=>?_) (fun s=>?_)
  ·simp only[decide_eq_true_eq,Int.ofNat_lt]at s
   obtain⟨hna,hca⟩:=M.rd k _ (List.getElem?_eq_getElem s)
   rw[Zah s,List.any_cons]at m
   generalize l[k]=r at *
   simp only[DRule.enc]at hca
   obtain⟨z,hz⟩:∃ z,(!decide (r.save=0))=z:=⟨_,rfl⟩
   rw[hz]at m
   cases z with
   | false =>
    repeat (first|refine und ?_|(apply RL_pu;rfl;exact Zvq)|(refine js ?_;(refine bx ?_;intro f))|refine walk1 ?_)
    exact⟨k+1,OA,⟨OA,by simpa using m⟩,SFA,SOA⟩
   | true =>
    cases D with
    | true =>
     repeat (first|refine und ?_|(apply RL_pu;rfl;exact Zvq)|(refine js ?_;(refine bx ?_;intro f))|refine walk1 ?_)
     exact⟨k+1,OA,⟨OA,.inl rfl⟩,SFA,SOA⟩
    | false =>
     obtain rfl:true=B:=by simpa using m
     repeat (first|refine und ?_|(apply RL_pu;rfl;exact Zvq)|(refine js ?_;(refine bx ?_;intro f))|refine walk1 ?_)
     exact rtB
  ·simp only[decide_eq_false_iff_not,Int.ofNat_lt]at s
   rw[List.drop_eq_nil_of_le (by omega),List.any_nil]at m
   obtain⟨Q,s1⟩:∃ q,decide ((⟨t.toArray⟩:ByteArray)=⟨#[]⟩)=q:=⟨_,rfl⟩
   obtain⟨X,s2⟩:∃ q,decide ((⟨u.toArray⟩:ByteArray)=⟨#[]⟩)=q:=⟨_,rfl⟩
   cases D with
   | true =>
    rw[if_pos rfl]
    unfold twoX
    cases Q with
    | true =>
     rw[if_pos (.inl (oneV s1))]
     repeat (first|refine Zd3 ?_|(refine js ?_;(refine bx ?_;intro f)))
     exact rtB
    | false =>
     cases X with
     | true =>
      rw[if_pos (.inr (oneV s2))]
      repeat (first|refine Zd3 ?_|(refine js ?_;(refine bx ?_;intro f)))
      exact rtB
     | false =>
      rw[if_neg (fun h=>h.elim (oneF s1) (oneF s2))]
      repeat (first|refine Zd3 ?_|(refine js ?_;(refine bx ?_;intro f)))
      exact ret_2 _ _ [] (.tmp rfl) (.tmp rfl) .nil ⟨by simp[xpV],rfl⟩
   | false =>
    obtain rfl:false=B:=by simpa using m
    rw[if_neg (by decide),if_neg (by decide)]
    unfold oneX
    cases Q with
    | true =>
     rw[if_pos (oneV s1)]
     repeat (first|refine Zd3 ?_|(refine js ?_;(refine bx ?_;intro f)))
     exact rtB
    | false =>
     rw[if_neg (oneF s1)]
     repeat (first|refine Zd3 ?_|(refine js ?_;(refine bx ?_;intro f)))
     exact rtB
 ·have S:d=0:=by omega
  have k4:decide (d=2)=false:=decide_eq_false E
  rw[if_pos S]
  generalize ZaL off=t at *
  obtain⟨q,s1⟩:∃ q,decide ((⟨t.toArray⟩:ByteArray)=⟨#[]⟩)=q:=⟨_,rfl⟩
  cases q with
  | true =>
   obtain rfl:=oneV s1
   repeat (first|refine Zd3 ?_|(refine js ?_;(refine bx ?_;intro f)))
   exact rtB
  | false =>
   unfold oneX
   rw[if_neg (oneF s1)]
   repeat (first|refine Zd3 ?_|(refine js ?_;(refine bx ?_;intro f)))
   exact rtB
end Go.Proofs.YtpipekfmecikmaaGreatDoor
