/- Parts of the proof. -/
import Derived.Test.YtpipekfmecikmaaGreatDoorV22
import Derived.Test.YtpipekfmecikmaaGreatDoorV09
import Derived.Test.YtpipekfmecikmaaGreatDoorV15
import Derived.Test.YtpipekfmecikmaaGreatDoorV06
import Derived.Test.YtpipekfmecikmaaGreatDoorV16
import Derived.Test.YtpipekfmecikmaaGreatDoorV21
import Derived.Test.YtpipekfmecikmaaGreatDoorV10
import Derived.Test.YtpipekfmecikmaaGreatDoorV11
import Derived.Test.YtpipekfmecikmaaGreatDoorV20
import Derived.Test.YtpipekfmecikmaaGreatDoorV05
set_option maxHeartbeats 4000000
set_option linter.unusedVariables false
set_option linter.unusedSimpArgs false
namespace Go.Wk
open Go Go.RowKit
def farI (L n y:Int):List DRule->Nat->Bool
 | [],_=>true
 | r::l,i=>match onR L r i y with
  | some e=>if e.nominal<n+259200/\n - 259200<e.nominal then false else farI L n y l (i+1)
  | none=>farI L n y l (i+1)
def farY (L n:Int)(l:List DRule)(y:Int):Nat->Bool
 | 0=>true
 | k+1=>farI L n y l 0&&farY L n l (y+1) k
def farR (l:List DRule)(n:Int):Bool:=farY (Zah l) n l (ZaC n - 1) 3
end Go.Wk
namespace Go.Proofs.YtpipekfmecikmaaGreatDoor
open Go Go.RowKit Go.Wk
attribute [local irreducible] W RL Does Zat Zaj retQ Calls Pu Stp RD Qy Ay Zak
theorem Zdi (l:List DRule):Zah l<=0:=by
 have h0:∀ (l:List DRule) (m:Int),l.foldl (fun m r=>min m r.save) m<=m:=fun l=>by
  induction l with
  | nil=>intro m;exact Int.le_refl _
  | cons r l ih=>intro m;have:=ih (min m r.save);simp only[List.foldl_cons];omega
 exact h0 l 0
theorem Zqn (A:Option Addr)(c:Nat)(l:List DRule)(w:World)(hA:RdSl w A c DRule.enc 11 l):Does Tryz.prog 133 [.slice A l.length c] w (fun v O=>v = .int .i64 (max (Zah l) (-10800))/\O=[]):=by
 have hlst:=fun w' (hw:Bel w.heap.size w w')=>ZcF A c l w' (hA.up hw)
 generalize Zah l=L at *
 rw[show max L (-10800)=if L < -10800 then -10800 else L by split <;> omega]
 refine Zaa Tryz.func133 rfl rfl rfl rfl ?_
 repeat' (first|(refine js ?_;(refine Zab hlst ?_))|refine walk ?_|(refine Zaf rfl (fun hc=>?_) (fun hc=>?_)))
 all_goals exact clo1
theorem ZAg {G:Prop}(h:G:=by(first|exact PuI|(apply Zaz;rfl;rfl;first|exact bi0|exact b1|exact b3)|(apply Zb6;rfl;rfl;exact bi1)|(apply Zaw;rfl;rfl;first|exact b2|exact b4)|(apply Zal;rfl;rfl;first|exact b5|exact b7)|(apply Zan;rfl;rfl;exact b8)|(apply Zc0;rfl;rfl;(constructor <;> omega)))):G:=h
theorem Zgu {G G':Prop}(k:G')(h:Hold G'->G:=by intro k9;(first|refine und ?_|(apply RL_pu;rfl;exact ZAg)|(refine js ?_;(first|(refine Zab (fun w' _=>hcc w') ?_)|(refine Zab (fun w' _=>ho w') ?_)|(refine Zab hbs ?_)))|refine walk1 ?_);exact k9.out):G:=h ⟨k⟩
set_option maxHeartbeats 4000000 in
theorem Zkc (A:Option Addr)(c:Nat)(l:List DRule)(i:Nat)(y:Int)(r:DRule)(w:World)(hA:RdSl w A c DRule.enc 11 l)(hi:l[i]?=some r) :
  Does Tryz.prog 89 [.slice A l.length c,.int .i64 i,.int .i64 y] w (fun v O=>v = .tuple #[evV (onR (Zah l) r i y),.bool (onR (Zah l) r i y).isSome]/\O=[]):=by
 have hlt:i<l.length:=(List.getElem?_eq_some_iff.1 hi).1
 have hbs:=fun w' (hw:Bel w.heap.size w w')=>Zqn A c l w' (hA.up hw)
 have hcc:=fun w'=>ZeE r.at_ w'
 have hcb:ZaH r.at_=true -> -604799<=r.at_.sec/\r.at_.sec<=604799:=fun hc=>by
  simp only[ZaH,Bool.and_eq_true,decide_eq_true_eq]at hc
  omega
 have ho:=fun w'=>Zka y r.month r.day w'
 have hob:=Zgz y r.month r.day
 obtain⟨hna,hca⟩:=hA.rd i _ hi
 obtain⟨res,hres⟩:∃ res,onR (Zah l) r i y=res:=⟨_,rfl⟩
 rw[hres]
 unfold onR lastY at hres
 clear hi
 have hmb : -10800<=max (Zah l) (-10800)/\max (Zah l) (-10800)<=0:=by
  have:=Zdi l
  omega
 generalize max (Zah l) (-10800)=mx at *
 generalize onD y r.month r.day=x at *
 generalize ZaH r.at_=z at *
 obtain⟨x1,x2⟩:=x
 obtain⟨nm,fr,to,mo,⟨dk,dw,dd⟩,⟨cs,cb⟩,sv,le⟩:=r
 simp only[DRule.enc]at *
 have bi0:decide ((i:Int)<0)=false:=decide_eq_false (by omega)
 have bi1:decide ((l.length:Int)<=(i:Int))=false:=decide_eq_false (by omega)
 refine Zaa Tryz.func89 rfl rfl rfl rfl ?_
 by_cases c1:y < -2000000000
 ·have b1:decide (y < -2000000000)=true:=decide_eq_true c1
  obtain rfl:none=res:=by rw[<- hres,if_pos (.inl (by omega))]
  repeat (first|refine Zgu ?_|(refine js ?_;(refine bx ?_;intro bk)))
  exact rtC
 have b1:decide (y < -2000000000)=false:=decide_eq_false c1
 by_cases c2:2000000000<y
 ·have b2:decide (2000000000<y)=true:=decide_eq_true c2
  obtain rfl:none=res:=by rw[<- hres,if_pos (.inr (.inl (by split <;> omega)))]
  repeat (first|refine Zgu ?_|(refine js ?_;(refine bx ?_;intro bk)))
  exact rtC
 have b2:decide (2000000000<y)=false:=decide_eq_false c2
 by_cases c3:y<fr
 ·have b3:decide (y<fr)=true:=decide_eq_true c3
  obtain rfl:none=res:=by rw[<- hres,if_pos (.inl (by omega))]
  repeat (first|refine Zgu ?_|(refine js ?_;(refine bx ?_;intro bk)))
  exact rtC
 have b3:decide (y<fr)=false:=decide_eq_false c3
 obtain⟨e5,b5⟩:∃ e,(!decide (to=1048576))=e:=⟨_,rfl⟩
 obtain⟨e4,b4⟩:∃ e,decide (to<y)=e:=⟨_,rfl⟩
 by_cases c4:e5=true/\e4=true
 ·obtain⟨rfl,rfl⟩:=c4
  have h5:to≠1048576:=by simpa using b5
  have h4:=of_decide_eq_true b4
  obtain rfl:none=res:=by rw[<- hres,if_pos (.inr (.inl (by rw[if_neg h5];omega)))]
  repeat (first|refine Zgu ?_|(refine js ?_;(refine bx ?_;intro bk)))
  exact rtC
 have hlast:¬ (if to=1048576 then 2000000000 else min to 2000000000)<y:=by
  by_cases h5:to=1048576
  ·rw[if_pos h5];omega
  ·rw[if_neg h5]
   have h4:¬ to<y:=fun h4=>c4 ⟨by rw[<- b5,decide_eq_false h5];rfl,by rw[<- b4,decide_eq_true h4]⟩
   omega
 cases z with
 | false =>
  obtain rfl:none=res:=by rw[<- hres,if_pos (.inr (.inr rfl))]
  cases e5 <;> cases e4 <;> first|exact absurd ⟨rfl,rfl⟩ c4|skip
  all_goals
   repeat (first|refine Zgu ?_|(refine js ?_;(refine bx ?_;intro bk)))
   exact rtC
 | true =>
  have hb:=hcb rfl
  have hno:¬ (y<max fr (-2000000000)\/(if to=1048576 then 2000000000 else min to 2000000000)<y\/true=false):=by
   rintro(h|h|h)
   ·omega
   ·exact hlast h
   ·cases h
  rw[if_neg hno]at hres
  by_cases c7:x2=0
  ·rw[if_neg (fun h=>h c7)]at hres
   have b7:(!decide (x2=0))=false:=by rw[decide_eq_true c7];rfl
   rw[Int.mul_comm]at hres
   by_cases c8:cb=1
   ·rw[if_pos c8]at hres
    subst hres
    have b8:decide (cb=1)=true:=decide_eq_true c8
    cases e5 <;> cases e4 <;> first|exact absurd ⟨rfl,rfl⟩ c4|skip
    all_goals
     repeat (first|refine Zgu ?_|(refine js ?_;(refine bx ?_;intro bk)))
     exact rtC
   ·rw[if_neg c8,Int.add_zero]at hres
    subst hres
    have b8:decide (cb=1)=false:=decide_eq_false c8
    cases e5 <;> cases e4 <;> first|exact absurd ⟨rfl,rfl⟩ c4|skip
    all_goals
     repeat (first|refine Zgu ?_|(refine js ?_;(refine bx ?_;intro bk)))
     exact rtC
  ·rw[if_pos c7]at hres
   subst hres
   have b7:(!decide (x2=0))=true:=by rw[decide_eq_false c7];rfl
   cases e5 <;> cases e4 <;> first|exact absurd ⟨rfl,rfl⟩ c4|skip
   all_goals
    repeat (first|refine Zgu ?_|(refine js ?_;(refine bx ?_;intro bk)))
    exact rtC
theorem Zxy {G:Prop}(h:G:=by(first|(apply Zc0;rfl;rfl;(constructor <;> omega))|(apply Zew;rfl;rfl;exact bz))):G:=h
theorem ZtZ {G:Prop}(h:G:=by(first|exact PuRfH3|(apply Zaz;rfl;rfl;first|exact b3|exact b2)|(apply Zaw;rfl;rfl;first|exact b4|exact b1))):G:=h
set_option maxHeartbeats 2000000 in
theorem ZrE (A:Option Addr)(c:Nat)(l:List DRule)(n:Int)(w:World)(hA:RdSl w A c DRule.enc 11 l)(hn:l.length<=1000000)(ht : -1000000000000000000<=n/\n<=1000000000000000000) :
  Does Tryz.prog 256 [.slice A l.length c,.int .i64 n] w (fun v O=>v = .bool (farR l n)/\O=[]):=by
 unfold farR
 have hL0:=Zdi l
 have hyb:=Zfm n
 have hyr:=fun w'=>Zi8 n (by omega) w'
 have hons:=fun(i:Nat) (y:Int) (r:DRule) (hi:l[i]?=some r) w' (hw:Bel w.heap.size w w')=>Zkc A c l i y r w' (hA.up hw) hi
 generalize Zah l=L at *
 generalize ZaC n=y at *
 obtain⟨R,hR⟩:∃ R,farY L n l (y - 1) 3=R:=⟨_,rfl⟩
 rw[hR]
 have b1:decide (1152921504606846976<n)=false:=decide_eq_false (by omega)
 have b2:decide (n < -1152921504606846976)=false:=decide_eq_false (by omega)
 refine Zaa Tryz.func256 rfl rfl rfl rfl ?_
 repeat (first|(apply RL_pu;rfl;(first|(apply Zaz;rfl;rfl;exact b2)|(apply Zaw;rfl;rfl;exact b1)|(apply Zc0;rfl;rfl;(constructor <;> omega))))|(refine js ?_;(first|(refine Zab (fun w' _=>hyr w') ?_)|(refine bx ?_;intro bk)))|refine walk1 ?_)
 refine Zai [(0,.slice A l.length c),(1,.int .i64 n),(5,.int .i64 y)] [] (fun k:Nat=>[(6,.int .i64 (y - 1+(k:Int)))]) (fun _=>[]) (fun k=>k<=3/\farY L n l (y - 1+(k:Int)) (3 - k)=R) (fun k=>3 - k) 0 (by simpa using SFA) SOA ⟨by omega,by simpa using hR⟩ ?_
 clear hR
 rintro k ⟨hk,hi⟩
 obtain⟨z,hz⟩:∃ z,y - 1+(k:Int)=z:=⟨_,rfl⟩
 rw[hz]at hi ⊢
 by_cases hk3:k<3
 ·have bz:decide (z<=y+1)=true:=decide_eq_true (by omega)
  rw[show 3 - k=(2 - k)+1 by omega,farY]at hi
  generalize hF:farY L n l (z+1) (2 - k)=F2 at hi
  repeat (first|(apply RL_pu;rfl;exact Zxy)|(refine js ?_;(refine bx ?_;intro bk))|refine walk1 ?_)
  refine Zai [(0,.slice A l.length c),(1,.int .i64 n),(5,.int .i64 y),(6,.int .i64 z)] [] (fun i:Nat=>[(7,.int .i64 i)]) (fun _=>[]) (fun i=>i<=l.length/\(farI L n z (l.drop i) i&&F2)=R) (fun i=>l.length - i) 0 SFA SOA ⟨Nat.zero_le _,hi⟩ ?_
  clear hi
  rintro i ⟨hil,hi⟩
  repeat (first|(refine js ?_;(refine bx ?_;intro bk))|refine walk ?_)
  refine Zaf rfl (fun hc=>?_) (fun hc=>?_)
  ·simp only[decide_eq_true_eq,Int.ofNat_lt]at hc
   have hon:=hons i z l[i] (List.getElem?_eq_getElem hc)
   rw[Zag hc,farI]at hi
   have hbd:EvOk (onR L l[i] i z):=Zr1 L hL0 l[i] i z
   generalize onR L l[i] i z=o at *
   cases o with
   | none =>
    simp only[evV,Zad.enc,dEv0,Option.isSome]at hon
    repeat (first|refine und ?_|(apply RL_pu;rfl;exact PuRfH3)|(refine js ?_;(first|(refine Zab hon ?_)|(refine bx ?_;intro bk)))|refine walk1 ?_)
    exact⟨i+1,OA,⟨OA,hi⟩,SFA,SOA⟩
   | some e =>
    have he:=hbd e rfl
    simp only[evV,Zad.enc,Option.isSome]at hon
    dsimp only at hi
    by_cases h3:e.nominal<n+259200
    ·have b3:decide (e.nominal<n+259200)=true:=decide_eq_true h3
     by_cases h4:n - 259200<e.nominal
     ·have b4:decide (n - 259200<e.nominal)=true:=decide_eq_true h4
      rw[if_pos ⟨h3,h4⟩,Bool.false_and]at hi
      subst hi
      repeat (first|refine und ?_|(apply RL_pu;rfl;exact ZtZ)|(refine js ?_;(first|(refine Zab hon ?_)|(refine bx ?_;intro bk)))|refine walk1 ?_)
      exact rtA
     ·have b4:decide (n - 259200<e.nominal)=false:=decide_eq_false h4
      rw[if_neg (fun h=>h4 h.2)]at hi
      repeat (first|refine und ?_|(apply RL_pu;rfl;exact ZtZ)|(refine js ?_;(first|(refine Zab hon ?_)|(refine bx ?_;intro bk)))|refine walk1 ?_)
      exact⟨i+1,OA,⟨OA,hi⟩,SFA,SOA⟩
    ·have b3:decide (e.nominal<n+259200)=false:=decide_eq_false h3
     rw[if_neg (fun h=>h3 h.1)]at hi
     repeat (first|refine und ?_|(apply RL_pu;rfl;exact ZtZ)|(refine js ?_;(first|(refine Zab hon ?_)|(refine bx ?_;intro bk)))|refine walk1 ?_)
     exact⟨i+1,OA,⟨OA,hi⟩,SFA,SOA⟩
  ·simp only[decide_eq_false_iff_not,Int.ofNat_lt]at hc
   rw[List.drop_eq_nil_of_le (by omega),farI,Bool.true_and]at hi
   subst hi
   repeat (first|(apply RL_pu;rfl;exact PuRfH3)|(refine js ?_;(refine bx ?_;intro bk))|refine walk1 ?_)
   exact⟨k+1,OA,⟨OA,by rw[show y - 1+((k+1:Nat):Int)=z+1 by omega,show 3 - (k+1)=2 - k by omega];exact hF⟩,by simpa[show y - 1+((k:Int)+1)=z+1 by omega] using SFA,SOA⟩
 ·obtain rfl:k=3:=by omega
  have bz:decide (z<=y+1)=false:=decide_eq_false (by omega)
  rw[show 3 - 3=0 from rfl,farY]at hi
  subst hi
  repeat (first|(apply RL_pu;rfl;exact Zxy)|(refine js ?_;(refine bx ?_;intro bk))|refine walk1 ?_)
  exact rtA
end Go.Proofs.YtpipekfmecikmaaGreatDoor
namespace Go.Proofs.YtpipekfmecikmaaGreatDoor
open Go Go.RowKit Go.Wk
def Zcn (e:Zad)(l:List Zad):Bool:=l.any fun x=>ltE x e&&decide (e.nominal - x.nominal<259200)
def Zlw (Y:Nat->List Zad)(N y:Nat)(e:Zad):Bool:=Zcn e (Y y)||(decide (0<y)&&Zcn e (Y (y - 1)))||(decide (y+1<N)&&Zcn e (Y (y+1)))
def befE (e:Zad):Option Zad->Bool
 | none=>true
 | some b=>ltE e b
def capI (p:Zad->Bool):List Zad->Option Zad->Option Zad
 | [],o=>o
 | e::l,o=>capI p l (if p e&&befE e o then some e else o)
def capJ (Y:Nat->List Zad)(N:Nat):Nat->Nat->Option Zad->Option Zad
 | 0,_,o=>o
 | k+1,y,o=>capJ Y N k (y+1) (capI (Zlw Y N y) (Y y) o)
def ZcQ (l:List DRule)(y:Nat):List Zad:=Zcx (Zah l) (1850+y) l 0
def capD (l:List DRule):Option Zad:=capJ (ZcQ l) 701 701 0 none
def Zdp (P:Zad->Prop):Option Zad->Prop
 | none=>∀ e,¬ P e
 | some e=>P e/\∀ e',P e'->ltE e' e=false
theorem Zdp.uni {P:Zad->Prop}:∀ {o o':Option Zad},Zdp P o->Zdp P o'->o=o'
 | none,none,_,_=>rfl
 | none,some e,h,h'=>absurd h'.1 (h e)
 | some e,none,h,h'=>absurd h.1 (h' e)
 | some a,some b,h,h'=>by rw[totE a b (h'.2 a h.1) (h.2 b h'.1)]
theorem Zdp.iff {P Q:Zad->Prop}(hPQ:∀ e,P e↔Q e):∀ {o:Option Zad},Zdp P o->Zdp Q o
 | none,h=>fun e he=>h e ((hPQ e).2 he)
 | some a,h=>⟨(hPQ a).1 h.1,fun e he=>h.2 e ((hPQ e).2 he)⟩
theorem Zsb {a b:Zad}(h:ltE a b=true):ltE b a=false:=by
 cases h2:ltE b a
 ·rfl
 ·have:=swoE.trans a b a h h2
  rw[swoE.irrefl]at this
  cases this
theorem ZjI (p:Zad->Bool):∀ (l:List Zad) (P:Zad->Prop) (o:Option Zad),Zdp P o->Zdp (fun e=>P e\/(e∈l/\p e=true)) (capI p l o)
 | [],P,o,h=>h.iff fun e=>by simp
 | x::l,P,o,h=>by
  rw[capI]
  have h1:Zdp (fun e=>P e\/(e=x/\p x=true)) (if p x&&befE x o then some x else o):=by
   cases hp:p x
   ·exact h.iff fun e=>by simp
   ·rw[Bool.true_and]
    cases o with
    | none=>exact⟨.inr ⟨rfl,rfl⟩,fun e he=>by
      rcases he with he|⟨rfl,_⟩
      ·exact absurd he (h e)
      ·exact swoE.irrefl _⟩
    | some b =>
     show Zdp _ (if ltE x b=true then some x else some b)
     cases hl:ltE x b
     ·exact⟨.inl h.1,fun e he=>by
       rcases he with he|⟨rfl,_⟩
       ·exact h.2 e he
       ·exact hl⟩
     ·exact⟨.inr ⟨rfl,rfl⟩,fun e he=>by
       rcases he with he|⟨rfl,_⟩
       ·exact swoE.ntrans e b x (h.2 e he) (Zsb hl)
       ·exact swoE.irrefl _⟩
  refine(ZjI p l _ _ h1).iff fun e=>?_
  constructor
  ·rintro((h|⟨rfl,h⟩)|⟨h,h'⟩)
   ·exact .inl h
   ·exact .inr ⟨List.mem_cons_self,h⟩
   ·exact .inr ⟨List.mem_cons_of_mem _ h,h'⟩
  ·rintro(h|⟨h,h'⟩)
   ·exact .inl (.inl h)
   ·rcases List.mem_cons.1 h with rfl|h
    ·exact .inl (.inr ⟨rfl,h'⟩)
    ·exact .inr ⟨h,h'⟩
theorem ZjH (Y:Nat->List Zad)(N:Nat):∀ (k y:Nat) (P:Zad->Prop) (o:Option Zad),Zdp P o->Zdp (fun e=>P e\/∃ q,y<=q/\q<y+k/\e∈Y q/\Zlw Y N q e=true) (capJ Y N k y o)
 | 0,y,P,o,h=>h.iff fun e=>⟨.inl,fun h=>by
   rcases h with h|⟨q,h1,h2,_⟩
   ·exact h
   ·omega⟩
 | k+1,y,P,o,h=>by
  rw[capJ]
  refine(ZjH Y N k (y+1) _ _ (ZjI (Zlw Y N y) (Y y) P o h)).iff fun e=>?_
  constructor
  ·rintro((h|⟨h1,h2⟩)|⟨q,h1,h2,h3⟩)
   ·exact .inl h
   ·exact .inr ⟨y,by omega,by omega,h1,h2⟩
   ·exact .inr ⟨q,by omega,by omega,h3⟩
  ·rintro(h|⟨q,h1,h2,h3⟩)
   ·exact .inl (.inl h)
   ·by_cases hq:q=y
    ·subst hq;exact .inl (.inr h3)
    ·exact .inr ⟨q,by omega,by omega,h3⟩
def Zoz (M:List Zad)(e:Zad):Prop:=∃ x∈M,ltE x e=true/\e.nominal - x.nominal<259200
theorem ZjE (e:Zad)(l:List Zad):Zcn e l=true↔Zoz l e:=by
 unfold Zcn Zoz
 simp only[List.any_eq_true,Bool.and_eq_true,decide_eq_true_eq]
theorem ZgG:∀ (M:List Zad),Zrb M->M.Nodup->Zdp (fun e=>e∈M/\Zoz M e) (ZgH M)
 | [],_,_=>fun e he=>by simp at he
 | [a],_,_=>fun e he=>by
  obtain⟨h1,x,h2,h3,_⟩:=he
  rw[List.mem_singleton]at h1 h2
  subst h1 h2
  rw[swoE.irrefl]at h3
  cases h3
 | a::b::l,hd,hn=>by
  obtain⟨d1,d2⟩:=List.pairwise_cons.1 hd
  obtain⟨n1,n2⟩:=List.nodup_cons.1 hn
  obtain⟨d3,_⟩:=List.pairwise_cons.1 d2
  have ih:=ZgG (b::l) d2 n2
  have hlt:∀ x∈b::l,ltE x a=true:=fun x hx=>by
   cases h:ltE x a
   ·have:=totE a x (d1 x hx) h
    subst this
    exact absurd hx n1
   ·rfl
  have hrest:∀ e∈b::l,Zoz (a::b::l) e↔Zoz (b::l) e:=fun e he=>by
   constructor
   ·rintro⟨x,hx,h1,h2⟩
    rcases List.mem_cons.1 hx with rfl|hx
    ·rw[d1 e he]at h1;cases h1
    ·exact⟨x,hx,h1,h2⟩
   ·rintro⟨x,hx,h1,h2⟩
    exact⟨x,List.mem_cons_of_mem _ hx,h1,h2⟩
  have ha:Zoz (a::b::l) a↔a.nominal - b.nominal<259200:=by
   constructor
   ·rintro⟨x,hx,h1,h2⟩
    rcases List.mem_cons.1 hx with rfl|hx
    ·rw[swoE.irrefl]at h1;cases h1
    ·have hxb:x.nominal<=b.nominal:=by
      rcases List.mem_cons.1 hx with rfl|hx
      ·exact Int.le_refl _
      ·have h3:=d3 x hx
       simp only[ltE,Zec,decide_eq_false_iff_not]at h3
       omega
     omega
   ·intro h
    exact⟨b,List.mem_cons_of_mem _ List.mem_cons_self,hlt b List.mem_cons_self,h⟩
  rw[ZgH]
  cases hc:ZgH (b::l) with
  | none =>
   rw[hc]at ih
   rw[Option.none_or]
   by_cases hab:a.nominal - b.nominal<259200
   ·rw[if_pos hab]
    refine⟨⟨List.mem_cons_self,ha.2 hab⟩,fun e he=>?_⟩
    rcases List.mem_cons.1 he.1 with rfl|h
    ·exact swoE.irrefl _
    ·exact absurd ⟨h,(hrest e h).1 he.2⟩ (ih e)
   ·rw[if_neg hab]
    intro e he
    rcases List.mem_cons.1 he.1 with rfl|h
    ·exact hab (ha.1 he.2)
    ·exact ih e ⟨h,(hrest e h).1 he.2⟩
  | some c =>
   rw[hc]at ih
   rw[Option.some_or]
   obtain⟨⟨c1,c2⟩,c3⟩:=ih
   refine⟨⟨List.mem_cons_of_mem _ c1,(hrest c c1).2 c2⟩,fun e he=>?_⟩
   rcases List.mem_cons.1 he.1 with rfl|h
   ·exact d1 c c1
   ·exact c3 e ⟨h,(hrest e h).1 he.2⟩
theorem Zee (L y:Int):∀ (l:List DRule) (i:Nat) (e:Zad),e∈Zcx L y l i↔∃ (j:Nat) (r:DRule),l[j]?=some r/\onR L r ((i+j:Nat):Int) y=some e
 | [],i,e=>by simp[Zcx]
 | r::l,i,e=>by
  rw[Zcx,List.mem_append,Zee L y l (i+1) e,Option.mem_toList]
  constructor
  ·rintro(h|⟨j,r',h1,h2⟩)
   ·exact⟨0,r,rfl,h⟩
   ·exact⟨j+1,r',by simpa using h1,by rw[show i+(j+1)=i+1+j by omega];exact h2⟩
  ·rintro⟨j,r',h1,h2⟩
   cases j with
   | zero=>simp only[List.getElem?_cons_zero,Option.some.injEq]at h1;subst h1;exact .inl h2
   | succ j=>exact .inr ⟨j,r',by simpa using h1,by rw[show i+1+j=i+(j+1) by omega];exact h2⟩
theorem Zkj (l:List DRule)(L f:Int):∀ (k:Nat) (e:Zad),e∈allC l L f k↔∃ q:Nat,q<k/\e∈Zcx L (f+q) l 0
 | 0,e=>by simp[allC]
 | k+1,e=>by
  rw[allC,List.mem_append,Zkj l L f k e]
  constructor
  ·rintro(⟨q,h1,h2⟩|h)
   ·exact⟨q,by omega,h2⟩
   ·exact⟨k,by omega,h⟩
  ·rintro⟨q,h1,h2⟩
   by_cases hq:q=k
   ·subst hq;exact .inr h2
   ·exact .inl ⟨q,by omega,h2⟩
theorem Zhg (L y:Int):∀ (l:List DRule) (i:Nat),(Zcx L y l i).Nodup
 | [],_=>List.nodup_nil
 | r::l,i=>by
  rw[Zcx]
  refine List.nodup_append.2 ⟨?_,Zhg L y l (i+1),?_⟩
  ·cases onR L r i y <;> simp
  ·intro a ha b hb hab
   subst hab
   obtain⟨j,r',_,h2⟩:=(Zee L y l (i+1) a).1 hb
   have e1:=(ZbO (Option.mem_toList.1 ha)).2.1
   have e2:=(ZbO h2).2.1
   omega
theorem ZjN (l:List DRule)(L f:Int):∀ k,(allC l L f k).Nodup
 | 0=>List.nodup_nil
 | k+1=>by
  rw[allC]
  refine List.nodup_append.2 ⟨ZjN l L f k,Zhg _ _ _ _,?_⟩
  intro a ha b hb hab
  subst hab
  obtain⟨q,h1,h2⟩:=(Zkj l L f k a).1 ha
  obtain⟨j,r,_,h3⟩:=(Zee _ _ _ _ _).1 h2
  obtain⟨j',r',_,h4⟩:=(Zee _ _ _ _ _).1 hb
  have e1:=(ZbO h3).1
  have e2:=(ZbO h4).1
  omega
theorem Zyw (l:List DRule)(N:Nat):capJ (ZcQ l) N N 0 none=ZgH (Zet l (Zah l) 1850 N):=by
 have hL:=Zdi l
 have h1:=ZjH (ZcQ l) N N 0 (fun _=>False) none (fun e h=>h)
 have h2:=ZgG (Zet l (Zah l) 1850 N) (Zfh _ _ _ _) ((ZdM l (Zah l) 1850 N).nodup_iff.2 (ZjN l (Zah l) 1850 N))
 refine h1.uni (h2.iff fun e=>?_)
 have hm:∀ x,x∈Zet l (Zah l) 1850 N↔∃ q:Nat,q<N/\x∈ZcQ l q:=fun x=>by
  rw[(ZdM l (Zah l) 1850 N).mem_iff,Zkj]
  rfl
 have hb:∀ (q:Nat) (x:Zad),x∈ZcQ l q->jan1 (1850+q)*86400 - 1700000<=x.nominal/\x.nominal<=jan1 (1850+q+1)*86400+1700000:=fun q x hx=>by
  obtain⟨j,r,_,h⟩:=(Zee _ _ _ _ _).1 hx
  exact ZoT hL h
 constructor
 ·rintro⟨h3,x,h4,h5,h6⟩
  obtain⟨q,g1,g2⟩:=(hm e).1 h3
  obtain⟨p,g3,g4⟩:=(hm x).1 h4
  refine .inr ⟨q,by omega,by omega,g2,?_⟩
  have b1:=hb q e g2
  have b2:=hb p x g4
  have hle:x.nominal<=e.nominal:=by
   simp only[ltE,Zec,decide_eq_true_eq]at h5
   omega
  have y1:(1850+q:Int)<=1850+p+1:=Zc8 (by omega)
  have y2:(1850+p:Int)<=1850+q+1:=Zc8 (by omega)
  have hx:∀ M,x∈M->Zcn e M=true:=fun M hM=>(ZjE e M).2 ⟨x,hM,h5,h6⟩
  have hp:p=q\/(0<q/\p=q - 1)\/(q+1<N/\p=q+1):=by omega
  unfold Zlw
  rcases hp with rfl|⟨h7,rfl⟩|⟨h7,rfl⟩
  ·rw[hx _ g4];rfl
  ·rw[hx _ g4,decide_eq_true h7];simp
  ·rw[hx _ g4,decide_eq_true h7];simp
 ·rintro(h|⟨q,_,g1,g2,g3⟩)
  ·exact h.elim
  refine⟨(hm e).2 ⟨q,by omega,g2⟩,?_⟩
  have lift:∀ p,p<N->Zcn e (ZcQ l p)=true->Zoz (Zet l (Zah l) 1850 N) e:=fun p hp hc=>by
   obtain⟨x,c1,c2,c3⟩:=(ZjE e _).1 hc
   exact⟨x,(hm x).2 ⟨p,hp,c1⟩,c2,c3⟩
  unfold Zlw at g3
  simp only[Bool.or_eq_true,Bool.and_eq_true,decide_eq_true_eq]at g3
  rcases g3 with(g3|⟨g3,g4⟩)|⟨g3,g4⟩
  ·exact lift q (by omega) g3
  ·exact lift (q - 1) (by omega) g4
  ·exact lift (q+1) (by omega) g4
theorem Zyx (l:List DRule):capD l=Zes l:=Zyw l 701
attribute [local irreducible] W RL Does Zat Zaj retQ Calls Pu Stp RD Qy Ay Zak
theorem Zv7 (y1 r1 n1 y2 r2 n2:Int):ltE ⟨y1,r1,n1⟩ ⟨y2,r2,n2⟩=if n1=n2 then (if r1=r2 then decide (y1<y2) else decide (r1<r2)) else decide (n1<n2):=by
 have h:=Zec ⟨y1,r1,n1⟩ ⟨y2,r2,n2⟩
 dsimp only at h
 unfold ltE
 split
 ·split
  ·exact decide_eq_decide.2 (h.trans ⟨fun _=>by omega,fun _=>by omega⟩)
  ·exact decide_eq_decide.2 (h.trans ⟨fun _=>by omega,fun _=>by omega⟩)
 ·exact decide_eq_decide.2 (h.trans ⟨fun _=>by omega,fun _=>by omega⟩)
theorem Zxh {G:Prop}(h:G:=by(apply Zal;rfl;rfl;first|exact c1|exact c2)):G:=h
theorem Zlo (a b:Zad)(w:World):Does Tryz.prog 249 [.agg a.enc.toArray,.agg b.enc.toArray] w (fun v O=>v = .bool (ltE a b)/\O=[]):=by
 obtain⟨y1,r1,n1⟩:=a
 obtain⟨y2,r2,n2⟩:=b
 rw[Zv7]
 simp only[Zad.enc]
 refine Zaa Tryz.func249 rfl rfl rfl rfl ?_
 by_cases h1:n1=n2
 ·have c1:(!decide (n1=n2))=false:=by rw[decide_eq_true h1];rfl
  rw[if_pos h1]
  by_cases h2:r1=r2
  ·have c2:(!decide (r1=r2))=false:=by rw[decide_eq_true h2];rfl
   rw[if_pos h2]
   repeat (first|(apply RL_pu;rfl;exact Zxh)|(refine js ?_;(refine bx ?_;intro bk))|refine walk1 ?_)
   exact rtA
  ·have c2:(!decide (r1=r2))=true:=by rw[decide_eq_false h2];rfl
   rw[if_neg h2]
   repeat (first|(apply RL_pu;rfl;exact Zxh)|(refine js ?_;(refine bx ?_;intro bk))|refine walk1 ?_)
   exact rtA
 ·have c1:(!decide (n1=n2))=true:=by rw[decide_eq_false h1];rfl
  rw[if_neg h1]
  repeat (first|(apply RL_pu;rfl;(apply Zal;rfl;rfl;exact c1))|(refine js ?_;(refine bx ?_;intro bk))|refine walk1 ?_)
  exact rtA
theorem ZpI {G:Prop}(h:G:=by(first|exact PuI|(apply Pu_loadO1;rfl;exact hca 2 _ rfl))):G:=h
theorem Zwn {G:Prop}(h:G:=by first|(apply Qy_y;rfl;exact ZpI)|exact QyA):G:=h
theorem ZwP {G:Prop}(h:G:=by repeat (first|exact QF.nil|(apply QF.mk;rfl;rfl;decide +kernel;exact Zwn))):G:=h
theorem Zmz {G:Prop}(h:G:=by(first|exact ZpI|(apply Zaz;rfl;rfl;exact b1))):G:=h
theorem Ztb {G:Prop}(h:G:=by first|(apply Qy_y;rfl;exact Zmz)|exact QyA):G:=h
theorem Zpv {G:Prop}(h:G:=by repeat (first|exact QF.nil|(apply QF.mk;rfl;rfl;decide +kernel;exact Ztb))):G:=h
set_option maxHeartbeats 1000000 in
theorem ZhE (e:Zad)(A:Option Addr)(c:Nat)(l:List Zad)(w:World)(hA:RdSl w A c Zad.enc 3 l)(hn:l.length<=1000000000)(he:ZkV e)(hl:∀ x∈l,ZkV x) :
  Does Tryz.prog 248 [.agg e.enc.toArray,.slice A l.length c] w (fun v O=>v = .bool (Zcn e l)/\O=[]):=by
 have hbs:=fun(x:Zad) w'=>Zlo x e w'
 obtain⟨res,hres⟩:∃ res,Zcn e l=res:=⟨_,rfl⟩
 rw[hres]
 unfold Zcn at hres
 unfold ZkV at he
 generalize hP:(fun x:Zad=>ltE x e&&decide (e.nominal - x.nominal<259200))=p at hres
 have hp:∀ x,p x=(ltE x e&&decide (e.nominal - x.nominal<259200)):=fun x=>by rw[<- hP]
 clear hP
 generalize hq:(fun x=>ltE x e)=q at *
 have hq':∀ x,ltE x e=q x:=fun x=>by rw[<- hq]
 simp only[hq']at hbs hp
 clear hq hq'
 obtain⟨ey,er,en⟩:=e
 simp only[Zad.enc]at hbs hp he ⊢
 refine Zaa Tryz.func248 rfl rfl rfl rfl ?_
 repeat (first|refine walk ?_|(refine jn ?_;(try intro F);(first|(refine bx ?_;intro bk)|(apply Zac;exact PuA));refine fin ?_))
 refine Zai [(1,.slice A l.length c),(2,.pointer (some ⟨bk,0,none⟩))] [.blk bk [.int .i64 ey,.int .i64 er,.int .i64 en] 91] (fun k:Nat=>[(5,.int .i64 k)]) (fun _=>[]) (fun k=>k<=l.length/\(l.drop k).any p=res) (fun k=>l.length - k) 0 SFA SOA ⟨Nat.zero_le _,hres⟩ ?_
 clear hres
 rintro k ⟨hk,hi⟩
 repeat (first|refine walk ?_|(refine jn ?_;(try intro F);(first|(refine bx ?_;intro bk)|(apply Zac;exact PuA));refine fin ?_))
 refine Zaf rfl (fun hc=>?_) (fun hc=>?_)
 ·simp only[decide_eq_true_eq,Int.ofNat_lt]at hc
  rw[Zag hc,List.any_cons,hp]at hi
  have hbf:=hbs l[k]
  obtain⟨hna,hca⟩:=hA.rd k _ (List.getElem?_eq_getElem hc)
  have hx:=hl l[k] (List.getElem_mem hc)
  generalize q l[k]=qx at *
  generalize l[k]=x at *
  obtain⟨xy,xr,xn⟩:=x
  unfold ZkV at hx
  simp only[Zad.enc]at hbf hca hx hi
  cases qx with
  | false =>
   rw[Bool.false_and,Bool.false_or]at hi
   repeat (first|refine und ?_|(apply RL_pu;rfl;exact ZpI)|(apply RD_Q;rfl;rfl;decide +kernel;rfl;rfl;exact Zwn)|refine walk1 ?_|(refine jg ?_;(try intro F);(first|(refine Zab (fun w' hw=>hbf w') ?_)|(refine bx ?_;intro bk));first|refine⟨_,EndsA,ZwP,?_⟩|refine fin ?_)|(refine jn ?_;(try intro F);(first|(refine bx ?_;intro bk)|(apply Zac;first|exact ZpI|exact PuA));first|refine⟨_,EndsA,ZwP,?_⟩|refine fin ?_))
   exact⟨k+1,OA,⟨OA,hi⟩,SFA,SOA⟩
  | true =>
   rw[Bool.true_and]at hi
   by_cases hd:en - xn<259200
   ·have b1:decide (en - xn<259200)=true:=decide_eq_true hd
    rw[b1,Bool.true_or]at hi
    subst hi
    repeat (first|(apply RL_pu;rfl;exact Zmz)|(apply RD_Q;rfl;rfl;decide +kernel;rfl;rfl;exact Ztb)|refine walk1 ?_|(refine jg ?_;(try intro F);(first|(refine Zab (fun w' hw=>hbf w') ?_)|(refine bx ?_;intro bk));first|refine⟨_,EndsA,Zpv,?_⟩|refine fin ?_)|(refine jn ?_;(try intro F);(first|(refine bx ?_;intro bk)|(apply Zac;first|exact Zmz|exact PuA));first|refine⟨_,EndsA,Zpv,?_⟩|refine fin ?_))
    exact rtA
   ·have b1:decide (en - xn<259200)=false:=decide_eq_false hd
    rw[b1,Bool.false_or]at hi
    repeat (first|(apply RL_pu;rfl;exact Zmz)|(apply RD_Q;rfl;rfl;decide +kernel;rfl;rfl;exact Ztb)|refine walk1 ?_|(refine jg ?_;(try intro F);(first|(refine Zab (fun w' hw=>hbf w') ?_)|(refine bx ?_;intro bk));first|refine⟨_,EndsA,Zpv,?_⟩|refine fin ?_)|(refine jn ?_;(try intro F);(first|(refine bx ?_;intro bk)|(apply Zac;first|exact Zmz|exact PuA));first|refine⟨_,EndsA,Zpv,?_⟩|refine fin ?_))
    exact⟨k+1,OA,⟨OA,hi⟩,SFA,SOA⟩
 ·simp only[decide_eq_false_iff_not,Int.ofNat_lt]at hc
  rw[List.drop_eq_nil_of_le (by omega),List.any_nil]at hi
  subst hi
  repeat (first|refine walk ?_|(refine jn ?_;(try intro F);(first|(refine bx ?_;intro bk)|(apply Zac;exact PuA));refine fin ?_))
  exact rtA
theorem Zxg {G:Prop}(h:G:=by(apply Zal;rfl;rfl;first|exact c1|exact c2)):G:=h
theorem Zqj (a b:Zad)(w:World):Does Tryz.prog 90 [.agg a.enc.toArray,.agg b.enc.toArray] w (fun v O=>v = .bool (ltE a b)/\O=[]):=by
 obtain⟨y1,r1,n1⟩:=a
 obtain⟨y2,r2,n2⟩:=b
 rw[Zv7]
 simp only[Zad.enc]
 refine Zaa Tryz.func90 rfl rfl rfl rfl ?_
 by_cases h1:n1=n2
 ·have c1:(!decide (n1=n2))=false:=by rw[decide_eq_true h1];rfl
  rw[if_pos h1]
  by_cases h2:r1=r2
  ·have c2:(!decide (r1=r2))=false:=by rw[decide_eq_true h2];rfl
   rw[if_pos h2]
   repeat (first|(apply RL_pu;rfl;exact Zxg)|(refine js ?_;(refine bx ?_;intro bk))|refine walk1 ?_)
   exact rtA
  ·have c2:(!decide (r1=r2))=true:=by rw[decide_eq_false h2];rfl
   rw[if_neg h2]
   repeat (first|(apply RL_pu;rfl;exact Zxg)|(refine js ?_;(refine bx ?_;intro bk))|refine walk1 ?_)
   exact rtA
 ·have c1:(!decide (n1=n2))=true:=by rw[decide_eq_false h1];rfl
  rw[if_neg h1]
  repeat (first|(apply RL_pu;rfl;(apply Zal;rfl;rfl;exact c1))|(refine js ?_;(refine bx ?_;intro bk))|refine walk1 ?_)
  exact rtA
def Zyd (r:DRule)(y:Int)(up:Bool):Int × Int:=if up then Zv6 r y else Zcs r y
theorem ZtI {G:Prop}(h:G:=by(first|(apply Zfj;rfl;rfl;first|exact m0|exact m2|exact m3)|(apply Zgp;rfl;rfl;first|exact m1|exact m4)|(apply Zal;rfl;rfl;exact b1))):G:=h
theorem Zqi (r:DRule)(y:Int)(up:Bool)(hf:r.from_<=4611686018427387904)(ht : -4611686018427387904<=r.to)(hy : -2000000000<=y/\y<=2000000000)(w:World) :
  Does Tryz.prog 87 [.agg r.enc.toArray,.int .i64 y,.bool up] w (fun v O=>v = .tuple #[.int .i64 (Zyd r y up).1,.int .i64 (Zyd r y up).2]/\O=[]):=by
 unfold Zyd Zv6 Zcs lastY
 obtain⟨nm,fr,to,mo,⟨dk,dw,dd⟩,⟨cs,cb⟩,sv,le⟩:=r
 dsimp only at hf ht ⊢
 show Does _ _ [.agg #[.string nm,.int .i64 fr,.int .i64 to,.int .i64 mo,.int .i64 dk,.int .i64 dw,.int .i64 dd,.int .i64 cs,.int .i64 cb,.int .i64 sv,.string le],.int .i64 y,.bool up] w _
 obtain⟨f0,hf0⟩:∃ f0,max fr (-2000000000)=f0:=⟨_,rfl⟩
 rw[hf0]
 have m0:(if fr < -2000000000 then -2000000000 else fr)=f0:=by split <;> omega
 obtain⟨t0,ht0⟩:∃ t0,(if to=1048576 then 2000000000 else min to 2000000000)=t0:=⟨_,rfl⟩
 rw[ht0]
 have hfb : -2000000000<=f0/\f0<=4611686018427387904:=by omega
 have htb : -4611686018427387904<=t0/\t0<=2000000000:=by rw[<- ht0];split <;> omega
 clear hf0
 obtain⟨x,hx⟩:∃ x,min t0 (y+2)=x:=⟨_,rfl⟩
 obtain⟨z,hz⟩:∃ z,max f0 (y - 2)=z:=⟨_,rfl⟩
 rw[hx,hz]
 have m2:(if f0<y - 2 then y - 2 else f0)=z:=by rw[<- hz];split <;> omega
 have m3:(if f0<x - 20 then x - 20 else f0)=max f0 (x - 20):=by split <;> omega
 have m4:(if z+20<t0 then z+20 else t0)=min t0 (z+20):=by split <;> omega
 have m5:(if y+2<t0 then y+2 else t0)=x:=by rw[<- hx];split <;> omega
 refine Zaa Tryz.func87 rfl rfl rfl rfl ?_
 by_cases hto:to=1048576
 ·have b1:(!decide (to=1048576))=false:=by rw[decide_eq_true hto];rfl
  rw[if_pos hto]at ht0
  subst ht0
  have m1:=m5
  cases up with
  | true =>
   repeat (first|(apply RL_pu;rfl;exact ZtI)|(refine js ?_;(refine bx ?_;intro bk))|refine walk1 ?_)
   exact rtB
  | false =>
   repeat (first|(apply RL_pu;rfl;exact ZtI)|(refine js ?_;(refine bx ?_;intro bk))|refine walk1 ?_)
   exact rtB
 ·have b1:(!decide (to=1048576))=true:=by rw[decide_eq_false hto];rfl
  rw[if_neg hto]at ht0
  have m1:(if 2000000000<to then 2000000000 else to)=t0:=by rw[<- ht0];split <;> omega
  clear ht0 hto
  cases up with
  | true =>
   repeat (first|(apply RL_pu;rfl;exact ZtI)|(refine js ?_;(refine bx ?_;intro bk))|refine walk1 ?_)
   exact rtB
  | false =>
   repeat (first|(apply RL_pu;rfl;(first|(apply Zfj;rfl;rfl;first|exact m0|exact m2|exact m3)|(apply Zgp;rfl;rfl;first|exact m1|exact m5)|(apply Zal;rfl;rfl;exact b1)))|(refine js ?_;(refine bx ?_;intro bk))|refine walk1 ?_)
   exact rtB
structure RnG where
 y:Int
 b:Option Zad
theorem ZgO {G:Prop}(h:G:=by(apply Zaz;rfl;rfl;exact b1)):G:=h
set_option maxHeartbeats 2000000 in
theorem Zqp (A:Option Addr)(c:Nat)(l:List DRule)(n:Int)(w:World)(hA:RdSl w A c DRule.enc 11 l)(hn:l.length<=1000000)(hR:∀ r∈l,r.from_<=4611686018427387904/\-4611686018427387904<=r.to)(ht : -4611686018427387904<=n/\n<=4611686018427387904) :
  Does Tryz.prog 46 [.slice A l.length c,.int .i64 n] w (fun v O=>v = .tuple #[evV (rbGo (Zah l) n (ZaC n) l 0 none),.bool (rbGo (Zah l) n (ZaC n) l 0 none).isSome]/\O=[]):=by
 have hyb:=Zfm n
 have hyr:=fun w'=>Zi8 n ht w'
 have hons:=fun(i:Nat) (y:Int) (r:DRule) (hi:l[i]?=some r) w' (hw:Bel w.heap.size w w')=>Zkc A c l i y r w' (hA.up hw) hi
 generalize Zah l=L at *
 generalize ZaC n=yr at *
 obtain⟨R,hRR⟩:∃ R,rbGo L n yr l 0 none=R:=⟨_,rfl⟩
 rw[hRR]
 refine Zaa Tryz.func46 rfl rfl rfl rfl ?_
 repeat (first|refine walk ?_|(refine jn ?_;(try intro F);(first|(refine bx ?_;intro bk)|(refine stA ?_)|(apply Zac;exact PuA));refine fin ?_)|(apply RD_W;rfl;intro bk))
 generalize bk=b6
 rename_i b4
 refine Zai [(0,.slice A l.length c),(1,.int .i64 n),(4,.pointer (some ⟨b4,0,none⟩)),(6,.pointer (some ⟨b6,0,none⟩))] [.blk b4 [.int .i64 0,.int .i64 0,.int .i64 0] 91]
  (fun g:BG=>[(8,.int .i64 g.k),(7,.bool g.b.isSome)]) (fun g=>[.blk b6 (evC g.b) 91]) (fun g=>g.k<=l.length/\rbGo L n yr (l.drop g.k) g.k g.b=R) (fun g=>l.length - g.k) ⟨0,none⟩ SFA SOA ⟨Nat.zero_le _,hRR⟩ ?_
 clear hRR
 rintro⟨k,b⟩ ⟨hk,hi⟩
 dsimp only at hk hi ⊢
 repeat (first|refine walk ?_|(refine jn ?_;(try intro F);(first|(refine bx ?_;intro bk)|(refine stA ?_)|(apply Zac;exact PuA));refine fin ?_)|(apply RD_W;rfl;intro bk))
 refine Zaf rfl (fun hc=>?_) (fun hc=>?_)
 ·simp only[decide_eq_true_eq,Int.ofNat_lt]at hc
  have hge:=List.getElem?_eq_getElem hc
  rw[Zag hc,rbGo]at hi
  obtain⟨hna,hca⟩:=hA.rd k _ hge
  have hrb:=hR _ (List.getElem_mem hc)
  have hon:=fun y=>hons k y _ hge
  generalize l[k]=r at *
  have hnr:=fun w'=>Zqi r yr false hrb.1 hrb.2 hyb w'
  have hnb : -2000000000<=(Zcs r yr).1/\(Zcs r yr).1<=4611686018427387904/\(Zcs r yr).2<=2000000002:=by
   unfold Zcs lastY
   dsimp only
   split <;> omega
  change ∀ w',Does _ _ _ w' (fun v O=>v = .tuple #[.int .i64 (Zcs r yr).1,.int .i64 (Zcs r yr).2]/\O=[]) at hnr
  generalize Zcs r yr=N at *
  obtain⟨lo,hi2⟩:=N
  dsimp only at hi hnr hnb
  obtain⟨B1,hB1⟩:∃ B1,rbI L n r k lo (hi2+1 - lo).toNat b=B1:=⟨_,rfl⟩
  rw[hB1]at hi
  clear hge hons hR
  have hon2:∀ y w',Bel w.heap.size w w'->Does Tryz.prog 89 [.slice A l.length c,.int .i64 k,.int .i64 y] w' (fun v O=>v = .tuple #[evV (onR L r k y),.bool (onR L r k y).isSome]/\O=[]):=hon
  clear hon
  have hst:∀ y m b,rbI L n r k y (m+1) b=rbI L n r k (y+1) m (upB n b (onR L r k y)):=fun y m b=>rfl
  generalize onR L r (k:Int)=on at *
  obtain⟨nm,fr,to,mo,⟨dk,dw,dd⟩,⟨cs,cb⟩,sv,le⟩:=r
  change Zau w _ [.string nm,.int .i64 fr,.int .i64 to,.int .i64 mo,.int .i64 dk,.int .i64 dw,.int .i64 dd,.int .i64 cs,.int .i64 cb,.int .i64 sv,.string le]at hca
  repeat (first|(apply RL_pu;rfl;exact PuI)|(apply RD_Q;rfl;rfl;decide +kernel;rfl;rfl;exact QyI)|refine walk1 ?_|(refine jg ?_;(try intro F);(first|(refine Zab (fun w' _=>hyr w') ?_)|(refine Zab (fun w' _=>hnr w') ?_)|(refine bx ?_;intro bk)|(refine stA ?_));first|refine⟨_,EndsA,QFI,?_⟩|refine fin ?_)|(refine jn ?_;(try intro F);(first|(refine bx ?_;intro bk)|(refine stA ?_)|(apply Zac;first|exact PuI|exact PuA));first|refine⟨_,EndsA,QFI,?_⟩|refine fin ?_)|(apply RD_W;rfl;intro bk))
  refine Zai [(0,.slice A l.length c),(1,.int .i64 n),(4,.pointer (some ⟨b4,0,none⟩)),(6,.pointer (some ⟨b6,0,none⟩)),(8,.int .i64 k),(10,.int .i64 hi2)] [.blk b4 [.int .i64 0,.int .i64 0,.int .i64 0] 91]
   (fun g:RnG=>[(11,.int .i64 g.y),(7,.bool g.b.isSome)]) (fun g=>[.blk b6 (evC g.b) 91]) (fun g=>lo<=g.y/\(g.y<=hi2+1\/g.y=lo)/\rbI L n _ k g.y (hi2+1 - g.y).toNat g.b=B1) (fun g=>(hi2+1 - g.y).toNat) ⟨lo,b⟩ SFA SOA ⟨Int.le_refl _,.inr rfl,hB1⟩ ?_
  clear hB1
  rintro⟨y,b⟩ ⟨hy0,hy1,hy2⟩
  dsimp only at hy0 hy1 hy2 ⊢
  repeat (first|refine walk ?_|(refine jn ?_;(try intro F);(first|(refine bx ?_;intro bk)|(refine stA ?_)|(apply Zac;exact PuA));refine fin ?_)|(apply RD_W;rfl;intro bk))
  refine Zaf rfl (fun hc2=>?_) (fun hc2=>?_)
  ·have hyh:=of_decide_eq_true hc2
   rw[show(hi2+1 - y).toNat=(hi2+1 - (y+1)).toNat+1 by omega,hst]at hy2
   have ho:=hon2 y
   generalize on y=o at *
   have hls:=fun p q w'=>Zqj p q w'
   rcases o with _|⟨xy,xr,xn⟩
   ·simp only[evV,Zad.enc,dEv0,Option.isSome]at ho
    repeat (first|refine und ?_|refine walk ?_|(refine jg ?_;(try intro F);(first|(refine Zab ho ?_)|(refine bx ?_;intro bk)|(refine stA ?_));refine fin ?_)|(refine jn ?_;(try intro F);(first|(refine bx ?_;intro bk)|(refine stA ?_)|(apply Zac;exact PuA));refine fin ?_)|(apply RD_W;rfl;intro bk))
    exact⟨⟨y+1,b⟩,OA,⟨by dsimp only;omega,.inl (by dsimp only;omega),hy2⟩,SFA,SOA⟩
   ·simp only[evV,Zad.enc,Option.isSome]at ho
    by_cases c1:xn<n
    ·have b1:decide (xn<n)=true:=decide_eq_true c1
     rw[ZvX c1]at hy2
     rcases b with _|⟨by_,br,bn⟩
     ·replace hy2:rbI L n _ k (y+1) (hi2+1 - (y+1)).toNat (some ⟨xy,xr,xn⟩)=B1:=hy2
      simp only[evC,Zad.enc,dEv0,Option.isSome]
      repeat (first|refine und ?_|(apply RL_pu;rfl;exact ZgO)|(apply RD_Q;rfl;rfl;decide +kernel;rfl;rfl;exact QyRhA4)|refine walk1 ?_|(refine jg ?_;(try intro F);(first|(refine Zab ho ?_)|(refine bx ?_;intro bk)|(refine stA ?_));first|refine⟨_,EndsA,QFRhA4,?_⟩|refine fin ?_)|(refine jn ?_;(try intro F);(first|(refine bx ?_;intro bk)|(refine stA ?_)|(apply Zac;first|exact ZgO|exact PuA));first|refine⟨_,EndsA,QFRhA4,?_⟩|refine fin ?_)|(apply RD_W;rfl;intro bk))
      exact⟨⟨y+1,some ⟨xy,xr,xn⟩⟩,OA,⟨by dsimp only;omega,.inl (by dsimp only;omega),hy2⟩,SFA,SOA⟩
     ·simp only[evC,Zad.enc,Option.isSome]
      have hlt:=fun w'=>hls ⟨by_,br,bn⟩ ⟨xy,xr,xn⟩ w'
      cases hq:ltE ⟨by_,br,bn⟩ ⟨xy,xr,xn⟩ with
      | true =>
       rw[ZsK hq]at hy2
       rw[hq]at hlt
       simp only[Zad.enc]at hlt
       repeat (first|refine und ?_|(apply RL_pu;rfl;exact ZgO)|(apply RD_Q;rfl;rfl;decide +kernel;rfl;rfl;exact QyRhA4)|refine walk1 ?_|(refine jg ?_;(try intro F);(first|(refine Zab ho ?_)|(refine Zab (fun w' _=>hlt w') ?_)|(refine bx ?_;intro bk)|(refine stA ?_));first|refine⟨_,EndsA,QFRhA4,?_⟩|refine fin ?_)|(refine jn ?_;(try intro F);(first|(refine bx ?_;intro bk)|(refine stA ?_)|(apply Zac;first|exact ZgO|exact PuA));first|refine⟨_,EndsA,QFRhA4,?_⟩|refine fin ?_)|(apply RD_W;rfl;intro bk))
       exact⟨⟨y+1,some ⟨xy,xr,xn⟩⟩,OA,⟨by dsimp only;omega,.inl (by dsimp only;omega),hy2⟩,SFA,SOA⟩
      | false =>
       rw[ZzC hq]at hy2
       rw[hq]at hlt
       simp only[Zad.enc]at hlt
       repeat (first|refine und ?_|(apply RL_pu;rfl;exact ZgO)|(apply RD_Q;rfl;rfl;decide +kernel;rfl;rfl;exact QyRhA4)|refine walk1 ?_|(refine jg ?_;(try intro F);(first|(refine Zab ho ?_)|(refine Zab (fun w' _=>hlt w') ?_)|(refine bx ?_;intro bk)|(refine stA ?_));first|refine⟨_,EndsA,QFRhA4,?_⟩|refine fin ?_)|(refine jn ?_;(try intro F);(first|(refine bx ?_;intro bk)|(refine stA ?_)|(apply Zac;first|exact ZgO|exact PuA));first|refine⟨_,EndsA,QFRhA4,?_⟩|refine fin ?_)|(apply RD_W;rfl;intro bk))
       exact⟨⟨y+1,some ⟨by_,br,bn⟩⟩,OA,⟨by dsimp only;omega,.inl (by dsimp only;omega),hy2⟩,SFA,SOA⟩
    ·have b1:decide (xn<n)=false:=decide_eq_false c1
     rw[ZvY c1]at hy2
     repeat (first|refine und ?_|(apply RL_pu;rfl;exact ZgO)|(apply RD_Q;rfl;rfl;decide +kernel;rfl;rfl;exact QyRhA4)|refine walk1 ?_|(refine jg ?_;(try intro F);(first|(refine Zab ho ?_)|(refine bx ?_;intro bk)|(refine stA ?_));first|refine⟨_,EndsA,QFRhA4,?_⟩|refine fin ?_)|(refine jn ?_;(try intro F);(first|(refine bx ?_;intro bk)|(refine stA ?_)|(apply Zac;first|exact ZgO|exact PuA));first|refine⟨_,EndsA,QFRhA4,?_⟩|refine fin ?_)|(apply RD_W;rfl;intro bk))
     exact⟨⟨y+1,b⟩,OA,⟨by dsimp only;omega,.inl (by dsimp only;omega),hy2⟩,SFA,SOA⟩
  ·have hyh:=of_decide_eq_false hc2
   rw[show(hi2+1 - y).toNat=0 by omega]at hy2
   obtain rfl:b=B1:=hy2
   repeat (first|refine walk ?_|(refine jn ?_;(try intro F);(first|(refine bx ?_;intro bk)|(refine stA ?_)|(apply Zac;exact PuA));refine fin ?_)|(apply RD_W;rfl;intro bk))
   exact⟨⟨k+1,b⟩,OA,⟨OA,hi⟩,SFA,SOA⟩
 ·simp only[decide_eq_false_iff_not,Int.ofNat_lt]at hc
  rw[List.drop_eq_nil_of_le (by omega),rbGo]at hi
  subst hi
  rcases b with _|⟨by_,br,bn⟩ <;> simp only[evV,evC,Zad.enc,dEv0,Option.isSome]
  ·repeat (first|refine walk ?_|(refine jn ?_;(try intro F);(first|(refine bx ?_;intro bk)|(refine stA ?_)|(apply Zac;exact PuA));refine fin ?_)|(apply RD_W;rfl;intro bk))
   exact rtC
  ·repeat (first|refine walk ?_|(refine jn ?_;(try intro F);(first|(refine bx ?_;intro bk)|(refine stA ?_)|(apply Zac;exact PuA));refine fin ?_)|(apply RD_W;rfl;intro bk))
   exact rtC
end Go.Proofs.YtpipekfmecikmaaGreatDoor
set_option maxHeartbeats 4000000
namespace Go.Proofs.YtpipekfmecikmaaGreatDoor
open Go Go.RowKit Go.Wk
attribute [local irreducible] W RL Does Zat Zaj retQ Calls Pu Stp RD Qy Ay Zak RLI WI
end Go.Proofs.YtpipekfmecikmaaGreatDoor
namespace Go.Proofs.YtpipekfmecikmaaGreatDoor
open Go Go.RowKit Go.Wk
attribute [local irreducible] W RL Does Zat Zaj retQ Calls Pu Stp RD Qy Ay Zak
end Go.Proofs.YtpipekfmecikmaaGreatDoor
namespace Go.Proofs.YtpipekfmecikmaaGreatDoor
open Go Go.RowKit Go.Wk
theorem ZjP {a:DSource}(h:accD a=none):ZdS a=none/\ZeT a=none/\ZcV a=none/\Za9 a.rules a.zones 0=none:=by
 unfold accD at h
 simp only[Option.or_eq_none_iff]at h
 exact⟨h.1,h.2.1,h.2.2.2.1,h.2.2.2.2⟩
theorem Zi0 (rs:List DRule):∀ l:List ByteArray,Zcr rs l=none->∀ x∈l,ZbM rs x=none
 | [],_,_,h=>by cases h
 | y::l,h,x,hx=>by
  rw[Zcr]at h
  cases hf:ZbM rs y with
  | some z=>rw[hf]at h;cases h
  | none =>
   rw[hf]at h
   rcases List.mem_cons.1 hx with rfl|hx
   ·exact hf
   ·exact Zi0 rs l h x hx
theorem Zm3 {rs:List DRule}{x:ByteArray}(h:ZbM rs x=none):Zdq (ofB rs x):=by
 unfold ZbM at h
 by_cases h1:setB x=false
 ·rw[if_pos h1]at h;cases h
 rw[if_neg h1]at h
 by_cases h2:(Zcq (ofB rs x)).2≠0
 ·rw[if_pos h2]at h;cases h
 rw[if_neg h2]at h
 cases h3:Zes (ofB rs x) with
 | some e=>rw[h3]at h;cases h
 | none=>exact Zdq.of (Decidable.not_not.1 h2) h3
theorem ZyG {a:DSource}(h:ZeT a=none){x:ByteArray}(hx:ofB a.rules x≠[]):Zdq (ofB a.rules x):=by
 obtain⟨r,hr⟩:=List.exists_mem_of_ne_nil _ hx
 obtain⟨h1,h2⟩:=List.mem_filter.1 hr
 have h3:=Zi0 a.rules _ h r.name ((ZcU a.rules []).2 r h1)
 rw[of_decide_eq_true h2]at h3
 exact Zm3 h3
theorem Zjw {rs:List DRule}{l:List DEra}{i:Nat}:∀ (f k:Nat),ZbS rs l i f k=none->∀ j,k<=j->j<k+f->ZcZ rs (l.getD j dE0) (decide (j=0))=0/\ZcI rs l j=0
 | 0,k,_,j,h1,h2=>by omega
 | f+1,k,h,j,h1,h2=>by
  rw[ZbS]at h
  by_cases c1:ZcZ rs (l.getD k dE0) (decide (k=0))≠0
  ·rw[if_pos c1]at h;cases h
  rw[if_neg c1]at h
  by_cases c2:ZcI rs l k≠0
  ·rw[if_pos c2]at h;cases h
  rw[if_neg c2]at h
  by_cases hj:j=k
  ·subst hj
   exact⟨Decidable.not_not.1 c1,Decidable.not_not.1 c2⟩
  ·exact Zjw f (k+1) h j (by omega) (by omega)
theorem Ze7 {rs:List DRule}:∀ (l:List DZone) (i:Nat),Za9 rs l i=none->∀ z∈l,z.eras≠[]/\∃ j,ZbS rs z.eras j z.eras.length 0=none
 | [],_,_,_,h=>by cases h
 | y::l,i,h,z,hz=>by
  rw[Za9]at h
  by_cases h1:y.eras=[]
  ·rw[if_pos h1]at h;cases h
  rw[if_neg h1]at h
  cases h2:ZbS rs y.eras i y.eras.length 0 with
  | some x=>rw[h2]at h;cases h
  | none =>
   rw[h2]at h
   dsimp only at h
   by_cases h3:Zem rs y=false
   ·rw[if_pos h3]at h;cases h
   rw[if_neg h3]at h
   rcases List.mem_cons.1 hz with rfl|hz
   ·exact⟨h1,i,h2⟩
   ·exact Ze7 l (i+1) h z hz
structure ZuE (rs:List DRule)(l:List DEra)(k:Nat)(e:DEra):Prop where
 at_:l[k]?=some e
 kind:0<=e.kind/\e.kind<=2
 first:k=0->e.kind≠2
 set:e.kind=2->Zdq (ofB rs e.set)
 off : -54000<=e.off/\e.off<=54000
 save:(e.kind=1/\1<=e.save/\e.save<=10800)\/(e.kind≠1/\e.save=0)
 hours:∀ x∈ZaG rs e,-54000<=e.off+x.1/\e.off+x.1<=54000
 fmt:Zek e (ZaE rs e)=0
 fin:ZcI rs l k=0
theorem ZlN {off s:Int}:Za0 off s=true↔-54000<=off+s/\off+s<=54000:=by unfold Za0;simp
theorem Zn7 {a:DSource}(h:accD a=none){z:DZone}(hz:z∈a.zones){k:Nat}{e:DEra}(he:z.eras[k]?=some e):ZuE a.rules z.eras k e:=by
 obtain⟨_,hs,_,hg⟩:=ZjP h
 obtain⟨_,j,hj⟩:=Ze7 _ _ hg z hz
 have hk:k<z.eras.length:=(List.getElem?_eq_some_iff.1 he).1
 obtain⟨h1,h2⟩:=Zjw _ _ hj k (Nat.zero_le _) (by omega)
 have hd:z.eras.getD k dE0=e:=by rw[List.getD_eq_getElem?_getD,he];rfl
 rw[hd]at h1
 unfold ZcZ at h1
 by_cases c1:e.kind<0\/2<e.kind
 ·rw[if_pos c1]at h1;omega
 rw[if_neg c1]at h1
 by_cases c2:decide (k=0)=true/\e.kind=2
 ·rw[if_pos c2]at h1;omega
 rw[if_neg c2]at h1
 by_cases c3:e.kind=2/\ZaE a.rules e=[]
 ·rw[if_pos c3]at h1;omega
 rw[if_neg c3]at h1
 by_cases c4:e.kind=1/\(e.save<1\/10800<e.save)
 ·rw[if_pos c4]at h1;omega
 rw[if_neg c4]at h1
 by_cases c5:Za0 e.off 0=false\/((ZaG a.rules e).any fun x => !Za0 e.off x.1)=true
 ·rw[if_pos c5]at h1;omega
 rw[if_neg c5]at h1
 by_cases c6:Zc2 e=true
 ·rw[if_pos c6]at h1;omega
 rw[if_neg c6]at h1
 have c7:Za0 e.off 0=true:=by
  cases hh:Za0 e.off 0 with
  | true=>rfl
  | false=>exact absurd (.inl hh) c5
 have c8:=ZlN.1 c7
 have c9:∀ x∈ZaG a.rules e,Za0 e.off x.1=true:=fun x hx=>by
  cases hh:Za0 e.off x.1 with
  | true=>rfl
  | false=>exact absurd (.inr (List.any_eq_true.2 ⟨x,hx,by rw[hh];rfl⟩)) c5
 have c10:e.kind≠1->e.save=0:=fun hk1=>by
  refine Decidable.byContradiction fun hs0=>c6 ?_
  unfold Zc2
  rw[decide_eq_false hk1,decide_eq_false hs0]
  rfl
 refine⟨he,by omega,fun hk0 hk2=>c2 ⟨decide_eq_true hk0,hk2⟩,fun hk2=>?_,by omega,?_,fun x hx=>ZlN.1 (c9 x hx),h1,h2⟩
 ·have c11:ZaE a.rules e≠[]:=fun hh=>c3 ⟨hk2,hh⟩
  unfold ZaE at c11
  rw[if_pos hk2]at c11
  exact ZyG hs c11
 ·by_cases hk1:e.kind=1
  ·exact .inl ⟨hk1,by omega,by omega⟩
  ·exact .inr ⟨hk1,c10 hk1⟩
section
variable {l:List DRule}(h:Zdq l)
include h
theorem Zdq.sv {x:Int × ByteArray}(hx:x∈l.map fun r=>(r.save,r.letter)):(-10800<=x.1/\x.1<=10800)/\x.2.size<=1000:=by
 obtain⟨r,hr,rfl⟩:=List.mem_map.1 hx
 have hR:=h.rule r hr
 refine⟨hR.save,?_⟩
 rcases hR.letter with q|q
 ·rw[q]
  show ByteArray.empty.size<=1000
  decide
 ·have:=Zf6 q
  dsimp only
  omega
theorem Zdq.small (hn:l.length<=1000000):RsSm l :=
 ⟨hn,fun r hr=>by have:=(h.rule r hr).save;omega,fun r hr=>by have:=(h.rule r hr).f1;omega,fun r hr=>by have:=(h.rule r hr).ft;have:=(h.rule r hr).f0;omega⟩
end
section
variable {rs:List DRule}{l:List DEra}{k:Nat}{e:DEra}(h:ZuE rs l k e)
include h
theorem ZuE.least : -10800<=Zah (ZaE rs e)/\Zah (ZaE rs e)<=0:=by
 unfold ZaE
 split
 ·exact Zdq.least (h.set ‹_›).rule
 ·decide
theorem ZuE.til (hk:k+1<l.length):e.til.is=true/\ZaI e.til (Zah (ZaE rs e))=0/\(0<k->∀ b,l[k - 1]?=some b->(ZaB b.til (Zah (ZaE rs b))).2=0/\259200<=(ZaB e.til (Zah (ZaE rs e))).1 - (ZaB b.til (Zah (ZaE rs b))).1):=by
 have hf:=h.fin
 have hd:l.getD k dE0=e:=by rw[List.getD_eq_getElem?_getD,h.at_];rfl
 unfold ZcI at hf
 rw[hd]at hf
 dsimp only at hf
 by_cases c1:e.til.is≠decide (k+1<l.length)
 ·rw[if_pos c1]at hf;omega
 rw[if_neg c1]at hf
 have c1':e.til.is=true:=by rw[Decidable.not_not.1 c1];exact decide_eq_true hk
 rw[if_neg (by rw[c1'];decide)]at hf
 by_cases c2:ZaI e.til (Zah (ZaE rs e))≠0
 ·rw[if_pos c2]at hf;exact absurd hf c2
 rw[if_neg c2]at hf
 refine⟨c1',Decidable.not_not.1 c2,fun h0 b hb=>?_⟩
 have hdb:l.getD (k - 1) dE0=b:=by rw[List.getD_eq_getElem?_getD,hb];rfl
 rw[hdb]at hf
 by_cases c3:0<k/\((ZaB b.til (Zah (ZaE rs b))).2≠0\/(ZaB e.til (Zah (ZaE rs e))).1 - (ZaB b.til (Zah (ZaE rs b))).1<259200)
 ·rw[if_pos c3]at hf;omega
 ·refine⟨Decidable.byContradiction fun hh=>c3 ⟨h0,.inl hh⟩,Int.not_lt.1 fun hh=>c3 ⟨h0,.inr hh⟩⟩
end
attribute [local irreducible] W RL Does Zat Zaj retQ Calls Pu Stp RD Qy Ay Zak
theorem Zdq.sz {l:List DRule}(h:Zdq l):∀ r∈l,r.from_<=4611686018427387904/\-4611686018427387904<=r.to:=fun r hr=>by
 have h1:=h.rule r hr
 have h2:=h1.f0
 have h3:=h1.f1
 have h4:=h1.ft
 omega
theorem ZrN (A:Option Addr)(c:Nat)(l:List DRule)(n:Int)(w:World)(hA:RdSl w A c DRule.enc 11 l)(hn:l.length<=1000000)(hS:Zdq l)(ht : -40000000000000000<=n/\n<=4611686018427387904) :
  Does Tryz.prog 46 [.slice A l.length c,.int .i64 n] w (fun v O=>v = .tuple #[evV (befD l n),.bool (befD l n).isSome]/\O=[]):=by
 have:=Zqp A c l n w hA hn hS.sz (by omega)
 rwa[ZuX hS.rule (Zdq.least hS.rule).2 ht.1]at this
end Go.Proofs.YtpipekfmecikmaaGreatDoor
namespace Go.Proofs.YtpipekfmecikmaaGreatDoor
open Go Go.RowKit Go.Wk
attribute [local irreducible] W RL Does Zat Zaj retQ Calls Pu Stp RD Qy Ay
end Go.Proofs.YtpipekfmecikmaaGreatDoor
