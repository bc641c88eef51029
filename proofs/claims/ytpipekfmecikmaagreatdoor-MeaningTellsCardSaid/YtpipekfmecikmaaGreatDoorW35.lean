/- Parts of the proof. -/
import Derived.Test.YtpipekfmecikmaaGreatDoorW34
import Derived.Test.YtpipekfmecikmaaGreatDoorW30
import Derived.Test.YtpipekfmecikmaaGreatDoorW28
import Derived.Test.YtpipekfmecikmaaGreatDoorW25
import Derived.Test.YtpipekfmecikmaaGreatDoorW21
import Derived.Test.YtpipekfmecikmaaGreatDoorW29
set_option maxHeartbeats 4000000
set_option linter.unusedVariables false
set_option linter.unusedSimpArgs false
namespace Go.Proofs.YtpipekfmecikmaaGreatDoor
open Go Go.RowKit Go.Wk
attribute [local irreducible] W RL Does Zat Zaj retQ Calls Pu Stp RD Qy Ay Zak
theorem Zhj {G:Prop}(h:G:=by(first|(apply Zap;rfl;rfl;first|exact k0|exact k3|exact k5)|(apply Zan;rfl;rfl;first|exact n2|exact e0|exact x0)|(apply Zaw;rfl;rfl;exact k4)|(apply Zcl;rfl;rfl;exact f0))):G:=h
theorem ZpF {G G':Prop}(k:G')(h:Hold G'->G:=by intro k9;(first|refine und ?_|(apply RL_pu;rfl;exact Zhj)|(apply RD_Q;rfl;rfl;decide +kernel;rfl;rfl;exact QyRfY0)|refine walk1 ?_|(refine jg ?_;(try intro F);(refine Zab hex ?_);first|refine⟨_,EndsA,QFRfY0,?_⟩|refine fin ?_)|(refine jn ?_;(try intro F);(apply Zad;first|exact Zhj|exact PuA);first|refine⟨_,EndsA,QFRfY0,?_⟩|refine fin ?_));exact k9.out):G:=h ⟨k⟩
theorem ZnE {G:Prop}(h:G:=by(first|exact PuI|(apply Zap;rfl;rfl;first|exact k0|exact k3|exact k5)|(apply Zan;rfl;rfl;first|exact n2|exact e0|exact x0)|(apply Zaw;rfl;rfl;exact k4)|(apply Zcl;rfl;rfl;exact f0))):G:=h
theorem ZuD {G:Prop}(h:G:=by first|(apply Qy_y;rfl;exact ZnE)|exact QyA):G:=h
theorem ZqB {G:Prop}(h:G:=by repeat (first|exact QF.nil|(apply QF.mk;rfl;rfl;decide +kernel;exact ZuD))):G:=h
theorem ZyW {G:Prop}(h:G:=by(apply Zan;rfl;rfl;exact n2)):G:=h
theorem ZqP {G:Prop}(h:G:=by(apply Zap;rfl;rfl;first|exact k0|exact k3)):G:=h
set_option maxHeartbeats 4000000 in
theorem Zom (e:DEra)(A:Option Addr)(c:Nat)(l:List DRule)(w:World)(hA:RdSl w A c DRule.enc 11 l)(ho:I64 e.off)(hs:I64 e.save)(hr:∀ r∈l,I64 r.save)(hn:l.length<=1000000)(D:e.format.size<=1000000000)(hlt:∀ r∈l,r.letter.size<=1000000000) :
  Does Tryz.prog 254 [.agg (DEra.enc e).toArray,.slice A l.length c] w (fun v O=>v = .int .i64 (Zd6 e l)/\O=[]):=by
 have M:=fun w'=>Zgl e.format D w'
 have hbd:=Zk3 e.format.data.toList
 have hex:=fun w' (hw:Bel w.heap.size w w')=>Zs0 e A c l w' (hA.up hw) ho hs hr hn
 have q:=fun w'=>ZeO e.format ByteArray.empty 0 0 w' D (Nat.zero_le _) ⟨by decide,by decide⟩ ⟨by decide,by decide⟩
 rw[show ByteArray.empty.data.toList=[] from rfl]at q
 have E:=fun(r:DRule) (hr':r∈l) w'=>ZeO e.format r.letter 0 0 w' D (hlt r hr') ⟨by decide,by decide⟩ ⟨by decide,by decide⟩
 unfold Zd6
 dsimp only
 have I:=Zb3 (ZdT e l).1 e.format
 generalize ZdT e l=X at *
 obtain⟨xs,Y⟩:=X
 have Z:∀ F:List UInt8,Zbu F [[]]=(Zdp F 0 0 []).2:=fun F=>by
  unfold Zbu Zbu
  split
  ·rename_i h;exact h.symm
  ·rfl
 rw[show(if e.kind=2 then l.map (fun r=>r.letter.data.toList) else [[]])=(if e.kind=2 then l.map (fun r=>r.letter.data.toList) else [[]]) from rfl]
 obtain⟨off,kind,save,set,format,⟨s,m,j,⟨N,Q,dd⟩,⟨us,T⟩⟩⟩:=e
 dsimp only at M hbd q E I D ⊢
 replace hex:∀ w',Bel w.heap.size w w'->Does Tryz.prog 283 [.agg #[.int .i64 off,.int .i64 kind,.int .i64 save,.string set,.string format,.bool s,.int .i64 m,.int .i64 j,.int .i64 N,.int .i64 Q,.int .i64 dd,.int .i64 us,.int .i64 T],.slice A l.length c] w' (fun v O=>v = .tuple #[.string ⟨xs.toArray⟩,.int .i64 Y]/\O=[]):=hex
 generalize hK:ZaQ format.data.toList=K at *
 show Does _ _ [.agg #[.int .i64 off,.int .i64 kind,.int .i64 save,.string set,.string format,.bool s,.int .i64 m,.int .i64 j,.int .i64 N,.int .i64 Q,.int .i64 dd,.int .i64 us,.int .i64 T],.slice A l.length c] w _
 refine Zaa Tryz.func254 rfl rfl rfl rfl ?_
 by_cases t:K=0
 ·have k0:decide (K=0)=true:=decide_eq_true t
  rw[if_pos t]
  repeat (first|refine und ?_|(apply RL_pu;rfl;exact Zhj)|(apply RD_Q;rfl;rfl;decide +kernel;rfl;rfl;exact QyRfY0)|refine walk1 ?_|(refine jg ?_;(try intro F);(first|(refine Zab (fun w' _=>M w') ?_)|(refine bx ?_;intro f));first|refine⟨_,EndsA,QFRfY0,?_⟩|refine fin ?_)|(refine jn ?_;(try intro F);(first|(refine bx ?_;intro f)|(apply Zad;first|exact Zhj|exact PuA));first|refine⟨_,EndsA,QFRfY0,?_⟩|refine fin ?_))
  exact rtA
 have k0:decide (K=0)=false:=decide_eq_false t
 rw[if_neg t]
 by_cases u:K=3
 ·rw[if_pos u]
  clear k0
  subst u
  by_cases J:kind=2
  ·subst J
   rw[if_pos rfl]
   repeat (first|refine und ?_|refine walk ?_|(refine jg ?_;(try intro F);(first|(refine Zab (fun w' _=>M w') ?_)|(refine bx ?_;intro f));refine fin ?_)|(refine jn ?_;(try intro F);(first|(refine bx ?_;intro f)|(apply Zad;exact PuA));refine fin ?_))
   obtain⟨R,hR⟩:∃ R,Zbu format.data.toList (l.map fun r=>r.letter.data.toList)=R:=⟨_,rfl⟩
   rw[hR]
   refine Zai [(1,.slice A l.length c),(2,.pointer (some ⟨f,0,none⟩)),(5,.int .i64 3)] [.blk f [.int .i64 off,.int .i64 2,.int .i64 save,.string set,.string format,.bool s,.int .i64 m,.int .i64 j,.int .i64 N,.int .i64 Q,.int .i64 dd,.int .i64 us,.int .i64 T] 75] (fun k:Nat=>[(8,.int .i64 k)]) (fun _=>[])
    (fun k=>k<=l.length/\Zbu format.data.toList ((l.drop k).map fun r=>r.letter.data.toList)=R) (fun k=>l.length - k) 0 SFA SOA ⟨Nat.zero_le _,hR⟩ ?_
   clear hR
   rintro k ⟨hk1,H⟩
   by_cases L:k<l.length
   ·have k4:decide ((k:Int)<(l.length:Int))=true:=decide_eq_true (by omega)
    obtain⟨hna,hca⟩:=hA.rd k _ (List.getElem?_eq_getElem L)
    have z:=E l[k] (List.getElem_mem L)
    rw[Zah L,List.map_cons,Zbu]at H
    generalize l[k]=r at *
    simp only[DRule.enc]at hca
    generalize Zdp format.data.toList 0 0 r.letter.data.toList=ax at *
    obtain⟨az,U⟩:=ax
    dsimp only at H
    by_cases y:U=0
    ·have e0:(!decide (U=0))=false:=by rw[decide_eq_true y];rfl
     rw[if_pos y]at H
     repeat (first|refine und ?_|(apply RL_pu;rfl;exact ZnE)|(apply RD_Q;rfl;rfl;decide +kernel;rfl;rfl;exact ZuD)|refine walk1 ?_|(refine jg ?_;(try intro F);(first|(refine Zab (fun w' _=>z w') ?_)|(refine bx ?_;intro f));first|refine⟨_,EndsA,ZqB,?_⟩|refine fin ?_)|(refine jn ?_;(try intro F);(first|(refine bx ?_;intro f)|(apply Zad;first|exact ZnE|exact PuA));first|refine⟨_,EndsA,ZqB,?_⟩|refine fin ?_))
     exact⟨k+1,OA,⟨OA,H⟩,SFA,SOA⟩
    ·have e0:(!decide (U=0))=true:=by rw[decide_eq_false y];rfl
     rw[if_neg y]at H
     subst H
     repeat (first|refine und ?_|(apply RL_pu;rfl;exact ZnE)|(apply RD_Q;rfl;rfl;decide +kernel;rfl;rfl;exact ZuD)|refine walk1 ?_|(refine jg ?_;(try intro F);(first|(refine Zab (fun w' _=>z w') ?_)|(refine bx ?_;intro f));first|refine⟨_,EndsA,ZqB,?_⟩|refine fin ?_)|(refine jn ?_;(try intro F);(first|(refine bx ?_;intro f)|(apply Zad;first|exact ZnE|exact PuA));first|refine⟨_,EndsA,ZqB,?_⟩|refine fin ?_))
     exact rtA
   ·have k4:decide ((k:Int)<(l.length:Int))=false:=decide_eq_false (by omega)
    rw[List.drop_eq_nil_of_le (by omega),List.map_nil,Zbu]at H
    subst H
    repeat (first|refine und ?_|(apply RL_pu;rfl;exact Zhj)|(apply RD_Q;rfl;rfl;decide +kernel;rfl;rfl;exact QyRfY0)|refine walk1 ?_|(refine jn ?_;(try intro F);(first|(refine bx ?_;intro f)|(apply Zad;first|exact Zhj|exact PuA));first|refine⟨_,EndsA,QFRfY0,?_⟩|refine fin ?_))
    exact rtA
  ·have n2:(!decide (kind=2))=true:=by rw[decide_eq_false J];rfl
   rw[if_neg J,Z]
   have z:=q
   generalize Zdp format.data.toList 0 0 []=ax at *
   obtain⟨az,U⟩:=ax
   repeat (first|refine und ?_|(apply RL_pu;rfl;exact ZyW)|(apply RD_Q;rfl;rfl;decide +kernel;rfl;rfl;exact QyRfY2)|refine walk1 ?_|(refine jg ?_;(try intro F);(first|(refine Zab (fun w' _=>M w') ?_)|(refine Zab (fun w' _=>z w') ?_)|(refine bx ?_;intro f));first|refine⟨_,EndsA,QFRfY2,?_⟩|refine fin ?_)|(refine jn ?_;(try intro F);(first|(refine bx ?_;intro f)|(apply Zad;first|exact ZyW|exact PuA));first|refine⟨_,EndsA,QFRfY2,?_⟩|refine fin ?_))
   exact rtA
 have k3:decide (K=3)=false:=decide_eq_false u
 rw[if_neg u]
 by_cases S:K=4\/K=5
 ·rw[if_pos S]
  have k4:decide (K<4)=false:=decide_eq_false (by omega)
  repeat (first|refine und ?_|(apply RL_pu;rfl;exact ZqP)|(apply RD_Q;rfl;rfl;decide +kernel;rfl;rfl;exact QyRfY3)|refine walk1 ?_|(refine jg ?_;(try intro F);(first|(refine Zab (fun w' _=>M w') ?_)|(refine bx ?_;intro f));first|refine⟨_,EndsA,QFRfY3,?_⟩|refine fin ?_)|(refine jn ?_;(try intro F);(first|(refine bx ?_;intro f)|(apply Zad;first|exact ZqP|exact PuA));first|refine⟨_,EndsA,QFRfY3,?_⟩|refine fin ?_))
  refine Zai [(1,.slice A l.length c),(2,.pointer (some ⟨f,0,none⟩)),(5,.int .i64 K)] [.blk f [.int .i64 off,.int .i64 kind,.int .i64 save,.string set,.string format,.bool s,.int .i64 m,.int .i64 j,.int .i64 N,.int .i64 Q,.int .i64 dd,.int .i64 us,.int .i64 T] 75] (fun k:Nat=>[(8,.int .i64 k)]) (fun _=>[])
   (fun k=>k=0) (fun k=>k) 0 SFA SOA rfl ?_
  rintro k rfl
  by_cases hx:Y=0
  ·have x0:(!decide (Y=0))=false:=by rw[decide_eq_true hx];rfl
   by_cases x:K=5
   ·have k5:decide (K=5)=true:=decide_eq_true x
    by_cases W:xs=format.data.toList
    ·have f0:(!decide ((⟨xs.toArray⟩:ByteArray)=format))=false:=by rw[decide_eq_true (I.2 W)];rfl
     rw[if_neg (by rintro(h|h);exact h hx;exact h.2 W)]
     repeat (first|refine ZpF ?_|(refine jg ?_;(try intro F);(refine bx ?_;intro f);first|refine⟨_,EndsA,QFRfY0,?_⟩|refine fin ?_)|(refine jn ?_;(try intro F);(refine bx ?_;intro f);first|refine⟨_,EndsA,QFRfY0,?_⟩|refine fin ?_))
     exact rtA
    ·have f0:(!decide ((⟨xs.toArray⟩:ByteArray)=format))=true:=by rw[decide_eq_false (fun h=>W (I.1 h))];rfl
     rw[if_pos (.inr ⟨x,W⟩)]
     repeat (first|refine ZpF ?_|(refine jg ?_;(try intro F);(refine bx ?_;intro f);first|refine⟨_,EndsA,QFRfY0,?_⟩|refine fin ?_)|(refine jn ?_;(try intro F);(refine bx ?_;intro f);first|refine⟨_,EndsA,QFRfY0,?_⟩|refine fin ?_))
     exact rtA
   ·have k5:decide (K=5)=false:=decide_eq_false x
    rw[if_neg (by rintro(h|h);exact h hx;exact x h.1)]
    repeat (first|refine ZpF ?_|(refine jg ?_;(try intro F);(refine bx ?_;intro f);first|refine⟨_,EndsA,QFRfY0,?_⟩|refine fin ?_)|(refine jn ?_;(try intro F);(refine bx ?_;intro f);first|refine⟨_,EndsA,QFRfY0,?_⟩|refine fin ?_))
    exact rtA
  ·have x0:(!decide (Y=0))=true:=by rw[decide_eq_false hx];rfl
   rw[if_pos (.inl hx)]
   repeat (first|refine ZpF ?_|(refine jg ?_;(try intro F);(refine bx ?_;intro f);first|refine⟨_,EndsA,QFRfY0,?_⟩|refine fin ?_)|(refine jn ?_;(try intro F);(refine bx ?_;intro f);first|refine⟨_,EndsA,QFRfY0,?_⟩|refine fin ?_))
   exact rtA
 ·rw[if_neg S]
  have k4:decide (K<4)=true:=decide_eq_true (by omega)
  repeat (first|refine und ?_|(apply RL_pu;rfl;exact ZqP)|(apply RD_Q;rfl;rfl;decide +kernel;rfl;rfl;exact QyRfY3)|refine walk1 ?_|(refine jg ?_;(try intro F);(first|(refine Zab (fun w' _=>M w') ?_)|(refine bx ?_;intro f));first|refine⟨_,EndsA,QFRfY3,?_⟩|refine fin ?_)|(refine jn ?_;(try intro F);(first|(refine bx ?_;intro f)|(apply Zad;first|exact ZqP|exact PuA));first|refine⟨_,EndsA,QFRfY3,?_⟩|refine fin ?_))
  refine Zai [(1,.slice A l.length c),(2,.pointer (some ⟨f,0,none⟩)),(5,.int .i64 K)] [.blk f [.int .i64 off,.int .i64 kind,.int .i64 save,.string set,.string format,.bool s,.int .i64 m,.int .i64 j,.int .i64 N,.int .i64 Q,.int .i64 dd,.int .i64 us,.int .i64 T] 75] (fun k:Nat=>[(8,.int .i64 k)]) (fun _=>[])
   (fun k=>k=0) (fun k=>k) 0 SFA SOA rfl ?_
  rintro k rfl
  repeat (first|refine und ?_|(apply RL_pu;rfl;exact Zhj)|(apply RD_Q;rfl;rfl;decide +kernel;rfl;rfl;exact QyRfY0)|refine walk1 ?_|(refine jn ?_;(try intro F);(first|(refine bx ?_;intro f)|(apply Zad;first|exact Zhj|exact PuA));first|refine⟨_,EndsA,QFRfY0,?_⟩|refine fin ?_))
  exact rtA
theorem ZhY (Ar Az Al As:Option Addr)(q r p cs:Nat)(a:DSource)(e:DEra)(w:World)(D:Zal w Ar Az Al As q r p cs a)(H:a.rules.length<=1000000) :
  Does Tryz.prog 255 [srcV Ar Az Al As q r p cs a,.agg e.enc.toArray] w (fun v O=>v = .int .i64 (Zao e.til (Zag (ZaA a.rules e))).1/\O=[]):=by
 have c:=fun w' (m:Bel w.heap.size w w')=>ZdO Ar Az Al As q r p cs a e w' (D.up m) H
 have s:=fun A3 f w' h=>Zcd A3 f (ZaA a.rules e) w' h
 have b:=fun w'=>Zh5 e.til (Zag (ZaA a.rules e)) w'
 generalize ZaA a.rules e=R at *
 generalize Zag R=L at *
 generalize Zao e.til L=nm at *
 obtain⟨n,ne⟩:=nm
 obtain⟨I,u,x,set,j,⟨M,y,t,⟨J,K,dd⟩,⟨us,N⟩⟩⟩:=e
 dsimp only at c b ⊢
 simp only[DEra.enc]at c ⊢
 simp only[DUntil.enc]at b
 refine Zaa Tryz.func255 rfl rfl rfl rfl ?_
 repeat (first|refine walk ?_|(refine jg ?_;(try intro F);(first|(apply Zae (h:=fun w' m _=>c w' m);rfl;rintro v O' ⟨A3,f,rfl,rfl⟩)|(refine ZaH (fun w' m E=>s A3 f w' (ZaP DRule.len (E.of (A := .row (.slice A3 R.length f) 68 11 R.length (R.flatMap DRule.enc)) (by repeat' constructor)))) ?_)|(refine Zab (fun w' _=>b w') ?_)|(refine bx ?_;intro z));refine fin ?_)|(refine jn ?_;(try intro F);(first|(refine bx ?_;intro z)|(apply Zad;exact PuA));refine fin ?_))
 exact rtA
def FarS:Prop:=∀ (l:List DRule) (n:Int),(-1000000000000<=n/\n<=1000000000000)->farD l n=farR l n
theorem ZjX (u:DUntil)(least:Int) : -1000000000000<=(Zao u least).1/\(Zao u least).1<=1000000000000:=by
 unfold Zao
 split
 ·exact⟨by dsimp only;omega,by dsimp only;omega⟩
 ·rename_i h
  have a:ZaD u least=0:=Decidable.not_not.1 h
  have e:=a
  unfold ZaD at a
  dsimp only at a ⊢
  have f : -500000<=(onD u.year u.month u.day).1/\(onD u.year u.month u.day).1<=500000\/¬ (1850<=u.year/\u.year<=2149):=by
   by_cases d:1850<=u.year/\u.year<=2149
   ·left
    unfold onD
    split
    ·exact⟨by decide,by decide⟩
    ·rename_i c
     split
     ·exact⟨by decide,by decide⟩
     ·rename_i b
      split
      ·exact⟨by decide,by decide⟩
      ·simp only[Bool.not_eq_false]at c b
       have j:=Zeu u.year u.month
       have g:=ZeB b
       have i : -100000<=Za5 u.year u.month 1/\Za5 u.year u.month 1<=200000:=by
        unfold Za5 Zb2
        split
        ·have:=ZbT (u.month+12 - 3).toNat;omega
        ·have:=ZbT (u.month - 3).toNat;omega
       unfold Ze9 Zbt ZaX
       dsimp only
       repeat' split
       all_goals omega
   ·right;exact d
  repeat' split at a
  all_goals first|(exfalso;omega)|(split <;> omega)
end Go.Proofs.YtpipekfmecikmaaGreatDoor
namespace Go.Proofs.YtpipekfmecikmaaGreatDoor
open Go Go.RowKit Go.Wk
def ZsJ (s:DSource)(x:ByteArray):Option ByteArray :=
 match ZaK x s.zones 0 with
 | some _=>none
 | none=>match ZaN x s.links 0 with
  | none=>none
  | some i=>some ((s.links[i]?).map (·.target) |>.getD ByteArray.empty)
def Zd8 (s:DSource):Nat->ByteArray->Option ByteArray
 | 0,x=>some x
 | n+1,x=>(ZsJ s x).bind (Zd8 s n)
theorem ZfQ (s:DSource)(b:Nat):∀ (a:Nat) (x:ByteArray),Zd8 s (a+b) x=(Zd8 s a x).bind (Zd8 s b)
 | 0,x=>by rw[Nat.zero_add];rfl
 | a+1,x=>by
  rw[show a+1+b=(a+b)+1 by omega,Zd8,Zd8,Option.bind_assoc]
  congr 1
  funext y
  exact ZfQ s b a y
theorem ZrR {s:DSource}{x:ByteArray}{j:Nat}(h:Zd8 s (j+1) x=some x)(n:Nat):Zd8 s n x≠none:=by
 have c:∀ k,Zd8 s ((j+1)*k) x=some x:=fun k=>by
  induction k with
  | zero=>rfl
  | succ k ih=>rw[Nat.mul_succ,ZfQ,ih];exact h
 intro d
 have a:=c n
 have b:(j+1)*n=n+j*n:=by rw[Nat.add_mul];omega
 rw[b,ZfQ,d]at a
 cases a
theorem Zj7 (s:DSource):∀ (f:Nat) (x:ByteArray),(Zez s f x).2=11↔Zd8 s f x≠none
 | 0,x=>⟨fun _ h=>(by cases h),fun _=>rfl⟩
 | f+1,x=>by
  rw[Zez,Zd8,ZsJ]
  cases ZaK x s.zones 0 with
  | some i=>exact⟨fun h=>(by cases h),fun h=>absurd rfl h⟩
  | none =>
   cases ZaN x s.links 0 with
   | none=>exact⟨fun h=>(by cases h),fun h=>absurd rfl h⟩
   | some i=>exact Zj7 s f _
theorem Zmo {α:Type}[DecidableEq α]:∀ (a b:List α),a.Nodup->(∀ x∈a,x∈b)->a.length<=b.length
 | [],_,_,_=>Nat.zero_le _
 | x::a,b,hn,hs=>by
  have c:=hs x List.mem_cons_self
  rw[List.nodup_cons]at hn
  have f:=Zmo a (b.erase x) hn.2 fun y d=>(List.mem_erase_of_ne (fun e=>hn.1 (by rw[<- e];exact d))).2 (hs y (List.mem_cons_of_mem _ d))
  rw[List.length_erase_of_mem c]at f
  have:0<b.length:=List.length_pos_of_mem c
  simp only[List.length_cons]
  omega
theorem Zk0 (x:ByteArray):∀ l:List ByteArray,memB x l=true↔x∈l
 | []=>⟨fun h=>(by cases h),fun h=>(by cases h)⟩
 | y::l=>by
  rw[Zie,Bool.or_eq_true,decide_eq_true_eq,Zk0 x l,List.mem_cons]
  exact⟨fun h=>h.elim (fun h => .inl h.symm) .inr,fun h=>h.elim (fun h => .inl h.symm) .inr⟩
theorem Ziz {x:ByteArray}:∀ (l:List DLink) (k i:Nat),ZaN x l k=some i->∃ z∈l,z.name=x
 | [],_,_,h=>by cases h
 | y::l,k,i,h=>by
  rw[ZaN]at h
  by_cases a:y.name=x
  ·exact⟨y,List.mem_cons_self,a⟩
  ·rw[if_neg a]at h
   obtain⟨z,b,e⟩:=Ziz l (k+1) i h
   exact⟨z,List.mem_cons_of_mem _ b,e⟩
theorem Zg6 (s:DSource):∀ (f:Nat) (a:List ByteArray) (x:ByteArray),f+a.length=s.links.length+1->a.Nodup->(∀ y∈a,y∈s.links.map (·.name))->(∀ y∈a,∃ j,Zd8 s (j+1) y=some x) ->
  (ZaJ s f a x).2=11->∀ n,Zd8 s n x≠none
 | 0,a,x,hf,hn,hm,_,_=>by
  have:=Zmo _ _ hn hm
  rw[List.length_map]at this
  omega
 | f+1,a,x,hf,hn,hm,d,h=>by
  rw[ZaJ]at h
  cases g:ZaK x s.zones 0 with
  | some i=>rw[g]at h;cases h
  | none =>
   rw[g]at h
   dsimp only at h
   cases hl:ZaN x s.links 0 with
   | none=>rw[hl]at h;cases h
   | some i =>
    rw[hl]at h
    dsimp only at h
    by_cases k:memB x a=true
    ·obtain⟨j,d⟩:=d x ((Zk0 x a).1 k)
     exact ZrR d
    ·rw[if_neg k]at h
     have l:x ∉ a:=fun e=>k ((Zk0 x a).2 e)
     have b:ZsJ s x=some ((s.links[i]?).map (·.target) |>.getD ByteArray.empty):=by unfold ZsJ;rw[g,hl]
     have m:=Zg6 s f (x::a) _ (by simp only[List.length_cons];omega) (List.nodup_cons.2 ⟨l,hn⟩) (fun y c=>by
      rcases List.mem_cons.1 c with rfl|c
      ·obtain⟨z,g,e⟩:=Ziz _ _ _ hl
       exact List.mem_map.2 ⟨z,g,e⟩
      ·exact hm y c) (fun y c=>by
      rcases List.mem_cons.1 c with rfl|c
      ·exact⟨0,by rw[Zd8,b];rfl⟩
      ·obtain⟨j,d⟩:=d y c
       exact⟨j+1,by rw[show j+1+1=(j+1)+1 from rfl,ZfQ,d,Option.bind_some,Zd8,b];rfl⟩) h
     intro n
     cases n with
     | zero=>exact fun e=>by cases e
     | succ n=>rw[Zd8,b];exact m n
theorem Ziu (s:DSource):∀ (f:Nat) (a:List ByteArray) (x:ByteArray),(ZaJ s f a x).2≠11->Zd8 s f x=none
 | 0,_,_,h=>absurd rfl h
 | f+1,a,x,h=>by
  rw[ZaJ]at h
  rw[Zd8,ZsJ]
  cases hz:ZaK x s.zones 0 with
  | some i=>rfl
  | none =>
   rw[hz]at h
   dsimp only at h ⊢
   cases hl:ZaN x s.links 0 with
   | none=>rfl
   | some i =>
    rw[hl]at h
    dsimp only at h ⊢
    by_cases b:memB x a=true
    ·rw[if_pos b]at h;exact absurd rfl h
    ·rw[if_neg b]at h
     exact Ziu s f _ _ h
theorem Zit (s:DSource)(x:ByteArray):(ZaJ s (s.links.length+1) [] x).2=11↔(Zez s (s.links.length+1) x).2=11:=by
 rw[Zj7]
 constructor
 ·intro h
  exact Zg6 s _ [] x (by simp) List.nodup_nil (fun _ h=>by cases h) (fun _ h=>by cases h) h _
 ·intro h
  exact Decidable.of_not_not fun a=>h (Ziu s _ [] x a)
attribute [local irreducible] W RL Does Zat Zaj retQ Calls Pu Stp RD Qy Ay Zak
theorem ZhE {G G':Prop}(k:G')(h:Hold G'->G:=by intro k9;(first|refine walk ?_|(refine jn ?_;(try intro F);(first|(refine stA ?_)|(apply Zad;exact PuA));refine fin ?_));exact k9.out):G:=h ⟨k⟩
theorem ZkD {G:Prop}(h:G:=by(first|exact PuI|(apply Zaw;rfl;rfl;exact b1))):G:=h
theorem ZuI {G:Prop}(h:G:=by first|(apply Qy_y;rfl;exact ZkD)|exact QyA):G:=h
theorem ZqF {G:Prop}(h:G:=by repeat (first|exact QF.nil|(apply QF.mk;rfl;rfl;decide +kernel;exact ZuI))):G:=h
theorem Zvr {G:Prop}(h:G:=by(first|exact PuI|(apply ZbG;rfl;rfl;exact bz))):G:=h
theorem Zyc {G:Prop}(h:G:=by first|(apply Qy_y;rfl;exact Zvr)|exact QyA):G:=h
theorem Zyu {G:Prop}(h:G:=by repeat (first|exact QF.nil|(apply QF.mk;rfl;rfl;decide +kernel;exact Zyc))):G:=h
theorem Zjk {G:Prop}(h:G:=by(first|exact ZkD|(apply ZbG;rfl;rfl;exact bz))):G:=h
theorem Zqu {G:Prop}(h:G:=by first|(apply Qy_y;rfl;exact Zjk)|exact QyA):G:=h
theorem ZkA {G:Prop}(h:G:=by repeat (first|exact QF.nil|(apply QF.mk;rfl;rfl;decide +kernel;exact Zqu))):G:=h
theorem ZnN {G:Prop}(h:G:=by(first|exact PuI|(apply Zap;rfl;rfl;exact b1))):G:=h
theorem ZuH {G:Prop}(h:G:=by first|(apply Qy_y;rfl;exact ZnN)|exact QyA):G:=h
theorem ZqE {G:Prop}(h:G:=by repeat (first|exact QF.nil|(apply QF.mk;rfl;rfl;decide +kernel;exact ZuH))):G:=h
set_option maxHeartbeats 2000000 in
theorem Zoo (Ar Az Al As:Option Addr)(t u s cs:Nat)(a:DSource)(w:World)(J:Zal w Ar Az Al As t u s cs a)(U:ZcX a) :
  Does Tryz.prog 128 [srcV Ar Az Al As t u s cs a] w (fun v O=>v=ptV (Zc6 a)/\O=[]):=by
 have hn:=U.nz
 have K:=U.nl
 have T:=fun x w' (L:Bel w.heap.size w w')=>Zgi Ar Az Al As t u s cs a x w' (J.up L) hn
 have hls:=fun x w' (L:Bel w.heap.size w w')=>Zgk Ar Az Al As t u s cs a x w' (J.up L) K
 have hks:=fun x w' (L:Bel w.heap.size w w')=>Zoe Ar Az Al As t u s cs a x w' (J.up L) hn K
 have hfs:=fun x w' (L:Bel w.heap.size w w')=>Zgn Ar Az Al As t u s cs a x w' (J.up L) hn K
 have D:=fun x=>Zit a x
 unfold Zc6
 obtain⟨R1,Y⟩:∃ R,Za4 a a.zones 0=R:=⟨_,rfl⟩
 obtain⟨R2,Z⟩:∃ R,Zbj a a.links 0=R:=⟨_,rfl⟩
 obtain⟨R3,h3⟩:∃ R,Zbi a a.links 0=R:=⟨_,rfl⟩
 rw[Y,Z,h3]
 refine Zaa Tryz.func128 rfl rfl rfl rfl ?_
 repeat (first|refine ZhE ?_|(refine jn ?_;(try intro F);(refine bx ?_;intro c);refine fin ?_)|(apply RD_W;rfl;intro c))
 rename_i bs
 obtain⟨I,M⟩:∃ I,c=I:=⟨_,rfl⟩
 rw[M]
 clear M c
 refine Zai [(1,.pointer (some ⟨bs,0,none⟩)),(2,.pointer (some ⟨I,0,none⟩))] [.blk I [.int .i64 0,.int .i64 0,.int .i64 0] 138,.blk bs [.slice Ar a.rules.length t,.slice Az a.zones.length u,.slice Al a.links.length s,.slice As a.shifts.length cs] 27]
  (fun k:Nat=>[(4,.int .i64 k)]) (fun _=>[]) (fun k=>k<=a.zones.length/\Za4 a (a.zones.drop k) k=R1) (fun k=>a.zones.length - k) 0 SFA SOA ⟨Nat.zero_le _,Y⟩ ?_
 clear Y
 rintro k ⟨W,f⟩
 repeat (first|refine ZhE ?_|(refine jn ?_;(try intro F);(refine bx ?_;intro c);refine fin ?_)|(apply RD_W;rfl;intro c))
 refine Zaf rfl (fun q=>?_) (fun q=>?_)
 ·simp only[decide_eq_true_eq,Int.ofNat_lt]at q
  obtain⟨hna,cs1,⟨Ae,ce,hEz,rfl⟩,hca⟩:=J.z k _ (List.getElem?_eq_getElem q)
  have hsz:=(U.zs _ (List.getElem_mem q)).1
  obtain⟨j,hj,hjk⟩:=ZmP a.zones 0 k (List.getElem?_eq_getElem q)
  rw[Zah q,Za4]at f
  generalize a.zones[k]=z at *
  have m:=fun w'=>ZjK z.name (by omega) w'
  have H:=T z.name
  rw[hj]at f H
  simp only[ixN]at H
  cases hb:Ze5 z.name with
  | false =>
   rw[hb]at f m
   rw[if_pos rfl]at f
   subst f
   simp only[Option.some_or,ptV,plV,Zaq.enc]
   repeat (first|(apply RL_pu;rfl;exact PuI)|(apply RD_Q;rfl;rfl;decide +kernel;rfl;rfl;exact QyI)|refine walk1 ?_|(refine jg ?_;(try intro F);(first|(refine Zab (fun w' _=>m w') ?_)|(refine bx ?_;intro c)|(refine stA ?_));first|refine⟨_,EndsA,QFI,?_⟩|refine fin ?_)|(refine jn ?_;(try intro F);(first|(refine bx ?_;intro c)|(refine stA ?_)|(apply Zad;first|exact PuI|exact PuA));first|refine⟨_,EndsA,QFI,?_⟩|refine fin ?_)|(apply RD_W;rfl;intro c))
   exact rtC
  | true =>
   rw[hb]at f m
   rw[if_neg (by decide)]at f
   by_cases Q:j<k
   ·have b1:decide ((j:Int)<(k:Int))=true:=decide_eq_true (by omega)
    rw[if_pos (fun e=>by injection e with e;omega)]at f
    subst f
    simp only[Option.some_or,ptV,plV,Zaq.enc]
    repeat (first|(apply RL_pu;rfl;exact ZkD)|(apply RD_Q;rfl;rfl;decide +kernel;rfl;rfl;exact ZuI)|refine walk1 ?_|(refine jg ?_;(try intro F);(first|(refine Zab (fun w' _=>m w') ?_)|(refine Zab H ?_)|(refine bx ?_;intro c)|(refine stA ?_));first|refine⟨_,EndsA,ZqF,?_⟩|refine fin ?_)|(refine jn ?_;(try intro F);(first|(refine bx ?_;intro c)|(refine stA ?_)|(apply Zad;first|exact ZkD|exact PuA));first|refine⟨_,EndsA,ZqF,?_⟩|refine fin ?_)|(apply RD_W;rfl;intro c))
    exact rtC
   ·have b1:decide ((j:Int)<(k:Int))=false:=decide_eq_false (by omega)
    rw[if_neg (fun e=>e (by congr 1;omega))]at f
    repeat (first|(apply RL_pu;rfl;exact ZkD)|(apply RD_Q;rfl;rfl;decide +kernel;rfl;rfl;exact ZuI)|refine walk1 ?_|(refine jg ?_;(try intro F);(first|(refine Zab (fun w' _=>m w') ?_)|(refine Zab H ?_)|(refine bx ?_;intro c)|(refine stA ?_));first|refine⟨_,EndsA,ZqF,?_⟩|refine fin ?_)|(refine jn ?_;(try intro F);(first|(refine bx ?_;intro c)|(refine stA ?_)|(apply Zad;first|exact ZkD|exact PuA));first|refine⟨_,EndsA,ZqF,?_⟩|refine fin ?_)|(apply RD_W;rfl;intro c))
    exact⟨k+1,OA,⟨OA,f⟩,SFA,SOA⟩
 simp only[decide_eq_false_iff_not,Int.ofNat_lt]at q
 rw[List.drop_eq_nil_of_le (by omega),Za4]at f
 subst f
 rw[Option.none_or]
 clear W q
 repeat (first|refine ZhE ?_|(refine jn ?_;(try intro F);(refine bx ?_;intro c);refine fin ?_)|(apply RD_W;rfl;intro c))
 refine Zai [(1,.pointer (some ⟨bs,0,none⟩)),(2,.pointer (some ⟨I,0,none⟩))] [.blk I [.int .i64 0,.int .i64 0,.int .i64 0] 138,.blk bs [.slice Ar a.rules.length t,.slice Az a.zones.length u,.slice Al a.links.length s,.slice As a.shifts.length cs] 27]
  (fun k:Nat=>[(6,.int .i64 k)]) (fun _=>[]) (fun k=>k<=a.links.length/\Zbj a (a.links.drop k) k=R2) (fun k=>a.links.length - k) 0 SFA SOA ⟨Nat.zero_le _,Z⟩ ?_
 clear Z k
 rintro k ⟨W,f⟩
 repeat (first|refine ZhE ?_|(refine jn ?_;(try intro F);(refine bx ?_;intro c);refine fin ?_)|(apply RD_W;rfl;intro c))
 refine Zaf rfl (fun q=>?_) (fun q=>?_)
 ·simp only[decide_eq_true_eq,Int.ofNat_lt]at q
  obtain⟨hna,hca⟩:=J.l.rd k _ (List.getElem?_eq_getElem q)
  have hsz:=(U.ls _ (List.getElem_mem q)).2
  obtain⟨j,hj,hjk⟩:=ZmQ a.links 0 k (List.getElem?_eq_getElem q)
  rw[Zah q,Zbj]at f
  generalize a.links[k]=z at *
  have m:=fun w'=>ZjK z.name (by omega) w'
  have H:=T z.name
  have S:=hls z.name
  have E:=hks z.target
  have bz:=ZoE (ZaK z.name a.zones 0)
  rw[hj]at f S
  simp only[ixN]at S
  generalize ZaK z.name a.zones 0=o1 at *
  generalize ixN o1=n1 at *
  cases hb:Ze5 z.name with
  | false =>
   rw[hb]at f m
   rw[if_pos rfl]at f
   subst f
   simp only[Option.some_or,ptV,plV,Zaq.enc]
   repeat (first|(apply RL_pu;rfl;exact PuI)|(apply RD_Q;rfl;rfl;decide +kernel;rfl;rfl;exact QyI)|refine walk1 ?_|(refine jg ?_;(try intro F);(first|(refine Zab (fun w' _=>m w') ?_)|(refine bx ?_;intro c)|(refine stA ?_));first|refine⟨_,EndsA,QFI,?_⟩|refine fin ?_)|(refine jn ?_;(try intro F);(first|(refine bx ?_;intro c)|(refine stA ?_)|(apply Zad;first|exact PuI|exact PuA));first|refine⟨_,EndsA,QFI,?_⟩|refine fin ?_)|(apply RD_W;rfl;intro c))
   exact rtC
  | true =>
   rw[hb]at f m
   rw[if_neg (by decide)]at f
   generalize o1.isSome=z1 at *
   cases z1 with
   | true =>
    rw[if_pos (.inl rfl)]at f
    subst f
    simp only[Option.some_or,ptV,plV,Zaq.enc]
    repeat (first|refine und ?_|(apply RL_pu;rfl;exact Zvr)|(apply RD_Q;rfl;rfl;decide +kernel;rfl;rfl;exact Zyc)|refine walk1 ?_|(refine jg ?_;(try intro F);(first|(refine Zab (fun w' _=>m w') ?_)|(refine Zab H ?_)|(refine bx ?_;intro c)|(refine stA ?_));first|refine⟨_,EndsA,Zyu,?_⟩|refine fin ?_)|(refine jn ?_;(try intro F);(first|(refine bx ?_;intro c)|(refine stA ?_)|(apply Zad;first|exact Zvr|exact PuA));first|refine⟨_,EndsA,Zyu,?_⟩|refine fin ?_)|(apply RD_W;rfl;intro c))
    exact rtC
   | false =>
    by_cases Q:j<k
    ·have b1:decide ((j:Int)<(k:Int))=true:=decide_eq_true (by omega)
     rw[if_pos (.inr (fun e=>by injection e with e;omega))]at f
     subst f
     simp only[Option.some_or,ptV,plV,Zaq.enc]
     repeat (first|refine und ?_|(apply RL_pu;rfl;exact Zjk)|(apply RD_Q;rfl;rfl;decide +kernel;rfl;rfl;exact Zqu)|refine walk1 ?_|(refine jg ?_;(try intro F);(first|(refine Zab (fun w' _=>m w') ?_)|(refine Zab H ?_)|(refine Zab S ?_)|(refine bx ?_;intro c)|(refine stA ?_));first|refine⟨_,EndsA,ZkA,?_⟩|refine fin ?_)|(refine jn ?_;(try intro F);(first|(refine bx ?_;intro c)|(refine stA ?_)|(apply Zad;first|exact Zjk|exact PuA));first|refine⟨_,EndsA,ZkA,?_⟩|refine fin ?_)|(apply RD_W;rfl;intro c))
     exact rtC
    ·have b1:decide ((j:Int)<(k:Int))=false:=decide_eq_false (by omega)
     rw[if_neg (fun e=>e.elim (fun e=>by cases e) (fun e=>e (by congr 1;omega)))]at f
     by_cases r:(ZaK z.target a.zones 0).isNone/\(ZaN z.target a.links 0).isNone
     ·rw[if_pos r]at f
      have X:((ZaK z.target a.zones 0).isSome||(ZaN z.target a.links 0).isSome)=false:=by
       rw[Bool.or_eq_false_iff]
       exact⟨by rw[<- Option.not_isNone,r.1];rfl,by rw[<- Option.not_isNone,r.2];rfl⟩
      rw[X]at E
      subst f
      simp only[Option.some_or,ptV,plV,Zaq.enc]
      repeat (first|refine und ?_|(apply RL_pu;rfl;exact Zjk)|(apply RD_Q;rfl;rfl;decide +kernel;rfl;rfl;exact Zqu)|refine walk1 ?_|(refine jg ?_;(try intro F);(first|(refine Zab (fun w' _=>m w') ?_)|(refine Zab H ?_)|(refine Zab S ?_)|(refine Zab E ?_)|(refine bx ?_;intro c)|(refine stA ?_));first|refine⟨_,EndsA,ZkA,?_⟩|refine fin ?_)|(refine jn ?_;(try intro F);(first|(refine bx ?_;intro c)|(refine stA ?_)|(apply Zad;first|exact Zjk|exact PuA));first|refine⟨_,EndsA,ZkA,?_⟩|refine fin ?_)|(apply RD_W;rfl;intro c))
      exact rtC
     ·rw[if_neg r]at f
      have X:((ZaK z.target a.zones 0).isSome||(ZaN z.target a.links 0).isSome)=true:=by
       cases hh:((ZaK z.target a.zones 0).isSome||(ZaN z.target a.links 0).isSome) with
       | true=>rfl
       | false =>
        rw[Bool.or_eq_false_iff]at hh
        exact absurd ⟨by rw[<- Option.not_isSome,hh.1];rfl,by rw[<- Option.not_isSome,hh.2];rfl⟩ r
      rw[X]at E
      repeat (first|refine und ?_|(apply RL_pu;rfl;exact Zjk)|(apply RD_Q;rfl;rfl;decide +kernel;rfl;rfl;exact Zqu)|refine walk1 ?_|(refine jg ?_;(try intro F);(first|(refine Zab (fun w' _=>m w') ?_)|(refine Zab H ?_)|(refine Zab S ?_)|(refine Zab E ?_)|(refine bx ?_;intro c)|(refine stA ?_));first|refine⟨_,EndsA,ZkA,?_⟩|refine fin ?_)|(refine jn ?_;(try intro F);(first|(refine bx ?_;intro c)|(refine stA ?_)|(apply Zad;first|exact Zjk|exact PuA));first|refine⟨_,EndsA,ZkA,?_⟩|refine fin ?_)|(apply RD_W;rfl;intro c))
      exact⟨k+1,OA,⟨OA,f⟩,SFA,SOA⟩
 simp only[decide_eq_false_iff_not,Int.ofNat_lt]at q
 rw[List.drop_eq_nil_of_le (by omega),Zbj]at f
 subst f
 rw[Option.none_or]
 clear W q
 repeat (first|refine ZhE ?_|(refine jn ?_;(try intro F);(refine bx ?_;intro c);refine fin ?_)|(apply RD_W;rfl;intro c))
 refine Zai [(1,.pointer (some ⟨bs,0,none⟩)),(2,.pointer (some ⟨I,0,none⟩))] [.blk I [.int .i64 0,.int .i64 0,.int .i64 0] 138,.blk bs [.slice Ar a.rules.length t,.slice Az a.zones.length u,.slice Al a.links.length s,.slice As a.shifts.length cs] 27]
  (fun k:Nat=>[(8,.int .i64 k)]) (fun _=>[]) (fun k=>k<=a.links.length/\Zbi a (a.links.drop k) k=R3) (fun k=>a.links.length - k) 0 SFA SOA ⟨Nat.zero_le _,h3⟩ ?_
 clear h3 k
 rintro k ⟨W,f⟩
 repeat (first|refine ZhE ?_|(refine jn ?_;(try intro F);(refine bx ?_;intro c);refine fin ?_)|(apply RD_W;rfl;intro c))
 refine Zaf rfl (fun q=>?_) (fun q=>?_)
 ·simp only[decide_eq_true_eq,Int.ofNat_lt]at q
  obtain⟨hna,hca⟩:=J.l.rd k _ (List.getElem?_eq_getElem q)
  rw[Zah q,Zbi]at f
  generalize a.links[k]=z at *
  have N:=hfs z.name
  have D:=D z.name
  generalize ZaJ a (a.links.length+1) [] z.name=q1 at *
  generalize Zez a (a.links.length+1) z.name=q2 at *
  by_cases y:q1.2=11
  ·rw[if_pos y]at f
   subst f
   have b1:decide (q2.2=11)=true:=decide_eq_true (D.1 y)
   simp only[ptV,plV,Zaq.enc]
   repeat (first|(apply RL_pu;rfl;exact ZnN)|(apply RD_Q;rfl;rfl;decide +kernel;rfl;rfl;exact ZuH)|refine walk1 ?_|(refine jg ?_;(try intro F);(first|(refine Zab N ?_)|(refine bx ?_;intro c)|(refine stA ?_));first|refine⟨_,EndsA,ZqE,?_⟩|refine fin ?_)|(refine jn ?_;(try intro F);(first|(refine bx ?_;intro c)|(refine stA ?_)|(apply Zad;first|exact ZnN|exact PuA));first|refine⟨_,EndsA,ZqE,?_⟩|refine fin ?_)|(apply RD_W;rfl;intro c))
   exact rtC
  ·rw[if_neg y]at f
   have b1:decide (q2.2=11)=false:=decide_eq_false (fun e=>y (D.2 e))
   repeat (first|(apply RL_pu;rfl;exact ZnN)|(apply RD_Q;rfl;rfl;decide +kernel;rfl;rfl;exact ZuH)|refine walk1 ?_|(refine jg ?_;(try intro F);(first|(refine Zab N ?_)|(refine bx ?_;intro c)|(refine stA ?_));first|refine⟨_,EndsA,ZqE,?_⟩|refine fin ?_)|(refine jn ?_;(try intro F);(first|(refine bx ?_;intro c)|(refine stA ?_)|(apply Zad;first|exact ZnN|exact PuA));first|refine⟨_,EndsA,ZqE,?_⟩|refine fin ?_)|(apply RD_W;rfl;intro c))
   exact⟨k+1,OA,⟨OA,f⟩,SFA,SOA⟩
 simp only[decide_eq_false_iff_not,Int.ofNat_lt]at q
 rw[List.drop_eq_nil_of_le (by omega),Zbi]at f
 subst f
 simp only[ptV,plV,Zaq.enc]
 repeat (first|refine ZhE ?_|(refine jn ?_;(try intro F);(refine bx ?_;intro c);refine fin ?_)|(apply RD_W;rfl;intro c))
 exact rtC
end Go.Proofs.YtpipekfmecikmaaGreatDoor
