/- Parts of the proof. -/
import Derived.Test.YtpipekfmecikmaaGreatDoorW25
import Derived.Test.YtpipekfmecikmaaGreatDoorW19
import Derived.Test.YtpipekfmecikmaaGreatDoorW29
import Derived.Test.YtpipekfmecikmaaGreatDoorW06
import Derived.Test.YtpipekfmecikmaaGreatDoorW15
set_option maxHeartbeats 4000000
set_option linter.unusedVariables false
set_option linter.unusedSimpArgs false
namespace Go.Proofs.YtpipekfmecikmaaGreatDoor
open Go Go.RowKit Go.Wk
attribute [local irreducible] W RL Does Zat Zaj retQ Calls Pu Stp RD Qy Ay Zak
def Zmy:List DZone->Nat->Option Nat
 | [],_=>none
 | z::l,k=>if 60<z.eras.length then some k else Zmy l (k+1)
theorem Zp3:∀ (l:List DZone) (k:Nat),Zmy l k=(l.findIdx? fun z=>decide (60<z.eras.length)).map (·+k)
 | [],_=>rfl
 | z::l,k=>by
  rw[Zmy,List.findIdx?_cons]
  by_cases h:60<z.eras.length
  ·rw[if_pos h,decide_eq_true h];simp
  ·rw[if_neg h,decide_eq_false h,Zp3 l (k+1)]
   simp only[Bool.false_eq_true,if_false,Option.map_map]
   congr 1
   funext x
   simp only[Function.comp]
   omega
theorem ZkC {G:Prop}(h:G:=by(apply Zay;rfl;rfl;first|exact b1|exact b2|exact b3|exact b4|exact b5)):G:=h
theorem Zy6 {G:Prop}(h:G:=by(first|exact PuI|(apply Zay;rfl;rfl;first|exact b1|exact b2|exact b3|exact b4|exact b5))):G:=h
theorem Zoa (Ar Az Al As:Option Addr)(j m i cs:Nat)(a:DSource)(w:World)(A:Zal w Ar Az Al As j m i cs a)(C:ZcX a) :
  Does Tryz.prog 125 [srcV Ar Az Al As j m i cs a] w (fun v O=>v=ptV (Zc2 a)/\O=[]):=by
 have D:=C.nz
 unfold Zc2
 rw[show(a.zones.findIdx? fun z=>decide (60<z.eras.length))=Zmy a.zones 0 by rw[Zp3];simp]
 obtain⟨R,q⟩:∃ R,Zmy a.zones 0=R:=⟨_,rfl⟩
 rw[q]
 refine Zaa Tryz.func125 rfl rfl rfl rfl ?_
 by_cases r:2000<a.rules.length
 ·have b1:decide (2000<(a.rules.length:Int))=true:=decide_eq_true (by omega)
  rw[if_pos r]
  simp only[ptV,plV,Zaq.enc]
  repeat (first|(apply RL_pu;rfl;exact ZkC)|(refine js ?_;(refine bx ?_;intro c))|refine walk1 ?_)
  exact rtC
 have b1:decide (2000<(a.rules.length:Int))=false:=decide_eq_false (by omega)
 rw[if_neg r]
 by_cases s:500<a.zones.length
 ·have b2:decide (500<(a.zones.length:Int))=true:=decide_eq_true (by omega)
  rw[if_pos s]
  simp only[ptV,plV,Zaq.enc]
  repeat (first|(apply RL_pu;rfl;exact ZkC)|(refine js ?_;(refine bx ?_;intro c))|refine walk1 ?_)
  exact rtC
 have b2:decide (500<(a.zones.length:Int))=false:=decide_eq_false (by omega)
 rw[if_neg s]
 repeat (first|(apply RL_pu;rfl;exact ZkC)|(refine js ?_;(refine bx ?_;intro c))|refine walk1 ?_)
 rename_i bs
 obtain⟨e,f⟩:∃ b2,c=b2:=⟨_,rfl⟩
 rw[f]
 clear f c
 refine Zai [(1,.pointer (some ⟨bs,0,none⟩)),(2,.pointer (some ⟨e,0,none⟩))] [.blk e [.int .i64 0,.int .i64 0,.int .i64 0] 138,.blk bs [.slice Ar a.rules.length j,.slice Az a.zones.length m,.slice Al a.links.length i,.slice As a.shifts.length cs] 27]
  (fun k:Nat=>[(4,.int .i64 k)]) (fun _=>[]) (fun k=>k<=a.zones.length/\Zmy (a.zones.drop k) k=R) (fun k=>a.zones.length - k) 0 SFA SOA ⟨Nat.zero_le _,q⟩ ?_
 clear q
 rintro k ⟨F,d⟩
 repeat (first|(refine js ?_;(refine bx ?_;intro c))|refine walk ?_)
 refine Zaf rfl (fun g=>?_) (fun g=>?_)
 ·simp only[decide_eq_true_eq,Int.ofNat_lt]at g
  obtain⟨hna,y,⟨Ae,E,B,rfl⟩,hca⟩:=A.z k _ (List.getElem?_eq_getElem g)
  rw[Zah g,Zmy]at d
  generalize a.zones[k]=z at *
  by_cases t:60<z.eras.length
  ·have b3:decide (60<(z.eras.length:Int))=true:=decide_eq_true (by omega)
   rw[if_pos t]at d
   subst d
   simp only[ptV,plV,Zaq.enc]
   repeat (first|(apply RL_pu;rfl;exact Zy6)|(refine js ?_;(refine bx ?_;intro c))|refine walk1 ?_)
   exact rtC
  ·have b3:decide (60<(z.eras.length:Int))=false:=decide_eq_false (by omega)
   rw[if_neg t]at d
   repeat (first|(apply RL_pu;rfl;exact Zy6)|(refine js ?_;(refine bx ?_;intro c))|refine walk1 ?_)
   exact⟨k+1,OA,⟨OA,d⟩,SFA,SOA⟩
 simp only[decide_eq_false_iff_not,Int.ofNat_lt]at g
 rw[List.drop_eq_nil_of_le (by omega),Zmy]at d
 subst d
 dsimp only
 by_cases u:1000<a.links.length
 ·have b4:decide (1000<(a.links.length:Int))=true:=decide_eq_true (by omega)
  rw[if_pos u]
  simp only[ptV,plV,Zaq.enc]
  repeat (first|(apply RL_pu;rfl;exact ZkC)|(refine js ?_;(refine bx ?_;intro c))|refine walk1 ?_)
  exact rtC
 have b4:decide (1000<(a.links.length:Int))=false:=decide_eq_false (by omega)
 rw[if_neg u]
 by_cases x:2000<a.shifts.length
 ·have b5:decide (2000<(a.shifts.length:Int))=true:=decide_eq_true (by omega)
  rw[if_pos x]
  simp only[ptV,plV,Zaq.enc]
  repeat (first|(apply RL_pu;rfl;exact ZkC)|(refine js ?_;(refine bx ?_;intro c))|refine walk1 ?_)
  exact rtC
 have b5:decide (2000<(a.shifts.length:Int))=false:=decide_eq_false (by omega)
 rw[if_neg x]
 simp only[ptV,plV,Zaq.enc]
 repeat (first|(apply RL_pu;rfl;exact ZkC)|(refine js ?_;(refine bx ?_;intro c))|refine walk1 ?_)
 exact rtC
structure RuG where
 k:Nat
 i:Nat
theorem Zvm {G:Prop}(h:G:=by(first|exact PuI|(apply Zcl;rfl;rfl;exact b1))):G:=h
theorem Zl5 (Ar Az Al As:Option Addr)(t u s cs:Nat)(a:DSource)(x:ByteArray)(i:Nat)(w:World)(A:Zal w Ar Az Al As t u s cs a)(B:a.rules.length<=1000000)(c:i<=1000000) :
  Does Tryz.prog 189 [srcV Ar Az Al As t u s cs a,.string x,.int .i64 i] w (fun v O=>v=plV (ZbY x a.rules i 0)/\O=[]):=by
 obtain⟨R,y⟩:∃ R,ZbY x a.rules i 0=R:=⟨_,rfl⟩
 rw[y]
 refine Zaa Tryz.func189 rfl rfl rfl rfl ?_
 repeat (first|(refine js ?_;(refine bx ?_;intro d))|refine walk ?_)
 rename_i bs
 obtain⟨m,e⟩:∃ m,d=m:=⟨_,rfl⟩
 rw[e]
 clear e d
 refine Zai [(1,.string x),(3,.pointer (some ⟨bs,0,none⟩)),(6,.pointer (some ⟨m,0,none⟩))] [.blk m [.int .i64 0,.int .i64 0,.int .i64 0] 138,.blk bs [.slice Ar a.rules.length t,.slice Az a.zones.length u,.slice Al a.links.length s,.slice As a.shifts.length cs] 27]
  (fun g:RuG=>[(2,.int .i64 g.i),(7,.int .i64 g.k)]) (fun _=>[]) (fun g=>g.k<=a.rules.length/\g.i<=1000000/\ZbY x (a.rules.drop g.k) g.i g.k=R) (fun g=>a.rules.length - g.k) ⟨0,i⟩ SFA SOA ⟨Nat.zero_le _,c,y⟩ ?_
 clear y
 rintro⟨k,j⟩ ⟨hk,hj,c⟩
 dsimp only at hk hj c ⊢
 repeat (first|(refine js ?_;(refine bx ?_;intro d))|refine walk ?_)
 refine Zaf rfl (fun f=>?_) (fun f=>?_)
 ·simp only[decide_eq_true_eq,Int.ofNat_lt]at f
  obtain⟨hna,hca⟩:=A.r.rd k _ (List.getElem?_eq_getElem f)
  rw[Zah f,ZhU]at c
  generalize a.rules[k]=r at *
  simp only[DRule.enc]at hca
  by_cases q:r.name=x
  ·have b1:(!decide (r.name=x))=false:=by rw[decide_eq_true q];rfl
   rw[if_pos q]at c
   cases j with
   | zero =>
    dsimp only at c
    subst c
    simp only[plV,Zaq.enc]
    repeat (first|(apply RL_pu;rfl;exact Zvm)|(refine js ?_;(refine bx ?_;intro d))|refine walk1 ?_)
    exact ret_1 _ [] (.cellB rfl (by repeat' constructor) rfl rfl) .nil ⟨rfl,rfl⟩
   | succ j =>
    dsimp only at c
    have z:decide (((j+1:Nat):Int)=0)=false:=decide_eq_false (by omega)
    repeat (first|(apply RL_pu;rfl;(first|exact Zvm|(apply Zap;rfl;rfl;exact z)))|(refine js ?_;(refine bx ?_;intro d))|refine walk1 ?_)
    refine⟨⟨k+1,j⟩,OA,⟨OA,OA,c⟩,?_,SOA⟩
    rw[show((j+1:Nat):Int) - 1=(j:Int) by omega]
    exact SFA
  ·have b1:(!decide (r.name=x))=true:=by rw[decide_eq_false q];rfl
   rw[if_neg q]at c
   repeat (first|(apply RL_pu;rfl;exact Zvm)|(refine js ?_;(refine bx ?_;intro d))|refine walk1 ?_)
   exact⟨⟨k+1,j⟩,OA,⟨OA,hj,c⟩,SFA,SOA⟩
 simp only[decide_eq_false_iff_not,Int.ofNat_lt]at f
 rw[List.drop_eq_nil_of_le (by omega),ZjF]at c
 subst c
 simp only[plV,Zaq.enc]
 repeat (first|(refine js ?_;(refine bx ?_;intro d))|refine walk ?_)
 exact ret_1 _ [] (.cellB rfl (by repeat' constructor) rfl rfl) .nil ⟨rfl,rfl⟩
theorem ZnK {G:Prop}(h:G:=by(first|exact PuI|(apply Zap;rfl;rfl;exact hb))):G:=h
theorem ZuF {G:Prop}(h:G:=by first|(apply Qy_y;rfl;exact ZnK)|exact QyA):G:=h
theorem ZqD {G:Prop}(h:G:=by repeat (first|exact QF.nil|(apply QF.mk;rfl;rfl;decide +kernel;exact ZuF))):G:=h
theorem ZnJ {G:Prop}(h:G:=by(first|exact PuI|(apply Zaw;rfl;rfl;exact bj)|(apply Zca;rfl;rfl;exact by1))):G:=h
theorem Zx7 {G:Prop}(h:G:=by first|(apply Qy_y;rfl;exact ZnJ)|exact QyA):G:=h
theorem Zvj {G:Prop}(h:G:=by(apply Zaw;rfl;rfl;exact bj)):G:=h
theorem Zxn {G G':Prop}(k:G')(h:Hold G'->G:=by intro k9;(first|refine und ?_|(apply RL_pu;rfl;exact Zvj)|(apply RD_Q;rfl;rfl;decide +kernel;rfl;rfl;exact QyRfS2)|refine walk1 ?_|(refine jg ?_;(try intro F);(first|(refine ZaH (fun w' hw hO=>hot A3 c3 w' (ZaP DRule.len (hO.of (A := .row (.slice A3 R.length c3) 68 11 R.length (R.flatMap DRule.enc)) (by repeat' constructor)))) ?_)|(refine ZaH (fun w' hw hO=>hle A3 c3 w' (ZaP DRule.len (hO.of (A := .row (.slice A3 R.length c3) 68 11 R.length (R.flatMap DRule.enc)) (by repeat' constructor)))) ?_)|(refine stA ?_));first|refine⟨_,EndsA,QFRfS2,?_⟩|refine fin ?_)|(refine jn ?_;(try intro F);(first|(refine stA ?_)|(apply Zad;first|exact Zvj|exact PuA));first|refine⟨_,EndsA,QFRfS2,?_⟩|refine fin ?_));exact k9.out):G:=h ⟨k⟩
theorem Zy4 {G:Prop}(h:G:=by(first|exact Zvj|(apply Zan;rfl;rfl;exact hb2))):G:=h
set_option maxHeartbeats 1000000 in
theorem Zl2 (Ar Az Al As:Option Addr)(D E z cs:Nat)(a:DSource)(w:World)(M:Zal w Ar Az Al As D E z cs a)(Y:ZcX a) :
  Does Tryz.prog 127 [srcV Ar Az Al As D E z cs a] w (fun v O=>v=ptV (ZaV a a.shifts [] 0)/\O=[]):=by
 have hn:=Y.nr
 have hns:=Y.ns
 have Z:=M.s.le
 obtain⟨r,q⟩:∃ r,ZaV a a.shifts [] 0=r:=⟨_,rfl⟩
 rw[q]
 refine Zaa Tryz.func127 rfl rfl rfl rfl ?_
 repeat (first|refine walk ?_|(refine jn ?_;(try intro F);(first|(refine bx ?_;intro c)|(refine stA ?_)|(apply Zad;exact PuA));refine fin ?_)|(apply RD_W;rfl;intro c))
 rename_i K
 obtain⟨t,hb2⟩:∃ t,c=t:=⟨_,rfl⟩
 rw[hb2]
 clear hb2 c
 refine Zai [(1,.pointer (some ⟨K,0,none⟩)),(2,.pointer (some ⟨t,0,none⟩))] [.blk t [.int .i64 0,.int .i64 0,.int .i64 0] 138,.blk K [.slice Ar a.rules.length D,.slice Az a.zones.length E,.slice Al a.links.length z,.slice As a.shifts.length cs] 27]
  (fun k:Nat=>[(4,.int .i64 k)]) (fun _=>[]) (fun k=>k<=a.shifts.length/\ZaV a (a.shifts.drop k) (a.shifts.take k) k=r) (fun k=>a.shifts.length - k) 0 SFA SOA ⟨Nat.zero_le _,q⟩ ?_
 clear q
 rintro k ⟨hk,e⟩
 repeat (first|refine walk ?_|(refine jn ?_;(try intro F);(first|(refine bx ?_;intro c)|(refine stA ?_)|(apply Zad;exact PuA));refine fin ?_)|(apply RD_W;rfl;intro c))
 refine Zaf rfl (fun u=>?_) (fun u=>?_)
 ·simp only[decide_eq_true_eq,Int.ofNat_lt]at u
  obtain⟨hna,hca⟩:=M.s.rd k _ (List.getElem?_eq_getElem u)
  have X:=List.take_append_getElem u
  rw[Zah u,ZaV]at e
  rw[X]at e
  generalize a.shifts[k]=x at *
  have I:=fun w' (hw:Bel w.heap.size w w')=>Zib Ar Az Al As D E z cs a x w' (M.up hw) hn
  have hot:=fun A3 c3 w' h=>ZhX A3 c3 (ofB a.rules x) w' h
  have hle:=fun A3 c3 w' h=>Zcd A3 c3 (ofB a.rules x) w' h
  generalize ofB a.rules x=R at *
  generalize ZbS R=od at *
  obtain⟨ox,ob⟩:=od
  dsimp only at e hot
  by_cases N:R=[]
  ·rw[if_pos N]at e
   subst e
   have hb:decide ((R.length:Int)=0)=true:=by rw[N];rfl
   have hnb:=hna
   have hcb:=hca
   simp only[ptV,plV,Zaq.enc]
   repeat (first|(apply RL_pu;rfl;exact ZnK)|(apply RD_Q;rfl;rfl;decide +kernel;rfl;rfl;exact ZuF)|refine walk1 ?_|(refine jg ?_;(try intro F);(first|(apply Zae (h:=fun w' hw _=>I w' hw);rfl;rintro v O' ⟨A3,c3,rfl,rfl⟩)|(refine bx ?_;intro c)|(refine stA ?_));first|refine⟨_,EndsA,ZqD,?_⟩|refine fin ?_)|(refine jn ?_;(try intro F);(first|(refine bx ?_;intro c)|(refine stA ?_)|(apply Zad;first|exact ZnK|exact PuA));first|refine⟨_,EndsA,ZqD,?_⟩|refine fin ?_)|(apply RD_W;rfl;intro c))
   exact rtC
  rw[if_neg N]at e
  have hb:decide ((R.length:Int)=0)=false:=decide_eq_false (fun h=>N (List.eq_nil_of_length_eq_zero (by omega)))
  obtain⟨m,W⟩:∃ m,memB x (a.shifts.take k)=m:=⟨_,rfl⟩
  rw[W]at e
  have htl:(a.shifts.take k).length=k:=by rw[List.length_take];omega
  have S:∀ j,j<k->(a.shifts.take k)[j]?=a.shifts[j]?:=fun j hj=>by rw[List.getElem?_take,if_pos hj]
  generalize a.shifts.take k=L at *
  have hnb:=hna
  have hcb:=hca
  repeat (first|(apply RL_pu;rfl;exact ZnK)|(apply RD_Q;rfl;rfl;decide +kernel;rfl;rfl;exact ZuF)|refine walk1 ?_|(refine jg ?_;(try intro F);(first|(apply Zae (h:=fun w' hw _=>I w' hw);rfl;rintro v O' ⟨A3,c3,rfl,rfl⟩)|(refine bx ?_;intro c)|(refine stA ?_));first|refine⟨_,EndsA,ZqD,?_⟩|refine fin ?_)|(refine jn ?_;(try intro F);(first|(refine bx ?_;intro c)|(refine stA ?_)|(apply Zad;first|exact ZnK|exact PuA));first|refine⟨_,EndsA,ZqD,?_⟩|refine fin ?_)|(apply RD_W;rfl;intro c))
  generalize c=b5
  refine Zai [(1,.pointer (some ⟨K,0,none⟩)),(2,.pointer (some ⟨t,0,none⟩)),(4,.int .i64 k),(5,.pointer (some ⟨b5,0,none⟩)),(6,.slice A3 R.length c3)] [.blk b5 [.int .i64 4,.int .i64 k,.int .i64 0] 138,.row (.slice A3 R.length c3) 68 11 R.length (R.flatMap DRule.enc),.blk t [.int .i64 0,.int .i64 0,.int .i64 0] 138,.blk K [.slice Ar a.rules.length D,.slice Az a.zones.length E,.slice Al a.links.length z,.slice As a.shifts.length cs] 27]
   (fun j:Nat=>[(7,.int .i64 j)]) (fun _=>[]) (fun j=>j<=k/\memB x (L.drop j)=m) (fun j=>k - j) 0 SFA SOA ⟨Nat.zero_le _,W⟩ ?_
  clear W
  rintro j ⟨hj,f⟩
  by_cases T:j<k
  ·have bj:decide ((j:Int)<(k:Int))=true:=decide_eq_true (by omega)
   clear hnb hcb
   obtain⟨hnb,hcb⟩:=M.s.rd j _ (List.getElem?_eq_getElem (show j<a.shifts.length by omega))
   have Q:=S j T
   have H:j<L.length:=by omega
   rw[List.getElem?_eq_getElem H,List.getElem?_eq_getElem (show j<a.shifts.length by omega)]at Q
   simp only[Option.some.injEq]at Q
   rw[Zah H,Zie,Q]at f
   generalize a.shifts[j]=y at *
   by_cases J:y=x
   ·have by1:decide (y=x)=true:=decide_eq_true J
    rw[by1,Bool.true_or]at f
    subst f
    rw[if_pos rfl]at e
    subst e
    simp only[ptV,plV,Zaq.enc]
    repeat (first|(apply RL_pu;rfl;exact ZnJ)|(apply RD_Q;rfl;rfl;decide +kernel;rfl;rfl;exact Zx7)|refine walk1 ?_|(refine jn ?_;(try intro F);(first|(refine bx ?_;intro c)|(refine stA ?_)|(apply Zad;first|exact ZnJ|exact PuA));first|refine⟨_,EndsA,QFRfS1,?_⟩|refine fin ?_)|(apply RD_W;rfl;intro c))
    exact rtC
   ·have by1:decide (y=x)=false:=decide_eq_false J
    rw[by1,Bool.false_or]at f
    repeat (first|(apply RL_pu;rfl;exact ZnJ)|(apply RD_Q;rfl;rfl;decide +kernel;rfl;rfl;exact Zx7)|refine walk1 ?_|(refine jn ?_;(try intro F);(first|(refine bx ?_;intro c)|(refine stA ?_)|(apply Zad;first|exact ZnJ|exact PuA));first|refine⟨_,EndsA,QFRfS1,?_⟩|refine fin ?_)|(apply RD_W;rfl;intro c))
    exact⟨j+1,OA,⟨OA,f⟩,SFA,SOA⟩
  ·have bj:decide ((j:Int)<(k:Int))=false:=decide_eq_false (by omega)
   rw[List.drop_eq_nil_of_le (by omega)]at f
   rw[show memB x []=false from rfl]at f
   subst f
   rw[if_neg (by decide)]at e
   generalize Zag R=lt at *
   by_cases U:lt=0
   ·subst U
    cases ob with
    | false =>
     rw[if_pos (.inr rfl)]at e
     subst e
     simp only[ptV,plV,Zaq.enc]
     repeat (first|refine Zxn ?_|(refine jg ?_;(try intro F);(refine bx ?_;intro c);first|refine⟨_,EndsA,QFRfS2,?_⟩|refine fin ?_)|(refine jn ?_;(try intro F);(refine bx ?_;intro c);first|refine⟨_,EndsA,QFRfS2,?_⟩|refine fin ?_)|(apply RD_W;rfl;intro c))
     exact rtC
    | true =>
     rw[if_neg (by rintro(h|h);exact h rfl;cases h)]at e
     repeat (first|refine Zxn ?_|(refine jg ?_;(try intro F);(refine bx ?_;intro c);first|refine⟨_,EndsA,QFRfS2,?_⟩|refine fin ?_)|(refine jn ?_;(try intro F);(refine bx ?_;intro c);first|refine⟨_,EndsA,QFRfS2,?_⟩|refine fin ?_)|(apply RD_W;rfl;intro c))
     exact⟨k+1,OA,⟨OA,e⟩,SFA,SOA⟩
   ·rw[if_pos (.inl U)]at e
    subst e
    have hb2:(!decide (lt=0))=true:=by rw[decide_eq_false U];rfl
    simp only[ptV,plV,Zaq.enc]
    repeat (first|refine und ?_|(apply RL_pu;rfl;exact Zy4)|(apply RD_Q;rfl;rfl;decide +kernel;rfl;rfl;exact QyRfS3)|refine walk1 ?_|(refine jg ?_;(try intro F);(first|(refine ZaH (fun w' hw hO=>hot A3 c3 w' (ZaP DRule.len (hO.of (A := .row (.slice A3 R.length c3) 68 11 R.length (R.flatMap DRule.enc)) (by repeat' constructor)))) ?_)|(refine ZaH (fun w' hw hO=>hle A3 c3 w' (ZaP DRule.len (hO.of (A := .row (.slice A3 R.length c3) 68 11 R.length (R.flatMap DRule.enc)) (by repeat' constructor)))) ?_)|(refine bx ?_;intro c)|(refine stA ?_));first|refine⟨_,EndsA,QFRfS3,?_⟩|refine fin ?_)|(refine jn ?_;(try intro F);(first|(refine bx ?_;intro c)|(refine stA ?_)|(apply Zad;first|exact Zy4|exact PuA));first|refine⟨_,EndsA,QFRfS3,?_⟩|refine fin ?_)|(apply RD_W;rfl;intro c))
    exact rtC
 ·simp only[decide_eq_false_iff_not,Int.ofNat_lt]at u
  rw[List.drop_eq_nil_of_le (by omega),ZaV]at e
  subst e
  repeat (first|refine walk ?_|(refine jn ?_;(try intro F);(first|(refine bx ?_;intro c)|(refine stA ?_)|(apply Zad;exact PuA));refine fin ?_)|(apply RD_W;rfl;intro c))
  exact rtC
def RapS:Prop:=∀ (A:Option Addr) (c:Nat) (l:List DRule) (w:World),RdSl w A c DRule.enc 11 l->l.length<=1000000->(Zcv l).2=0->Does Tryz.prog 191 [.slice A l.length c] w (fun v O=>v=apV (ZeD l)/\O=[])
theorem Zhk {G:Prop}(h:G:=by(first|(apply ZaG;rfl;rfl;omega;omega;(intro w' _ hO;exact(Za2 (hO.of (A := .row (.slice An N.length cn) 9 1 N.length (N.flatMap ZaO)) (by repeat' constructor)) hg1).1))|(apply Zb9;rfl;(focus repeat' constructor);exact hg1))):G:=h
theorem Zqt {G:Prop}(h:G:=by first|(apply Qy_y;rfl;exact Zhk)|exact QyA):G:=h
theorem Zkz {G:Prop}(h:G:=by repeat (first|exact QF.nil|(apply QF.mk;rfl;rfl;decide +kernel;exact Zqt))):G:=h
theorem Zvi {G:Prop}(h:G:=by(first|exact Zhk|(apply Zan;rfl;rfl;exact hb2))):G:=h
theorem Zx6 {G:Prop}(h:G:=by first|(apply Qy_y;rfl;exact Zvi)|exact QyA):G:=h
theorem Zys {G:Prop}(h:G:=by repeat (first|exact QF.nil|(apply QF.mk;rfl;rfl;decide +kernel;exact Zx6))):G:=h
set_option maxHeartbeats 2000000 in
theorem Zrn (Ar Az Al As:Option Addr)(K L J cs:Nat)(a:DSource)(w:World)(hP:RapS)(W:Zal w Ar Az Al As K L J cs a)(Z:ZcX a)(hV:SavI a) :
  Does Tryz.prog 126 [srcV Ar Az Al As K L J cs a] w (fun v O=>v=ptV (Ze6 a)/\O=[]):=by
 have hn:=Z.nr
 have S:=fun w' (c:Bel w.heap.size w w')=>Zod Ar Az Al As K L J cs a w' (W.up c) hn
 have Y:=ZeT a.rules []
 have X:=ZeU a.rules []
 unfold Ze6
 generalize ZbC a.rules []=N at *
 simp only[List.length_nil,Nat.zero_add]at X
 obtain⟨I,y⟩:∃ I,Zcw a.rules N=I:=⟨_,rfl⟩
 rw[y]
 refine Zaa Tryz.func126 rfl rfl rfl rfl ?_
 repeat (first|refine walk ?_|(refine jg ?_;(try intro F);(first|(apply Zae (h:=fun w' c _=>S w' c);rfl;rintro v O' ⟨An,cn,rfl,rfl⟩)|(refine bx ?_;intro m)|(refine stA ?_));refine fin ?_)|(refine jn ?_;(try intro F);(first|(refine bx ?_;intro m)|(refine stA ?_)|(apply Zad;exact PuA));refine fin ?_)|(apply RD_W;rfl;intro m))
 rename_i b1
 obtain⟨T,hb2⟩:∃ T,m=T:=⟨_,rfl⟩
 rw[hb2]
 clear hb2 m
 refine Zai [(1,.pointer (some ⟨b1,0,none⟩)),(2,.pointer (some ⟨T,0,none⟩)),(4,.slice An N.length cn)] [.row (.slice An N.length cn) 9 1 N.length (N.flatMap ZaO),.blk T [.int .i64 0,.int .i64 0,.int .i64 0] 138,.blk b1 [.slice Ar a.rules.length K,.slice Az a.zones.length L,.slice Al a.links.length J,.slice As a.shifts.length cs] 27]
  (fun k:Nat=>[(5,.int .i64 k)]) (fun _=>[]) (fun k=>k<=N.length/\Zcw a.rules (N.drop k)=I) (fun k=>N.length - k) 0 SFA SOA ⟨Nat.zero_le _,y⟩ ?_
 clear S y
 rintro k ⟨hk,f⟩
 repeat (first|refine walk ?_|(refine jn ?_;(try intro F);(first|(refine bx ?_;intro m)|(refine stA ?_)|(apply Zad;exact PuA));refine fin ?_)|(apply RD_W;rfl;intro m))
 refine Zaf rfl (fun M=>?_) (fun M=>?_)
 ·simp only[decide_eq_true_eq,Int.ofNat_lt]at M
  have hg1:(N.flatMap ZaO)[k*1]?=some (.string N[k]):=by
   have:=ZaC (enc:=ZaO) (fun _=>rfl) N k _ 0 (.string N[k]) (List.getElem?_eq_getElem M) rfl
   simpa using this
  have hxm:=Y _ (List.getElem_mem M)
  rw[Zah M,Zcw]at f
  generalize N[k]=x at *
  have hxs:x.size<=1000000000:=by
   rcases hxm with h|⟨r,U,rfl⟩
   ·cases h
   ·exact(Z.rs r U).1
  have E:=fun w' (c:Bel w.heap.size w w')=>Zib Ar Az Al As K L J cs a x w' (W.up c) hn
  have q:=fun w'=>Zs7 x (by omega) w'
  have Q:∀ r∈ofB a.rules x,r∈a.rules:=fun r h=>Zov h
  have hRl:=Zic a.rules x
  have D:=fun A3 s w' (c:Bel w.heap.size w w') h=>Zon A3 s (ofB a.rules x) w' h (by omega) (fun r U=>⟨hV r (Q r U),by have:=(Z.rs r (Q r U)).2;omega⟩)
  have u:=fun(hz:(Zcv (ofB a.rules x)).2=0) A3 s w' (c:Bel w.heap.size w w') h=>hP A3 s (ofB a.rules x) w' h (by omega) hz
  have z:=fun(i:Nat) (f:i<=1000000) w' (c:Bel w.heap.size w w')=>Zl5 Ar Az Al As K L J cs a x i w' (W.up c) hn f
  have hcl:=ZpQ (ofB a.rules x)
  have har:=Zi8 (ofB a.rules x)
  unfold ZbX at f
  generalize ofB a.rules x=R at *
  cases hsb:setB x with
  | false =>
   rw[hsb]at f q
   rw[if_pos rfl]at f
   dsimp only at f
   have t:=z 0 (Nat.zero_le _)
   generalize ZbY x a.rules 0 0=pl at *
   obtain⟨p1,p2,p3⟩:=pl
   simp only[plV,Zaq.enc]at t
   subst f
   simp only[ptV,plV,Zaq.enc]
   repeat (first|(apply RL_pu;rfl;exact Zhk)|(apply RD_Q;rfl;rfl;decide +kernel;rfl;rfl;exact Zqt)|refine walk1 ?_|(refine jg ?_;(try intro F);(first|(apply Zae (h:=fun w' c _=>E w' c);rfl;rintro v O' ⟨A3,s,rfl,rfl⟩)|(refine Zab (fun w' _=>q w') ?_)|(refine Zab t ?_)|(refine bx ?_;intro m)|(refine stA ?_));first|refine⟨_,EndsA,Zkz,?_⟩|refine fin ?_)|(refine jn ?_;(try intro F);(first|(refine bx ?_;intro m)|(refine stA ?_)|(apply Zad;first|exact Zhk|exact PuA));first|refine⟨_,EndsA,Zkz,?_⟩|refine fin ?_)|(apply RD_W;rfl;intro m))
   exact rtC
  | true =>
   rw[hsb]at f q
   rw[if_neg (by decide)]at f
   generalize Zcv R=rc at *
   obtain⟨ci,ce⟩:=rc
   dsimp only at f D hcl u
   by_cases H:ce=0
   ·subst H
    replace u:=u rfl
    rw[if_neg (fun h=>h rfl)]at f
    generalize ZeD R=ap at *
    cases ap with
    | none =>
     simp only[apV,Zac.enc,dEv0]at u
     dsimp only at f
     repeat (first|(apply RL_pu;rfl;exact Zhk)|(apply RD_Q;rfl;rfl;decide +kernel;rfl;rfl;exact Zqt)|refine walk1 ?_|(refine jg ?_;(try intro F);(first|(apply Zae (h:=fun w' c _=>E w' c);rfl;rintro v O' ⟨A3,s,rfl,rfl⟩)|(refine Zab (fun w' _=>q w') ?_)|(refine ZaH (fun w' c hO=>D A3 s w' c (ZaP DRule.len (hO.of (A := .row (.slice A3 R.length s) 68 11 R.length (R.flatMap DRule.enc)) (by repeat' constructor)))) ?_)|(refine ZaH (fun w' c hO=>u A3 s w' c (ZaP DRule.len (hO.of (A := .row (.slice A3 R.length s) 68 11 R.length (R.flatMap DRule.enc)) (by repeat' constructor)))) ?_)|(refine bx ?_;intro m)|(refine stA ?_));first|refine⟨_,EndsA,Zkz,?_⟩|refine fin ?_)|(refine jn ?_;(try intro F);(first|(refine bx ?_;intro m)|(refine stA ?_)|(apply Zad;first|exact Zhk|exact PuA));first|refine⟨_,EndsA,Zkz,?_⟩|refine fin ?_)|(apply RD_W;rfl;intro m))
     exact⟨k+1,OA,⟨OA,f⟩,SFA,SOA⟩
    | some e =>
     obtain⟨j,hj,hjl⟩:=har e rfl
     obtain⟨ey,er,en⟩:=e
     dsimp only at hj
     subst hj
     simp only[apV,Zac.enc]at u
     simp only[Int.toNat_natCast]at f
     have t:=z j (by omega)
     generalize ZbY x a.rules j 0=pl at *
     obtain⟨p1,p2,p3⟩:=pl
     simp only[plV,Zaq.enc]at t
     subst f
     simp only[ptV,plV,Zaq.enc]
     repeat (first|(apply RL_pu;rfl;exact Zhk)|(apply RD_Q;rfl;rfl;decide +kernel;rfl;rfl;exact Zqt)|refine walk1 ?_|(refine jg ?_;(try intro F);(first|(apply Zae (h:=fun w' c _=>E w' c);rfl;rintro v O' ⟨A3,s,rfl,rfl⟩)|(refine Zab (fun w' _=>q w') ?_)|(refine ZaH (fun w' c hO=>D A3 s w' c (ZaP DRule.len (hO.of (A := .row (.slice A3 R.length s) 68 11 R.length (R.flatMap DRule.enc)) (by repeat' constructor)))) ?_)|(refine ZaH (fun w' c hO=>u A3 s w' c (ZaP DRule.len (hO.of (A := .row (.slice A3 R.length s) 68 11 R.length (R.flatMap DRule.enc)) (by repeat' constructor)))) ?_)|(refine Zab t ?_)|(refine bx ?_;intro m)|(refine stA ?_));first|refine⟨_,EndsA,Zkz,?_⟩|refine fin ?_)|(refine jn ?_;(try intro F);(first|(refine bx ?_;intro m)|(refine stA ?_)|(apply Zad;first|exact Zhk|exact PuA));first|refine⟨_,EndsA,Zkz,?_⟩|refine fin ?_)|(apply RD_W;rfl;intro m))
     exact rtC
   ·rw[if_pos H]at f
    dsimp only at f
    have hb2:(!decide (ce=0))=true:=by rw[decide_eq_false H];rfl
    have t:=z ci (by omega)
    generalize ZbY x a.rules ci 0=pl at *
    obtain⟨p1,p2,p3⟩:=pl
    simp only[plV,Zaq.enc]at t
    subst f
    simp only[ptV,plV,Zaq.enc]
    repeat (first|(apply RL_pu;rfl;exact Zvi)|(apply RD_Q;rfl;rfl;decide +kernel;rfl;rfl;exact Zx6)|refine walk1 ?_|(refine jg ?_;(try intro F);(first|(apply Zae (h:=fun w' c _=>E w' c);rfl;rintro v O' ⟨A3,s,rfl,rfl⟩)|(refine Zab (fun w' _=>q w') ?_)|(refine ZaH (fun w' c hO=>D A3 s w' c (ZaP DRule.len (hO.of (A := .row (.slice A3 R.length s) 68 11 R.length (R.flatMap DRule.enc)) (by repeat' constructor)))) ?_)|(refine Zab t ?_)|(refine bx ?_;intro m)|(refine stA ?_));first|refine⟨_,EndsA,Zys,?_⟩|refine fin ?_)|(refine jn ?_;(try intro F);(first|(refine bx ?_;intro m)|(refine stA ?_)|(apply Zad;first|exact Zvi|exact PuA));first|refine⟨_,EndsA,Zys,?_⟩|refine fin ?_)|(apply RD_W;rfl;intro m))
    exact rtC
 ·simp only[decide_eq_false_iff_not,Int.ofNat_lt]at M
  rw[List.drop_eq_nil_of_le (by omega),Zcw]at f
  subst f
  repeat (first|refine walk ?_|(refine jn ?_;(try intro F);(first|(refine bx ?_;intro m)|(refine stA ?_)|(apply Zad;exact PuA));refine fin ?_)|(apply RD_W;rfl;intro m))
  exact rtC
theorem ZdO (Ar Az Al As:Option Addr)(i j g cs:Nat)(a:DSource)(e:DEra)(w:World)(t:Zal w Ar Az Al As i j g cs a)(x:a.rules.length<=1000000) :
  Does Tryz.prog 251 [srcV Ar Az Al As i j g cs a,.agg e.enc.toArray] w (ZgR 68 11 DRule.enc (ZaA a.rules e)):=by
 have d:=fun w' (p:Bel w.heap.size w w')=>Zib Ar Az Al As i j g cs a e.set w' (t.up p) x
 unfold ZaA
 obtain⟨y,c,r,set,f,til⟩:=e
 dsimp only at d ⊢
 simp only[DEra.enc]
 refine Zaa Tryz.func251 rfl rfl rfl rfl ?_
 by_cases m:c=2
 ·subst m
  rw[if_pos rfl]
  generalize ofB a.rules set=R at *
  repeat (first|(refine js ?_;(first|(apply Zae (h:=fun w' p _=>d w' p);rfl;rintro v O' ⟨A3,q,rfl,rfl⟩)|(refine bx ?_;intro s)))|refine walk ?_)
  exact ret_1 _ [.row (.slice A3 R.length q) 68 11 R.length (R.flatMap DRule.enc)] (.tmp rfl) SOA ⟨A3,q,rfl,rfl⟩
 ·rw[if_neg m]
  have u:(!decide (c=2))=true:=by rw[decide_eq_false m];rfl
  refine Zdq 68 11 ?_
  repeat (first|(apply RL_pu;rfl;(apply Zan;rfl;rfl;exact u))|(refine js ?_;(refine bx ?_;intro s))|refine walk1 ?_)
  exact ret_1 _ [.row (.slice none 0 0) 68 11 0 []] (.tmp rfl) SOA ⟨none,0,rfl,rfl⟩
theorem Zvl {G:Prop}(h:G:=by(apply Zap;rfl;rfl;exact b1)):G:=h
theorem Zvk {G:Prop}(h:G:=by(first|(apply ZaG;rfl;rfl;omega;omega;(intro w' _ hO;exact(Za2 (hO.of (A := .row (.slice A3 R.length c3) 68 11 R.length (R.flatMap DRule.enc)) (by repeat' constructor)) hg1).1))|(apply ZeI;rfl;(focus repeat' constructor);first|exact hs9|exact hs10))):G:=h
theorem Zx8 {G:Prop}(h:G:=by first|(apply Qy_y;rfl;exact Zvk)|exact QyA):G:=h
theorem ZBL {G:Prop}(h:G:=by repeat (first|exact QF.nil|(apply QF.mk;rfl;rfl;decide +kernel;exact Zx8))):G:=h
theorem Zy5 {G:Prop}(h:G:=by(first|exact Zvl|(apply Zan;rfl;rfl;exact b2))):G:=h
theorem ZkO (Ar Az Al As:Option Addr)(E H D cs:Nat)(a:DSource)(e:DEra)(w:World)(L:Zal w Ar Az Al As E H D cs a)(K:a.rules.length<=1000000) :
  Does Tryz.prog 252 [srcV Ar Az Al As E H D cs a,.agg e.enc.toArray] w (StR (ZaB a.rules e)):=by
 have x:=fun w' (J:Bel w.heap.size w w')=>ZdO Ar Az Al As E H D cs a e w' (L.up J) K
 have M:(ZaA a.rules e).length<=1000000:=by
  unfold ZaA
  split
  ·exact Nat.le_trans (Zic _ _) K
  ·exact Nat.zero_le _
 unfold ZaB
 generalize ZaA a.rules e=R at *
 obtain⟨U,q,save,set,z,til⟩:=e
 dsimp only at x ⊢
 simp only[DEra.enc]at x ⊢
 refine Zaa Tryz.func252 rfl rfl rfl rfl ?_
 by_cases t:q=1
 ·subst t
  rw[if_pos rfl]
  repeat (first|refine walk ?_|(refine jn ?_;(try intro F);(first|(refine bx ?_;intro f)|(apply Zad;exact PuA));refine fin ?_)|(apply RD_W;rfl;intro f))
  exact ret_1 _ [.blk f [.int .i64 save,.string ByteArray.empty] 155] (.tmp rfl) SOA (.inr ⟨f,(save,ByteArray.empty),rfl,rfl,rfl⟩)
 have b1:decide (q=1)=false:=decide_eq_false t
 rw[if_neg t]
 by_cases u:q=2
 ·subst u
  rw[if_pos rfl]
  repeat (first|(apply RL_pu;rfl;exact Zvl)|(apply RD_Q;rfl;rfl;decide +kernel;rfl;rfl;exact QyRfR1)|refine walk1 ?_|(refine jg ?_;(try intro F);(first|(apply Zae (h:=fun w' J _=>x w' J);rfl;rintro v O' ⟨A3,c3,rfl,rfl⟩)|(refine bx ?_;intro f));first|refine⟨_,EndsA,QFRfR1,?_⟩|refine fin ?_)|(refine jn ?_;(try intro F);(first|(refine bx ?_;intro f)|(apply Zad;first|exact Zvl|exact PuA));first|refine⟨_,EndsA,QFRfR1,?_⟩|refine fin ?_)|(apply RD_W;rfl;intro f))
  refine Zdq 155 2 ?_
  refine Zai [(6,.slice A3 R.length c3)] [.row (.slice A3 R.length c3) 68 11 R.length (R.flatMap DRule.enc)] (fun g:StG=>[(5,.slice g.A g.m g.c),(7,.int .i64 g.k)]) (fun g=>[.row (.slice g.A g.m g.c) 155 2 g.m g.ys])
   (fun g=>g.k<=R.length/\g.m=g.k/\g.ys=((R.take g.k).map fun r=>(r.save,r.letter)).flatMap Za1) (fun g=>R.length - g.k) ⟨0,none,0,0,[]⟩ SFA SOA ⟨Nat.zero_le _,rfl,rfl⟩ ?_
  rintro⟨k,A1,c1,m,ys⟩ ⟨hkl,hm,hy⟩
  dsimp only at hkl hm hy ⊢
  repeat (first|refine walk ?_|(refine jn ?_;(try intro F);(first|(refine bx ?_;intro f)|(apply Zad;exact PuA));refine fin ?_)|(apply RD_W;rfl;intro f))
  refine Zaf rfl (fun y=>?_) (fun y=>?_)
  ·simp only[decide_eq_true_eq,Int.ofNat_lt]at y
   have hg1:=ZaC DRule.len R k _ 0 _ (List.getElem?_eq_getElem y) rfl
   have s:∀ j v,(DRule.enc R[k])[j]?=some v->(R.flatMap DRule.enc)[k*11+j]?=some v:=fun j v T=>ZaC DRule.len R k _ j v (List.getElem?_eq_getElem y) T
   have hs9:=s 9 _ rfl
   have hs10:=s 10 _ rfl
   have I:=List.take_append_getElem y
   generalize R[k]=r at *
   simp only[DRule.enc]at s hg1
   repeat (first|(apply RL_pu;rfl;exact Zvk)|(apply RD_Q;rfl;rfl;decide +kernel;rfl;rfl;exact Zx8)|refine walk1 ?_|(refine jn ?_;(try intro F);(first|(apply ZaF;rfl;rfl;(intro A' c';(focus repeat' constructor));(intro w' _ hO;exact ZbD (hO.of (by repeat' constructor)));rfl;rfl;(simp only[maxLen];omega);omega;intro A' c' N Q S)|(refine bx ?_;intro f)|(apply Zad;first|exact Zvk|exact PuA));first|refine⟨_,EndsA,ZBL,?_⟩|refine fin ?_)|(apply RD_W;rfl;intro f))
   exact⟨⟨k+1,A',c',m+1,ys++[.int .i64 r.save,.string r.letter]⟩,OA,⟨OA,OA,by dsimp only;rw[hy,<- I];simp[Za1]⟩,SFA,SOA⟩
  ·obtain rfl:k=R.length:=by simp only[decide_eq_false_iff_not,Int.ofNat_lt]at y;omega
   rw[List.take_length]at hy
   subst hm hy
   repeat (first|refine walk ?_|(refine jn ?_;(try intro F);(first|(refine bx ?_;intro f)|(apply Zad;exact PuA));refine fin ?_)|(apply RD_W;rfl;intro f))
   exact ret_1 _ [.row (.slice A1 R.length c1) 155 2 R.length ((R.map fun r=>(r.save,r.letter)).flatMap Za1)] (.tmp rfl) SOA (.inl ⟨A1,c1,by rw[List.length_map],by rw[List.length_map]⟩)
 have b2:(!decide (q=2))=true:=by rw[decide_eq_false u];rfl
 rw[if_neg u]
 repeat (first|(apply RL_pu;rfl;exact Zy5)|(apply RD_Q;rfl;rfl;decide +kernel;rfl;rfl;exact QyRfR3)|refine walk1 ?_|(refine jn ?_;(try intro F);(first|(refine bx ?_;intro f)|(apply Zad;first|exact Zy5|exact PuA));first|refine⟨_,EndsA,QFRfR3,?_⟩|refine fin ?_)|(apply RD_W;rfl;intro f))
 exact ret_1 _ [.blk f [.int .i64 0,.string ByteArray.empty] 155] (.tmp rfl) SOA (.inr ⟨f,(0,ByteArray.empty),rfl,rfl,rfl⟩)
theorem ZgY (Ar Az Al As:Option Addr)(d f c cs:Nat)(a:DSource)(e:DEra)(w:World)(j:Zal w Ar Az Al As d f c cs a)(l:a.rules.length<=1000000) :
  Does Tryz.prog 252 [srcV Ar Az Al As d f c cs a,.agg e.enc.toArray] w (ZgR 155 2 Za1 (ZaB a.rules e)) :=
 (ZkO Ar Az Al As d f c cs a e w j l).monoH fun v O g w' k i=>by
  rcases k with h|⟨b,x,hl,rfl,rfl⟩
  ·exact⟨O,h,i⟩
  ·rw[hl]
   exact⟨_,⟨some ⟨b,0,none⟩,1,rfl,rfl⟩,i.toRow (m:=1) 2 rfl (by decide) (by simpa using Upd.here)⟩
def inO (x:Int):Bool:=decide (-54000<=x)&&decide (x<=54000)
theorem ZjJ (x:Int)(w:World):Does Tryz.prog 253 [.int .i64 x] w (fun v O=>v = .bool (inO x)/\O=[]):=by
 refine Zaa Tryz.func253 rfl rfl rfl rfl ?_
 repeat' (first|refine walk ?_|refine und ?_|(refine Zam rfl rfl rfl (fun a=>?_) (fun a=>?_))|(refine Zas rfl rfl rfl (fun a=>?_) (fun a=>?_))|(refine Zaf rfl (fun a=>?_) (fun a=>?_)))
 all_goals first|(refine ret_1 _ [] (.tmp rfl) .nil ⟨?_,rfl⟩;first|rfl|(simp only[*,Bool.true_and,Bool.false_and,Bool.true_or,Bool.false_or,Bool.not_true,Bool.not_false];done)|(simp_all [inO];done)|(simp_all [inO];omega)|(simp_all [inO];rw[Bool.eq_iff_iff];simp;omega))|(exfalso;simp_all [inO];done)|(exfalso;simp_all [inO];omega)|(exfalso;omega)
end Go.Proofs.YtpipekfmecikmaaGreatDoor
namespace Go.Wk
open Go Go.RowKit
section
variable {P:Program}{n:Nat}{wr:World}{fr:Fr}{O:List It}{ty:TypeId}
theorem ZAF {t t':TypeId}{x y:Operand}{i j:Int}(a:ev fr x=some (.int .u8 i))(b:ev fr y=some (.int .u8 j))(h:0<=i - j/\i - j<=255):Pu P n wr fr O (.binOp .sub t x y t') ty (.int .u8 (i - j)):=by
 have:=Zpg (P:=P) (n:=n) (wr:=wr) (O:=O) (ty:=ty) (t:=t) (t':=t') a b
 rwa[IntWalk.u8_in _ h]at this
theorem catB (a b:List UInt8):(⟨a.toArray⟩++⟨b.toArray⟩:ByteArray)=⟨(a++b).toArray⟩:=by
 apply ByteArray.ext
 simp
theorem Zlz {t t':TypeId}{x y:Operand}{a b:List UInt8}(c:ev fr x=some (.string ⟨a.toArray⟩))(d:ev fr y=some (.string ⟨b.toArray⟩))(h:a.length+b.length<=9223372036854775807):Pu P n wr fr O (.binOp .add t x y t') ty (.string ⟨(a++b).toArray⟩):=by
 have:=ZgQ (P:=P) (n:=n) (wr:=wr) (O:=O) (ty:=ty) (t:=t) (t':=t') c d h
 rwa[catB]at this
end
theorem Zle (n:Int):(dig2 n).length=2:=rfl
def twoR (l:List UInt8)(i:Nat):Option Int :=
 match l[i]?,l[i+1]? with
 | some c,some d=>if digC c.toNat&&digC d.toNat then some (10*((c.toNat:Int) - 48)+((d.toNat:Int) - 48)) else none
 | _,_=>none
def Zc4 (l:List UInt8):List Int->Nat->Int->Option Int
 | [],_,off=>some off
 | u::us,i,off=>if l.length<=1+2*i then some off else match twoR l (1+2*i) with|none=>none|some n=>Zc4 l us (i+1) (off+n*u)
def endR (l:List UInt8):Option Int->Option Int
 | none=>none
 | some o=>if l.isEmpty\/ZaL (if l.head?=some 45 then -o else o)≠l then none else some (if l.head?=some 45 then -o else o)
def Ztf (l:List UInt8):Option Int:=endR l (Zc4 l [3600,60,1] 0 0)
theorem ZsH (a:Int):ZaL a=[]\/(ZaL a).length % 2=1:=by
 unfold ZaL
 split
 ·exact .inl rfl
 ·right
  dsimp only
  simp only[List.length_cons,List.length_append,Zle]
  repeat' split
  all_goals simp[Zle]
theorem Zwz (c d:UInt8):numU [c,d]=if digC c.toNat&&digC d.toNat then some (10*((c.toNat:Int) - 48)+((d.toNat:Int) - 48)) else none:=by
 unfold numU
 rw[if_neg (by simp)]
 have h:∀ c:UInt8,(decide (48<=c)&&decide (c<=57))=digC c.toNat:=fun c=>by
  unfold digC
  rw[Bool.eq_iff_iff]
  simp only[Bool.and_eq_true,decide_eq_true_eq,UInt8.le_iff_toNat_le]
  constructor
  ·intro ⟨h1,h2⟩
   have a:(48:UInt8).toNat=48:=rfl
   have b:(57:UInt8).toNat=57:=rfl
   omega
  ·intro ⟨h1,h2⟩
   have a:(48:UInt8).toNat=48:=rfl
   have b:(57:UInt8).toNat=57:=rfl
   omega
 simp only[List.all_cons,List.all_nil,Bool.and_true,h,List.foldl_cons,List.foldl_nil]
 split
 ·congr 1;omega
 ·rfl
theorem Zh8 (l:List UInt8)(d:l.length % 2=1):∀ (us:List Int) (i:Nat) (a:Int),ZcQ l us i a=Zc4 l us i a
 | [],_,_=>rfl
 | u::us,i,a=>by
  rw[ZcQ,Zc4]
  by_cases h:l.length<=1+2*i
  ·rw[if_pos h,if_pos h]
  ·rw[if_neg h,if_neg h]
   have b:1+2*i<l.length:=by omega
   have c:1+2*i+1<l.length:=by omega
   have e:(l.drop (1+2*i)).take 2=[l[1+2*i],l[1+2*i+1]]:=by
    rw[List.drop_eq_getElem_cons b,List.take_succ_cons,List.drop_eq_getElem_cons c,List.take_succ_cons,List.take_zero]
   rw[e,Zwz]
   unfold twoR
   rw[List.getElem?_eq_getElem b,List.getElem?_eq_getElem c]
   dsimp only
   generalize (if (digC l[1+2*i].toNat&&digC l[1+2*i+1].toNat)=true then some (10*((l[1+2*i].toNat:Int) - 48)+((l[1+2*i+1].toNat:Int) - 48)) else none)=q
   cases q with
   | none=>rfl
   | some n=>exact Zh8 l d us (i+1) _
theorem Zm0 {l:List UInt8}(b:l.length % 2=0)(o:Option Int):endR l o=none:=by
 cases o with
 | none=>rfl
 | some o =>
  unfold endR
  dsimp only
  rw[if_pos]
  by_cases a:l=[]
  ·left;rw[a];rfl
  ·right
   intro e
   rcases ZsH (if l.head?=some 45 then -o else o) with h|h
   ·rw[h]at e;exact a e.symm
   ·rw[e]at h;omega
theorem ZrF (l:List UInt8):ZaT l=endR l (ZcQ l [3600,60,1] 0 0):=by
 unfold ZaT endR
 cases ZcQ l [3600,60,1] 0 0 <;> rfl
theorem Zte (l:List UInt8):Ztf l=ZaT l:=by
 rw[ZrF,Ztf]
 by_cases h:l.length % 2=1
 ·rw[Zh8 l h]
 ·rw[Zm0 (by omega),Zm0 (by omega)]
theorem Zdu {n:Int}(h:n <= -86400\/86400<=n):ZaL n=[]:=by unfold ZaL;rw[if_pos h]
end Go.Wk
namespace Go.Proofs.YtpipekfmecikmaaGreatDoor
open Go Go.RowKit Go.Wk
attribute [local irreducible] W RL Does Zat Zaj retQ Calls Pu Stp RD Qy Ay Zak
theorem Zmb (n:Int)(h:0<=n/\n<=9)(w:World):Does Tryz.prog 260 [.int .i64 n] w (fun v O=>v = .string ⟨[UInt8.ofNat (48+n.toNat)].toArray⟩/\O=[]):=by
 have c:(⟨#[48,49,50,51,52,53,54,55,56,57]⟩:ByteArray).extract n.toNat (n+1).toNat=⟨[UInt8.ofNat (48+n.toNat)].toArray⟩:=by
  have b:n=0\/n=1\/n=2\/n=3\/n=4\/n=5\/n=6\/n=7\/n=8\/n=9:=by omega
  rcases b with rfl|rfl|rfl|rfl|rfl|rfl|rfl|rfl|rfl|rfl <;> decide +kernel
 have a:decide (n<10)=true:=decide_eq_true (by omega)
 refine Zaa Tryz.func260 rfl rfl rfl rfl ?_
 repeat (first|(apply RL_pu;rfl;(first|(apply Zdf;rfl;rfl;(constructor <;> omega))|(apply Zaw;rfl;rfl;exact a)|(apply Ze3;rfl;rfl;rfl;omega;omega;(show n+1<=10;omega);exact c)))|refine walk1 ?_)
 exact rtA
theorem Zdy (n:Int)(h:0<=n/\n<=99)(w:World):Does Tryz.prog 204 [.int .i64 n] w (fun v O=>v = .string ⟨(dig2 n).toArray⟩/\O=[]):=by
 have a:=fun w'=>Zmb (n / 10) ⟨by omega,by omega⟩ w'
 have b:=fun w'=>Zmb (n % 10) ⟨by omega,by omega⟩ w'
 refine Zaa Tryz.func204 rfl rfl rfl rfl ?_
 repeat (first|(apply RL_pu;rfl;(first|(apply Pu_quo64;rfl;rfl;omega;omega;decide)|(apply Pu_remE;rfl;rfl;omega;decide)|(apply Zlz;rfl;rfl;(simp only[List.length_cons,List.length_nil];omega))))|(refine js ?_;(first|(refine Zab (fun w' _=>a w') ?_)|(refine Zab (fun w' _=>b w') ?_)))|refine walk1 ?_)
 exact rtA
theorem Zza {G:Prop}(h:G:=by(apply Zaw;rfl;rfl;exact b1)):G:=h
theorem ZB3 {G:Prop}(h:G:=by(first|(apply Pu_quo64;rfl;rfl;omega;omega;decide)|(apply Pu_remE;rfl;rfl;omega;decide)|(apply Zlz;rfl;rfl;(simp only[List.length_cons,List.length_append,List.length_nil,Zle];omega))|(apply Zaw;rfl;rfl;first|exact b1|exact b3)|(apply Zay;rfl;rfl;exact b2)|(apply Zf9;rfl;(constructor <;> omega))|(apply Zan;rfl;rfl;first|exact c1|exact c2))):G:=h
theorem ZjC {G G':Prop}(k:G')(h:Hold G'->G:=by intro k9;(first|refine und ?_|(apply RL_pu;rfl;exact ZB3)|(refine js ?_;(first|(refine Zab (fun w' _=>h1 w') ?_)|(refine Zab (fun w' _=>h2 w') ?_)|(refine Zab (fun w' _=>h3 w') ?_)))|refine walk1 ?_);exact k9.out):G:=h ⟨k⟩
theorem ZcH (a:Int)(w:World):Does Tryz.prog 138 [.int .i64 a] w (fun v O=>v = .string ⟨(ZaL a).toArray⟩/\O=[]):=by
 refine Zaa Tryz.func138 rfl rfl rfl rfl ?_
 by_cases e:a < -86399
 ·have b1:decide (a < -86399)=true:=decide_eq_true e
  rw[Zdu (.inl (by omega))]
  repeat (first|refine und ?_|(apply RL_pu;rfl;exact Zza)|refine walk1 ?_)
  exact rtA
 have b1:decide (a < -86399)=false:=decide_eq_false e
 by_cases d:86399<a
 ·have b2:decide (86399<a)=true:=decide_eq_true d
  rw[Zdu (.inr (by omega))]
  repeat (first|refine und ?_|(apply RL_pu;rfl;(first|exact Zza|(apply Zay;rfl;rfl;exact b2)))|refine walk1 ?_)
  exact rtA
 have b2:decide (86399<a)=false:=decide_eq_false d
 have g:ZaL a=(if a<0 then (45:UInt8) else 43)::(dig2 ((if a<0 then -a else a) / 3600)++(if (if a<0 then -a else a) % 3600=0 then [] else dig2 ((if a<0 then -a else a) / 60 % 60))++(if (if a<0 then -a else a) % 60=0 then [] else dig2 ((if a<0 then -a else a) % 60))):=by
  unfold ZaL
  rw[if_neg (by omega)]
 rw[g]
 by_cases f:a<0
 ·have b3:decide (a<0)=true:=decide_eq_true f
  simp only[if_pos f]
  obtain⟨x,hx⟩:∃ x,-a=x:=⟨_,rfl⟩
  rw[hx]
  have h1:=fun w'=>Zdy (x / 3600) ⟨by omega,by omega⟩ w'
  have h2:=fun w'=>Zdy (x / 60 % 60) ⟨by omega,by omega⟩ w'
  have h3:=fun w'=>Zdy (x % 60) ⟨by omega,by omega⟩ w'
  by_cases c:x % 3600=0
  ·have c1:(!decide (x % 3600=0))=false:=by rw[decide_eq_true c];rfl
   have b:x % 60=0:=by omega
   have c2:(!decide (x % 60=0))=false:=by rw[decide_eq_true b];rfl
   rw[if_pos c,if_pos b]
   subst hx
   repeat refine ZjC ?_
   exact ret_1 _ [] (.tmp rfl) .nil ⟨by simp,rfl⟩
  ·have c1:(!decide (x % 3600=0))=true:=by rw[decide_eq_false c];rfl
   rw[if_neg c]
   by_cases b:x % 60=0
   ·have c2:(!decide (x % 60=0))=false:=by rw[decide_eq_true b];rfl
    rw[if_pos b]
    subst hx
    repeat refine ZjC ?_
    exact ret_1 _ [] (.tmp rfl) .nil ⟨by simp,rfl⟩
   ·have c2:(!decide (x % 60=0))=true:=by rw[decide_eq_false b];rfl
    rw[if_neg b]
    subst hx
    repeat refine ZjC ?_
    exact ret_1 _ [] (.tmp rfl) .nil ⟨by simp,rfl⟩
 ·have b3:decide (a<0)=false:=decide_eq_false f
  simp only[if_neg f]
  have h1:=fun w'=>Zdy (a / 3600) ⟨by omega,by omega⟩ w'
  have h2:=fun w'=>Zdy (a / 60 % 60) ⟨by omega,by omega⟩ w'
  have h3:=fun w'=>Zdy (a % 60) ⟨by omega,by omega⟩ w'
  by_cases c:a % 3600=0
  ·have c1:(!decide (a % 3600=0))=false:=by rw[decide_eq_true c];rfl
   have b:a % 60=0:=by omega
   have c2:(!decide (a % 60=0))=false:=by rw[decide_eq_true b];rfl
   rw[if_pos c,if_pos b]
   repeat refine ZjC ?_
   exact ret_1 _ [] (.tmp rfl) .nil ⟨by simp,rfl⟩
  ·have c1:(!decide (a % 3600=0))=true:=by rw[decide_eq_false c];rfl
   rw[if_neg c]
   by_cases b:a % 60=0
   ·have c2:(!decide (a % 60=0))=false:=by rw[decide_eq_true b];rfl
    rw[if_pos b]
    repeat refine ZjC ?_
    exact ret_1 _ [] (.tmp rfl) .nil ⟨by simp,rfl⟩
   ·have c2:(!decide (a % 60=0))=true:=by rw[decide_eq_false b];rfl
    rw[if_neg b]
    repeat refine ZjC ?_
    exact ret_1 _ [] (.tmp rfl) .nil ⟨by simp,rfl⟩
def optN:Option Int->Int
 | some n=>n
 | none => -1
theorem ZnM {G:Prop}(h:G:=by(first|(apply Zdf;rfl;rfl;(constructor <;> omega))|(apply Za0;rfl;rfl;omega;omega;first|exact hg1|exact hg2)|(apply Zaw;rfl;rfl;first|exact b1|exact b3)|(apply Zay;rfl;rfl;first|exact b0|exact b2|exact b4)|(apply ZAF;rfl;rfl;(constructor <;> omega))|(apply Pu_conv64;rfl;(constructor <;> omega)))):G:=h
theorem ZuG {G:Prop}(h:G:=by first|(apply Qy_y;rfl;exact ZnM)|exact QyA):G:=h
theorem Zyt {G:Prop}(h:G:=by repeat (first|exact QF.nil|(apply QF.mk;rfl;rfl;decide +kernel;exact ZuG))):G:=h
theorem ZlQ {G G':Prop}(k:G')(h:Hold G'->G:=by intro k9;(first|refine und ?_|(apply RL_pu;rfl;exact ZnM)|(apply RD_Q;rfl;rfl;decide +kernel;rfl;rfl;exact ZuG)|refine walk1 ?_|(refine jn ?_;(try intro F);(apply Zad;first|exact ZnM|exact PuA);first|refine⟨_,EndsA,Zyt,?_⟩|refine fin ?_));exact k9.out):G:=h ⟨k⟩
theorem Zrl (s:ByteArray)(i:Nat)(t:(s.size:Int)<=9223372036854775000)(r:(i:Int)<=9223372036854775000)(w:World):Does Tryz.prog 284 [.string s,.int .i64 i] w (fun v O=>v = .int .i64 (optN (twoR s.data.toList i))/\O=[]):=by
 have m:s.data.toList.length=s.size:=rfl
 unfold twoR
 refine Zaa Tryz.func284 rfl rfl rfl rfl ?_
 by_cases b:s.size<i+2
 ·have b0:decide ((s.size:Int)<(i:Int)+2)=true:=decide_eq_true (by omega)
  have a:s.data.toList[i+1]?=none:=List.getElem?_eq_none (by omega)
  rw[a]
  rw[show(match s.data.toList[i]?,(none:Option UInt8) with
   | some c,some d=>if digC c.toNat&&digC d.toNat then some (10*((c.toNat:Int) - 48)+((d.toNat:Int) - 48)) else none
   | _,_=>none)=none by cases s.data.toList[i]? <;> rfl]
  repeat refine ZlQ ?_
  exact rtA
 have b0:decide ((s.size:Int)<(i:Int)+2)=false:=decide_eq_false (by omega)
 have hg1:s.data.toList.getD ((i:Int)).toNat 0=s.data.toList[i]:=Zdn (by omega)
 have hg2:s.data.toList.getD ((i:Int)+1).toNat 0=s.data.toList[i+1]:=by rw[show((i:Int)+1).toNat=i+1 by omega];exact Zdn (by omega)
 rw[List.getElem?_eq_getElem (show i<s.data.toList.length by omega),List.getElem?_eq_getElem (show i+1<s.data.toList.length by omega)]
 dsimp only
 generalize s.data.toList[i]=c at *
 generalize s.data.toList[i+1]=d at *
 have p:=c.toNat_lt
 have q:=d.toNat_lt
 unfold digC
 by_cases e:c.toNat<48
 ·have b1:decide ((c.toNat:Int)<48)=true:=decide_eq_true (by omega)
  rw[decide_eq_false (show ¬ (48:Int)<=(c.toNat:Int) by omega)]
  repeat refine ZlQ ?_
  exact rtA
 have b1:decide ((c.toNat:Int)<48)=false:=decide_eq_false (by omega)
 by_cases f:57<c.toNat
 ·have b2:decide (57<(c.toNat:Int))=true:=decide_eq_true (by omega)
  rw[decide_eq_false (show ¬ (c.toNat:Int)<=57 by omega),Bool.and_false]
  repeat refine ZlQ ?_
  exact rtA
 have b2:decide (57<(c.toNat:Int))=false:=decide_eq_false (by omega)
 by_cases g:d.toNat<48
 ·have b3:decide ((d.toNat:Int)<48)=true:=decide_eq_true (by omega)
  rw[decide_eq_false (show ¬ (48:Int)<=(d.toNat:Int) by omega),Bool.false_and,Bool.and_false]
  repeat refine ZlQ ?_
  exact rtA
 have b3:decide ((d.toNat:Int)<48)=false:=decide_eq_false (by omega)
 by_cases j:57<d.toNat
 ·have b4:decide (57<(d.toNat:Int))=true:=decide_eq_true (by omega)
  rw[decide_eq_false (show ¬ (d.toNat:Int)<=57 by omega),Bool.and_false,Bool.and_false]
  repeat refine ZlQ ?_
  exact rtA
 have b4:decide (57<(d.toNat:Int))=false:=decide_eq_false (by omega)
 rw[decide_eq_true (show(48:Int)<=(c.toNat:Int) by omega),decide_eq_true (show(c.toNat:Int)<=57 by omega),decide_eq_true (show(48:Int)<=(d.toNat:Int) by omega),decide_eq_true (show(d.toNat:Int)<=57 by omega)]
 rw[show optN (if (true&&true&&(true&&true))=true then some (10*((c.toNat:Int) - 48)+((d.toNat:Int) - 48)) else none)=10*((c.toNat:Int) - 48)+((d.toNat:Int) - 48) from rfl]
 repeat (first|(apply RL_pu;rfl;exact ZnM)|(apply RD_Q;rfl;rfl;decide +kernel;rfl;rfl;exact ZuG)|refine walk1 ?_|(refine jn ?_;(try intro F);(apply Zad;first|exact ZnM|exact PuA);first|refine⟨_,EndsA,Zyt,?_⟩|refine fin ?_))
 exact rtA
end Go.Proofs.YtpipekfmecikmaaGreatDoor
