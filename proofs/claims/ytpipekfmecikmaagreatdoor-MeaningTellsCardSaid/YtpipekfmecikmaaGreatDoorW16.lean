/- Parts of the proof. -/
import Derived.Test.YtpipekfmecikmaaGreatDoorW15
import Derived.Test.YtpipekfmecikmaaGreatDoorW07
import Derived.Test.YtpipekfmecikmaaGreatDoorW13
import Derived.Test.YtpipekfmecikmaaGreatDoorW01
import Derived.Test.YtpipekfmecikmaaGreatDoorW06
import Derived.Test.YtpipekfmecikmaaGreatDoorW09
import Derived.Test.YtpipekfmecikmaaGreatDoorW04
import Derived.Test.YtpipekfmecikmaaGreatDoorW05
import Derived.Laws.Strings2
set_option maxHeartbeats 4000000
set_option linter.unusedVariables false
set_option linter.unusedSimpArgs false
namespace Go.Wk
open Go Go.RowKit
end Go.Wk
namespace Go.Proofs.YtpipekfmecikmaaGreatDoor
open Go Go.RowKit Go.Wk Go.Lib
attribute [local irreducible] W RL Does Zat Zaj retQ Calls Pu Stp RD Qy Ay Zak RW
def ptsV:Option (List UInt8 × List UInt8)->Value
 | none => .tuple #[.string ByteArray.empty,.string ByteArray.empty,.bool false]
 | some (a,b) => .tuple #[.string ⟨a.toArray⟩,.string ⟨b.toArray⟩,.bool true]
theorem ZfI (l:List UInt8):ZcP l=if (cutV l [47]).2.2=true/\(ZaQ l=2\/ZaQ l=5) then some ((cutV l [47]).1,(cutV l [47]).2.1) else none:=by
 unfold ZcP cutV
 cases Zbf [47] l [] with
 | none=>simp
 | some ab=>simp
theorem Zk2 (l:List UInt8)(h:ZaQ l=3):Zbl l=some ((cutV l [37,115]).1,(cutV l [37,115]).2.1):=by
 have a:(Zbl l).isSome=true:=by
  rw[Zht]at h
  unfold Zgw at h
  cases hx:(Zbl l).isSome with
  | true=>rfl
  | false =>
   rw[hx]at h
   exfalso
   revert h
   repeat' split
   all_goals first|decide|(intro h;omega)|simp_all
 unfold Zbl cutV at *
 cases hc:Zbf [37,115] l [] with
 | none=>rw[hc]at a;cases a
 | some ab =>
  rw[hc]at a
  dsimp only at a ⊢
  split at a
  ·rename_i b;rw[if_pos b]
  ·cases a
theorem ZvR {G:Prop}(h:G:=by(first|(apply ZhB;rfl;rfl;exact hw)|(apply Zay;rfl;rfl;exact b1)|(apply Zay;rfl;rfl;exact b2)|(apply Zan;rfl;rfl;exact b3))):G:=h
theorem ZvQ {G:Prop}(h:G:=by(first|(apply ZhB;rfl;rfl;exact hw)|(apply Zay;rfl;rfl;exact b1)|(apply Zay;rfl;rfl;exact b2))):G:=h
theorem Zja (a b:Int)(g:I64 a)(i:I64 b)(w:World):Does Tryz.prog 151 [.int .i64 a,.int .i64 b] w (fun v O=>v = .tuple #[.int .i64 (if ZcC (a+b) then a+b else 0),.bool (ZcC (a+b))]/\O=[]):=by
 unfold I64 at g i
 have hw:IntKind.i64.wrap (a+b)=if a+b < -9223372036854775808 then a+b+18446744073709551616 else if 9223372036854775807<a+b then a+b - 18446744073709551616 else a+b:=by
  rw[IntKind.wrap_i64]
  repeat' split
  all_goals omega
 refine Zaa Tryz.func151 rfl rfl rfl rfl ?_
 by_cases e:a+b < -9223372036854775808
 ·rw[if_pos e]at hw
  have c:ZcC (a+b)=false:=by unfold ZcC;rw[decide_eq_false (by omega)];rfl
  have b1:decide (a<a+b+18446744073709551616)=true:=decide_eq_true (by omega)
  have b2:decide (0<b)=false:=decide_eq_false (by omega)
  have b3:(!decide (b=0))=true:=by rw[decide_eq_false (by omega)];rfl
  rw[c]
  repeat (first|(apply RL_pu;rfl;exact ZvR)|refine walk1 ?_)
  exact rtB
 rw[if_neg e]at hw
 by_cases d:9223372036854775807<a+b
 ·rw[if_pos d]at hw
  have c:ZcC (a+b)=false:=by unfold ZcC;rw[decide_eq_false (show ¬ a+b<=9223372036854775807 by omega),Bool.and_false]
  have b1:decide (a<a+b - 18446744073709551616)=false:=decide_eq_false (by omega)
  have b2:decide (0<b)=true:=decide_eq_true (by omega)
  have b3:(!decide (b=0))=true:=by rw[decide_eq_false (by omega)];rfl
  rw[c]
  repeat (first|(apply RL_pu;rfl;exact ZvR)|refine walk1 ?_)
  exact rtB
 rw[if_neg d]at hw
 have c:ZcC (a+b)=true:=by unfold ZcC;rw[decide_eq_true (by omega),decide_eq_true (by omega)];rfl
 rw[c,if_pos rfl]
 by_cases f:0<b
 ·have b1:decide (a<a+b)=true:=decide_eq_true (by omega)
  have b2:decide (0<b)=true:=decide_eq_true f
  repeat (first|(apply RL_pu;rfl;exact ZvQ)|refine walk1 ?_)
  exact rtB
 ·have b1:decide (a<a+b)=false:=decide_eq_false (by omega)
  have b2:decide (0<b)=false:=decide_eq_false f
  repeat (first|(apply RL_pu;rfl;exact ZvQ)|refine walk1 ?_)
  exact rtB
theorem ZvP {G:Prop}(h:G:=by(apply Zan;rfl;rfl;exact b2)):G:=h
theorem ZrB (f:ByteArray)(w:World)(j:LibW w)(p:f.size<=1000000000):Does Tryz.prog 146 [.string f] w (fun v O=>v=ptsV (ZcP f.data.toList)/\O=[]):=by
 have c:=fun w' (i:Bel w.heap.size w w')=>Zlg f ⟨#[47]⟩ w' (j.up i) (by omega)
 rw[show(⟨#[47]⟩:ByteArray).data.toList=[47] from rfl]at c
 have d:=fun w' (i:Bel w.heap.size w w')=>Zim f w' (j.up i) p
 rw[ZfI]
 generalize ZaQ f.data.toList=K at *
 generalize cutV f.data.toList [47]=ab at *
 obtain⟨a,b,ok⟩:=ab
 dsimp only at c ⊢
 refine Zaa Tryz.func146 rfl rfl rfl rfl ?_
 cases ok with
 | false =>
  rw[if_neg (by rintro⟨h,_⟩;cases h)]
  repeat (first|refine und ?_|(refine js ?_;(first|(refine Zab c ?_)|(refine Zab d ?_)))|refine walk ?_)
  exact Zdl _ _ _ [] (.tmp rfl) (.tmp rfl) (.tmp rfl) .nil ⟨rfl,rfl⟩
 | true =>
  by_cases e:K=2
  ·subst e
   rw[if_pos ⟨rfl,.inl rfl⟩]
   repeat (first|(refine js ?_;(first|(refine Zab c ?_)|(refine Zab d ?_)))|refine walk ?_)
   exact Zdl _ _ _ [] (.tmp rfl) (.tmp rfl) (.tmp rfl) .nil ⟨rfl,rfl⟩
  ·have b2:(!decide (K=2))=true:=by rw[decide_eq_false e];rfl
   by_cases g:K=5
   ·subst g
    rw[if_pos ⟨rfl,.inr rfl⟩]
    repeat (first|(apply RL_pu;rfl;exact ZvP)|(refine js ?_;(first|(refine Zab c ?_)|(refine Zab d ?_)))|refine walk1 ?_)
    exact Zdl _ _ _ [] (.tmp rfl) (.tmp rfl) (.tmp rfl) .nil ⟨rfl,rfl⟩
   ·have m:(!decide (K=5))=true:=by rw[decide_eq_false g];rfl
    rw[if_neg (by rintro⟨_,h|h⟩;exact e h;exact g h)]
    repeat (first|(apply RL_pu;rfl;(first|exact ZvP|(apply Zan;rfl;rfl;exact m)))|(refine js ?_;(first|(refine Zab c ?_)|(refine Zab d ?_)))|refine walk1 ?_)
    exact Zdl _ _ _ [] (.tmp rfl) (.tmp rfl) (.tmp rfl) .nil ⟨rfl,rfl⟩
theorem ZeX (s:ByteArray):(⟨s.data.toList.toArray⟩:ByteArray)=s:=by
 apply ByteArray.ext
 simp
theorem ZvO {G:Prop}(h:G:=by(apply Zap;rfl;rfl;exact hb0)):G:=h
theorem Zjm {G:Prop}(h:G:=by(first|(apply ZgQ;rfl;rfl;exact q1)|(apply ZgQ;rfl;rfl;exact q2))):G:=h
theorem Zpa {G:Prop}(h:G:=by first|(apply Qy_y;rfl;exact Zjm)|exact QyA):G:=h
theorem Zlw {G:Prop}(h:G:=by repeat (first|exact QF.nil|(apply QF.mk;rfl;rfl;decide +kernel;exact Zpa))):G:=h
theorem ZlD {G:Prop}(h:G:=by(apply Zcl;rfl;rfl;exact hb)):G:=h
theorem ZvN {G:Prop}(h:G:=by(first|(apply Zap;rfl;rfl;exact hb3)|(apply Zap;rfl;rfl;exact hb4)|(apply Zap;rfl;rfl;exact hb1)|(apply Zap;rfl;rfl;exact hb5))):G:=h
theorem Zgz (f c:ByteArray)(j e:Int)(w:World)(N:LibW w)(S:f.size<=1000000000)(hl:c.size<=1000000000)(U:I64 j)(Y:I64 e) :
  Does Tryz.prog 99 [.string f,.int .i64 j,.agg #[.int .i64 e,.string c]] w (fun v O=>v=xpV (Zdp f.data.toList j e c.data.toList)/\O=[]):=by
 have hp:=fun w' (p:Bel w.heap.size w w')=>ZrB f w' (N.up p) S
 have x:=fun w' (p:Bel w.heap.size w w')=>Zim f w' (N.up p) S
 have H:=fun w' (p:Bel w.heap.size w w')=>Zi7 f w' (N.up p) S
 have r:=fun w'=>Zja j e U Y w'
 have T:=Zk2 f.data.toList
 have Q:=ZfZ f.data.toList [37,115]
 have R:f.data.toList.length=f.size:=by simp
 rw[R]at Q
 have J:=ZeX f
 unfold arV at H
 unfold Zdp
 refine Zaa Tryz.func99 rfl rfl rfl rfl ?_
 cases hP:ZcP f.data.toList with
 | some ab =>
  obtain⟨a,b⟩:=ab
  rw[hP]at hp
  simp only[ptsV]at hp
  dsimp only
  by_cases M:e=0
  ·subst M
   rw[if_pos rfl]
   repeat (first|refine walk ?_|(refine jg ?_;(try intro F);(first|(refine Zab hp ?_)|(refine bx ?_;intro m));refine fin ?_)|(refine jn ?_;(try intro F);(first|(refine bx ?_;intro m)|(apply Zad;exact PuA));refine fin ?_))
   exact rtB
  ·rw[if_neg M]
   have hb0:decide (e=0)=false:=decide_eq_false M
   repeat (first|(apply RL_pu;rfl;exact ZvO)|(apply RD_Q;rfl;rfl;decide +kernel;rfl;rfl;exact QyFmtC4)|refine walk1 ?_|(refine jg ?_;(try intro F);(first|(refine Zab hp ?_)|(refine bx ?_;intro m));first|refine⟨_,EndsA,QFFmtC4,?_⟩|refine fin ?_)|(refine jn ?_;(try intro F);(first|(refine bx ?_;intro m)|(apply Zad;first|exact ZvO|exact PuA));first|refine⟨_,EndsA,QFFmtC4,?_⟩|refine fin ?_))
   exact rtB
 | none =>
 rw[hP]at hp
 simp only[ptsV]at hp
 dsimp only
 generalize ZaQ f.data.toList=K at *
 by_cases z:K=3
 ·subst z
  rw[if_pos rfl,T rfl]
  dsimp only
  generalize (cutV f.data.toList [37,115]).1=a at *
  generalize (cutV f.data.toList [37,115]).2.1=b at *
  have W:(⟨a.toArray⟩:ByteArray).size=a.length:=by show a.toArray.size=a.length;simp
  have X:(⟨b.toArray⟩:ByteArray).size=b.length:=by show b.toArray.size=b.length;simp
  have q1:(⟨a.toArray⟩:ByteArray).size+c.size<=9223372036854775807:=by omega
  have q2:((⟨a.toArray⟩:ByteArray)++c).size+(⟨b.toArray⟩:ByteArray).size<=9223372036854775807:=by rw[ByteArray.size_append];omega
  have Z:(((⟨a.toArray⟩:ByteArray)++c++⟨b.toArray⟩).size:Int)<=9223372036854775807:=by rw[ByteArray.size_append,ByteArray.size_append];omega
  have hx:((⟨a.toArray⟩:ByteArray)++c++⟨b.toArray⟩).data.toList=a++c.data.toList++b:=by simp
  have I:=ZeX ((⟨a.toArray⟩:ByteArray)++c++⟨b.toArray⟩)
  have s:=fun w'=>Zf5 ((⟨a.toArray⟩:ByteArray)++c++⟨b.toArray⟩) Z w'
  rw[show Zhn ((⟨a.toArray⟩:ByteArray)++c++⟨b.toArray⟩)=Zbs (a++c.data.toList++b) from by unfold Zhn Zbs;rw[hx]]at s
  rw[hx]at I
  have q:=fun w'=>Zgm ((⟨a.toArray⟩:ByteArray)++c++⟨b.toArray⟩) (Zbs (a++c.data.toList++b)) w'
  cases hok:Zbs (a++c.data.toList++b) with
  | false =>
   rw[hok]at s q
   rw[if_neg (by decide)]
   repeat (first|(apply RL_pu;rfl;exact Zjm)|(apply RD_Q;rfl;rfl;decide +kernel;rfl;rfl;exact Zpa)|refine walk1 ?_|(refine jg ?_;(try intro F);(first|(refine Zab hp ?_)|(refine Zab x ?_)|(refine Zab H ?_)|(refine Zab (fun w' p=>s w') ?_)|(refine Zab (fun w' p=>q w') ?_)|(refine bx ?_;intro m));first|refine⟨_,EndsA,Zlw,?_⟩|refine fin ?_)|(refine jn ?_;(try intro F);(first|(refine bx ?_;intro m)|(apply Zad;first|exact Zjm|exact PuA));first|refine⟨_,EndsA,Zlw,?_⟩|refine fin ?_))
   exact rtB
  | true =>
   rw[hok]at s q
   rw[if_pos rfl]
   unfold xpV
   dsimp only
   rw[I]
   repeat (first|(apply RL_pu;rfl;exact Zjm)|(apply RD_Q;rfl;rfl;decide +kernel;rfl;rfl;exact Zpa)|refine walk1 ?_|(refine jg ?_;(try intro F);(first|(refine Zab hp ?_)|(refine Zab x ?_)|(refine Zab H ?_)|(refine Zab (fun w' p=>s w') ?_)|(refine Zab (fun w' p=>q w') ?_)|(refine bx ?_;intro m));first|refine⟨_,EndsA,Zlw,?_⟩|refine fin ?_)|(refine jn ?_;(try intro F);(first|(refine bx ?_;intro m)|(apply Zad;first|exact Zjm|exact PuA));first|refine⟨_,EndsA,Zlw,?_⟩|refine fin ?_))
   exact rtB
 have hb3:decide (K=3)=false:=decide_eq_false z
 rw[if_neg z]
 by_cases D:K=4
 ·subst D
  rw[if_pos rfl]
  cases hok:ZcC (j+e) with
  | false =>
   rw[hok]at r
   rw[if_neg (by rintro⟨h,_⟩;cases h)]
   have u:=fun w'=>Zed 0 w'
   have t:=fun w'=>Zgm ⟨(ZaL 0).toArray⟩ false w'
   rw[if_neg (by decide)]at r
   repeat (first|refine walk ?_|(refine jg ?_;(try intro F);(first|(refine Zab hp ?_)|(refine Zab x ?_)|(refine Zab (fun w' p=>r w') ?_)|(refine Zab (fun w' p=>u w') ?_)|(refine Zab (fun w' p=>t w') ?_)|(refine bx ?_;intro m));refine fin ?_)|(refine jn ?_;(try intro F);(first|(refine bx ?_;intro m)|(apply Zad;exact PuA));refine fin ?_))
   exact rtB
  | true =>
   rw[hok,if_pos rfl]at r
   have u:=fun w'=>Zed (j+e) w'
   have q:=fun ok w'=>Zgm ⟨(ZaL (j+e)).toArray⟩ ok w'
   by_cases L:ZaL (j+e)=[]
   ·rw[if_neg (by rintro⟨_,h⟩;exact h L)]
    have t:=q false
    have hb:(!decide ((⟨(ZaL (j+e)).toArray⟩:ByteArray)=ByteArray.empty))=false:=by rw[L];decide
    repeat (first|(apply RL_pu;rfl;exact ZlD)|(apply RD_Q;rfl;rfl;decide +kernel;rfl;rfl;exact QyFmtC6)|refine walk1 ?_|(refine jg ?_;(try intro F);(first|(refine Zab hp ?_)|(refine Zab x ?_)|(refine Zab (fun w' p=>r w') ?_)|(refine Zab (fun w' p=>u w') ?_)|(refine Zab (fun w' p=>t w') ?_)|(refine bx ?_;intro m));first|refine⟨_,EndsA,QFFmtC6,?_⟩|refine fin ?_)|(refine jn ?_;(try intro F);(first|(refine bx ?_;intro m)|(apply Zad;first|exact ZlD|exact PuA));first|refine⟨_,EndsA,QFFmtC6,?_⟩|refine fin ?_))
    exact rtB
   ·rw[if_pos ⟨rfl,L⟩]
    have t:=q true
    have hb:(!decide ((⟨(ZaL (j+e)).toArray⟩:ByteArray)=ByteArray.empty))=true:=by
     rw[decide_eq_false (fun h=>L (by simpa using congrArg (fun b:ByteArray=>b.data.toList) h))];rfl
    repeat (first|(apply RL_pu;rfl;exact ZlD)|(apply RD_Q;rfl;rfl;decide +kernel;rfl;rfl;exact QyFmtC6)|refine walk1 ?_|(refine jg ?_;(try intro F);(first|(refine Zab hp ?_)|(refine Zab x ?_)|(refine Zab (fun w' p=>r w') ?_)|(refine Zab (fun w' p=>u w') ?_)|(refine Zab (fun w' p=>t w') ?_)|(refine bx ?_;intro m));first|refine⟨_,EndsA,QFFmtC6,?_⟩|refine fin ?_)|(refine jn ?_;(try intro F);(first|(refine bx ?_;intro m)|(apply Zad;first|exact ZlD|exact PuA));first|refine⟨_,EndsA,QFFmtC6,?_⟩|refine fin ?_))
    exact rtB
 have hb4:decide (K=4)=false:=decide_eq_false D
 rw[if_neg D]
 by_cases y:K=1
 ·subst y
  rw[if_pos (.inl rfl)]
  unfold xpV
  dsimp only
  rw[J]
  repeat (first|refine walk ?_|(refine jg ?_;(try intro F);(first|(refine Zab hp ?_)|(refine Zab x ?_)|(refine bx ?_;intro m));refine fin ?_)|(refine jn ?_;(try intro F);(first|(refine bx ?_;intro m)|(apply Zad;exact PuA));refine fin ?_))
  exact rtB
 have hb1:decide (K=1)=false:=decide_eq_false y
 by_cases E:K=5
 ·subst E
  rw[if_pos (.inr rfl)]
  unfold xpV
  dsimp only
  rw[J]
  repeat (first|refine walk ?_|(refine jg ?_;(try intro F);(first|(refine Zab hp ?_)|(refine Zab x ?_)|(refine bx ?_;intro m));refine fin ?_)|(refine jn ?_;(try intro F);(first|(refine bx ?_;intro m)|(apply Zad;exact PuA));refine fin ?_))
  exact rtB
 have hb5:decide (K=5)=false:=decide_eq_false E
 rw[if_neg (by rintro(h|h);exact y h;exact E h)]
 repeat (first|(apply RL_pu;rfl;exact ZvN)|(apply RD_Q;rfl;rfl;decide +kernel;rfl;rfl;exact QyFmtC7)|refine walk1 ?_|(refine jg ?_;(try intro F);(first|(refine Zab hp ?_)|(refine Zab x ?_)|(refine bx ?_;intro m));first|refine⟨_,EndsA,QFFmtC7,?_⟩|refine fin ?_)|(refine jn ?_;(try intro F);(first|(refine bx ?_;intro m)|(apply Zad;first|exact ZvN|exact PuA));first|refine⟨_,EndsA,QFFmtC7,?_⟩|refine fin ?_))
 exact rtB
end Go.Proofs.YtpipekfmecikmaaGreatDoor
namespace Go.Proofs.YtpipekfmecikmaaGreatDoor
open Go Go.RowKit Go.Wk
attribute [local irreducible] W RL Does Zat Zaj retQ Calls Pu Stp RD Qy Ay Zak
end Go.Proofs.YtpipekfmecikmaaGreatDoor
namespace Go.Wk
open Go Go.RowKit
def jan1 (y:Int):Int:=365*y+(y+3) / 4 - (y+99) / 100+(y+399) / 400 - 719528
def Zgg (y:Int):Int:=if ZbZ y then 366 else 365
theorem Zew (y:Int):ZbZ y=true↔y % 4=0/\(y % 100≠0\/y % 400=0):=by
 unfold ZbZ
 simp
theorem ZxE (c:Int):jan1 (c*400)=c*146097 - 719528:=by unfold jan1;omega
theorem ZdC (y:Int):jan1 (y+1)=jan1 y+Zgg y:=by
 unfold Zgg
 have h:=Zew y
 by_cases a:ZbZ y=true
 ·rw[if_pos a]
  have:=h.1 a
  unfold jan1
  omega
 ·rw[if_neg a]
  have:¬ (y % 4=0/\(y % 100≠0\/y % 400=0)):=fun e=>a (h.2 e)
  unfold jan1
  omega
theorem ZeM (y:Int):365<=Zgg y/\Zgg y<=366:=by unfold Zgg;split <;> omega
theorem Zj2 (y:Int):jan1 y=Za5 y 1 1:=by
 unfold Za5 Zb2 jan1
 rw[if_pos (by decide),show((1:Int)+12 - 3).toNat=10 by decide,show ZaY.getD 10 0=306 by decide]
 omega
theorem Zkd (y:Int)(m:Nat)(c:1<=m)(d:m<=11):Za5 y ((m:Int)+1) 1=Za5 y m 1+lenM y m:=by
 have h:=Zew y
 have b:m=1\/m=2\/m=3\/m=4\/m=5\/m=6\/m=7\/m=8\/m=9\/m=10\/m=11:=by omega
 rcases b with rfl|rfl|rfl|rfl|rfl|rfl|rfl|rfl|rfl|rfl|rfl
 ·show Zb2 (y - 1) 14 1=Zb2 (y - 1) 13 1+31
  unfold Zb2
  rw[show((14:Int) - 3).toNat=11 by decide,show((13:Int) - 3).toNat=10 by decide,show ZaY.getD 11 0=337 by decide,show ZaY.getD 10 0=306 by decide]
  omega
 ·show Zb2 y 3 1=Zb2 (y - 1) 14 1+(if ZbZ y then 29 else 28)
  unfold Zb2
  rw[show((14:Int) - 3).toNat=11 by decide,show((3:Int) - 3).toNat=0 by decide,show ZaY.getD 11 0=337 by decide,show ZaY.getD 0 0=0 by decide]
  by_cases a:ZbZ y=true
  ·rw[if_pos a]
   have:=h.1 a
   omega
  ·rw[if_neg a]
   have:¬ (y % 4=0/\(y % 100≠0\/y % 400=0)):=fun e=>a (h.2 e)
   omega
 all_goals
  show Zb2 y _ 1=Zb2 y _ 1+_
  unfold Zb2
 ·show y / 400*146097+y % 400*365+y % 400 / 4 - y % 400 / 100+31+1 - 1 - 719468=y / 400*146097+y % 400*365+y % 400 / 4 - y % 400 / 100+0+1 - 1 - 719468+31
  omega
 ·show y / 400*146097+y % 400*365+y % 400 / 4 - y % 400 / 100+61+1 - 1 - 719468=y / 400*146097+y % 400*365+y % 400 / 4 - y % 400 / 100+31+1 - 1 - 719468+30
  omega
 ·show y / 400*146097+y % 400*365+y % 400 / 4 - y % 400 / 100+92+1 - 1 - 719468=y / 400*146097+y % 400*365+y % 400 / 4 - y % 400 / 100+61+1 - 1 - 719468+31
  omega
 ·show y / 400*146097+y % 400*365+y % 400 / 4 - y % 400 / 100+122+1 - 1 - 719468=y / 400*146097+y % 400*365+y % 400 / 4 - y % 400 / 100+92+1 - 1 - 719468+30
  omega
 ·show y / 400*146097+y % 400*365+y % 400 / 4 - y % 400 / 100+153+1 - 1 - 719468=y / 400*146097+y % 400*365+y % 400 / 4 - y % 400 / 100+122+1 - 1 - 719468+31
  omega
 ·show y / 400*146097+y % 400*365+y % 400 / 4 - y % 400 / 100+184+1 - 1 - 719468=y / 400*146097+y % 400*365+y % 400 / 4 - y % 400 / 100+153+1 - 1 - 719468+31
  omega
 ·show y / 400*146097+y % 400*365+y % 400 / 4 - y % 400 / 100+214+1 - 1 - 719468=y / 400*146097+y % 400*365+y % 400 / 4 - y % 400 / 100+184+1 - 1 - 719468+30
  omega
 ·show y / 400*146097+y % 400*365+y % 400 / 4 - y % 400 / 100+245+1 - 1 - 719468=y / 400*146097+y % 400*365+y % 400 / 4 - y % 400 / 100+214+1 - 1 - 719468+31
  omega
 ·show y / 400*146097+y % 400*365+y % 400 / 4 - y % 400 / 100+275+1 - 1 - 719468=y / 400*146097+y % 400*365+y % 400 / 4 - y % 400 / 100+245+1 - 1 - 719468+30
  omega
theorem Zt1 (y m d:Int):Za5 y m d=Za5 y m 1+d - 1:=by
 unfold Za5 Zb2
 split <;> omega
theorem ZwA (q:Int)(d:0<=q):10<=monN q 11↔306<=q:=by
 have a:ZaY.getD 11 0=337:=by decide
 have b:ZaY.getD 10 0=306:=by decide
 have c:∀ m,monN q m<=m:=by
  intro m
  induction m with
  | zero=>exact Nat.le_refl _
  | succ m ih=>rw[monN];split <;> omega
 rw[monN,monN]
 simp only[a,show ZaY.getD (9+1) 0=306 from b,show ZaY.getD (10+1) 0=337 from a]
 have e:=c 9
 split
 ·constructor <;> intro <;> omega
 ·split
  ·constructor <;> intro <;> omega
  ·constructor <;> intro <;> omega
theorem ZwL (c y:Int)(e:0<=y)(f:y<=399):jan1 (c*400+y+1)=c*146097+(y*365+y / 4 - y / 100)+306 - 719468:=by
 have a:(c*400+y+1+3) / 4=100*c+y / 4+1:=by omega
 have b:(c*400+y+1+99) / 100=4*c+y / 100+1:=by omega
 have d:(c*400+y+1+399) / 400=c+1:=by omega
 unfold jan1
 rw[a,b,d]
 omega
theorem ZfY (n:Int):jan1 (Zcs n)<=n/\n<jan1 (Zcs n+1):=by
 have a:Zcs n=if 10<=monN ((n+719468) % 146097 - (Zcz ((n+719468) % 146097)*365+Zcz ((n+719468) % 146097) / 4 - Zcz ((n+719468) % 146097) / 100)) 11 then (n+719468) / 146097*400+Zcz ((n+719468) % 146097)+1 else (n+719468) / 146097*400+Zcz ((n+719468) % 146097):=rfl
 have b:0<=(n+719468) % 146097/\(n+719468) % 146097<146097:=by omega
 have p:n=(n+719468) / 146097*146097+(n+719468) % 146097 - 719468:=by omega
 have i:=ZpC _ b.1 b.2
 generalize (n+719468) % 146097=r at *
 generalize (n+719468) / 146097=c at *
 generalize Zcz r=y at *
 obtain⟨l,m,o,q⟩:=i
 have f:=ZwA _ o
 have j:=ZwL c y l m
 by_cases h:10<=monN (r - (y*365+y / 4 - y / 100)) 11
 ·rw[if_pos h]at a
  have k:=f.1 h
  have d:=ZdC (c*400+y+1)
  have g:=ZeM (c*400+y+1)
  rw[a,d,j]
  omega
 ·rw[if_neg h]at a
  have k:¬ 306<=r - (y*365+y / 4 - y / 100):=fun e=>h (f.2 e)
  have d:=ZdC (c*400+y)
  have g:=ZeM (c*400+y)
  rw[a]
  omega
theorem Zbk (a:Int)(k:Nat):jan1 a+365*k<=jan1 (a+k):=by
 induction k with
 | zero=>simp
 | succ k ih =>
  have:=ZdC (a+k)
  have b:=ZeM (a+k)
  rw[show a+((k+1:Nat):Int)=a+k+1 by omega,this]
  omega
theorem ZwK {n a b:Int}(d:jan1 a<=n)(e:n<jan1 (a+1))(f:jan1 b<=n)(g:n<jan1 (b+1)):a=b:=by
 by_cases h:a<b
 ·have:=Zbk (a+1) (b - (a+1)).toNat
  rw[show a+1+((b - (a+1)).toNat:Int)=b by omega]at this
  omega
 ·by_cases c:b<a
  ·have:=Zbk (b+1) (a - (b+1)).toNat
   rw[show b+1+((a - (b+1)).toNat:Int)=a by omega]at this
   omega
  ·omega
theorem Zr3 (y m:Int):Za5 y m 1+365<=Za5 (y+1) m 1:=by
 unfold Za5 Zb2
 split <;> omega
theorem Zr4 (y m:Int)(k:Nat):Za5 y m 1+365*k<=Za5 (y+k) m 1:=by
 induction k with
 | zero=>simp
 | succ k ih =>
  have:=Zr3 (y+k) m
  rw[show y+((k+1:Nat):Int)=y+k+1 by omega]
  omega
theorem Zke (y:Int):∀ (m:Nat),m<=11->jan1 y<=Za5 y ((m:Int)+1) 1/\Za5 y ((m:Int)+1) 1<=jan1 y+31*m
 | 0,_=>by rw[Zj2];simp
 | m+1,h=>by
  have c:=Zke y m (by omega)
  have a:=Zkd y (m+1) (by omega) (by omega)
  have b:=Zeu y ((m+1:Nat):Int)
  rw[a]
  rw[show((m+1:Nat):Int)=(m:Int)+1 by omega]at *
  omega
theorem ZiV (y m:Int)(a:1<=m)(b:m<=12):jan1 y<=Za5 y m 1/\Za5 y m 1<=jan1 y+341:=by
 have h:=Zke y (m - 1).toNat (by omega)
 rw[show(((m - 1).toNat:Nat):Int)+1=m by omega]at h
 omega
theorem Zmn {y m:Int}{d:DDay}(h:(onD y m d).2=0):1<=m/\m<=12/\Za5 y m 1 - 6<=(onD y m d).1/\(onD y m d).1<=Za5 y m 1+36:=by
 unfold onD at h ⊢
 by_cases a:Za3 y m 1=false
 ·rw[if_pos a]at h;simp at h
 rw[if_neg a]at h ⊢
 by_cases b:Zbv d=false
 ·rw[if_pos b]at h;simp at h
 rw[if_neg b]at h ⊢
 by_cases c:lenM y m<d.day
 ·rw[if_pos c]at h;simp at h
 rw[if_neg c]
 have q:=Zeu y m
 have i:1<=m/\m<=12:=by
  simp only[Za3,Bool.not_eq_false,Bool.and_eq_true,decide_eq_true_eq]at a
  have e:=a.2
  unfold lenM at e
  by_cases l:m<1\/12<m
  ·rw[if_pos l]at e;omega
  ·omega
 have g:Zbv d=true:=by simpa using b
 refine⟨i.1,i.2,?_⟩
 simp only[Zbv,dayK,Zq7,Bool.and_eq_true,Bool.or_eq_false_iff,Bool.not_eq_true',decide_eq_true_eq,decide_eq_false_iff_not]at g
 simp only[Za3,Bool.not_eq_false,Bool.and_eq_true,decide_eq_true_eq]at a
 obtain⟨⟨k1,k2⟩,o⟩:=g
 have n:d.kind≠2->1<=d.day:=by
  intro k
  have j:(!decide (d.kind=2))=true:=by simpa using k
  obtain⟨⟨⟨⟨⟨_,_⟩,_⟩,f⟩,p⟩,_⟩:=o
  rw[j]at f
  simp at f
  omega
 unfold Ze9 ZaX Zbt
 dsimp only
 split
 ·omega
 ·split
  ·omega
  ·split <;> omega
theorem ZbJ {least:Int}{r:DRule}{i y:Int}{e:Zac}(h:onR least r i y=some e):e.year=y/\e.rule=i/\max r.from_ (-2000000000)<=y/\y<=2000000000/\-604799<=r.at_.sec/\r.at_.sec<=604799/\(onD y r.month r.day).2=0/\e.nominal=86400*(onD y r.month r.day).1+(r.at_.sec+(if r.at_.base=1 then max least (-10800) else 0)):=by
 unfold onR at h
 split at h
 ·cases h
 rename_i b
 split at h
 ·cases h
 rename_i c
 cases h
 have a:ZaI r.at_=true:=by
  cases a:ZaI r.at_
  ·exact absurd (.inr (.inr a)) b
  ·rfl
 simp only[ZaI,Bool.and_eq_true,decide_eq_true_eq]at a
 have f:¬ lastY r<y:=fun h=>b (.inr (.inl h))
 have d:lastY r<=2000000000:=by unfold lastY;split <;> omega
 refine⟨rfl,rfl,?_,by omega,a.1.1.1,a.1.1.2,Decidable.not_not.1 c,?_⟩
 ·have:¬ y<max r.from_ (-2000000000):=fun h=>b (.inl h)
  omega
 ·dsimp only
  omega
theorem ZpY {least:Int}(k:least<=0){r:DRule}{i y:Int}{e:Zac}(h:onR least r i y=some e):jan1 y*86400 - 1700000<=e.nominal/\e.nominal<=jan1 (y+1)*86400+1700000:=by
 obtain⟨_,_,_,_,d,f,a,g⟩:=ZbJ h
 obtain⟨m1,m2,b,c⟩:=Zmn a
 have j:=ZiV y r.month m1 m2
 have m:=ZdC y
 have n:=ZeM y
 have l : -10800<=(if r.at_.base=1 then max least (-10800) else 0)/\(if r.at_.base=1 then max least (-10800) else 0)<=0:=by split <;> omega
 generalize (if r.at_.base=1 then max least (-10800) else 0)=mx at *
 generalize (onD y r.month r.day).1=D at *
 omega
theorem ZkV {least:Int}{r:DRule}{i l y a:Int}{e b:Zac}(h:onR least r i y=some e)(f:onR least r l a=some b)(u:y<a):e.nominal<b.nominal:=by
 obtain⟨_,_,_,_,q,t,g,j⟩:=ZbJ h
 obtain⟨_,_,_,_,g3,g4,c,d⟩:=ZbJ f
 obtain⟨m1,m2,m,n⟩:=Zmn g
 obtain⟨v,w,o,p⟩:=Zmn c
 have k:=Zr4 y r.month (a - y).toNat
 rw[show y+((a - y).toNat:Int)=a by omega]at k
 rw[j,d]
 generalize r.at_.sec+(if r.at_.base=1 then max least (-10800) else 0)=s at *
 generalize (onD y r.month r.day).1=D at *
 generalize (onD a r.month r.day).1=D' at *
 omega
theorem Zdt {y a:Int}(h:jan1 y*86400 - 2100000<jan1 (a+1)*86400+2100000):y<=a+1:=by
 by_cases b:y<=a+1
 ·exact b
 ·have:=Zbk (a+1) (y - (a+1)).toNat
  rw[show a+1+((y - (a+1)).toNat:Int)=y by omega]at this
  omega
theorem Zge {t:Int}(a : -40000000000000000<=t)(b:t<=40000000000000000):jan1 (ZaE t)*86400<=t/\t<jan1 (ZaE t+1)*86400:=by
 have h:=ZfY (t / 86400)
 have c : -2000000000<=Zcs (t / 86400)/\Zcs (t / 86400)<=2000000000:=by
  unfold jan1 at h
  omega
 have e:ZaE t=Zcs (t / 86400):=by unfold ZaE;omega
 rw[e]
 omega
theorem ZzY (y m:Int)(a:1<=m)(b:m<=12):28<=lenM y m:=by
 unfold lenM
 rw[if_neg (by omega)]
 split
 ·split <;> omega
 ·split <;> omega
end Go.Wk
namespace Go.Proofs.YtpipekfmecikmaaGreatDoor
open Go Go.RowKit Go.Wk
theorem ZtM:∀ (l:List DRule) (m:Int),l.foldl (fun m r=>min m r.save) m<=m/\(∀ r∈l,l.foldl (fun m r=>min m r.save) m<=r.save)/\(l.foldl (fun m r=>min m r.save) m=m\/∃ r∈l,l.foldl (fun m r=>min m r.save) m=r.save)
 | [],m=>⟨Int.le_refl _,(fun r h=>by cases h),.inl rfl⟩
 | a::l,m=>by
  obtain⟨e,d,c⟩:=ZtM l (min m a.save)
  rw[List.foldl_cons]
  refine⟨by omega,fun r b=>?_,?_⟩
  ·rcases List.mem_cons.1 b with rfl|b
   ·omega
   ·exact d r b
  ·rcases c with c|⟨r,h4,h5⟩
   ·by_cases f:m<=a.save
    ·exact .inl (by omega)
    ·exact .inr ⟨a,List.mem_cons_self,by omega⟩
   ·exact .inr ⟨r,List.mem_cons_of_mem _ h4,h5⟩
theorem ZsG (x:Int)(h : -86400<x/\x<86400):ZaL x≠[]:=by
 unfold ZaL
 rw[if_neg (by omega)]
 exact fun a=>by cases a
theorem ZoH {α:Type}{l:List α}{k:Nat}{d:α}(h:k<l.length):∃ e,l[k]?=some e/\l.getD k d=e:=⟨l[k],List.getElem?_eq_getElem h,by rw[List.getD_eq_getElem?_getD,List.getElem?_eq_getElem h];rfl⟩
attribute [local irreducible] W RL Does Zat Zaj retQ Calls Pu Stp RD Qy Ay Zak
end Go.Proofs.YtpipekfmecikmaaGreatDoor
namespace Go.Proofs.YtpipekfmecikmaaGreatDoor
open Go Go.RowKit Go.Wk Go.ChangeShapes Go.WideShapes Go.ChangeAt
section
variable {H:Type}{enc:TypeId × Value->H}{w:World}{sp:Nat->Bool}{held:Bool}
def _root_.Go.Wk.DDay.ok (d:DDay):Prop:=inR .i64 d.kind/\inR .i64 d.week/\inR .i64 d.day
def _root_.Go.Wk.DClock.ok (d:DClock):Prop:=inR .i64 d.sec/\inR .i64 d.base
def _root_.Go.Wk.DRule.ok (d:DRule):Prop:=d.name.size<=maxLen/\inR .i64 d.from_/\inR .i64 d.to/\inR .i64 d.month/\DDay.ok d.day/\DClock.ok d.at_/\inR .i64 d.save/\d.letter.size<=maxLen
def _root_.Go.Wk.DUntil.ok (d:DUntil):Prop:=inR .i64 d.year/\inR .i64 d.month/\DDay.ok d.day/\DClock.ok d.at_
def _root_.Go.Wk.DEra.ok (d:DEra):Prop:=inR .i64 d.off/\inR .i64 d.kind/\inR .i64 d.save/\d.set.size<=maxLen/\d.format.size<=maxLen/\DUntil.ok d.til
def _root_.Go.Wk.DLink.ok (d:DLink):Prop:=d.target.size<=maxLen/\d.name.size<=maxLen
theorem Zs5 {n:Nat}{cs:List Value}{y:DataW H × List MemPlace}(h:DataW.trod enc Tryz.prog w 0 sp held n 64 cs=some y):∃ d:DDay,cs=d.enc/\d.ok:=by
 obtain⟨k,f⟩:=Zc9 Tryz.underlying64 h
 rw[show Tryz.prog.cellsOf 64=3 from by kernel_rfl]at k
 have a:Tryz.prog.cellsOf 3=1:=by kernel_rfl
 obtain⟨a0,p,rfl,g⟩:=Zax k
 obtain⟨A,q,rfl,i⟩:=Zax g
 obtain⟨a2,r,rfl,j⟩:=Zax i
 obtain rfl:=List.eq_nil_of_length_eq_zero j
 obtain⟨B,E,s⟩:=f 0 3 0 1 rfl a
 obtain⟨v,b,_,l⟩:=DataW.trod_int Tryz.underlying3 s
 injection b with b _
 subst b
 obtain⟨C,F,t⟩:=f 1 3 1 1 rfl a
 obtain⟨x,c,_,m⟩:=DataW.trod_int Tryz.underlying3 t
 injection c with c _
 subst c
 obtain⟨D,G,u⟩:=f 2 3 2 1 rfl a
 obtain⟨z,e,_,o⟩:=DataW.trod_int Tryz.underlying3 u
 injection e with e _
 subst e
 exact⟨⟨v,x,z⟩,rfl,Zc8 l,Zc8 m,Zc8 o⟩
theorem Zmc {n:Nat}{cs:List Value}{y:DataW H × List MemPlace}(h:DataW.trod enc Tryz.prog w 0 sp held n 66 cs=some y):∃ d:DClock,cs=d.enc/\d.ok:=by
 obtain⟨g,f⟩:=Zc9 Tryz.underlying66 h
 rw[show Tryz.prog.cellsOf 66=2 from by kernel_rfl]at g
 have k:Tryz.prog.cellsOf 2=1:=by kernel_rfl
 have l:Tryz.prog.cellsOf 3=1:=by kernel_rfl
 obtain⟨a0,m,rfl,c⟩:=Zax g
 obtain⟨t,o,rfl,e⟩:=Zax c
 obtain rfl:=List.eq_nil_of_length_eq_zero e
 obtain⟨u,x,p⟩:=f 0 2 0 1 rfl k
 obtain⟨r,a,_,i⟩:=DataW.trod_int Tryz.underlying2 p
 injection a with a _
 subst a
 obtain⟨v,z,q⟩:=f 1 3 1 1 rfl l
 obtain⟨s,b,_,j⟩:=DataW.trod_int Tryz.underlying3 q
 injection b with b _
 subst b
 exact⟨⟨r,s⟩,rfl,Zc8 i,Zc8 j⟩
theorem Zwn {n:Nat}{cs:List Value}{y:DataW H × List MemPlace}(h:DataW.trod enc Tryz.prog w 0 sp held n 68 cs=some y):∃ d:DRule,cs=d.enc/\d.ok:=by
 obtain⟨E,a⟩:=Zc9 Tryz.underlying68 h
 rw[show Tryz.prog.cellsOf 68=11 from by kernel_rfl]at E
 have P:Tryz.prog.cellsOf 2=1:=by kernel_rfl
 have c:Tryz.prog.cellsOf 3=1:=by kernel_rfl
 have A:Tryz.prog.cellsOf 9=1:=by kernel_rfl
 have e:Tryz.prog.cellsOf 64=3:=by kernel_rfl
 have f:Tryz.prog.cellsOf 66=2:=by kernel_rfl
 obtain⟨a0,Q,rfl,o⟩:=Zax E
 obtain⟨a1,R,rfl,p⟩:=Zax o
 obtain⟨a2,S,rfl,q⟩:=Zax p
 obtain⟨a3,T,rfl,r⟩:=Zax q
 obtain⟨a4,U,rfl,s⟩:=Zax r
 obtain⟨a5,V,rfl,t⟩:=Zax s
 obtain⟨a6,W,rfl,u⟩:=Zax t
 obtain⟨a7,X,rfl,v⟩:=Zax u
 obtain⟨a8,Y,rfl,x⟩:=Zax v
 obtain⟨a9,Z,rfl,z⟩:=Zax x
 obtain⟨F,B,rfl,b⟩:=Zax z
 obtain rfl:=List.eq_nil_of_length_eq_zero b
 obtain⟨n0,y0,h0⟩:=a 0 9 0 1 rfl A
 obtain⟨x0,g,_,G⟩:=DataW.trod_string Tryz.underlying9 h0
 injection g with g _
 subst g
 obtain⟨n1,y1,h1⟩:=a 1 3 1 1 rfl c
 obtain⟨x1,i,_,I⟩:=DataW.trod_int Tryz.underlying3 h1
 injection i with i _
 subst i
 obtain⟨n2,y2,h2⟩:=a 2 3 2 1 rfl c
 obtain⟨x2,j,_,J⟩:=DataW.trod_int Tryz.underlying3 h2
 injection j with j _
 subst j
 obtain⟨n3,y3,h3⟩:=a 3 3 3 1 rfl c
 obtain⟨x3,k,_,K⟩:=DataW.trod_int Tryz.underlying3 h3
 injection k with k _
 subst k
 obtain⟨n4,y4,h4⟩:=a 4 64 4 3 rfl e
 obtain⟨x4,C,L⟩:=Zs5 h4
 simp only[DDay.enc,List.cons.injEq,and_true]at C
 obtain⟨rfl,rfl,rfl⟩:=C
 obtain⟨n5,y5,h5⟩:=a 5 66 7 2 rfl f
 obtain⟨x5,D,M⟩:=Zmc h5
 simp only[DClock.enc,List.cons.injEq,and_true]at D
 obtain⟨rfl,rfl⟩:=D
 obtain⟨n6,y6,h6⟩:=a 6 2 9 1 rfl P
 obtain⟨x6,l,_,N⟩:=DataW.trod_int Tryz.underlying2 h6
 injection l with l _
 subst l
 obtain⟨n7,y7,h7⟩:=a 7 9 10 1 rfl A
 obtain⟨x7,m,_,O⟩:=DataW.trod_string Tryz.underlying9 h7
 injection m with m _
 subst m
 exact⟨⟨x0,x1,x2,x3,x4,x5,x6,x7⟩,rfl,G,Zc8 I,Zc8 J,Zc8 K,L,M,Zc8 N,O⟩
theorem Zs4 {n:Nat}{cs:List Value}{y:DataW H × List MemPlace}(h:DataW.trod enc Tryz.prog w 0 sp held n 73 cs=some y):∃ d:DUntil,cs=d.enc/\d.ok:=by
 obtain⟨u,a⟩:=Zc9 Tryz.underlying73 h
 rw[show Tryz.prog.cellsOf 73=8 from by kernel_rfl]at u
 have r:Tryz.prog.cellsOf 3=1:=by kernel_rfl
 have B:Tryz.prog.cellsOf 4=1:=by kernel_rfl
 have b:Tryz.prog.cellsOf 64=3:=by kernel_rfl
 have c:Tryz.prog.cellsOf 66=2:=by kernel_rfl
 obtain⟨a0,C,rfl,i⟩:=Zax u
 obtain⟨V,D,rfl,j⟩:=Zax i
 obtain⟨a2,E,rfl,k⟩:=Zax j
 obtain⟨a3,F,rfl,l⟩:=Zax k
 obtain⟨a4,G,rfl,m⟩:=Zax l
 obtain⟨a5,I,rfl,o⟩:=Zax m
 obtain⟨W,J,rfl,p⟩:=Zax o
 obtain⟨X,K,rfl,q⟩:=Zax p
 obtain rfl:=List.eq_nil_of_length_eq_zero q
 obtain⟨Y,y0,L⟩:=a 0 4 0 1 rfl B
 obtain⟨Q,e,_⟩:=DataW.trod_bool Tryz.underlying4 L
 injection e with e _
 subst e
 obtain⟨Z,y1,M⟩:=a 1 3 1 1 rfl r
 obtain⟨R,f,_,v⟩:=DataW.trod_int Tryz.underlying3 M
 injection f with f _
 subst f
 obtain⟨n2,y2,N⟩:=a 2 3 2 1 rfl r
 obtain⟨S,g,_,x⟩:=DataW.trod_int Tryz.underlying3 N
 injection g with g _
 subst g
 obtain⟨n3,y3,O⟩:=a 3 64 3 3 rfl b
 obtain⟨T,s,z⟩:=Zs5 O
 simp only[DDay.enc,List.cons.injEq,and_true]at s
 obtain⟨rfl,rfl,rfl⟩:=s
 obtain⟨n4,y4,P⟩:=a 4 66 6 2 rfl c
 obtain⟨U,t,A⟩:=Zmc P
 simp only[DClock.enc,List.cons.injEq,and_true]at t
 obtain⟨rfl,rfl⟩:=t
 exact⟨⟨Q,R,S,T,U⟩,rfl,Zc8 v,Zc8 x,z,A⟩
theorem ZzI {n:Nat}{cs:List Value}{y:DataW H × List MemPlace}(h:DataW.trod enc Tryz.prog w 0 sp held n 75 cs=some y):∃ d:DEra,cs=d.enc/\d.ok:=by
 obtain⟨F,a⟩:=Zc9 Tryz.underlying75 h
 rw[show Tryz.prog.cellsOf 75=13 from by kernel_rfl]at F
 have z:Tryz.prog.cellsOf 2=1:=by kernel_rfl
 have Q:Tryz.prog.cellsOf 3=1:=by kernel_rfl
 have A:Tryz.prog.cellsOf 9=1:=by kernel_rfl
 have f:Tryz.prog.cellsOf 73=8:=by kernel_rfl
 obtain⟨a0,R,rfl,m⟩:=Zax F
 obtain⟨a1,S,rfl,o⟩:=Zax m
 obtain⟨a2,T,rfl,p⟩:=Zax o
 obtain⟨a3,U,rfl,q⟩:=Zax p
 obtain⟨a4,V,rfl,r⟩:=Zax q
 obtain⟨a5,W,rfl,s⟩:=Zax r
 obtain⟨a6,X,rfl,t⟩:=Zax s
 obtain⟨a7,Y,rfl,u⟩:=Zax t
 obtain⟨a8,Z,rfl,v⟩:=Zax u
 obtain⟨a9,cs9,rfl,x⟩:=Zax v
 obtain⟨G,B,rfl,b⟩:=Zax x
 obtain⟨I,C,rfl,c⟩:=Zax b
 obtain⟨J,D,rfl,e⟩:=Zax c
 obtain rfl:=List.eq_nil_of_length_eq_zero e
 obtain⟨n0,y0,h0⟩:=a 0 2 0 1 rfl z
 obtain⟨x0,g,_,K⟩:=DataW.trod_int Tryz.underlying2 h0
 injection g with g _
 subst g
 obtain⟨n1,y1,h1⟩:=a 1 3 1 1 rfl Q
 obtain⟨x1,i,_,L⟩:=DataW.trod_int Tryz.underlying3 h1
 injection i with i _
 subst i
 obtain⟨n2,y2,h2⟩:=a 2 2 2 1 rfl z
 obtain⟨x2,j,_,M⟩:=DataW.trod_int Tryz.underlying2 h2
 injection j with j _
 subst j
 obtain⟨n3,y3,h3⟩:=a 3 9 3 1 rfl A
 obtain⟨x3,k,_,N⟩:=DataW.trod_string Tryz.underlying9 h3
 injection k with k _
 subst k
 obtain⟨n4,y4,h4⟩:=a 4 9 4 1 rfl A
 obtain⟨x4,l,_,O⟩:=DataW.trod_string Tryz.underlying9 h4
 injection l with l _
 subst l
 obtain⟨n5,y5,h5⟩:=a 5 73 5 8 rfl f
 obtain⟨x5,E,P⟩:=Zs4 h5
 simp only[DUntil.enc,List.cons.injEq,and_true]at E
 obtain⟨rfl,rfl,rfl,rfl,rfl,rfl,rfl,rfl⟩:=E
 exact⟨⟨x0,x1,x2,x3,x4,x5⟩,rfl,Zc8 K,Zc8 L,Zc8 M,N,O,P⟩
theorem Zwo {n:Nat}{cs:List Value}{y:DataW H × List MemPlace}(h:DataW.trod enc Tryz.prog w 0 sp held n 77 cs=some y):∃ d:DLink,cs=d.enc/\d.ok:=by
 obtain⟨i,g⟩:=Zc9 Tryz.underlying77 h
 rw[show Tryz.prog.cellsOf 77=2 from by kernel_rfl]at i
 have f:Tryz.prog.cellsOf 9=1:=by kernel_rfl
 obtain⟨a0,l,rfl,c⟩:=Zax i
 obtain⟨s,m,rfl,e⟩:=Zax c
 obtain rfl:=List.eq_nil_of_length_eq_zero e
 obtain⟨t,v,o⟩:=g 0 9 0 1 rfl f
 obtain⟨q,a,_,j⟩:=DataW.trod_string Tryz.underlying9 o
 injection a with a _
 subst a
 obtain⟨u,x,p⟩:=g 1 9 1 1 rfl f
 obtain⟨r,b,_,k⟩:=DataW.trod_string Tryz.underlying9 p
 injection b with b _
 subst b
 exact⟨⟨q,r⟩,rfl,j,k⟩
end
end Go.Proofs.YtpipekfmecikmaaGreatDoor
namespace Go.Wk
open Go Go.RowKit
section
variable {P:Program}{n:Nat}{wr:World}{fr:Fr}{O:List It}{ty:TypeId}
end
end Go.Wk
namespace Go.Proofs.YtpipekfmecikmaaGreatDoor
open Go Go.RowKit Go.Wk
attribute [local irreducible] W RL Does Zat Zaj retQ Calls Pu Stp RD Qy Ay Zak
end Go.Proofs.YtpipekfmecikmaaGreatDoor
namespace Go.Wk
open Go Go.RowKit
end Go.Wk
namespace Go.Proofs.YtpipekfmecikmaaGreatDoor
open Go Go.RowKit Go.Wk
end Go.Proofs.YtpipekfmecikmaaGreatDoor
