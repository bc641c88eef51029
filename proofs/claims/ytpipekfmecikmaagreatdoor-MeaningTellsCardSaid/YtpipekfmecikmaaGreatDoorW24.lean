/- Parts of the proof. -/
import Derived.Test.YtpipekfmecikmaaGreatDoorW16
import Derived.Test.YtpipekfmecikmaaGreatDoorW07
import Derived.Test.YtpipekfmecikmaaGreatDoorW10
import Derived.Test.YtpipekfmecikmaaGreatDoorW08
set_option maxHeartbeats 4000000
set_option linter.unusedVariables false
set_option linter.unusedSimpArgs false
namespace Go.Proofs.YtpipekfmecikmaaGreatDoor
open Go Go.RowKit Go.Wk
attribute [local irreducible] W RL Does Zat Zaj retQ Calls Pu Stp RD Qy Ay Zak
theorem Zfq (a b:Int)(d:0<b)(q : -4611686018427387904<=a/\a<=4611686018427387904)(r:b<=4611686018427387904)(w:World):Does Tryz.prog 131 [.int .i64 a,.int .i64 b] w (fun v O=>v = .int .i64 (a / b)/\O=[]):=by
 have j:=Int.tmod_lt_of_pos a d
 have m:=Int.lt_tmod_of_pos a d
 have p:=Zn0 a b
 obtain⟨g,i⟩:=Zfy a b d
 refine Zaa Tryz.func131 rfl rfl rfl rfl ?_
 repeat' (first|(apply RL_pu;rfl;(first|(apply ZuX;rfl;rfl;omega;omega)|(apply Pu_rem;rfl;rfl;omega)))|refine walk1 ?_|(refine Zaf rfl (fun e=>?_) (fun e=>?_)))
 ·obtain⟨c,f⟩:=g (of_decide_eq_true e)
  exact ret_1 _ [] (.tmp rfl) .nil ⟨by rw[<- c],rfl⟩
 ·obtain⟨c,f⟩:=i (of_decide_eq_false e)
  exact ret_1 _ [] (.tmp rfl) .nil ⟨by rw[<- c],rfl⟩
theorem Zzo {G:Prop}(h:G:=by(apply Pu_rem;rfl;rfl;decide)):G:=h
theorem ZjI (y:Int)(w:World):Does Tryz.prog 205 [.int .i64 y] w (fun v O=>v = .bool (ZbZ y)/\O=[]):=by
 rw[show ZbZ y=((decide (y.tmod 4=0)&&!decide (y.tmod 100=0))||decide (y.tmod 400=0)) by
  rw[Bool.eq_iff_iff,Zew]
  simp only[ZhO,Bool.and_eq_true,Bool.or_eq_true,decide_eq_true_eq,Bool.not_eq_true',decide_eq_false_iff_not]
  omega]
 refine Zaa Tryz.func205 rfl rfl rfl rfl ?_
 repeat' (first|(apply RL_pu;rfl;exact Zzo)|refine walk1 ?_|refine und ?_|(refine Zam rfl rfl rfl (fun a=>?_) (fun a=>?_))|(refine Zas rfl rfl rfl (fun a=>?_) (fun a=>?_))|(refine Zaf rfl (fun a=>?_) (fun a=>?_)))
 all_goals exact clo1
theorem ZfE (y m:Int)(w:World):Does Tryz.prog 140 [.int .i64 y,.int .i64 m] w (fun v O=>v = .int .i64 (lenM y m)/\O=[]):=by
 refine Zaa Tryz.func140 rfl rfl rfl rfl ?_
 repeat' (first|(refine js ?_;(refine Zab (fun w' _=>ZjI y w') ?_))|refine walk ?_|(refine Zaf rfl (fun a=>?_) (fun a=>?_)))
 all_goals first|(refine ret_1 _ [] (.tmp rfl) .nil ⟨?_,rfl⟩;first|rfl|(simp only[*,Bool.true_and,Bool.false_and,Bool.true_or,Bool.false_or,Bool.not_true,Bool.not_false];done)|(simp_all [lenM];done)|(simp_all [lenM];omega)|(simp_all [lenM];rw[Bool.eq_iff_iff];simp;omega))|(exfalso;simp_all [lenM];done)|(exfalso;simp_all [lenM];omega)|(exfalso;omega)
theorem ZjG (y:Int)(w:World):Does Tryz.prog 198 [.int .i64 y] w (fun v O=>v = .int .i64 (Zgg y)/\O=[]):=by
 refine Zaa Tryz.func198 rfl rfl rfl rfl ?_
 repeat' (first|(refine js ?_;(refine Zab (fun w' _=>ZjI y w') ?_))|refine walk ?_|(refine Zaf rfl (fun a=>?_) (fun a=>?_)))
 all_goals first|(refine ret_1 _ [] (.tmp rfl) .nil ⟨?_,rfl⟩;first|rfl|(simp only[*,Bool.true_and,Bool.false_and,Bool.true_or,Bool.false_or,Bool.not_true,Bool.not_false];done)|(simp_all [Zgg];done)|(simp_all [Zgg];omega)|(simp_all [Zgg];rw[Bool.eq_iff_iff];simp;omega))|(exfalso;simp_all [Zgg];done)|(exfalso;simp_all [Zgg];omega)|(exfalso;omega)
theorem Zwl (y:Int)(w:World):Does Tryz.prog 257 [.int .i64 y] w (fun v O=>v = .bool (inY y)/\O=[]):=by
 refine Zaa Tryz.func257 rfl rfl rfl rfl ?_
 repeat' (first|refine walk ?_|refine und ?_|(refine Zam rfl rfl rfl (fun a=>?_) (fun a=>?_))|(refine Zas rfl rfl rfl (fun a=>?_) (fun a=>?_))|(refine Zaf rfl (fun a=>?_) (fun a=>?_)))
 all_goals first|(refine ret_1 _ [] (.tmp rfl) .nil ⟨?_,rfl⟩;first|rfl|(simp only[*,Bool.true_and,Bool.false_and,Bool.true_or,Bool.false_or,Bool.not_true,Bool.not_false];done)|(simp_all [inY];done)|(simp_all [inY];omega)|(simp_all [inY];rw[Bool.eq_iff_iff];simp;omega))|(exfalso;simp_all [inY];done)|(exfalso;simp_all [inY];omega)|(exfalso;omega)
structure RyG where
 i:Int
 d:Int
theorem ZkE {G:Prop}(h:G:=by(apply Zdf;rfl;rfl;(constructor <;> omega))):G:=h
theorem Zof (y:Int)(s : -2000000000<=y/\y<=2000000000)(w:World):Does Tryz.prog 258 [.int .i64 y] w (fun v O=>v = .int .i64 (jan1 y)/\O=[]):=by
 have f:∀ i,jan1 i=365*i+(i+3) / 4 - (i+99) / 100+(i+399) / 400 - 719528:=fun _=>rfl
 have e:=fun w'=>Zfq y 400 (by decide) (by omega) (by decide) w'
 refine Zaa Tryz.func258 rfl rfl rfl rfl ?_
 repeat (first|(apply RL_pu;rfl;exact ZkE)|(refine js ?_;(refine Zab (fun w' _=>e w') ?_))|refine walk1 ?_)
 refine Zai [(0,.int .i64 y)] [] (fun g:RyG=>[(4,.int .i64 g.d),(5,.int .i64 g.i)]) (fun _=>[]) (fun g=>y / 400*400<=g.i/\g.i<=y/\g.d=jan1 g.i) (fun g=>(y - g.i).toNat) ⟨y / 400*400,y / 400*146097 - 719528⟩ SFA SOA ⟨Int.le_refl _,by dsimp only;omega,(ZxE _).symm⟩ ?_
 rintro⟨i,d⟩ ⟨h1,h2,h3⟩
 dsimp only at h1 h2 h3 ⊢
 have j:=fun w'=>ZjG i w'
 have m:=ZeM i
 have q:=ZdC i
 have r:=f i
 repeat (first|refine walk ?_)
 refine Zaf rfl (fun c=>?_) (fun c=>?_)
 ·simp only[decide_eq_true_eq]at c
  repeat (first|(apply RL_pu;rfl;exact ZkE)|(refine js ?_;(refine Zab (fun w' _=>j w') ?_))|refine walk1 ?_)
  exact⟨⟨i+1,d+Zgg i⟩,OA,⟨OA,OA,by dsimp only;omega⟩,SFA,SOA⟩
 ·simp only[decide_eq_false_iff_not]at c
  obtain rfl:i=y:=by omega
  repeat (first|refine walk ?_)
  exact ret_1 _ [] (.tmp rfl) .nil ⟨by rw[h3],rfl⟩
theorem Zs3 (y m d:Int)(b : -2000000000<=y/\y<=2000000000)(a : -1000<=d/\d<=1000) : -1000000000000<=Za5 y m d/\Za5 y m d<=1000000000000:=by
 unfold Za5 Zb2
 split
 ·have:=ZbT (m+12 - 3).toNat;omega
 ·have:=ZbT (m - 3).toNat;omega
structure RdG where
 i:Nat
 d:Int
theorem ZqX {G:Prop}(h:G:=by(first|(apply Zaw;rfl;rfl;exact b1)|(apply Zay;rfl;rfl;exact b2))):G:=h
theorem Zzn {G:Prop}(h:G:=by(apply Zaw;rfl;rfl;exact b1)):G:=h
theorem Zrt (y m d:Int)(w:World):Does Tryz.prog 199 [.int .i64 y,.int .i64 m,.int .i64 d] w (fun v O=>v = .tuple #[.int .i64 (if Za3 y m d then Za5 y m d else 0),.int .i64 (if Za3 y m d then 0 else 3)]/\O=[]):=by
 have e:=fun w'=>Zwl y w'
 have x:=fun w'=>ZfE y m w'
 refine Zaa Tryz.func199 rfl rfl rfl rfl ?_
 by_cases c:Za3 y m d=true
 ·obtain⟨r,F,H⟩:=ZdD c
  have u:=c
  simp only[Za3,Bool.and_eq_true,decide_eq_true_eq]at u
  obtain⟨⟨f,A⟩,B⟩:=u
  rw[f]at e
  have b1:decide (d<1)=false:=decide_eq_false (by omega)
  have b2:decide (lenM y m<d)=false:=decide_eq_false (by omega)
  have C:=fun w'=>Zof y r w'
  rw[if_pos c,if_pos c]
  obtain⟨n,rfl⟩:=Int.eq_ofNat_of_zero_le (show 0<=m by omega)
  repeat (first|(apply RL_pu;rfl;exact ZqX)|(refine js ?_;(first|(refine Zab (fun w' _=>e w') ?_)|(refine Zab (fun w' _=>x w') ?_)|(refine Zab (fun w' _=>C w') ?_)))|refine walk1 ?_)
  refine Zai [(0,.int .i64 y),(1,.int .i64 n),(2,.int .i64 d)] [] (fun g:RdG=>[(8,.int .i64 g.d),(9,.int .i64 g.i)]) (fun _=>[]) (fun g=>1<=g.i/\g.i<=n/\g.d=Za5 y g.i 1) (fun g=>n - g.i) ⟨1,jan1 y⟩ SFA SOA ⟨Nat.le_refl _,by dsimp only;omega,Zj2 y⟩ ?_
  rintro⟨i,s⟩ ⟨h4,h5,h6⟩
  dsimp only at h4 h5 h6 ⊢
  have q:=fun w'=>ZfE y i w'
  have D:=Zeu y i
  have E:=Zs3 y i 1 r (by omega)
  repeat (first|refine walk ?_)
  refine Zaf rfl (fun j=>?_) (fun j=>?_)
  ·simp only[decide_eq_true_eq,Int.ofNat_lt]at j
   have z:=Zkd y i h4 (by omega)
   repeat (first|(apply RL_pu;rfl;exact ZkE)|(refine js ?_;(refine Zab (fun w' _=>q w') ?_))|refine walk1 ?_)
   exact⟨⟨i+1,s+lenM y i⟩,OA,⟨OA,OA,by dsimp only;rw[h6,<- z];rfl⟩,SFA,SOA⟩
  ·simp only[decide_eq_false_iff_not,Int.ofNat_lt]at j
   obtain rfl:i=n:=by omega
   repeat (first|(apply RL_pu;rfl;exact ZkE)|refine walk1 ?_)
   exact ret_2 _ _ [] (.tmp rfl) (.tmp rfl) .nil ⟨by rw[Zt1,h6],rfl⟩
 ·rw[if_neg c,if_neg c]
  unfold Za3 at c
  cases f:inY y with
  | false =>
   rw[f]at e
   repeat (first|refine und ?_|(refine js ?_;(refine Zab (fun w' _=>e w') ?_))|refine walk ?_)
   exact rtB
  | true =>
   rw[f]at e c
   by_cases t:d<1
   ·have b1:decide (d<1)=true:=decide_eq_true t
    repeat (first|refine und ?_|(apply RL_pu;rfl;exact Zzn)|(refine js ?_;(refine Zab (fun w' _=>e w') ?_))|refine walk1 ?_)
    exact rtB
   ·have b1:decide (d<1)=false:=decide_eq_false t
    have b2:decide (lenM y m<d)=true:=decide_eq_true (by simp only[Bool.true_and,Bool.and_eq_true,decide_eq_true_eq,not_and]at c;have:=c (by omega);omega)
    repeat (first|(apply RL_pu;rfl;exact ZqX)|(refine js ?_;(first|(refine Zab (fun w' _=>e w') ?_)|(refine Zab (fun w' _=>x w') ?_)))|refine walk1 ?_)
    exact rtB
theorem Zfo (a:Int)(w:World):Does Tryz.prog 200 [.int .i64 a] w (fun v O=>v = .int .i64 (Zeb a)/\O=[]):=by
 have d:=Int.tmod_lt_of_pos a (b:=7) (by decide)
 have f:=Int.lt_tmod_of_pos a (b:=7) (by decide)
 have h:=Zfy a 7 (by decide)
 have e:(a.tmod 7+11).tmod 7=Zeb a:=by
  rw[Int.tmod_eq_emod_of_nonneg (by omega)]
  unfold Zeb
  by_cases c:a.tmod 7<0
  ·have:=(h.1 c).2;omega
  ·have:=(h.2 c).2;omega
 rw[<- e]
 refine Zaa Tryz.func200 rfl rfl rfl rfl ?_
 repeat (first|(apply RL_pu;rfl;exact Zzo)|refine walk1 ?_)
 exact rtA
theorem Zrh (n:Int)(s : -1000000000000000<=n/\n<=1000000000000000)(w:World):Does Tryz.prog 130 [.int .i64 n] w (fun v O=>v = .tuple #[.int .i64 (Zcs n),.int .i64 (n - jan1 (Zcs n))]/\O=[]):=by
 have e:=fun w'=>Zfq n 146097 (by decide) (by omega) (by decide) w'
 refine Zaa Tryz.func130 rfl rfl rfl rfl ?_
 repeat (first|(apply RL_pu;rfl;exact ZkE)|(refine js ?_;(refine Zab (fun w' _=>e w') ?_))|refine walk1 ?_)
 refine Zai [] [] (fun g:RyG=>[(5,.int .i64 g.d),(6,.int .i64 g.i)]) (fun _=>[]) (fun g=>0<=g.d/\g.d=n - jan1 g.i/\n / 146097*400<=g.i/\g.i+g.d<=n / 146097*400+1000000) (fun g=>g.d.toNat) ⟨n / 146097*400,n - n / 146097*146097+719528⟩ SFA SOA ⟨by dsimp only;omega,by dsimp only;rw[ZxE];omega,Int.le_refl _,by dsimp only;omega⟩ ?_
 rintro⟨y,r⟩ ⟨h1,h2,h3,h4⟩
 dsimp only at h1 h2 h3 h4 ⊢
 have j:=fun w'=>ZjG y w'
 have m:=ZeM y
 have q:=ZdC y
 repeat (first|(refine js ?_;(refine Zab (fun w' _=>j w') ?_))|refine walk ?_)
 refine Zaf rfl (fun c=>?_) (fun c=>?_)
 ·simp only[decide_eq_true_eq]at c
  repeat (first|(apply RL_pu;rfl;exact ZkE)|(refine js ?_;(refine Zab (fun w' _=>j w') ?_))|refine walk1 ?_)
  exact⟨⟨y+1,r - Zgg y⟩,OA,⟨OA,by dsimp only;omega,OA,OA⟩,SFA,SOA⟩
 ·simp only[decide_eq_false_iff_not]at c
  have f:=ZfY n
  obtain rfl:y=Zcs n:=ZwK (n:=n) (by omega) (by omega) f.1 f.2
  repeat (first|refine walk ?_)
  exact ret_2 _ _ [] (.tmp rfl) (.tmp rfl) .nil ⟨by rw[h2],rfl⟩
theorem ZjL (t:Int)(e : -4611686018427387904<=t/\t<=4611686018427387904)(w:World):Does Tryz.prog 88 [.int .i64 t] w (fun v O=>v = .int .i64 (ZaE t)/\O=[]):=by
 unfold ZaE
 refine Zaa Tryz.func88 rfl rfl rfl rfl ?_
 have a:=fun w'=>Zfq t 86400 (by decide) (by omega) (by decide) w'
 have b:=fun w'=>Zrh (t / 86400) (by omega) w'
 generalize Zcs (t / 86400)=y at *
 by_cases c:y < -2000000000
 ·have b1:decide (y < -2000000000)=true:=decide_eq_true c
  repeat (first|(apply RL_pu;rfl;exact Zzn)|(refine js ?_;(first|(refine Zab (fun w' _=>a w') ?_)|(refine Zab (fun w' _=>b w') ?_)))|refine walk1 ?_)
  exact ret_1 _ [] (.tmp rfl) .nil ⟨by congr 1;omega,rfl⟩
 have b1:decide (y < -2000000000)=false:=decide_eq_false c
 by_cases d:2000000000<y
 ·have b2:decide (2000000000<y)=true:=decide_eq_true d
  repeat (first|(apply RL_pu;rfl;exact ZqX)|(refine js ?_;(first|(refine Zab (fun w' _=>a w') ?_)|(refine Zab (fun w' _=>b w') ?_)))|refine walk1 ?_)
  exact ret_1 _ [] (.tmp rfl) .nil ⟨by congr 1;omega,rfl⟩
 have b2:decide (2000000000<y)=false:=decide_eq_false d
 repeat (first|(apply RL_pu;rfl;exact ZqX)|(refine js ?_;(first|(refine Zab (fun w' _=>a w') ?_)|(refine Zab (fun w' _=>b w') ?_)))|refine walk1 ?_)
 exact ret_1 _ [] (.tmp rfl) .nil ⟨by congr 1;omega,rfl⟩
def inB (n a b:Int):Bool:=decide (a<=n)&&decide (n<=b)
theorem ZfG (n a b:Int)(w:World):Does Tryz.prog 139 [.int .i64 n,.int .i64 a,.int .i64 b] w (fun v O=>v = .bool (inB n a b)/\O=[]):=by
 refine Zaa Tryz.func139 rfl rfl rfl rfl ?_
 repeat' (first|refine walk ?_|refine und ?_|(refine Zam rfl rfl rfl (fun c=>?_) (fun c=>?_))|(refine Zas rfl rfl rfl (fun c=>?_) (fun c=>?_))|(refine Zaf rfl (fun c=>?_) (fun c=>?_)))
 all_goals first|(refine ret_1 _ [] (.tmp rfl) .nil ⟨?_,rfl⟩;first|rfl|(simp only[*,Bool.true_and,Bool.false_and,Bool.true_or,Bool.false_or,Bool.not_true,Bool.not_false];done)|(simp_all [inB];done)|(simp_all [inB];omega)|(simp_all [inB];rw[Bool.eq_iff_iff];simp;omega))|(exfalso;simp_all [inB];done)|(exfalso;simp_all [inB];omega)|(exfalso;omega)
theorem Zt2 (d:DDay):Zbv d=((decide (d.kind=1)&&decide (d.week=0)&&inB d.day 1 31)||(decide (d.kind=2)&&inB d.week 0 6&&decide (d.day=0))||((decide (d.kind=3)||decide (d.kind=4))&&inB d.week 0 6&&inB d.day 1 31)):=by
 obtain⟨k,w,n⟩:=d
 unfold Zbv Zq7 dayK inB
 dsimp only
 by_cases h:1<=k/\k<=4
 ·obtain rfl|rfl|rfl|rfl:k=1\/k=2\/k=3\/k=4:=by omega
  all_goals
   rw[Bool.eq_iff_iff]
   by_cases a:n=0
   ·subst a;simp;try omega
   ·simp[a];try omega
 ·have b:decide (k=1)=false:=decide_eq_false (by omega)
  have c:decide (k=2)=false:=decide_eq_false (by omega)
  have e:decide (k=3)=false:=decide_eq_false (by omega)
  have f:decide (k=4)=false:=decide_eq_false (by omega)
  have g:(decide (1<=k)&&decide (k<=4))=false:=by simp;omega
  rw[b,c,e,f,g]
  simp
set_option maxHeartbeats 2000000 in
theorem ZjO (d:DDay)(w:World):Does Tryz.prog 92 [.agg (DDay.enc d).toArray] w (fun v O=>v = .int .i64 (if Zbv d then 0 else 2)/\O=[]):=by
 rw[Zt2]
 have b:=fun w'=>ZfG d.week 0 6 w'
 have c:=fun w'=>ZfG d.day 1 31 w'
 generalize inB d.week 0 6=x at *
 generalize inB d.day 1 31=y at *
 obtain⟨k,f,n⟩:=d
 show Does _ _ [.agg #[.int .i64 k,.int .i64 f,.int .i64 n]] w _
 refine Zaa Tryz.func92 rfl rfl rfl rfl ?_
 repeat' (first|(refine js ?_;(first|(refine Zab (fun w' _=>b w') ?_)|(refine Zab (fun w' _=>c w') ?_)|(refine bx ?_;intro e)))|refine walk ?_|(refine Zdc ?_;intro F;(first|(refine Zab (fun w' _=>b w') ?_)|(refine Zab (fun w' _=>c w') ?_));refine⟨_,EndsA,SubO.right _ _,?_⟩)|(refine RD_Lw ?_;intro F;(first|(refine Zab (fun w' _=>b w') ?_)|(refine Zab (fun w' _=>c w') ?_)|(refine bx ?_;intro e)|(apply Zad;exact PuA));refine⟨_,EndsA,QFA,?_⟩)|refine und ?_|(refine Zam rfl rfl rfl (fun a=>?_) (fun a=>?_))|(refine Zas rfl rfl rfl (fun a=>?_) (fun a=>?_))|(refine Zaf rfl (fun a=>?_) (fun a=>?_)))
 all_goals exact clo1
theorem ZjN (d:DClock)(w:World):Does Tryz.prog 93 [.agg (DClock.enc d).toArray] w (fun v O=>v = .int .i64 (if ZaI d then 0 else 2)/\O=[]):=by
 obtain⟨k,b⟩:=d
 show Does _ _ [.agg #[.int .i64 k,.int .i64 b]] w _
 refine Zaa Tryz.func93 rfl rfl rfl rfl ?_
 repeat' (first|(refine js ?_;(refine bx ?_;intro c))|refine walk ?_|refine und ?_|(refine Zam rfl rfl rfl (fun a=>?_) (fun a=>?_))|(refine Zas rfl rfl rfl (fun a=>?_) (fun a=>?_))|(refine Zaf rfl (fun a=>?_) (fun a=>?_)))
 all_goals first|(refine ret_1 _ [] (.tmp rfl) .nil ⟨?_,rfl⟩;first|rfl|(simp only[*,Bool.true_and,Bool.false_and,Bool.true_or,Bool.false_or,Bool.not_true,Bool.not_false];done)|(simp_all [ZaI];done)|(simp_all [ZaI];omega)|(simp_all [ZaI];rw[Bool.eq_iff_iff];simp;omega))|(exfalso;simp_all [ZaI];done)|(exfalso;simp_all [ZaI];omega)|(exfalso;omega)
theorem Zol (y:Int)(w:World):Does Tryz.prog 293 [.int .i64 y] w (fun v O=>v = .bool (ZbZ y)/\O=[]):=by
 rw[show ZbZ y=(decide (y.tmod 4=0)&&(!decide (y.tmod 100=0)||decide (y.tmod 400=0))) by simp only[ZbZ,ZhO]]
 refine Zaa Tryz.func293 rfl rfl rfl rfl ?_
 repeat' (first|(apply RL_pu;rfl;(apply Pu_rem;rfl;rfl;decide))|refine walk1 ?_|refine und ?_|(refine Zam rfl rfl rfl (fun a=>?_) (fun a=>?_))|(refine Zas rfl rfl rfl (fun a=>?_) (fun a=>?_))|(refine Zaf rfl (fun a=>?_) (fun a=>?_)))
 all_goals exact clo1
theorem ZrN (a:Int):ZbZ (a.tmod 400)=ZbZ a:=by
 have h:=Zfy a 400 (by decide)
 have c:a.tmod 400=a % 400\/a.tmod 400=a % 400 - 400:=by
  by_cases b:a.tmod 400<0
  ·have:=(h.1 b).2;omega
  ·have:=(h.2 b).2;omega
 rw[Bool.eq_iff_iff,Zew,Zew]
 rcases c with e|e <;> rw[e] <;> omega
def alwB (a b m:Int)(d:DDay):Bool:=(inB m 1 12&&Zbv d)&&((decide (b<1048576)&&decide (b<a))||decide (d.day<=lenM 2001 m)||(decide (m=2)&&decide (d.day=29)&&decide (a=b)&&decide (b<1048576)&&ZbZ a))
theorem Zsi (a b m:Int)(d:DDay):Zb4 a b m d=alwB a b m d:=by
 unfold Zb4 alwB inB
 by_cases h:1<=m/\m<=12
 ·rw[decide_eq_true h.1,decide_eq_true h.2]
  cases hc:Zbv d with
  | false=>rw[if_pos (.inr (.inr rfl))];rfl
  | true =>
   have n:=ZeB hc
   rw[if_neg (by simp;omega)]
   have k:lenM 2001 m=lenM 1 m:=by
    unfold lenM
    rw[show ZbZ 2001=ZbZ 1 by decide]
   rw[k]
   by_cases c:(b<1048576/\b<a)\/d.day<=lenM 1 m
   ·rw[if_pos c]
    rcases c with⟨c,f⟩|c
    ·rw[decide_eq_true c,decide_eq_true f];rfl
    ·rw[decide_eq_true c];simp
   ·rw[if_neg c]
    have f:(decide (b<1048576)&&decide (b<a))=false:=by simp;omega
    have i:decide (d.day<=lenM 1 m)=false:=decide_eq_false (fun e=>c (.inr e))
    rw[f,i]
    by_cases g:1048576<=b\/a≠b\/m≠2
    ·rw[if_pos g]
     symm
     simp
     omega
    ·rw[if_neg g]
     obtain rfl:m=2:=by omega
     have l:¬ d.day<=28:=fun e=>c (.inr e)
     have j:lenM (a.tmod 400) 2=if ZbZ a then 29 else 28:=by
      show(if ZbZ (a.tmod 400) then (29:Int) else 28)=_
      rw[ZrN]
     rw[j,decide_eq_true (show a=b by omega),decide_eq_true (show b<1048576 by omega)]
     cases ZbZ a with
     | true=>simp;omega
     | false=>simp;omega
 ·rw[if_pos (by omega)]
  have:(decide (1<=m)&&decide (m<=12))=false:=by simp;omega
  rw[this]
  rfl
theorem Zme (a b m:Int)(d:DDay)(w:World):Does Tryz.prog 279 [.int .i64 a,.int .i64 b,.int .i64 m,.agg (DDay.enc d).toArray] w (fun v O=>v = .bool (Zb4 a b m d)/\O=[]):=by
 rw[Zsi]
 unfold alwB
 have f:=fun w'=>ZfG m 1 12 w'
 have g:=fun w'=>ZjO d w'
 have j:=fun w'=>ZfE 2001 m w'
 have p:=fun w'=>Zol a w'
 generalize Zbv d=c at *
 generalize inB m 1 12=x at *
 generalize ZbZ a=y at *
 generalize lenM 2001 m=z at *
 obtain⟨k,r,n⟩:=d
 show Does _ _ [.int .i64 a,.int .i64 b,.int .i64 m,.agg #[.int .i64 k,.int .i64 r,.int .i64 n]] w _
 refine Zaa Tryz.func279 rfl rfl rfl rfl ?_
 repeat' (first|(refine js ?_;(first|(refine Zab (fun w' _=>f w') ?_)|(refine Zab (fun w' _=>g w') ?_)|(refine Zab (fun w' _=>j w') ?_)|(refine Zab (fun w' _=>p w') ?_)|(refine bx ?_;intro q)))|refine walk ?_|(refine Zdc ?_;intro F;(first|(refine Zab (fun w' _=>f w') ?_)|(refine Zab (fun w' _=>g w') ?_)|(refine Zab (fun w' _=>j w') ?_)|(refine Zab (fun w' _=>p w') ?_));refine⟨_,EndsA,SubO.right _ _,?_⟩)|(refine RD_Lw ?_;intro F;(first|(refine Zab (fun w' _=>f w') ?_)|(refine Zab (fun w' _=>g w') ?_)|(refine Zab (fun w' _=>j w') ?_)|(refine Zab (fun w' _=>p w') ?_)|(refine bx ?_;intro q)|(apply Zad;exact PuA));refine⟨_,EndsA,QFA,?_⟩)|refine und ?_|(refine Zam rfl rfl rfl (fun e=>?_) (fun e=>?_))|(refine Zas rfl rfl rfl (fun e=>?_) (fun e=>?_))|(refine Zaf rfl (fun e=>?_) (fun e=>?_)))
 all_goals exact clo1
theorem Zng (x k:Int)(a:0<=k/\k<=6)(h:Zeb x≠k):Zbt (x+1) k=Zbt x k/\x+1<=Zbt x k:=by
 unfold Zbt Zeb at *
 omega
theorem ZoZ (x k:Int)(h:Zeb x=k):Zbt x k=x:=by
 unfold Zbt
 rw[h]
 omega
theorem Zhb (x k:Int)(a:0<=k/\k<=6)(h:Zeb x≠k):ZaX (x - 1) k=ZaX x k/\ZaX x k<=x - 1:=by
 unfold ZaX Zeb at *
 omega
theorem Zi1 (x k:Int)(h:Zeb x=k):ZaX x k=x:=by
 unfold ZaX
 rw[h]
 omega
theorem ZzX {y m:Int}(h:1<=m/\m<=12):1<=lenM y m:=by
 unfold lenM
 rw[if_neg (by omega)]
 split
 ·split <;> omega
 ·split <;> omega
theorem ZqW {G:Prop}(h:G:=by(apply Zaw;rfl;rfl;exact b1)):G:=h
theorem ZqV {G:Prop}(h:G:=by(first|exact ZqW|(apply Zay;rfl;rfl;exact b2))):G:=h
theorem Zvw {G:Prop}(h:G:=by(first|exact ZqW|(apply Zay;rfl;rfl;first|exact b2|exact b3))):G:=h
theorem Zye {G:Prop}(h:G:=by first|(apply Qy_y;rfl;exact Zvw)|exact QyA):G:=h
theorem Zd7 {G:Prop}(h:G:=by repeat (first|exact QF.nil|(apply QF.mk;rfl;rfl;decide +kernel;exact Zye))):G:=h
theorem ZlR {G G':Prop}(k:G')(h:Hold G'->G:=by intro k9;(first|(apply RL_pu;rfl;exact Zvw)|(apply RD_Q;rfl;rfl;decide +kernel;rfl;rfl;exact Zye)|refine walk1 ?_|(refine jg ?_;(try intro F);(first|(refine Zab (fun w' _=>h1 w') ?_)|(refine Zab (fun w' _=>h2 w') ?_)|(refine Zab (fun w' _=>h3 w') ?_)|(refine Zab (fun w' _=>h4 w') ?_));first|refine⟨_,EndsA,Zd7,?_⟩|refine fin ?_)|(refine jn ?_;(try intro F);(apply Zad;first|exact Zvw|exact PuA);first|refine⟨_,EndsA,Zd7,?_⟩|refine fin ?_));exact k9.out):G:=h ⟨k⟩
theorem ZkQ (y m:Int)(d:DDay)(w:World):Does Tryz.prog 132 [.int .i64 y,.int .i64 m,.agg (DDay.enc d).toArray] w (fun v O=>v = .tuple #[.int .i64 (onD y m d).1,.int .i64 (onD y m d).2]/\O=[]):=by
 have h1:=fun w'=>ZfG m 1 12 w'
 have h2:=fun w'=>ZjO d w'
 have h3:=fun w'=>ZfE y m w'
 have h4:=fun w'=>Zrt y m 1 w'
 have M:=Zeu y m
 unfold onD
 cases hm:inB m 1 12 with
 | false =>
  have hok:Za3 y m 1=false:=by
   cases hh:Za3 y m 1 with
   | false=>rfl
   | true =>
    have:=(ZdD hh).2.1
    unfold inB at hm
    rw[decide_eq_true this.1,decide_eq_true this.2]at hm
    cases hm
  rw[hok,if_pos rfl]
  rw[hm]at h1
  obtain⟨k,e,n⟩:=d
  show Does _ _ [.int .i64 y,.int .i64 m,.agg #[.int .i64 k,.int .i64 e,.int .i64 n]] w _
  refine Zaa Tryz.func132 rfl rfl rfl rfl ?_
  repeat (first|refine und ?_|refine walk ?_|(refine jg ?_;(try intro F);(first|(refine Zab (fun w' _=>h1 w') ?_)|(refine Zab (fun w' _=>h2 w') ?_)|(refine Zab (fun w' _=>h3 w') ?_)|(refine Zab (fun w' _=>h4 w') ?_)|(refine bx ?_;intro c));refine fin ?_)|(refine jn ?_;(try intro F);(first|(refine bx ?_;intro c)|(apply Zad;exact PuA));refine fin ?_))
  exact rtB
 | true =>
 have u:=hm
 unfold inB at u
 simp only[Bool.and_eq_true,decide_eq_true_eq]at u
 rw[hm]at h1
 by_cases H:y < -2000000000
 ·have b1:decide (y < -2000000000)=true:=decide_eq_true H
  have hok:Za3 y m 1=false:=by
   cases hh:Za3 y m 1 with
   | false=>rfl
   | true=>have:=(ZdD hh).1;omega
  rw[hok,if_pos rfl]
  obtain⟨k,e,n⟩:=d
  show Does _ _ [.int .i64 y,.int .i64 m,.agg #[.int .i64 k,.int .i64 e,.int .i64 n]] w _
  refine Zaa Tryz.func132 rfl rfl rfl rfl ?_
  repeat (first|refine und ?_|(apply RL_pu;rfl;exact ZqW)|(apply RD_Q;rfl;rfl;decide +kernel;rfl;rfl;exact QyRfC0)|refine walk1 ?_|(refine jg ?_;(try intro F);(first|(refine Zab (fun w' _=>h1 w') ?_)|(refine Zab (fun w' _=>h2 w') ?_)|(refine Zab (fun w' _=>h3 w') ?_)|(refine Zab (fun w' _=>h4 w') ?_)|(refine bx ?_;intro c));first|refine⟨_,EndsA,QFRfC0,?_⟩|refine fin ?_)|(refine jn ?_;(try intro F);(first|(refine bx ?_;intro c)|(apply Zad;first|exact ZqW|exact PuA));first|refine⟨_,EndsA,QFRfC0,?_⟩|refine fin ?_))
  exact rtB
 have b1:decide (y < -2000000000)=false:=decide_eq_false H
 by_cases I:2000000000<y
 ·have b2:decide (2000000000<y)=true:=decide_eq_true I
  have hok:Za3 y m 1=false:=by
   cases hh:Za3 y m 1 with
   | false=>rfl
   | true=>have:=(ZdD hh).1;omega
  rw[hok,if_pos rfl]
  obtain⟨k,e,n⟩:=d
  show Does _ _ [.int .i64 y,.int .i64 m,.agg #[.int .i64 k,.int .i64 e,.int .i64 n]] w _
  refine Zaa Tryz.func132 rfl rfl rfl rfl ?_
  repeat (first|refine und ?_|(apply RL_pu;rfl;exact ZqV)|(apply RD_Q;rfl;rfl;decide +kernel;rfl;rfl;exact QyRfC1)|refine walk1 ?_|(refine jg ?_;(try intro F);(first|(refine Zab (fun w' _=>h1 w') ?_)|(refine Zab (fun w' _=>h2 w') ?_)|(refine Zab (fun w' _=>h3 w') ?_)|(refine Zab (fun w' _=>h4 w') ?_)|(refine bx ?_;intro c));first|refine⟨_,EndsA,QFRfC1,?_⟩|refine fin ?_)|(refine jn ?_;(try intro F);(first|(refine bx ?_;intro c)|(apply Zad;first|exact ZqV|exact PuA));first|refine⟨_,EndsA,QFRfC1,?_⟩|refine fin ?_))
  exact rtB
 have b2:decide (2000000000<y)=false:=decide_eq_false I
 have hok:Za3 y m 1=true:=by
  have:=ZzX (y:=y) u
  unfold Za3 inY
  rw[decide_eq_true (show -2000000000<=y by omega),decide_eq_true (show y<=2000000000 by omega),decide_eq_true (show 1<=lenM y m from this)]
  rfl
 rw[hok,if_neg (by decide)]
 rw[if_pos hok,if_pos hok]at h4
 have K:=Zlf hok
 cases q:Zbv d with
 | false =>
  rw[if_pos rfl]
  rw[q]at h2
  obtain⟨k,e,n⟩:=d
  show Does _ _ [.int .i64 y,.int .i64 m,.agg #[.int .i64 k,.int .i64 e,.int .i64 n]] w _
  refine Zaa Tryz.func132 rfl rfl rfl rfl ?_
  repeat (first|(apply RL_pu;rfl;exact ZqV)|(apply RD_Q;rfl;rfl;decide +kernel;rfl;rfl;exact QyRfC1)|refine walk1 ?_|(refine jg ?_;(try intro F);(first|(refine Zab (fun w' _=>h1 w') ?_)|(refine Zab (fun w' _=>h2 w') ?_)|(refine Zab (fun w' _=>h3 w') ?_)|(refine Zab (fun w' _=>h4 w') ?_)|(refine bx ?_;intro c));first|refine⟨_,EndsA,QFRfC1,?_⟩|refine fin ?_)|(refine jn ?_;(try intro F);(first|(refine bx ?_;intro c)|(apply Zad;first|exact ZqV|exact PuA));first|refine⟨_,EndsA,QFRfC1,?_⟩|refine fin ?_))
  exact rtB
 | true =>
 rw[if_neg (by decide)]
 have r:=ZeB q
 rw[q]at h2
 generalize Za5 y m 1=f at *
 generalize lenM y m=L at *
 obtain⟨k,e,n⟩:=d
 dsimp only at r ⊢
 replace h2:∀ w',Does Tryz.prog 92 [.agg #[.int .i64 k,.int .i64 e,.int .i64 n]] w' (fun v O=>v = .int .i64 0/\O=[]):=h2
 show Does _ _ [.int .i64 y,.int .i64 m,.agg #[.int .i64 k,.int .i64 e,.int .i64 n]] w _
 refine Zaa Tryz.func132 rfl rfl rfl rfl ?_
 by_cases J:L<n
 ·have b3:decide (L<n)=true:=decide_eq_true J
  rw[if_pos J]
  repeat (first|refine ZlR ?_|(refine jg ?_;(try intro F);(refine bx ?_;intro c);first|refine⟨_,EndsA,Zd7,?_⟩|refine fin ?_)|(refine jn ?_;(try intro F);(refine bx ?_;intro c);first|refine⟨_,EndsA,Zd7,?_⟩|refine fin ?_))
  exact rtB
 have b3:decide (L<n)=false:=decide_eq_false J
 rw[if_neg J]
 unfold Ze9
 dsimp only
 obtain rfl|rfl|rfl|rfl:k=1\/k=2\/k=3\/k=4:=by omega
 ·repeat (first|refine ZlR ?_|(refine jg ?_;(try intro F);(refine bx ?_;intro c);first|refine⟨_,EndsA,Zd7,?_⟩|refine fin ?_)|(refine jn ?_;(try intro F);(refine bx ?_;intro c);first|refine⟨_,EndsA,Zd7,?_⟩|refine fin ?_))
  exact rtB
 ·rw[if_neg (by decide),if_pos rfl]
  repeat (first|refine ZlR ?_|(refine jg ?_;(try intro F);(refine bx ?_;intro c);first|refine⟨_,EndsA,Zd7,?_⟩|refine fin ?_)|(refine jn ?_;(try intro F);(refine bx ?_;intro c);first|refine⟨_,EndsA,Zd7,?_⟩|refine fin ?_))
  have j:ZaX (f+L - 1) e<=f+L - 1/\f+L - 8<=ZaX (f+L - 1) e:=by unfold ZaX;omega
  obtain⟨B,s⟩:∃ B,ZaX (f+L - 1) e=B:=⟨_,rfl⟩
  rw[s]at j ⊢
  refine Zai [(5,.pointer (some ⟨c,0,none⟩))] [.blk c [.int .i64 2,.int .i64 e,.int .i64 n] 64] (fun x:Int=>[(11,.int .i64 x)]) (fun _=>[]) (fun x=>ZaX x e=B/\B<=x/\x<=f+L - 1) (fun x=>(x - B).toNat) (f+L - 1) SFA SOA ⟨s,j.1,Int.le_refl _⟩ ?_
  rintro x ⟨t,i2,i3⟩
  have z:=fun w'=>Zfo x w'
  have D:=Zhb x e r.2.1
  have E:=Zi1 x e
  repeat (first|refine walk ?_|(refine jg ?_;(try intro F);(first|(refine Zab (fun w' _=>z w') ?_)|(refine bx ?_;intro c));refine fin ?_)|(refine jn ?_;(try intro F);(first|(refine bx ?_;intro c)|(apply Zad;exact PuA));refine fin ?_))
  refine Zaf rfl (fun q=>?_) (fun q=>?_)
  ·have hx:=D (by simpa using q)
   repeat (first|refine walk ?_|(refine jn ?_;(try intro F);(first|(refine bx ?_;intro c)|(apply Zad;exact PuA));refine fin ?_))
   exact⟨x - 1,OA,⟨by rw[hx.1];exact t,OA,OA⟩,SFA,SOA⟩
  ·have hx:=E (by simpa using q)
   repeat (first|refine walk ?_|(refine jn ?_;(try intro F);(first|(refine bx ?_;intro c)|(apply Zad;exact PuA));refine fin ?_))
   exact ret_2 _ _ [] (.tmp rfl) (.tmp rfl) .nil ⟨by rw[<- t,hx],rfl⟩
 ·rw[if_neg (by decide),if_neg (by decide),if_pos rfl]
  repeat (first|refine ZlR ?_|(refine jg ?_;(try intro F);(refine bx ?_;intro c);first|refine⟨_,EndsA,Zd7,?_⟩|refine fin ?_)|(refine jn ?_;(try intro F);(refine bx ?_;intro c);first|refine⟨_,EndsA,Zd7,?_⟩|refine fin ?_))
  have j:f+n - 1<=Zbt (f+n - 1) e/\Zbt (f+n - 1) e<=f+n+6:=by unfold Zbt;omega
  obtain⟨B,s⟩:∃ B,Zbt (f+n - 1) e=B:=⟨_,rfl⟩
  rw[s]at j ⊢
  refine Zai [(5,.pointer (some ⟨c,0,none⟩))] [.blk c [.int .i64 3,.int .i64 e,.int .i64 n] 64] (fun x:Int=>[(10,.int .i64 x)]) (fun _=>[]) (fun x=>Zbt x e=B/\x<=B/\f+n - 1<=x) (fun x=>(B - x).toNat) (f+n - 1) SFA SOA ⟨s,j.1,Int.le_refl _⟩ ?_
  rintro x ⟨t,i2,i3⟩
  have z:=fun w'=>Zfo x w'
  have D:=Zng x e r.2.1
  have E:=ZoZ x e
  repeat (first|refine walk ?_|(refine jg ?_;(try intro F);(first|(refine Zab (fun w' _=>z w') ?_)|(refine bx ?_;intro c));refine fin ?_)|(refine jn ?_;(try intro F);(first|(refine bx ?_;intro c)|(apply Zad;exact PuA));refine fin ?_))
  refine Zaf rfl (fun q=>?_) (fun q=>?_)
  ·have hx:=D (by simpa using q)
   repeat (first|refine walk ?_|(refine jn ?_;(try intro F);(first|(refine bx ?_;intro c)|(apply Zad;exact PuA));refine fin ?_))
   exact⟨x+1,OA,⟨by rw[hx.1];exact t,OA,OA⟩,SFA,SOA⟩
  ·have hx:=E (by simpa using q)
   repeat (first|refine walk ?_|(refine jn ?_;(try intro F);(first|(refine bx ?_;intro c)|(apply Zad;exact PuA));refine fin ?_))
   exact ret_2 _ _ [] (.tmp rfl) (.tmp rfl) .nil ⟨by rw[<- t,hx],rfl⟩
 ·rw[if_neg (by decide),if_neg (by decide),if_neg (by decide)]
  repeat (first|refine ZlR ?_|(refine jg ?_;(try intro F);(refine bx ?_;intro c);first|refine⟨_,EndsA,Zd7,?_⟩|refine fin ?_)|(refine jn ?_;(try intro F);(refine bx ?_;intro c);first|refine⟨_,EndsA,Zd7,?_⟩|refine fin ?_))
  have j:ZaX (f+n - 1) e<=f+n - 1/\f+n - 8<=ZaX (f+n - 1) e:=by unfold ZaX;omega
  obtain⟨B,s⟩:∃ B,ZaX (f+n - 1) e=B:=⟨_,rfl⟩
  rw[s]at j ⊢
  refine Zai [(5,.pointer (some ⟨c,0,none⟩))] [.blk c [.int .i64 4,.int .i64 e,.int .i64 n] 64] (fun x:Int=>[(11,.int .i64 x)]) (fun _=>[]) (fun x=>ZaX x e=B/\B<=x/\x<=f+n - 1) (fun x=>(x - B).toNat) (f+n - 1) SFA SOA ⟨s,j.1,Int.le_refl _⟩ ?_
  rintro x ⟨t,i2,i3⟩
  have z:=fun w'=>Zfo x w'
  have D:=Zhb x e r.2.1
  have E:=Zi1 x e
  repeat (first|refine walk ?_|(refine jg ?_;(try intro F);(first|(refine Zab (fun w' _=>z w') ?_)|(refine bx ?_;intro c));refine fin ?_)|(refine jn ?_;(try intro F);(first|(refine bx ?_;intro c)|(apply Zad;exact PuA));refine fin ?_))
  refine Zaf rfl (fun q=>?_) (fun q=>?_)
  ·have hx:=D (by simpa using q)
   repeat (first|refine walk ?_|(refine jn ?_;(try intro F);(first|(refine bx ?_;intro c)|(apply Zad;exact PuA));refine fin ?_))
   exact⟨x - 1,OA,⟨by rw[hx.1];exact t,OA,OA⟩,SFA,SOA⟩
  ·have hx:=E (by simpa using q)
   repeat (first|refine walk ?_|(refine jn ?_;(try intro F);(first|(refine bx ?_;intro c)|(apply Zad;exact PuA));refine fin ?_))
   exact ret_2 _ _ [] (.tmp rfl) (.tmp rfl) .nil ⟨by rw[<- t,hx],rfl⟩
end Go.Proofs.YtpipekfmecikmaaGreatDoor
namespace Go.Wk
open Go Go.RowKit
def letC (c:Int):Bool:=(decide (65<=c)&&decide (c<=90))||(decide (97<=c)&&decide (c<=122))
def digC (c:Int):Bool:=decide (48<=c)&&decide (c<=57)
theorem Ztu (c:Nat):letC c=decide (ZbO c=1):=by
 unfold letC ZbO
 by_cases h:(65<=c/\c<=90)\/(97<=c/\c<=122)
 ·rw[if_pos h,Bool.eq_iff_iff]
  simp only[Bool.or_eq_true,Bool.and_eq_true,decide_eq_true_eq]
  constructor
  ·intro;trivial
  ·intro;omega
 ·rw[if_neg h,Bool.eq_iff_iff]
  simp only[Bool.or_eq_true,Bool.and_eq_true,decide_eq_true_eq]
  constructor
  ·intro;omega
  ·intro a
   exfalso
   revert a
   repeat' split
   all_goals decide
def Zrg (c:Int):Bool:=letC c||(digC c||(decide (c=95)||decide (c=45)))
def Zoq (c:Int):Bool:=letC c||(digC c||(decide (c=46)||(decide (c=95)||(decide (c=43)||decide (c=45)))))
theorem Znc (c:Nat):(!decide (ZbO c &&& 1=0))=letC c:=by
 rw[Ztu]
 rcases List.mem_cons.1 (Znd c) with h|h
 ·rw[h];rfl
 ·simp only[List.mem_cons,List.mem_nil_iff,or_false]at h
  rcases h with h|h|h|h|h <;> rw[h] <;> rfl
theorem Zne:∀ c:Fin 256,(!decide (ZbO c.val &&& 15=0))=Zrg (c.val:Nat)/\(!decide (ZbO c.val &&& 31=0))=Zoq (c.val:Nat):=by decide +kernel
theorem Zud (c:UInt8):(!decide (ZbO c.toNat &&& 15=0))=Zrg c.toNat:=(Zne ⟨c.toNat,c.toNat_lt⟩).1
theorem Zsf (c:UInt8):(!decide (ZbO c.toNat &&& 31=0))=Zoq c.toNat:=(Zne ⟨c.toNat,c.toNat_lt⟩).2
end Go.Wk
namespace Go.Proofs.YtpipekfmecikmaaGreatDoor
open Go Go.RowKit Go.Wk
attribute [local irreducible] W RL Does Zat Zaj retQ Calls Pu Stp RD Qy Ay Zak
theorem Zcq (c:Int)(w:World):Does Tryz.prog 243 [.int .u8 c] w (fun v O=>v = .bool (letC c)/\O=[]):=by
 refine Zaa Tryz.func243 rfl rfl rfl rfl ?_
 repeat' (first|refine walk ?_|refine und ?_|(refine Zam rfl rfl rfl (fun a=>?_) (fun a=>?_))|(refine Zas rfl rfl rfl (fun a=>?_) (fun a=>?_))|(refine Zaf rfl (fun a=>?_) (fun a=>?_)))
 all_goals first|(refine ret_1 _ [] (.tmp rfl) .nil ⟨?_,rfl⟩;first|rfl|(simp only[*,Bool.true_and,Bool.false_and,Bool.true_or,Bool.false_or,Bool.not_true,Bool.not_false];done)|(simp_all [letC];done)|(simp_all [letC];omega)|(simp_all [letC];rw[Bool.eq_iff_iff];simp;omega))|(exfalso;simp_all [letC];done)|(exfalso;simp_all [letC];omega)|(exfalso;omega)
theorem Zh1 (c:Int)(w:World):Does Tryz.prog 244 [.int .u8 c] w (fun v O=>v = .bool (digC c)/\O=[]):=by
 refine Zaa Tryz.func244 rfl rfl rfl rfl ?_
 repeat' (first|refine walk ?_|refine und ?_|(refine Zam rfl rfl rfl (fun a=>?_) (fun a=>?_))|(refine Zas rfl rfl rfl (fun a=>?_) (fun a=>?_))|(refine Zaf rfl (fun a=>?_) (fun a=>?_)))
 all_goals first|(refine ret_1 _ [] (.tmp rfl) .nil ⟨?_,rfl⟩;first|rfl|(simp only[*,Bool.true_and,Bool.false_and,Bool.true_or,Bool.false_or,Bool.not_true,Bool.not_false];done)|(simp_all [digC];done)|(simp_all [digC];omega)|(simp_all [digC];rw[Bool.eq_iff_iff];simp;omega))|(exfalso;simp_all [digC];done)|(exfalso;simp_all [digC];omega)|(exfalso;omega)
theorem Zdn {l:List UInt8}{k:Nat}(h:k<l.length):l.getD k 0=l[k]:=by rw[List.getD_eq_getElem?_getD,List.getElem?_eq_getElem h];rfl
theorem ZnO {G:Prop}(h:G:=by(apply Za0;rfl;rfl;omega;omega;exact hgc)):G:=h
theorem ZfD (s:ByteArray)(a b:Nat)(r:(s.size:Int)<=9223372036854775807)(w:World):Does Tryz.prog 203 [.string s,.int .i64 a,.int .i64 b] w (fun v O=>v = .bool (ZbV a b 1 s.data.toList)/\O=[]):=by
 have j:s.data.toList.length=s.size:=rfl
 obtain⟨R,i⟩:∃ R,(s.data.toList.all fun c=>letC c.toNat)=R:=⟨_,rfl⟩
 have m:ZbV a b 1 s.data.toList=(decide (a<=s.size)&&(decide (s.size<=b)&&R)):=by
  unfold ZbV ZbE
  rw[<- i,j,Bool.and_assoc]
  congr 3
  funext c
  exact Znc c.toNat
 rw[m]
 refine Zaa Tryz.func203 rfl rfl rfl rfl ?_
 repeat (first|refine walk ?_)
 refine Zai [(0,.string s),(1,.int .i64 a),(2,.int .i64 b)] [] (fun k:Nat=>[(7,.int .i64 k)]) (fun _=>[]) (fun k=>k<=s.size/\((s.data.toList.drop k).all fun c=>letC c.toNat)=R) (fun k=>s.size - k) 0 SFA SOA ⟨Nat.zero_le _,i⟩ ?_
 rintro k ⟨q,e⟩
 repeat (first|refine walk ?_)
 refine Zaf rfl (fun d=>?_) (fun d=>?_)
 ·simp only[decide_eq_true_eq,Int.ofNat_lt]at d
  have hgc:s.data.toList.getD ((k:Int)).toNat 0=s.data.toList[k]:=Zdn (by omega)
  rw[Zah (show k<s.data.toList.length by omega),List.all_cons]at e
  generalize s.data.toList[k]=c at *
  repeat (first|(apply RL_pu;rfl;exact ZnO)|(refine js ?_;(refine Zab (fun w' _=>Zcq c.toNat w') ?_))|refine walk1 ?_)
  refine Zaf rfl (fun f=>?_) (fun f=>?_)
  ·have g:letC c.toNat=false:=by simpa using f
   rw[g,Bool.false_and]at e
   subst e
   repeat (first|refine walk ?_)
   exact ret_1 _ [] (.tmp rfl) .nil ⟨by simp,rfl⟩
  ·have g:letC c.toNat=true:=by simpa using f
   rw[g,Bool.true_and]at e
   repeat (first|refine walk ?_)
   exact⟨k+1,OA,⟨OA,e⟩,SFA,SOA⟩
 ·simp only[decide_eq_false_iff_not,Int.ofNat_lt]at d
  rw[List.drop_eq_nil_of_le (by omega),List.all_nil]at e
  subst e
  rw[show decide (a<=s.size)=decide ((a:Int)<=s.size) by rw[decide_eq_decide];omega,show decide (s.size<=b)=decide ((s.size:Int)<=b) by rw[decide_eq_decide];omega,Bool.and_true]
  repeat' (first|refine walk ?_|refine und ?_|(refine Zam rfl rfl rfl (fun d=>?_) (fun d=>?_))|(refine Zas rfl rfl rfl (fun d=>?_) (fun d=>?_))|(refine Zaf rfl (fun d=>?_) (fun d=>?_)))
  all_goals exact clo1
theorem Zmf (s:ByteArray)(a:(s.size:Int)<=9223372036854775807)(w:World):Does Tryz.prog 281 [.string s] w (fun v O=>v = .bool (Zet s)/\O=[]):=by
 refine Zaa Tryz.func281 rfl rfl rfl rfl ?_
 repeat (first|(refine js ?_;(refine Zab (fun w' _=>ZfD s 1 4 a w') ?_))|refine walk ?_)
 exact rtA
theorem ZeP (s:ByteArray)(a:(s.size:Int)<=9223372036854775807)(w:World):Does Tryz.prog 137 [.string s] w (fun v O=>v = .bool (Zhn s)/\O=[]):=by
 refine Zaa Tryz.func137 rfl rfl rfl rfl ?_
 repeat (first|(refine js ?_;(refine Zab (fun w' _=>ZfD s 3 6 a w') ?_))|refine walk ?_)
 exact rtA
theorem Zzm {G:Prop}(h:G:=by(apply Zaw;rfl;rfl;exact b1)):G:=h
theorem Zzl {G:Prop}(h:G:=by(first|exact ZnO|(apply Zaw;rfl;rfl;exact b1)|(apply Zay;rfl;rfl;exact b2))):G:=h
theorem ZB6 {G:Prop}(h:G:=by(first|exact ZnO|(apply Zan;rfl;rfl;first|exact e1|exact e2))):G:=h
theorem ZsC {G G':Prop}(k:G')(h:Hold G'->G:=by intro k9;(first|refine und ?_|(apply RL_pu;rfl;exact ZB6)|(refine js ?_;(first|(refine Zab (fun w' _=>hcl w') ?_)|(refine Zab (fun w' _=>hcd w') ?_)))|refine walk1 ?_);exact k9.out):G:=h ⟨k⟩
theorem Zs7 (s:ByteArray)(B:(s.size:Int)<=9223372036854775807)(w:World):Does Tryz.prog 188 [.string s] w (fun v O=>v = .bool (setB s)/\O=[]):=by
 have i:s.data.toList.length=s.size:=rfl
 obtain⟨R,m⟩:∃ R,(s.data.toList.all fun c=>Zrg c.toNat)=R:=⟨_,rfl⟩
 have d:setB s=((decide (1<=s.size)&&decide (s.size<=30)&&R)&&letC (s.data.toList.getD 0 0).toNat):=by
  unfold setB ZbV ZbE
  rw[<- m,i]
  by_cases r:1<=s.size
  ·rw[show s.data.toList.take 1=[s.data.toList.getD 0 0] by
    obtain⟨x,l,hx⟩:∃ x l,s.data.toList=x::l:=by
     cases hd:s.data.toList with
     | nil=>rw[hd]at i;simp at i;omega
     | cons x l=>exact⟨x,l,rfl⟩
    rw[hx];rfl]
   congr 1
   ·congr 1
    congr 1
    funext c
    exact Zud c
   ·show((!decide (ZbO (s.data.toList.getD 0 0).toNat &&& 1=0))&&true)=_
    rw[Bool.and_true,Znc]
  ·rw[decide_eq_false r];rfl
 refine Zaa Tryz.func188 rfl rfl rfl rfl ?_
 by_cases u:s.size<1
 ·have b1:decide ((s.size:Int)<1)=true:=decide_eq_true (by omega)
  rw[show setB s=false by rw[d,decide_eq_false (show ¬ 1<=s.size by omega)];rfl]
  repeat (first|refine und ?_|(apply RL_pu;rfl;exact Zzm)|refine walk1 ?_)
  exact rtA
 have b1:decide ((s.size:Int)<1)=false:=decide_eq_false (by omega)
 by_cases z:30<s.size
 ·have b2:decide (30<(s.size:Int))=true:=decide_eq_true (by omega)
  rw[show setB s=false by rw[d,decide_eq_false (show ¬ s.size<=30 by omega),Bool.and_false];rfl]
  repeat (first|refine und ?_|(apply RL_pu;rfl;(first|exact Zzm|(apply Zay;rfl;rfl;exact b2)))|refine walk1 ?_)
  exact rtA
 have b2:decide (30<(s.size:Int))=false:=decide_eq_false (by omega)
 obtain⟨c,hgc⟩:∃ c,s.data.toList.getD ((0:Int)).toNat 0=c:=⟨_,rfl⟩
 rw[show s.data.toList.getD 0 0=c from hgc,decide_eq_true (show 1<=s.size by omega),decide_eq_true (show s.size<=30 by omega)]at d
 cases hl:letC c.toNat with
 | false =>
  have hcl:=fun w'=>Zcq c.toNat w'
  rw[hl]at hcl d
  rw[d,Bool.and_false]
  repeat (first|refine und ?_|(apply RL_pu;rfl;exact Zzl)|(refine js ?_;(refine Zab (fun w' _=>hcl w') ?_))|refine walk1 ?_)
  exact rtA
 | true =>
 have hcl:=fun w'=>Zcq c.toNat w'
 rw[hl]at hcl d
 rw[show setB s=R by rw[d,Bool.and_true];rfl]
 repeat (first|(apply RL_pu;rfl;exact Zzl)|(refine js ?_;(refine Zab (fun w' _=>hcl w') ?_))|refine walk1 ?_)
 clear hgc hl hcl d
 refine Zai [(0,.string s)] [] (fun k:Nat=>[(3,.int .i64 k)]) (fun _=>[]) (fun k=>k<=s.size/\((s.data.toList.drop k).all fun c=>Zrg c.toNat)=R) (fun k=>s.size - k) 0 SFA SOA ⟨Nat.zero_le _,m⟩ ?_
 rintro k ⟨A,e⟩
 repeat (first|refine walk ?_)
 refine Zaf rfl (fun j=>?_) (fun j=>?_)
 ·simp only[decide_eq_true_eq,Int.ofNat_lt]at j
  have hgc:s.data.toList.getD ((k:Int)).toNat 0=s.data.toList[k]:=Zdn (by omega)
  rw[Zah (show k<s.data.toList.length by omega),List.all_cons]at e
  generalize s.data.toList[k]=c at *
  unfold Zrg at e
  have hcl:=fun w'=>Zcq c.toNat w'
  have hcd:=fun w'=>Zh1 c.toNat w'
  generalize letC c.toNat=x at *
  generalize digC c.toNat=y at *
  obtain⟨g,e1⟩:∃ g,(!decide ((c.toNat:Int)=95))=g:=⟨_,rfl⟩
  obtain⟨z2,e2⟩:∃ z2,(!decide ((c.toNat:Int)=45))=z2:=⟨_,rfl⟩
  rw[show decide ((c.toNat:Int)=95) = !g by rw[<- e1,Bool.not_not],show decide ((c.toNat:Int)=45) = !z2 by rw[<- e2,Bool.not_not]]at e
  have f:∀ q:Bool,(x||(y||(!g||!z2)))=q->(q&&(s.data.toList.drop (k+1)).all fun c=>Zrg c.toNat)=R:=fun q t=>by rw[<- t];exact e
  cases x with
  | true =>
   repeat (first|refine und ?_|(apply RL_pu;rfl;exact ZnO)|(refine js ?_;(refine Zab (fun w' _=>hcl w') ?_))|refine walk1 ?_)
   exact⟨k+1,OA,⟨OA,by simpa using f true rfl⟩,SFA,SOA⟩
  | false =>
  cases y with
  | true =>
   repeat (first|refine und ?_|(apply RL_pu;rfl;exact ZnO)|(refine js ?_;(first|(refine Zab (fun w' _=>hcl w') ?_)|(refine Zab (fun w' _=>hcd w') ?_)))|refine walk1 ?_)
   exact⟨k+1,OA,⟨OA,by simpa using f true rfl⟩,SFA,SOA⟩
  | false =>
  cases g with
  | false =>
   repeat refine ZsC ?_
   exact⟨k+1,OA,⟨OA,by simpa using f true rfl⟩,SFA,SOA⟩
  | true =>
  cases z2 with
  | false =>
   repeat refine ZsC ?_
   exact⟨k+1,OA,⟨OA,by simpa using f true rfl⟩,SFA,SOA⟩
  | true =>
   have:=f false rfl
   rw[Bool.false_and]at this
   subst this
   repeat refine ZsC ?_
   exact rtA
 ·simp only[decide_eq_false_iff_not,Int.ofNat_lt]at j
  rw[List.drop_eq_nil_of_le (by omega),List.all_nil]at e
  subst e
  repeat (first|refine walk ?_)
  exact rtA
end Go.Proofs.YtpipekfmecikmaaGreatDoor
namespace Go.Wk
open Go Go.RowKit
def ZjQ (m:Int)(d:DDay):Bool:=if d.kind=2 then true else if d.kind=3 then decide (d.day.tmod 7=1)&&decide (d.day<29) else if d.kind=1 then !decide (m=2)||!decide (d.day=29) else false
theorem ZrA (n:Int):(decide (n.tmod 7=1)&&decide (n<29))=(decide (n=1)||decide (n=8)||decide (n=15)||decide (n=22)):=by
 rw[Bool.eq_iff_iff]
 simp only[Bool.or_eq_true,Bool.and_eq_true,decide_eq_true_eq]
 by_cases b:0<=n
 ·rw[Int.tmod_eq_emod_of_nonneg b]
  omega
 ·have c:n.tmod 7<=0:=by
   have:=Int.tmod_nonneg (a := -n) 7 (by omega)
   rw[Int.neg_tmod]at this
   omega
  generalize n.tmod 7=q at *
  omega
end Go.Wk
namespace Go.Proofs.YtpipekfmecikmaaGreatDoor
open Go Go.RowKit Go.Wk
attribute [local irreducible] W RL Does Zat Zaj retQ Calls Pu Stp RD Qy Ay Zak ZbV
theorem ZhZ (y:Int)(w:World):Does Tryz.prog 278 [.int .i64 y] w (fun v O=>v = .bool (Zbm y)/\O=[]):=by
 refine Zaa Tryz.func278 rfl rfl rfl rfl ?_
 repeat' (first|refine walk ?_|refine und ?_|(refine Zam rfl rfl rfl (fun a=>?_) (fun a=>?_))|(refine Zas rfl rfl rfl (fun a=>?_) (fun a=>?_))|(refine Zaf rfl (fun a=>?_) (fun a=>?_)))
 all_goals first|(refine ret_1 _ [] (.tmp rfl) .nil ⟨?_,rfl⟩;first|rfl|(simp only[*,Bool.true_and,Bool.false_and,Bool.true_or,Bool.false_or,Bool.not_true,Bool.not_false];done)|(simp_all [Zbm];done)|(simp_all [Zbm];omega)|(simp_all [Zbm];rw[Bool.eq_iff_iff];simp;omega))|(exfalso;simp_all [Zbm];done)|(exfalso;simp_all [Zbm];omega)|(exfalso;omega)
theorem Zvu {G:Prop}(h:G:=by(apply ZbG;rfl;rfl;exact b1)):G:=h
theorem Zzh {G:Prop}(h:G:=by(first|exact Zvu|(apply Zan;rfl;rfl;exact b2))):G:=h
theorem Zrm (c:DClock)(least:Int)(g : -9223372036854775808<=least/\least<=0)(w:World):Does Tryz.prog 280 [.agg (DClock.enc c).toArray,.int .i64 least] w (fun v O=>v = .bool (Zd4 c least)/\O=[]):=by
 have a:=fun w'=>ZjN c w'
 unfold Zd4
 cases hc:ZaI c with
 | false =>
  rw[hc]at a
  obtain⟨s,b⟩:=c
  show Does _ _ [.agg #[.int .i64 s,.int .i64 b],.int .i64 least] w _
  refine Zaa Tryz.func280 rfl rfl rfl rfl ?_
  repeat (first|(refine js ?_;(first|(refine Zab (fun w' _=>a w') ?_)|(refine bx ?_;intro e)))|refine walk ?_)
  exact rtA
 | true =>
  rw[hc]at a
  have f : -604799<=c.sec/\c.sec<=604799:=by
   simp only[ZaI,Bool.and_eq_true,decide_eq_true_eq]at hc
   omega
  obtain⟨s,b⟩:=c
  dsimp only at f ⊢
  rw[Bool.true_and]
  show Does _ _ [.agg #[.int .i64 s,.int .i64 b],.int .i64 least] w _
  refine Zaa Tryz.func280 rfl rfl rfl rfl ?_
  by_cases d:b=1
  ·subst d
   rw[if_pos rfl]
   by_cases h1 : -86400 - least<=s
   ·have b1:decide (-86400 - least<=s)=true:=decide_eq_true h1
    rw[show decide (-86400<=s+least)=true from decide_eq_true (by omega),show decide (s+least<=172800)=decide (s<=172800 - least) by rw[decide_eq_decide];omega,Bool.true_and]
    repeat (first|(apply RL_pu;rfl;exact Zvu)|(refine js ?_;(first|(refine Zab (fun w' _=>a w') ?_)|(refine bx ?_;intro e)))|refine walk1 ?_)
    exact rtA
   ·have b1:decide (-86400 - least<=s)=false:=decide_eq_false h1
    rw[show decide (-86400<=s+least)=false from decide_eq_false (by omega),Bool.false_and]
    repeat (first|refine und ?_|(apply RL_pu;rfl;exact Zvu)|(refine js ?_;(first|(refine Zab (fun w' _=>a w') ?_)|(refine bx ?_;intro e)))|refine walk1 ?_)
    exact rtA
  ·rw[if_neg d]
   have b2:(!decide (b=1))=true:=by rw[decide_eq_false d];rfl
   by_cases h1 : -86400<=s
   ·have b1:decide (-86400<=s)=true:=decide_eq_true h1
    rw[b1,Bool.true_and]
    repeat (first|(apply RL_pu;rfl;exact Zzh)|(refine js ?_;(first|(refine Zab (fun w' _=>a w') ?_)|(refine bx ?_;intro e)))|refine walk1 ?_)
    exact rtA
   ·have b1:decide (-86400<=s)=false:=decide_eq_false h1
    rw[b1,Bool.false_and]
    repeat (first|refine und ?_|(apply RL_pu;rfl;exact Zzh)|(refine js ?_;(first|(refine Zab (fun w' _=>a w') ?_)|(refine bx ?_;intro e)))|refine walk1 ?_)
    exact rtA
theorem ZhW (m:Int)(d:DDay)(w:World):Does Tryz.prog 282 [.int .i64 m,.agg (DDay.enc d).toArray] w (fun v O=>v = .bool (ZjQ m d)/\O=[]):=by
 unfold ZjQ
 rw[ZrA]
 obtain⟨k,b,n⟩:=d
 show Does _ _ [.int .i64 m,.agg #[.int .i64 k,.int .i64 b,.int .i64 n]] w _
 refine Zaa Tryz.func282 rfl rfl rfl rfl ?_
 repeat' (first|(refine js ?_;(refine bx ?_;intro c))|refine walk ?_|refine und ?_|(refine Zam rfl rfl rfl (fun a=>?_) (fun a=>?_))|(refine Zas rfl rfl rfl (fun a=>?_) (fun a=>?_))|(refine Zaf rfl (fun a=>?_) (fun a=>?_)))
 all_goals exact clo1
set_option maxHeartbeats 1000000 in
theorem Zro (r:DRule)(least:Int)(s : -9223372036854775808<=least/\least<=0)(t:(r.letter.size:Int)<=9223372036854775807)(w:World):Does Tryz.prog 245 [.agg (DRule.enc r).toArray,.int .i64 least] w (fun v O=>v = .int .i64 (Zbp r least)/\O=[]):=by
 have i:=fun w'=>ZhZ r.from_ w'
 have j:=fun w'=>ZhZ r.to w'
 have m:=fun w'=>Zme r.from_ r.to r.month r.day w'
 have p:=fun w'=>Zrm r.at_ least s w'
 have q:=fun w'=>Zmf r.letter t w'
 unfold Zbp
 generalize Zbm r.from_=n1 at *
 generalize Zbm r.to=n2 at *
 generalize Zb4 r.from_ r.to r.month r.day=al at *
 generalize Zd4 r.at_ least=ti at *
 generalize Zet r.letter=lb at *
 obtain⟨x,fr,to,u,⟨f,g,dd⟩,⟨cs,e⟩,sv,le⟩:=r
 simp only at *
 show Does _ _ [.agg #[.string x,.int .i64 fr,.int .i64 to,.int .i64 u,.int .i64 f,.int .i64 g,.int .i64 dd,.int .i64 cs,.int .i64 e,.int .i64 sv,.string le],.int .i64 least] w _
 obtain⟨d,b⟩:∃ d,decide (to=1048576)=d:=⟨_,rfl⟩
 rw[b]
 have c:(!decide (to=1048576)) = !d:=by rw[b]
 rw[show decide (le=ByteArray.empty)=decide (le=(⟨#[]⟩:ByteArray)) from rfl]
 refine Zaa Tryz.func245 rfl rfl rfl rfl ?_
 repeat' (first|(apply RL_pu;rfl;(apply Zan;rfl;rfl;exact c))|(refine js ?_;(first|(refine Zab (fun w' _=>i w') ?_)|(refine Zab (fun w' _=>j w') ?_)|(refine Zab (fun w' _=>m w') ?_)|(refine Zab (fun w' _=>p w') ?_)|(refine Zab (fun w' _=>q w') ?_)|(refine bx ?_;intro y)))|refine walk1 ?_|refine und ?_|(refine Zam rfl rfl rfl (fun a=>?_) (fun a=>?_))|(refine Zas rfl rfl rfl (fun a=>?_) (fun a=>?_))|(refine Zaf rfl (fun a=>?_) (fun a=>?_)))
 all_goals exact clo1
end Go.Proofs.YtpipekfmecikmaaGreatDoor
