/- Parts of the proof. -/
import Derived.Test.YtpipekfmecikmaaGreatDoorW29
import Derived.Test.YtpipekfmecikmaaGreatDoorW39
import Derived.Test.YtpipekfmecikmaaGreatDoorW35
import Derived.Test.YtpipekfmecikmaaGreatDoorW26
import Derived.Test.YtpipekfmecikmaaGreatDoorW05
import Derived.Test.YtpipekfmecikmaaGreatDoorW23
import Derived.Test.YtpipekfmecikmaaGreatDoorW38
import Derived.Test.YtpipekfmecikmaaGreatDoorW16
import Derived.Test.YtpipekfmecikmaaGreatDoorW06
set_option maxHeartbeats 4000000
set_option linter.unusedVariables false
set_option linter.unusedSimpArgs false
namespace Go.Proofs.YtpipekfmecikmaaGreatDoor
open Go Go.RowKit Go.Wk
attribute [local irreducible] W RL Does Zat Zaj retQ Calls Pu Stp RD Qy Ay Zak
theorem ZmL (s:DSource):∀ (f:Nat) (a:List ByteArray) (x:ByteArray),(ZaJ s f a x).2≠11->ZaJ s f a x=Zez s f x
 | 0,_,_,h=>absurd rfl h
 | f+1,a,x,h=>by
  rw[ZaJ]at h ⊢
  rw[Zez]
  cases hz:ZaK x s.zones 0 with
  | some i=>rfl
  | none =>
   rw[hz]at h
   dsimp only at h ⊢
   cases hl:ZaN x s.links 0 with
   | none=>rfl
   | some i =>
    rw[hl]at h
    dsimp only at h ⊢
    by_cases b:memB x a=true
    ·rw[if_pos b]at h;exact absurd rfl h
    ·rw[if_neg b]at h ⊢
     exact ZmL s f _ _ h
theorem ZmM (s:DSource):∀ (f:Nat) (a:List ByteArray) (x:ByteArray),(ZaJ s f a x).2=11->ZaJ s f a x=(0,11)
 | 0,_,_,_=>rfl
 | f+1,a,x,h=>by
  rw[ZaJ]at h ⊢
  cases hz:ZaK x s.zones 0 with
  | some i=>rw[hz]at h;cases h
  | none =>
   rw[hz]at h
   dsimp only at h ⊢
   cases hl:ZaN x s.links 0 with
   | none=>rw[hl]at h;cases h
   | some i =>
    rw[hl]at h
    dsimp only at h ⊢
    by_cases b:memB x a=true
    ·rw[if_pos b]
    ·rw[if_neg b]at h ⊢
     exact ZmM s f _ _ h
theorem ZtP (s:DSource):∀ (f:Nat) (x:ByteArray),(Zez s f x).2=11->Zez s f x=(0,11)
 | 0,_,_=>rfl
 | f+1,x,h=>by
  rw[Zez]at h ⊢
  cases hz:ZaK x s.zones 0 with
  | some i=>rw[hz]at h;cases h
  | none =>
   rw[hz]at h
   dsimp only at h ⊢
   cases hl:ZaN x s.links 0 with
   | none=>rw[hl]at h;cases h
   | some i =>
    rw[hl]at h
    exact ZtP s f _ h
theorem ZiD (s:DSource)(x:ByteArray):Zez s (s.links.length+1) x=ZaJ s (s.links.length+1) [] x:=by
 by_cases h:(ZaJ s (s.links.length+1) [] x).2=11
 ·rw[ZmM s _ _ _ h,ZtP s _ _ ((Zit s x).1 h)]
 ·exact(ZmL s _ _ _ h).symm
theorem ZmK (s:DSource):∀ (f:Nat) (a:List ByteArray) (x:ByteArray),(ZaJ s f a x).2=0->(ZaJ s f a x).1<s.zones.length
 | 0,_,_,h=>by cases h
 | f+1,a,x,h=>by
  rw[ZaJ]at h ⊢
  cases hz:ZaK x s.zones 0 with
  | some i =>
   have:=(ZmO x s.zones 0 i hz).2
   dsimp only
   omega
  | none =>
   rw[hz]at h
   dsimp only at h ⊢
   cases hl:ZaN x s.links 0 with
   | none=>rw[hl]at h;cases h
   | some i =>
    rw[hl]at h
    dsimp only at h ⊢
    by_cases b:memB x a=true
    ·rw[if_pos b]at h;cases h
    ·rw[if_neg b]at h ⊢
     exact ZmK s f _ _ h
theorem ZeL {a:DSource}{b:ByteArray}(h:(Za9 a b).2=0):accD a=none/\∃ i:Nat,Za9 a b=((i:Int),0)/\i<a.zones.length/\ZaJ a (a.links.length+1) [] b=(i,0):=by
 unfold Za9 at h ⊢
 cases hac:accD a with
 | some x =>
  obtain⟨p,e⟩:=x
  rw[hac]at h
  exact absurd h (Zo8 hac)
 | none =>
  rw[hac]at h
  dsimp only at h ⊢
  exact⟨rfl,_,by rw[h],ZmK a _ _ _ h,Prod.ext rfl h⟩
def zErs (a:DSource)(name:ByteArray):List DEra:=(a.zones[(Za9 a name).1.toNat]?).map (·.eras) |>.getD []
def atR (a:DSource)(name:ByteArray)(t:Int):Zbe × Int :=
 if tOk t=false then (lc0,3) else if (Za9 a name).2≠0 then (lc0,(Za9 a name).2) else (Zij a.rules (zErs a name) t,0)
def erR (a:DSource)(name:ByteArray)(t:Int):Int × Int :=
 if tOk t=false then (0,3) else if (Za9 a name).2≠0 then (0,(Za9 a name).2) else ((Zfa a.rules (zErs a name) t:Nat),0)
def fsR (a:DSource)(name:ByteArray):Zbe × Int :=
 if (Za9 a name).2≠0 then (lc0,(Za9 a name).2) else (Zes ((zErs a name).getD 0 dE0) (ZaZ a.rules ((zErs a name).getD 0 dE0) 0),0)
theorem Zgd {a:DSource}{b:ByteArray}{i:Nat}{z:DZone}(h:Za9 a b=((i:Int),0))(c:a.zones[i]?=some z):zErs a b=z.eras:=by
 unfold zErs
 rw[h,Int.toNat_natCast,c]
 rfl
section
variable (Ar Az Al As:Option Addr)(cr cz cl cs:Nat)(a:DSource)(name:ByteArray)(t:Int)(w:World)
theorem Ztn {w:World}{Ar Az Al As:Option Addr}{d f c cs:Nat}{a:DSource}(h:Zcb w Ar Az Al As d f c cs a)(b:accD a=none):MnOk a:=ZzT b fun z i e g=>(h.Z z i e g).fmt
theorem ZzV (h:Zcb w Ar Az Al As cr cz cl cs a)(k:MeG w)(g:a.zones.length+a.links.length<=1000000) :
  Does Tryz.prog 15 [srcV Ar Az Al As cr cz cl cs a,.string name,.int .i64 t] w (fun v O=>v = .tuple #[.agg (atR a name t).1.enc.toArray,.int .i64 (atR a name t).2]/\O=[]):=by
 unfold atR
 by_cases e:tOk t=false
 ·rw[if_pos e]
  exact Zxz Ar Az Al As cr cz cl cs a name t w e
 rw[if_neg e]
 have c:tOk t=true:=by simpa using e
 by_cases d:(Za9 a name).2≠0
 ·rw[if_pos d]
  exact ZAY Ar Az Al As cr cz cl cs a name t w h g c d
 rw[if_neg d]
 obtain⟨f,i,j,l,_⟩:=ZeL (Decidable.not_not.1 d)
 have b:=List.getElem?_eq_getElem l
 rw[Zgd j b]
 exact mAt Ar Az Al As cr cz cl cs a name t w h k g (Ztn h f) c j b
theorem ZwE (h:Zcb w Ar Az Al As cr cz cl cs a)(g:a.zones.length+a.links.length<=1000000) :
  Does Tryz.prog 17 [srcV Ar Az Al As cr cz cl cs a,.string name,.int .i64 t] w (fun v O=>v = .tuple #[.int .i64 (erR a name t).1,.int .i64 (erR a name t).2]/\O=[]):=by
 unfold erR
 by_cases e:tOk t=false
 ·rw[if_pos e]
  exact ZzU Ar Az Al As cr cz cl cs a name t w e
 rw[if_neg e]
 have c:tOk t=true:=by simpa using e
 by_cases d:(Za9 a name).2≠0
 ·rw[if_pos d]
  exact ZAX Ar Az Al As cr cz cl cs a name t w h g c d
 rw[if_neg d]
 obtain⟨f,i,j,k,_⟩:=ZeL (Decidable.not_not.1 d)
 have b:=List.getElem?_eq_getElem k
 rw[Zgd j b]
 exact mEra Ar Az Al As cr cz cl cs a name t w h g (Ztn h f) c j b
theorem zEr0 {a:DSource}(b:accD a=none){z:DZone}(d:z∈a.zones):∃ e,z.eras[0]?=some e/\z.eras.getD 0 dE0=e:=by
 have c:=(ZdH _ _ (ZgF b).2.2.2 z d).1
 exact ZoH (List.length_pos_iff.2 c)
theorem ZrJ (h:Zcb w Ar Az Al As cr cz cl cs a)(l:MeG w)(f:a.zones.length+a.links.length<=1000000) :
  Does Tryz.prog 19 [srcV Ar Az Al As cr cz cl cs a,.string name] w (fun v O=>v = .tuple #[.agg (fsR a name).1.enc.toArray,.int .i64 (fsR a name).2]/\O=[]):=by
 unfold fsR
 by_cases d:(Za9 a name).2≠0
 ·rw[if_pos d]
  exact ZwD Ar Az Al As cr cz cl cs a name w h f d
 rw[if_neg d]
 obtain⟨c,i,g,m,_⟩:=ZeL (Decidable.not_not.1 d)
 have b:=List.getElem?_eq_getElem m
 rw[Zgd g b]
 obtain⟨e,j,k⟩:=zEr0 c (List.mem_of_getElem? b)
 rw[k]
 exact Zxy Ar Az Al As cr cz cl cs a name w h l f (Ztn h c) g b j
end
theorem ZgZ (Ar Az Al As:Option Addr)(g j f cs:Nat)(a:DSource)(b:ByteArray)(w:World)(h:Zcb w Ar Az Al As g j f cs a) :
  Does Tryz.prog 55 [srcV Ar Az Al As g j f cs a,.string b] w (fun v O=>v = .tuple #[.int .i64 (Za9 a b).1,.int .i64 (Za9 a b).2]/\O=[]):=by
 have c:=fun w' (m:Bel w.heap.size w w')=>ZAT (h.up m)
 unfold Za9
 cases hac:accD a with
 | some x =>
  obtain⟨⟨r,s,t⟩,e⟩:=x
  have p:(!decide (e=0))=true:=by rw[decide_eq_false (Zo8 hac)];rfl
  rw[hac]at c
  change ∀ w',Bel w.heap.size w w'->Does _ _ _ w' (fun v O=>v = .tuple #[.agg #[.int .i64 r,.int .i64 s,.int .i64 t],.int .i64 e]/\O=[]) at c
  refine Zaa Tryz.func55 rfl rfl rfl rfl ?_
  repeat (first|(apply RL_pu;rfl;(apply Zan;rfl;rfl;exact p))|(refine js ?_;(first|(refine Zab c ?_)|(refine bx ?_;intro q)))|refine walk1 ?_)
  exact rtB
 | none =>
  have d:=fun w' (m:Bel w.heap.size w w')=>Zgn Ar Az Al As g j f cs a b w' (h.A.up m) h.S.nz h.S.nl
  rw[ZiD]at d
  rw[hac]at c
  change ∀ w',Bel w.heap.size w w'->Does _ _ _ w' (fun v O=>v = .tuple #[.agg #[.int .i64 0,.int .i64 0,.int .i64 0],.int .i64 0]/\O=[]) at c
  generalize ZaJ a (a.links.length+1) [] b=F at *
  obtain⟨i,e⟩:=F
  dsimp only at d ⊢
  refine Zaa Tryz.func55 rfl rfl rfl rfl ?_
  repeat (first|(apply RL_pu;rfl;(apply Zan;rfl;rfl;rfl))|(refine js ?_;(first|(refine Zab c ?_)|(refine Zab d ?_)|(refine bx ?_;intro q)))|refine walk1 ?_)
  exact rtB
theorem Zjj {G:Prop}(h:G:=by(apply Zap;rfl;rfl;rfl)):G:=h
theorem Zqs {G:Prop}(h:G:=by first|(apply Qy_y;rfl;exact Zjj)|exact QyA):G:=h
theorem Zkw {G:Prop}(h:G:=by repeat (first|exact QF.nil|(apply QF.mk;rfl;rfl;decide +kernel;exact Zqs))):G:=h
set_option maxHeartbeats 1000000 in
theorem ZfH (Ar Az Al As:Option Addr)(I J H cs:Nat)(a:DSource)(l:List DEra)(k:Nat)(e:DEra)(t:Int)(w:World)(hA:Zal w Ar Az Al As I J H cs a)(W:a.rules.length<=1000000)(q:ZeK a.rules l k e)(hf:e.format.size<=1000000000)(ht : -39000000000000000<=t/\t<=1000000000000000000) :
  Does Tryz.prog 54 [srcV Ar Az Al As I J H cs a,.agg e.enc.toArray,.int .i64 t] w (fun v O=>v = .agg (Zes e (ZaZ a.rules e t)).enc.toArray/\O=[]):=by
 have p:=q.st_bd (q.state t)
 have ho:=q.off
 have hk:=q.kind
 have r:=fun w' (D:Bel w.heap.size w w')=>Zib Ar Az Al As I J H cs a e.set w' (hA.up D) W
 have j:=fun(Z:e.kind=2) (A3:Option Addr) (y:Nat) w' hR=>Zry A3 y (ofB a.rules e.set) e.off t w' hR (Nat.le_trans (List.length_filter_le _ _) W) (q.set Z) (by omega) ht
 have b:ZaZ a.rules e t=if e.kind=0 then (0,ByteArray.empty) else if e.kind=1 then (e.save,ByteArray.empty) else atS (ofB a.rules e.set) e.off t:=rfl
 have f:=fun w'=>ZeO e.format (ZaZ a.rules e t).2 e.off (ZaZ a.rules e t).1 w' hf (by omega) (by unfold I64;omega) (by unfold I64;omega)
 unfold xpV at f
 have c:∀ w',Does Tryz.prog 91 [.string e.format,.int .i64 e.off,.agg #[.int .i64 (ZaZ a.rules e t).1,.string (ZaZ a.rules e t).2]] w' (fun v O=>(∃ z,v = .tuple #[.string (Zur e (ZaZ a.rules e t).1 (ZaZ a.rules e t).2),.int .i64 z])/\O=[]):=fun w' =>
  (f w').mono fun v O X=>⟨⟨_,X.1⟩,X.2⟩
 clear f q
 unfold ZgR at r
 unfold Zes
 generalize atS (ofB a.rules e.set) e.off t=s at *
 generalize ofB a.rules e.set=R at *
 generalize ZaZ a.rules e t=x at *
 generalize Zur e x.1 x.2=ab at *
 obtain⟨off,E,K,u,Y,⟨ui,uy,um,⟨N,Q,S⟩,⟨L,M⟩⟩⟩:=e
 obtain⟨s1,s2⟩:=s
 dsimp only at *
 simp only[Zbe.enc,stV]at j ⊢
 show Does _ _ [_,.agg #[.int .i64 off,.int .i64 E,.int .i64 K,.string u,.string Y,.bool ui,.int .i64 uy,.int .i64 um,.int .i64 N,.int .i64 Q,.int .i64 S,.int .i64 L,.int .i64 M],_] w _
 refine Zaa Tryz.func54 rfl rfl rfl rfl ?_
 by_cases T:E=0
 ·subst T
  rw[if_pos rfl]at b
  subst b
  dsimp only at c p
  repeat (first|(apply RL_pu;rfl;exact Zjj)|(apply RD_Q;rfl;rfl;decide +kernel;rfl;rfl;exact Zqs)|refine walk1 ?_|(refine jg ?_;(try intro F);(first|(apply Zae (h:=fun w' _ _=>c w');rfl;rintro v O' ⟨⟨z,rfl⟩,rfl⟩)|(refine bx ?_;intro m)|(refine stA ?_));first|refine⟨_,EndsA,Zkw,?_⟩|refine fin ?_)|(refine jn ?_;(try intro F);(first|(refine bx ?_;intro m)|(refine stA ?_)|(apply Zad;first|exact Zjj|exact PuA));first|refine⟨_,EndsA,Zkw,?_⟩|refine fin ?_)|(apply RD_W;rfl;intro m))
  exact ret_1 _ [] (.cellB rfl (by repeat' constructor) rfl rfl) .nil ⟨rfl,rfl⟩
 rw[if_neg T]at b
 by_cases U:E=1
 ·subst U
  rw[if_pos rfl]at b
  subst b
  dsimp only at c p
  repeat (first|(apply RL_pu;rfl;exact Zjj)|(apply RD_Q;rfl;rfl;decide +kernel;rfl;rfl;exact Zqs)|refine walk1 ?_|(refine jg ?_;(try intro F);(first|(apply Zae (h:=fun w' _ _=>c w');rfl;rintro v O' ⟨⟨z,rfl⟩,rfl⟩)|(refine bx ?_;intro m)|(refine stA ?_));first|refine⟨_,EndsA,Zkw,?_⟩|refine fin ?_)|(refine jn ?_;(try intro F);(first|(refine bx ?_;intro m)|(refine stA ?_)|(apply Zad;first|exact Zjj|exact PuA));first|refine⟨_,EndsA,Zkw,?_⟩|refine fin ?_)|(apply RD_W;rfl;intro m))
  exact ret_1 _ [] (.cellB rfl (by repeat' constructor) rfl rfl) .nil ⟨rfl,rfl⟩
 ·rw[if_neg U]at b
  obtain rfl:E=2:=by omega
  subst b
  replace j:=j rfl
  dsimp only at c p
  repeat (first|(apply RL_pu;rfl;exact Zjj)|(apply RD_Q;rfl;rfl;decide +kernel;rfl;rfl;exact Zqs)|refine walk1 ?_|(refine jg ?_;(try intro F);(first|(apply Zae (h:=fun w' D _=>r w' D);rfl;rintro v O' ⟨A3,y,rfl,rfl⟩)|(refine ZaH (fun w' D hO=>j A3 y w' (ZaP DRule.len (hO.of (A := .row (.slice A3 R.length y) 68 11 R.length (R.flatMap DRule.enc)) (by repeat' constructor)))) ?_)|(apply Zae (h:=fun w' _ _=>c w');rfl;rintro v O' ⟨⟨z,rfl⟩,rfl⟩)|(refine bx ?_;intro m)|(refine stA ?_));first|refine⟨_,EndsA,Zkw,?_⟩|refine fin ?_)|(refine jn ?_;(try intro F);(first|(refine bx ?_;intro m)|(refine stA ?_)|(apply Zad;first|exact Zjj|exact PuA));first|refine⟨_,EndsA,Zkw,?_⟩|refine fin ?_)|(apply RD_W;rfl;intro m))
  exact ret_1 _ [] (.cellB rfl (by repeat' constructor) rfl rfl) .nil ⟨rfl,rfl⟩
theorem ZyM {G:Prop}(h:G:=by(apply Zaw;rfl;rfl;exact b1)):G:=h
theorem Zu4 {G:Prop}(h:G:=by(first|exact ZyM|(apply Zay;rfl;rfl;exact b2))):G:=h
theorem Zh3 (Ar Az Al As:Option Addr)(B C y cs:Nat)(a:DSource)(b:ByteArray)(t:Int)(w:World)(h:Zcb w Ar Az Al As B C y cs a) :
  Does Tryz.prog 18 [srcV Ar Az Al As B C y cs a,.string b,.int .i64 t] w (fun v O=>v = .tuple #[.int .i64 (erR a b t).1,.int .i64 (erR a b t).2]/\O=[]):=by
 have d:=fun w' (p:Bel w.heap.size w w')=>ZgZ Ar Az Al As B C y cs a b w' (h.up p)
 unfold erR
 by_cases E:tOk t=false
 ·rw[if_pos E]
  refine Zaa Tryz.func18 rfl rfl rfl rfl ?_
  by_cases H:t < -36028797018963968
  ·have b1:decide (t < -36028797018963968)=true:=decide_eq_true H
   repeat (first|refine und ?_|(apply RL_pu;rfl;exact ZyM)|(refine js ?_;(refine bx ?_;intro F))|refine walk1 ?_)
   exact rtB
  ·have b1:decide (t < -36028797018963968)=false:=decide_eq_false H
   have b2:decide (36028797018963968<t)=true:=by
    refine decide_eq_true (Int.not_le.1 fun V=>?_)
    have:=Zef.2 ⟨Int.not_lt.1 H,V⟩
    rw[E]at this
    cases this
   repeat (first|refine und ?_|(apply RL_pu;rfl;exact Zu4)|(refine js ?_;(refine bx ?_;intro F))|refine walk1 ?_)
   exact rtB
 rw[if_neg E]
 have I:=Zef.1 (show tOk t=true by simpa using E)
 have b1:decide (t < -36028797018963968)=false:=decide_eq_false (by omega)
 have b2:decide (36028797018963968<t)=false:=decide_eq_false (by omega)
 by_cases m:(Za9 a b).2≠0
 ·rw[if_pos m]
  have N:(!decide ((Za9 a b).2=0))=true:=by rw[decide_eq_false m];rfl
  generalize Za9 a b=Z at *
  obtain⟨z1,z2⟩:=Z
  dsimp only at d N ⊢
  refine Zaa Tryz.func18 rfl rfl rfl rfl ?_
  repeat (first|refine und ?_|(apply RL_pu;rfl;(first|exact Zu4|(apply Zan;rfl;rfl;exact N)))|(refine js ?_;(first|(refine Zab d ?_)|(refine bx ?_;intro F)))|refine walk1 ?_)
  exact rtB
 rw[if_neg m]
 obtain⟨j,i,M,R,_⟩:=ZeL (Decidable.not_not.1 m)
 have g:=List.getElem?_eq_getElem R
 rw[Zgd M g]
 have K:=Ztn h j
 have c:=List.mem_of_getElem? g
 generalize a.zones[i]=z at *
 obtain⟨r,D⟩:=K.sp z c
 obtain⟨x,_,_,Q,hx,_⟩:=ZkM D (K.ne z c) (t:=t) (by omega) (by omega)
 have s:=fun w' (p:Bel w.heap.size w w')=>ZkS Ar Az Al As B C y cs a i z r w' (h.A.up p) h.S.nr (h.S.zs z c).2.1 g (fun k e m W=>by
  have J:=Zlq j c m
  refine⟨J.rsm h.S.nr,J.unok W,fun I=>?_⟩
  have:=J.set I
  unfold ruEr
  rwa[if_pos I]) D
 have L:r.length=z.eras.length:=Zxr _ _ _ _ _ D
 have X:=(h.S.zs z c).2.1
 have f:=fun(A4:Option Addr) (u:Nat) w' U=>Zmh A4 u r t w' U (by omega)
 rw[Q]at f
 rw[M]at d
 unfold SpR at s
 generalize Zfa a.rules z.eras t=q at *
 clear K D Q m R g c L j M
 obtain⟨Y,x2,x3⟩:=x
 dsimp only at hx f d
 subst hx
 simp only[Zba.enc]at f
 refine Zaa Tryz.func18 rfl rfl rfl rfl ?_
 repeat (first|refine und ?_|(apply RL_pu;rfl;(first|exact Zu4|(apply Zan;rfl;rfl;rfl)))|(refine js ?_;(first|(refine Zab d ?_)|(apply Zae (h:=fun w' p _=>s w' p);rfl;rintro v O' ⟨A4,u,rfl,rfl⟩)|(refine ZaH (fun w' p T=>f A4 u w' (ZaP Zba.len (T.of (A := .row (.slice A4 r.length u) 109 3 r.length (r.flatMap Zba.enc)) (by repeat' constructor)))) ?_)|(refine bx ?_;intro F)))|refine walk1 ?_)
 exact rtB
theorem ZqK {G:Prop}(h:G:=by(apply Zan;rfl;rfl;exact b3)):G:=h
theorem ZnA {G:Prop}(h:G:=by(first|(apply Pu_indexAddr;rfl;rfl;omega;omega;first|exact hnz|exact hna)|(apply Pu_loadO1;rfl;exact hcz 1 _ rfl)|exact PuI|(apply Zan;rfl;rfl;rfl))):G:=h
theorem ZuA {G:Prop}(h:G:=by first|(apply Qy_y;rfl;exact ZnA)|exact QyA):G:=h
theorem Zqy {G:Prop}(h:G:=by repeat (first|exact QF.nil|(apply QF.mk;rfl;rfl;decide +kernel;exact ZuA))):G:=h
theorem Zrx (Ar Az Al As:Option Addr)(L M K cs:Nat)(a:DSource)(b:ByteArray)(t:Int)(w:World)(h:Zcb w Ar Az Al As L M K cs a) :
  Does Tryz.prog 16 [srcV Ar Az Al As L M K cs a,.string b,.int .i64 t] w (fun v O=>v = .tuple #[.agg (atR a b t).1.enc.toArray,.int .i64 (atR a b t).2]/\O=[]):=by
 have c:=fun w' (Q:Bel w.heap.size w w')=>Zh3 Ar Az Al As L M K cs a b t w' (h.up Q)
 unfold atR
 unfold erR at c
 by_cases j:tOk t=false\/(Za9 a b).2≠0
 ·obtain⟨e,N,R,T⟩:∃ e,e≠0/\(if tOk t=false then ((0:Int),(3:Int)) else if (Za9 a b).2≠0 then (0,(Za9 a b).2) else ((Zfa a.rules (zErs a b) t:Nat),0))=(0,e)/\(if tOk t=false then (lc0,(3:Int)) else if (Za9 a b).2≠0 then (lc0,(Za9 a b).2) else (Zij a.rules (zErs a b) t,0))=(lc0,e):=by
   by_cases s:tOk t=false
   ·exact⟨3,by decide,by rw[if_pos s],by rw[if_pos s]⟩
   ·have I:=j.resolve_left s
    exact⟨_,I,by rw[if_neg s,if_pos I],by rw[if_neg s,if_pos I]⟩
  rw[R]at c
  rw[T]
  have b3:(!decide (e=0))=true:=by rw[decide_eq_false N];rfl
  dsimp only at c ⊢
  refine Zaa Tryz.func16 rfl rfl rfl rfl ?_
  repeat (first|(apply RL_pu;rfl;exact ZqK)|(apply RD_Q;rfl;rfl;decide +kernel;rfl;rfl;exact QyRhI7)|refine walk1 ?_|(refine jg ?_;(try intro F);(first|(refine Zab c ?_)|(refine bx ?_;intro J)|(refine stA ?_));first|refine⟨_,EndsA,QFRhI7,?_⟩|refine fin ?_)|(refine jn ?_;(try intro F);(first|(refine bx ?_;intro J)|(refine stA ?_)|(apply Zad;first|exact ZqK|exact PuA));first|refine⟨_,EndsA,QFRhI7,?_⟩|refine fin ?_)|(apply RD_W;rfl;intro J))
  exact rtC
 have s:¬ tOk t=false:=fun X=>j (.inl X)
 have N:¬ (Za9 a b).2≠0:=fun X=>j (.inr X)
 rw[if_neg s,if_neg N]at c ⊢
 have h2:=Zef.1 (show tOk t=true by simpa using s)
 obtain⟨D,i,I,hi,W⟩:=ZeL (Decidable.not_not.1 N)
 have p:=List.getElem?_eq_getElem hi
 rw[Zgd I p]at c ⊢
 have Z:=Ztn h D
 have f:=List.mem_of_getElem? p
 have E:=fun w' (Q:Bel w.heap.size w w')=>Zgn Ar Az Al As L M K cs a b w' (h.A.up Q) h.S.nz h.S.nl
 rw[ZiD,W]at E
 obtain⟨hnz,cs1,⟨Ae,ce,u,rfl⟩,hcz⟩:=h.A.z i _ p
 have hlz:=h.A.zle
 have Y:=h.A.zcap
 simp only[maxLen]at Y
 generalize a.zones[i]=z at *
 obtain⟨r,hr⟩:=Z.sp z f
 obtain⟨x,hk,_⟩:=ZkM hr (Z.ne z f) (t:=t) (by omega) (by omega)
 obtain⟨e,m,hd⟩:=ZoH (d:=dE0) hk
 unfold Zij
 rw[hd]
 have H:=fun w' (Q:Bel w.heap.size w w')=>ZfH Ar Az Al As L M K cs a z.eras _ e t w' (h.A.up Q) h.S.nr (Zlq D f m) ((h.S.zs z f).2.2 e (List.mem_of_getElem? m)).2 (by omega)
 obtain⟨hna,hca⟩:=u.rd _ _ m
 have hel:=u.le
 have U:=u.cap
 simp only[maxLen]at U
 generalize Zfa a.rules z.eras t=q at *
 generalize Zes e (ZaZ a.rules e t)=y at *
 clear Z hr N p f D I m hd
 obtain⟨off,kd,esv,sset,fm,⟨ui,uy,um,⟨ud1,ud2,ud3⟩,⟨uc1,uc2⟩⟩⟩:=e
 obtain⟨y1,y2,y3⟩:=y
 simp only[DEra.enc]at hca H
 simp only[Zbe.enc]at H ⊢
 dsimp only at c E
 refine Zaa Tryz.func16 rfl rfl rfl rfl ?_
 repeat (first|(apply RL_pu;rfl;exact ZnA)|(apply RD_Q;rfl;rfl;decide +kernel;rfl;rfl;exact ZuA)|refine walk1 ?_|(refine jg ?_;(try intro F);(first|(refine Zab c ?_)|(refine Zab E ?_)|(refine Zab H ?_)|(refine bx ?_;intro J)|(refine stA ?_));first|refine⟨_,EndsA,Zqy,?_⟩|refine fin ?_)|(refine jn ?_;(try intro F);(first|(refine bx ?_;intro J)|(refine stA ?_)|(apply Zad;first|exact ZnA|exact PuA));first|refine⟨_,EndsA,Zqy,?_⟩|refine fin ?_)|(apply RD_W;rfl;intro J))
 exact rtC
theorem ZkR (Ar Az Al As:Option Addr)(x D u cs:Nat)(a:DSource)(b:ByteArray)(w:World)(h:Zcb w Ar Az Al As x D u cs a) :
  Does Tryz.prog 20 [srcV Ar Az Al As x D u cs a,.string b] w (fun v O=>v = .tuple #[.agg (fsR a b).1.enc.toArray,.int .i64 (fsR a b).2]/\O=[]):=by
 have j:=fun w' (I:Bel w.heap.size w w')=>ZgZ Ar Az Al As x D u cs a b w' (h.up I)
 unfold fsR
 by_cases t:(Za9 a b).2≠0
 ·rw[if_pos t]
  have b3:(!decide ((Za9 a b).2=0))=true:=by rw[decide_eq_false t];rfl
  generalize Za9 a b=Z at *
  obtain⟨z1,z2⟩:=Z
  dsimp only at j b3 ⊢
  refine Zaa Tryz.func20 rfl rfl rfl rfl ?_
  repeat (first|(apply RL_pu;rfl;exact ZqK)|(apply RD_Q;rfl;rfl;decide +kernel;rfl;rfl;exact QyRhI7)|refine walk1 ?_|(refine jg ?_;(try intro F);(first|(refine Zab j ?_)|(refine bx ?_;intro s)|(refine stA ?_));first|refine⟨_,EndsA,QFRhI7,?_⟩|refine fin ?_)|(refine jn ?_;(try intro F);(first|(refine bx ?_;intro s)|(refine stA ?_)|(apply Zad;first|exact ZqK|exact PuA));first|refine⟨_,EndsA,QFRhI7,?_⟩|refine fin ?_)|(apply RD_W;rfl;intro s))
  exact rtC
 rw[if_neg t]
 obtain⟨q,i,J,Q,_⟩:=ZeL (Decidable.not_not.1 t)
 have m:=List.getElem?_eq_getElem Q
 rw[Zgd J m]
 have c:=List.mem_of_getElem? m
 obtain⟨hnz,L,⟨Ae,ce,p,rfl⟩,hcz⟩:=h.A.z i _ m
 have T:=h.A.zle
 have H:=h.A.zcap
 simp only[maxLen]at H
 obtain⟨e,f,hd⟩:=zEr0 q c
 rw[hd]
 generalize a.zones[i]=z at *
 have r:=fun w' (I:Bel w.heap.size w w')=>ZfH Ar Az Al As x D u cs a z.eras 0 e 0 w' (h.A.up I) h.S.nr (Zlq q c f) ((h.S.zs z c).2.2 e (List.mem_of_getElem? f)).2 (by decide)
 obtain⟨hna,hca⟩:=p.rd _ _ f
 have R:=(List.getElem?_eq_some_iff.1 f).1
 have N:=p.le
 have E:=p.cap
 simp only[maxLen]at E
 rw[J]at j
 generalize Zes e (ZaZ a.rules e 0)=y at *
 clear t m c q J f hd
 obtain⟨U,kd,M,K,fm,⟨ui,uy,um,⟨Y,ud2,ud3⟩,⟨W,X⟩⟩⟩:=e
 obtain⟨y1,y2,y3⟩:=y
 simp only[DEra.enc]at hca r
 simp only[Zbe.enc]at r ⊢
 dsimp only at j
 refine Zaa Tryz.func20 rfl rfl rfl rfl ?_
 repeat (first|(apply RL_pu;rfl;exact ZnA)|(apply RD_Q;rfl;rfl;decide +kernel;rfl;rfl;exact ZuA)|refine walk1 ?_|(refine jg ?_;(try intro F);(first|(refine Zab j ?_)|(refine Zab r ?_)|(refine bx ?_;intro s)|(refine stA ?_));first|refine⟨_,EndsA,Zqy,?_⟩|refine fin ?_)|(refine jn ?_;(try intro F);(first|(refine bx ?_;intro s)|(refine stA ?_)|(apply Zad;first|exact ZnA|exact PuA));first|refine⟨_,EndsA,Zqy,?_⟩|refine fin ?_)|(apply RD_W;rfl;intro s))
 exact rtC
end Go.Proofs.YtpipekfmecikmaaGreatDoor
namespace Go.Wk
open Go Go.RowKit
theorem Zly {P:Program}{n:Nat}{wr:World}{fr:Fr}{O:List It}{ty t t':TypeId}{α:Type}[DecidableEq α]{enc:α->List Value}{x y:Operand}{i j:α}{b:Bool}[hE:EqE P t α enc](a:ev fr x=some (.agg (enc i).toArray))(c:ev fr y=some (.agg (enc j).toArray))(h:decide (i=j)=b) :
  Pu P n wr fr O (.binOp .eql t x y t') ty (.bool b):=h▸Pu_eqlE a c
end Go.Wk
namespace Go.Proofs.YtpipekfmecikmaaGreatDoor
open Go Go.RowKit Go.Wk
attribute [local irreducible] W RL Does Zat Zaj retQ Calls Pu Stp RD Qy Ay Zak
theorem Zv8 {w:World}{Ar Ae:Option Addr}{e b bz:Nat}{rs:List DRule}{d:ByteArray}{a:List DEra}(h:RdSl w Ar e DRule.enc 11 rs)(i:(It.blk bz [.string d,.slice Ae a.length b] 71).sat w)(f:RdSl w Ae b DEra.enc 13 a):Zal w Ar (some ⟨bz,0,none⟩) none none e 1 0 0 ⟨rs,[⟨d,a⟩],[],[]⟩ :=
 ⟨h,Nat.le_refl 1,by decide,ZpB (Zk1 (c:=1) (l:=[(⟨⟨d,a⟩,Ae,b⟩:ZE)]) ZE.len (Nat.le_refl 1) (by decide) i) (fun q g=>by rw[List.mem_singleton.1 g];exact f),ZzR _ _ _,ZzR _ _ _⟩
def ZCv (v:Value)(O:List It):Prop:=∃ br be bz,v = .agg #[.slice (some ⟨br,0,none⟩) 3 3,.slice (some ⟨bz,0,none⟩) 1 1,.slice none 0 0,.slice none 0 0] /\
 O=[.blk bz [.string dubN,.slice (some ⟨be,0,none⟩) 2 2] 71,.blk be (Zbx.enc++ZbL.enc) 75,.blk br (ZhG.enc++(ZhI.enc++ZhH.enc)) 68]
theorem Zln (w:World):Bel w.heap.size w w:=⟨Below.refl _ _⟩
end Go.Proofs.YtpipekfmecikmaaGreatDoor
namespace Go.Proofs.YtpipekfmecikmaaGreatDoor
open Go Go.RowKit Go.Wk
attribute [local irreducible] W RL Does Zat Zaj retQ Calls Pu Stp RD Qy Ay
def Zc0 (b:ByteArray):Bool:=decide (100<(b.size:Int))
theorem Ztt (s:ByteArray)(w:World):Does Tryz.prog 31 [.string s] w (fun v O=>v = .bool (Zc0 s)/\O=[]):=by
 refine Zaa Tryz.func31 rfl rfl rfl rfl ?_
 repeat (first|refine walk ?_)
 exact rtA
def Zot (r:DRule):Bool := !(Zc0 r.name)&&!(Zc0 r.letter)
def Zou (e:DEra):Bool := !(Zc0 e.set)&&!(Zc0 e.format)
def Zia (z:DZone):Bool := !(Zc0 z.name)&&decide (z.eras.length<=65)&&z.eras.all Zou
def Zgq (l:DLink):Bool := !(Zc0 l.target)&&!(Zc0 l.name)
def fewB (s:DSource):Bool:=decide (s.rules.length<=60)&&decide (s.zones.length<=20)&&decide (s.links.length<=60)&&decide (s.shifts.length<=60) &&
 (s.rules.all Zot&&(s.zones.all Zia&&(s.links.all Zgq&&s.shifts.all fun x => !(Zc0 x))))
theorem Zzs {G:Prop}(h:G:=by(first|(apply Pu_indexAddr;rfl;rfl;omega;omega;exact hn)|(apply Pu_loadO1' (h:=hcell);rfl;rfl))):G:=h
theorem ZjD {G G':Prop}(k:G')(h:Hold G'->G:=by intro k9;(first|(apply RL_pu;rfl;exact Zzs)|(refine js ?_;(refine Zab (fun w' _=>call _ w') ?_))|refine walk1 ?_);exact k9.out):G:=h ⟨k⟩
theorem ZwS (Ar Az Al As:Option Addr)(H I F cs:Nat)(s:DSource)(w:World)(h:Zal w Ar Az Al As H I F cs s) :
  Does Tryz.prog 7 [.agg #[.slice Ar s.rules.length H,.slice Az s.zones.length I,.slice Al s.links.length F,.slice As s.shifts.length cs]] w (fun v O=>v = .bool (fewB s)/\O=[]):=by
 have call:∀ (x:ByteArray) (w':World),Does Tryz.prog 31 [.string x] w' (fun v O=>v = .bool (Zc0 x)/\O=[]):=Ztt
 generalize hres:fewB s=res
 refine Zaa Tryz.func7 rfl rfl rfl rfl ?_
 repeat (first|(refine js ?_;(refine bx ?_;intro c))|refine walk ?_)
 apply Zam;rfl;rfl;rfl
 ·intro y
  repeat (first|(refine js ?_;(refine bx ?_;intro c))|refine walk ?_)
  exact ret_1 _ [] (.tmp rfl) .nil ⟨by simp[<- hres,fewB];simp at y;omega,rfl⟩
 intro y
 repeat (first|(refine js ?_;(refine bx ?_;intro c))|refine walk ?_)
 apply Zam;rfl;rfl;rfl
 ·intro A
  repeat (first|(refine js ?_;(refine bx ?_;intro c))|refine walk ?_)
  exact ret_1 _ [] (.tmp rfl) .nil ⟨by simp[<- hres,fewB];simp at A;omega,rfl⟩
 intro A
 repeat (first|(refine js ?_;(refine bx ?_;intro c))|refine walk ?_)
 apply Zam;rfl;rfl;rfl
 ·intro B
  repeat (first|(refine js ?_;(refine bx ?_;intro c))|refine walk ?_)
  exact ret_1 _ [] (.tmp rfl) .nil ⟨by simp[<- hres,fewB];simp at B;omega,rfl⟩
 intro B
 repeat (first|(refine js ?_;(refine bx ?_;intro c))|refine walk ?_)
 refine Zaf rfl (fun C=>?_) (fun C=>?_)
 ·repeat (first|(refine js ?_;(refine bx ?_;intro c))|refine walk ?_)
  exact ret_1 _ [] (.tmp rfl) .nil ⟨by simp[<- hres,fewB];simp at C;omega,rfl⟩
 simp only[decide_eq_false_iff_not,Int.not_lt]at y A B C
 have J:res=(s.rules.all Zot&&(s.zones.all Zia&&(s.links.all Zgq&&s.shifts.all fun x => !(Zc0 x)))):=by
  rw[<- hres,fewB,decide_eq_true (by omega),decide_eq_true (by omega),decide_eq_true (by omega),decide_eq_true (by omega)];simp
 clear hres
 repeat (first|(refine js ?_;(refine bx ?_;intro c))|refine walk ?_)
 refine Zai [(1,_),(2,_)] _ (fun k:Nat=>[(3,.int .i64 k)]) (fun _=>[]) (fun k=>k<=s.rules.length/\res=((s.rules.drop k).all Zot&&(s.zones.all Zia&&(s.links.all Zgq&&s.shifts.all fun x => !(Zc0 x))))) (fun k=>s.rules.length - k) 0 ⟨rfl,rfl,rfl,trivial⟩ (.refl _) ⟨by omega,J⟩ ?_
 rintro k ⟨q,e⟩
 repeat (first|(refine js ?_;(refine bx ?_;intro c))|refine walk ?_)
 refine Zaf rfl (fun d=>?_) (fun d=>?_)
 ·simp only[decide_eq_true_eq,Int.ofNat_lt]at d
  have p:=List.getElem?_eq_getElem d
  obtain⟨hn,hcell⟩:=h.r.rd k _ p
  rw[List.drop_eq_getElem_cons d]at e
  generalize s.rules[k]=r at *
  repeat (first|refine ZjD ?_|(refine js ?_;(refine bx ?_;intro c)))
  apply Zam;rfl;rfl;rfl
  ·intro g
   repeat (first|(refine js ?_;(refine bx ?_;intro c))|refine walk ?_)
   exact ret_1 _ [] (.tmp rfl) .nil ⟨by rw[e];simp[Zot,g],rfl⟩
  intro g
  repeat (first|refine ZjD ?_|(refine js ?_;(refine bx ?_;intro c)))
  refine Zaf rfl (fun f=>?_) (fun f=>?_)
  ·repeat (first|(refine js ?_;(refine bx ?_;intro c))|refine walk ?_)
   exact ret_1 _ [] (.tmp rfl) .nil ⟨by rw[e];simp[Zot,f],rfl⟩
  repeat (first|(refine js ?_;(refine bx ?_;intro c))|refine walk ?_)
  exact⟨k+1,by omega,⟨by omega,by rw[e];simp[Zot,g,f]⟩,⟨rfl,rfl,rfl,trivial⟩,.refl _⟩
 simp only[decide_eq_false_iff_not,Int.ofNat_lt]at d
 have K:res=(s.zones.all Zia&&(s.links.all Zgq&&s.shifts.all fun x => !(Zc0 x))):=by
  rw[e,List.drop_eq_nil_of_le (by omega)];simp
 clear e J d q
 repeat (first|(refine js ?_;(refine bx ?_;intro c))|refine walk ?_)
 refine Zai [(1,_),(2,_)] _ (fun k:Nat=>[(4,.int .i64 k)]) (fun _=>[]) (fun k=>k<=s.zones.length/\res=((s.zones.drop k).all Zia&&(s.links.all Zgq&&s.shifts.all fun x => !(Zc0 x)))) (fun k=>s.zones.length - k) 0 ⟨rfl,rfl,rfl,trivial⟩ (.refl _) ⟨by omega,K⟩ ?_
 rintro k ⟨q,e⟩
 repeat (first|(refine js ?_;(refine bx ?_;intro c))|refine walk ?_)
 refine Zaf rfl (fun d=>?_) (fun d=>?_)
 ·simp only[decide_eq_true_eq,Int.ofNat_lt]at d
  have p:=List.getElem?_eq_getElem d
  obtain⟨hn,S,⟨Ae,N,D,rfl⟩,hcell⟩:=h.z k _ p
  rw[List.drop_eq_getElem_cons d]at e
  generalize s.zones[k]=z at *
  have M:=D.le
  have t:=D.cap
  unfold maxLen at t
  repeat (first|(apply RL_pu;rfl;(first|(apply Pu_indexAddr;rfl;rfl;omega;omega;exact hn)|(apply Pu_loadON (h:=hcell);rfl;rfl)))|(refine js ?_;(first|(refine Zab (fun w' _=>call _ w') ?_)|(refine bx ?_;intro c)))|refine walk1 ?_)
  apply Zam;rfl;rfl;rfl
  ·intro g
   repeat (first|(refine js ?_;(refine bx ?_;intro c))|refine walk ?_)
   exact ret_1 _ [] (.tmp rfl) .nil ⟨by rw[e];simp[Zia,g],rfl⟩
  intro g
  repeat (first|(refine js ?_;(refine bx ?_;intro c))|refine walk ?_)
  refine Zaf rfl (fun f=>?_) (fun f=>?_)
  ·repeat (first|(refine js ?_;(refine bx ?_;intro c))|refine walk ?_)
   simp only[decide_eq_true_eq]at f
   exact ret_1 _ [] (.tmp rfl) .nil ⟨by rw[e];simp[Zia];intro _ Q;omega,rfl⟩
  simp only[decide_eq_false_iff_not]at f
  have u:res=(z.eras.all Zou&&((s.zones.drop (k+1)).all Zia&&(s.links.all Zgq&&s.shifts.all fun x => !(Zc0 x)))):=by
   rw[e,List.all_cons,Zia,g,decide_eq_true (by omega)];simp[Bool.and_assoc]
  repeat (first|(refine js ?_;(refine bx ?_;intro c))|refine walk ?_)
  refine Zai [(1,_),(2,_),(4,_),(5,_)] _ (fun j:Nat=>[(6,.int .i64 j)]) (fun _=>[]) (fun j=>j<=z.eras.length/\res=((z.eras.drop j).all Zou&&((s.zones.drop (k+1)).all Zia&&(s.links.all Zgq&&s.shifts.all fun x => !(Zc0 x))))) (fun j=>z.eras.length - j) 0 ⟨rfl,rfl,rfl,rfl,rfl,trivial⟩ (.refl _) ⟨by omega,u⟩ ?_
  rintro j ⟨R,m⟩
  repeat (first|(refine js ?_;(refine bx ?_;intro c))|refine walk ?_)
  refine Zaf rfl (fun i=>?_) (fun i=>?_)
  ·simp only[decide_eq_true_eq,Int.ofNat_lt]at i
   have E:=List.getElem?_eq_getElem i
   obtain⟨hn,hcell⟩:=D.rd j _ E
   rw[List.drop_eq_getElem_cons i]at m
   generalize z.eras[j]=r at *
   repeat (first|refine ZjD ?_|(refine js ?_;(refine bx ?_;intro c)))
   apply Zam;rfl;rfl;rfl
   ·intro g
    repeat (first|(refine js ?_;(refine bx ?_;intro c))|refine walk ?_)
    exact ret_1 _ [] (.tmp rfl) .nil ⟨by rw[m];simp[Zou,g],rfl⟩
   intro g
   repeat (first|refine ZjD ?_|(refine js ?_;(refine bx ?_;intro c)))
   refine Zaf rfl (fun f=>?_) (fun f=>?_)
   ·repeat (first|(refine js ?_;(refine bx ?_;intro c))|refine walk ?_)
    exact ret_1 _ [] (.tmp rfl) .nil ⟨by rw[m];simp[Zou,f],rfl⟩
   repeat (first|(refine js ?_;(refine bx ?_;intro c))|refine walk ?_)
   exact⟨j+1,by omega,⟨by omega,by rw[m];simp[Zou,g,f]⟩,⟨rfl,rfl,rfl,rfl,rfl,trivial⟩,.refl _⟩
  simp only[decide_eq_false_iff_not,Int.ofNat_lt]at i
  repeat (first|(refine js ?_;(refine bx ?_;intro c))|refine walk ?_)
  exact⟨k+1,by omega,⟨by omega,by rw[m,List.drop_eq_nil_of_le (by omega)];simp⟩,SFA,SOA⟩
 simp only[decide_eq_false_iff_not,Int.ofNat_lt]at d
 have u:res=(s.links.all Zgq&&s.shifts.all fun x => !(Zc0 x)):=by
  rw[e,List.drop_eq_nil_of_le (by omega)];simp
 clear e K d q
 repeat (first|(refine js ?_;(refine bx ?_;intro c))|refine walk ?_)
 refine Zai [(1,_),(2,_)] _ (fun k:Nat=>[(7,.int .i64 k)]) (fun _=>[]) (fun k=>k<=s.links.length/\res=((s.links.drop k).all Zgq&&s.shifts.all fun x => !(Zc0 x))) (fun k=>s.links.length - k) 0 ⟨rfl,rfl,rfl,trivial⟩ (.refl _) ⟨by omega,u⟩ ?_
 rintro k ⟨q,e⟩
 repeat (first|(refine js ?_;(refine bx ?_;intro c))|refine walk ?_)
 refine Zaf rfl (fun d=>?_) (fun d=>?_)
 ·simp only[decide_eq_true_eq,Int.ofNat_lt]at d
  have p:=List.getElem?_eq_getElem d
  obtain⟨hn,hcell⟩:=h.l.rd k _ p
  rw[List.drop_eq_getElem_cons d]at e
  generalize s.links[k]=r at *
  repeat (first|refine ZjD ?_|(refine js ?_;(refine bx ?_;intro c)))
  apply Zam;rfl;rfl;rfl
  ·intro g
   repeat (first|(refine js ?_;(refine bx ?_;intro c))|refine walk ?_)
   exact ret_1 _ [] (.tmp rfl) .nil ⟨by rw[e];simp[Zgq,g],rfl⟩
  intro g
  repeat (first|refine ZjD ?_|(refine js ?_;(refine bx ?_;intro c)))
  refine Zaf rfl (fun f=>?_) (fun f=>?_)
  ·repeat (first|(refine js ?_;(refine bx ?_;intro c))|refine walk ?_)
   exact ret_1 _ [] (.tmp rfl) .nil ⟨by rw[e];simp[Zgq,f],rfl⟩
  repeat (first|(refine js ?_;(refine bx ?_;intro c))|refine walk ?_)
  exact⟨k+1,by omega,⟨by omega,by rw[e];simp[Zgq,g,f]⟩,⟨rfl,rfl,rfl,trivial⟩,.refl _⟩
 simp only[decide_eq_false_iff_not,Int.ofNat_lt]at d
 have L:res=s.shifts.all fun x => !(Zc0 x):=by
  rw[e,List.drop_eq_nil_of_le (by omega)];simp
 clear e u d q
 repeat (first|(refine js ?_;(refine bx ?_;intro c))|refine walk ?_)
 refine Zai [(1,_),(2,_)] _ (fun k:Nat=>[(8,.int .i64 k)]) (fun _=>[]) (fun k=>k<=s.shifts.length/\res=(s.shifts.drop k).all fun x => !(Zc0 x)) (fun k=>s.shifts.length - k) 0 ⟨rfl,rfl,rfl,trivial⟩ (.refl _) ⟨by omega,L⟩ ?_
 rintro k ⟨q,e⟩
 repeat (first|(refine js ?_;(refine bx ?_;intro c))|refine walk ?_)
 refine Zaf rfl (fun d=>?_) (fun d=>?_)
 ·simp only[decide_eq_true_eq,Int.ofNat_lt]at d
  have p:=List.getElem?_eq_getElem d
  obtain⟨hn,hcell⟩:=h.s.rd k _ p
  rw[List.drop_eq_getElem_cons d]at e
  generalize s.shifts[k]=r at *
  repeat (first|(apply RL_pu;rfl;(first|exact Zzs|(apply Pu_loadO1 (h:=hcell 0 _ rfl);rfl)))|(refine js ?_;(first|(refine Zab (fun w' _=>call _ w') ?_)|(refine bx ?_;intro c)))|refine walk1 ?_)
  refine Zaf rfl (fun f=>?_) (fun f=>?_)
  ·repeat (first|(refine js ?_;(refine bx ?_;intro c))|refine walk ?_)
   exact ret_1 _ [] (.tmp rfl) .nil ⟨by rw[e];simp[f],rfl⟩
  repeat (first|(refine js ?_;(refine bx ?_;intro c))|refine walk ?_)
  exact⟨k+1,by omega,⟨by omega,by rw[e];simp[f]⟩,⟨rfl,rfl,rfl,trivial⟩,.refl _⟩
 simp only[decide_eq_false_iff_not,Int.ofNat_lt]at d
 repeat (first|(refine js ?_;(refine bx ?_;intro c))|refine walk ?_)
 exact ret_1 _ [] (.tmp rfl) .nil ⟨by rw[e,List.drop_eq_nil_of_le (by omega)];simp,rfl⟩
end Go.Proofs.YtpipekfmecikmaaGreatDoor
namespace Go.Proofs.YtpipekfmecikmaaGreatDoor
open Go Go.RowKit Go.Wk Go.ChangeShapes Go.WideShapes Go.ChangeAt
section
variable {H:Type}{enc:TypeId × Value->H}{w:World}{sp:Nat->Bool}{held:Bool}
def _root_.Go.Wk.DZone.ok (z:DZone):Prop:=z.name.size<=maxLen/\∀ e∈z.eras,e.ok
def _root_.Go.Wk.DSource.ok (s:DSource):Prop:=(∀ r∈s.rules,r.ok)/\(∀ z∈s.zones,z.ok)/\(∀ l∈s.links,l.ok)/\∀ x∈s.shifts,x.size<=maxLen
theorem Zxu {n:Nat}{cs:List Value}{y:DataW H × List MemPlace}(h:DataW.trod enc Tryz.prog w 0 sp held n 9 cs=some y):∃ d:ByteArray,cs=ZaO d/\d.size<=maxLen:=by
 obtain⟨x,e,_,b⟩:=DataW.trod_string Tryz.underlying9 h
 exact⟨x,e,b⟩
theorem Zwm {n:Nat}{cs:List Value}{y:DataW H × List MemPlace}(h:DataW.trod enc Tryz.prog w 0 sp held n 71 cs=some y):∃ z:DZone,Zkv w z cs/\z.ok:=by
 obtain⟨f,e⟩:=Zc9 Tryz.underlying71 h
 rw[show Tryz.prog.cellsOf 71=2 from by kernel_rfl]at f
 obtain⟨a0,i,rfl,a⟩:=Zax f
 obtain⟨r,j,rfl,b⟩:=Zax a
 obtain rfl:=List.eq_nil_of_length_eq_zero b
 obtain⟨s,u,k⟩:=e 0 9 0 1 rfl (by kernel_rfl)
 obtain⟨t,v,m⟩:=e 1 69 1 1 rfl (by kernel_rfl)
 obtain⟨q,d,g⟩:=Zxu k
 simp only[List.drop,List.take,ZaO,List.cons.injEq,and_true]at d
 subst d
 obtain⟨A,l,c,rfl,o,p⟩:=Zhp Tryz.underlying69 DEra.enc DEra.ok (sz:=13) (by kernel_rfl) (fun n cs y h=>ZzI h) m
 exact⟨⟨q,l⟩,⟨A,c,o,rfl⟩,g,p⟩
set_option maxRecDepth 100000 in
theorem Zor {v:Value}{r:Reach}{q:Nat}{d:DataW H}{R:List MemPlace}(J:Value.okWide Tryz.prog w r q 27 v)(h:DataW.Trod enc Tryz.prog w 0 sp held 27 v d R) :
  ∃ Ar Az Al As c e b cs s,v=srcV Ar Az Al As c e b cs s/\Zal w Ar Az Al As c e b cs s/\s.ok:=by
 obtain⟨vs,rfl,I⟩:=okWide_struct Tryz.underlying27 J
 obtain⟨fuel,h⟩:=h
 obtain⟨j,a⟩:=Zc9 Tryz.underlying27 h
 rw[show Tryz.prog.cellsOf 27=4 from by kernel_rfl]at j
 obtain⟨vs⟩:=vs
 simp only[Value.cells]at j a
 obtain⟨a0,t,rfl,l⟩:=Zax j
 obtain⟨X,u,rfl,m⟩:=Zax l
 obtain⟨a2,x,rfl,o⟩:=Zax m
 obtain⟨a3,A,rfl,p⟩:=Zax o
 obtain rfl:=List.eq_nil_of_length_eq_zero p
 obtain⟨Y,y0,B⟩:=a 0 22 0 1 rfl (by kernel_rfl)
 obtain⟨Z,y1,C⟩:=a 1 23 1 1 rfl (by kernel_rfl)
 obtain⟨n2,y2,D⟩:=a 2 24 2 1 rfl (by kernel_rfl)
 obtain⟨n3,y3,E⟩:=a 3 25 3 1 rfl (by kernel_rfl)
 obtain⟨Ar,O,c,rfl,S,T⟩:=Zhp Tryz.underlying22 DRule.enc DRule.ok (sz:=11) (by kernel_rfl) (fun n cs y h=>Zwn h) B
 obtain⟨Az,Q,e,rfl,W,z2,z3⟩:=ZpO Tryz.underlying23 (fun(z:DZone) cs=>Zkv w z cs/\z.ok) (fun n cs y h=>Zwm h) C
 obtain⟨Al,N,b,rfl,L,M⟩:=Zhp Tryz.underlying24 DLink.enc DLink.ok (sz:=2) (by kernel_rfl) (fun n cs y h=>Zwo h) D
 obtain⟨As,P,cs,rfl,U,V⟩:=Zhp Tryz.underlying25 ZaO (fun d=>d.size<=maxLen) (sz:=1) (by kernel_rfl) (fun n cs y h=>Zxu h) E
 rw[show Tryz.prog.cellsOf 71=2 from by kernel_rfl]at z3
 refine⟨Ar,Az,Al,As,c,e,b,cs,⟨O,Q,N,P⟩,rfl,⟨S,W,z2,fun k z i=>?_,L,U⟩,T,fun z K=>?_,M,V⟩
 ·obtain⟨F,f,⟨g,_⟩,G⟩:=z3 k z i
  exact⟨F,f,g,G⟩
 ·obtain⟨k,i⟩:=List.getElem?_of_mem K
  obtain⟨_,_,⟨_,g⟩,_⟩:=z3 k z i
  exact g
end
open Go Go.RowKit Go.Wk
attribute [local irreducible] W RL Does Zat Zaj retQ Calls Pu Stp RD Qy Ay Zak
theorem Zii {s:ByteArray}(h:(!Zc0 s)=true):s.size<=1000000000:=by
 unfold Zc0 at h
 simp only[Bool.not_eq_true',decide_eq_false_iff_not]at h
 omega
theorem ZiI {a:DSource}(h:fewB a=true):ZcX a:=by
 unfold fewB at h
 simp only[Bool.and_eq_true,decide_eq_true_eq,List.all_eq_true]at h
 obtain⟨⟨⟨⟨m,n⟩,o⟩,p⟩,b,c,d,q⟩:=h
 refine⟨by omega,by omega,by omega,by omega,fun r i=>?_,fun z j=>?_,fun l g=>?_⟩
 ·have:=b r i
  unfold Zot at this
  rw[Bool.and_eq_true]at this
  exact⟨Zii this.1,Zii this.2⟩
 ·have:=c z j
  unfold Zia at this
  simp only[Bool.and_eq_true,decide_eq_true_eq,List.all_eq_true]at this
  obtain⟨⟨k1,k2⟩,k⟩:=this
  refine⟨Zii k1,by omega,fun e f=>?_⟩
  have:=k e f
  unfold Zou at this
  rw[Bool.and_eq_true]at this
  exact⟨Zii this.1,Zii this.2⟩
 ·have:=d l g
  unfold Zgq at this
  rw[Bool.and_eq_true]at this
  exact⟨Zii this.1,Zii this.2⟩
theorem ZtR {w:World}{Ar Az Al As:Option Addr}{g i f cs:Nat}{a:DSource}(l:LibW w)(k:Glob w)(j:Zal w Ar Az Al As g i f cs a)(b:a.ok)(h:fewB a=true):Zcb w Ar Az Al As g i f cs a where
 L:=l
 G:=k
 A:=j
 S:=ZiI h
 V:=fun r m=>Zk6.1 (b.1 r m).2.2.2.2.2.2.1
 Z:=fun z d e c=>⟨Zk6.1 ((b.2.1 z d).2 e c).1,Zk6.1 ((b.2.1 z d).2 e c).2.2.1,Zk6.1 ((b.2.1 z d).2 e c).2.1,(((ZiI h).zs z d).2.2 e c).2⟩
end Go.Proofs.YtpipekfmecikmaaGreatDoor
namespace Go.Proofs.YtpipekfmecikmaaGreatDoor
open Go Go.RowKit Go.Wk
instance : EqE Tryz.prog 42 Zbe Zbe.enc where
 h r s w:=by
  unfold Zbe.enc
  simp[go_sem,Zcc]
  rcases r with⟨_,_,_⟩
  rcases s with⟨_,_,_⟩
  simp only[Zh9,Result.ok.injEq,and_true]
  rw[Bool.eq_iff_iff]
  simp[and_assoc]
 g:=by kernel_rfl
end Go.Proofs.YtpipekfmecikmaaGreatDoor
