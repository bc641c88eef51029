/- Parts of the proof. -/
import Derived.Test.YtpipekfmecikmaaGreatDoorA11
set_option maxHeartbeats 0
set_option linter.all false
namespace Go.Wk
open Go Go.RowKit
def jan1 (y:Int):Int:=365*y+(y+3) / 4 - (y+99) / 100+(y+399) / 400 - 719528
def ZkR (y:Int):Int:=if ZbQ y then 366 else 365
theorem ZeP (y:Int):ZbQ y=true↔y % 4=0/\(y % 100≠0\/y % 400=0):=by
 unfold ZbQ
 simp
theorem ZxW (c:Int):jan1 (c*400)=c*146097 - 719528:=by unfold jan1;omega
theorem ZdO (y:Int):jan1 (y+1)=jan1 y+ZkR y:=by
 unfold ZkR
 have h:=ZeP y
 by_cases a:ZbQ y=true
 ·rw[if_pos a]
  have:=h.1 a
  unfold jan1
  omega
 ·rw[if_neg a]
  have:¬ (y % 4=0/\(y % 100≠0\/y % 400=0)):=fun e=>a (h.2 e)
  unfold jan1
  omega
theorem Ze6 (y:Int):365<=ZkR y/\ZkR y<=366:=by unfold ZkR;split <;> omega
theorem Zj1 (y:Int):jan1 y=ZaW y 1 1:=by
 unfold ZaW Zb2 jan1
 rw[if_pos (by decide),show((1:Int)+12 - 3).toNat=10 by decide,show Za2.getD 10 0=306 by decide]
 omega
theorem Zkd (y:Int)(m:Nat)(c:1<=m)(d:m<=11):ZaW y ((m:Int)+1) 1=ZaW y m 1+lenM y m:=by
 have h:=ZeP y
 have b:m=1\/m=2\/m=3\/m=4\/m=5\/m=6\/m=7\/m=8\/m=9\/m=10\/m=11:=by omega
 rcases b with rfl|rfl|rfl|rfl|rfl|rfl|rfl|rfl|rfl|rfl|rfl
 ·show Zb2 (y - 1) 14 1=Zb2 (y - 1) 13 1+31
  unfold Zb2
  rw[show((14:Int) - 3).toNat=11 by decide,show((13:Int) - 3).toNat=10 by decide,show Za2.getD 11 0=337 by decide,show Za2.getD 10 0=306 by decide]
  omega
 ·show Zb2 y 3 1=Zb2 (y - 1) 14 1+(if ZbQ y then 29 else 28)
  unfold Zb2
  rw[show((14:Int) - 3).toNat=11 by decide,show((3:Int) - 3).toNat=0 by decide,show Za2.getD 11 0=337 by decide,show Za2.getD 0 0=0 by decide]
  by_cases a:ZbQ y=true
  ·rw[if_pos a]
   have:=h.1 a
   omega
  ·rw[if_neg a]
   have:¬ (y % 4=0/\(y % 100≠0\/y % 400=0)):=fun e=>a (h.2 e)
   omega
 all_goals
  show Zb2 y _ 1=Zb2 y _ 1+_
  unfold Zb2
 ·show y / 400*146097+y % 400*365+y % 400 / 4 - y % 400 / 100+31+1 - 1 - 719468=y / 400*146097+y % 400*365+y % 400 / 4 - y % 400 / 100+0+1 - 1 - 719468+31
  omega
 ·show y / 400*146097+y % 400*365+y % 400 / 4 - y % 400 / 100+61+1 - 1 - 719468=y / 400*146097+y % 400*365+y % 400 / 4 - y % 400 / 100+31+1 - 1 - 719468+30
  omega
 ·show y / 400*146097+y % 400*365+y % 400 / 4 - y % 400 / 100+92+1 - 1 - 719468=y / 400*146097+y % 400*365+y % 400 / 4 - y % 400 / 100+61+1 - 1 - 719468+31
  omega
 ·show y / 400*146097+y % 400*365+y % 400 / 4 - y % 400 / 100+122+1 - 1 - 719468=y / 400*146097+y % 400*365+y % 400 / 4 - y % 400 / 100+92+1 - 1 - 719468+30
  omega
 ·show y / 400*146097+y % 400*365+y % 400 / 4 - y % 400 / 100+153+1 - 1 - 719468=y / 400*146097+y % 400*365+y % 400 / 4 - y % 400 / 100+122+1 - 1 - 719468+31
  omega
 ·show y / 400*146097+y % 400*365+y % 400 / 4 - y % 400 / 100+184+1 - 1 - 719468=y / 400*146097+y % 400*365+y % 400 / 4 - y % 400 / 100+153+1 - 1 - 719468+31
  omega
 ·show y / 400*146097+y % 400*365+y % 400 / 4 - y % 400 / 100+214+1 - 1 - 719468=y / 400*146097+y % 400*365+y % 400 / 4 - y % 400 / 100+184+1 - 1 - 719468+30
  omega
 ·show y / 400*146097+y % 400*365+y % 400 / 4 - y % 400 / 100+245+1 - 1 - 719468=y / 400*146097+y % 400*365+y % 400 / 4 - y % 400 / 100+214+1 - 1 - 719468+31
  omega
 ·show y / 400*146097+y % 400*365+y % 400 / 4 - y % 400 / 100+275+1 - 1 - 719468=y / 400*146097+y % 400*365+y % 400 / 4 - y % 400 / 100+245+1 - 1 - 719468+30
  omega
theorem Zt8 (y m d:Int):ZaW y m d=ZaW y m 1+d - 1:=by
 unfold ZaW Zb2
 split <;> omega
theorem ZwI (q:Int)(d:0<=q):10<=monN q 11↔306<=q:=by
 have a:Za2.getD 11 0=337:=by decide
 have b:Za2.getD 10 0=306:=by decide
 have c:∀ m,monN q m<=m:=by
  intro m
  induction m with
  | zero=>exact Nat.le_refl _
  | succ m ih=>rw[monN];split <;> omega
 rw[monN,monN]
 simp only[a,show Za2.getD (9+1) 0=306 from b,show Za2.getD (10+1) 0=337 from a]
 have e:=c 9
 split
 ·constructor <;> intro <;> omega
 ·split
  ·constructor <;> intro <;> omega
  ·constructor <;> intro <;> omega
theorem ZwS (c y:Int)(e:0<=y)(f:y<=399):jan1 (c*400+y+1)=c*146097+(y*365+y / 4 - y / 100)+306 - 719468:=by
 have a:(c*400+y+1+3) / 4=100*c+y / 4+1:=by omega
 have b:(c*400+y+1+99) / 100=4*c+y / 100+1:=by omega
 have d:(c*400+y+1+399) / 400=c+1:=by omega
 unfold jan1
 rw[a,b,d]
 omega
theorem Zgm (n:Int):jan1 (ZcA n)<=n/\n<jan1 (ZcA n+1):=by
 have a:ZcA n=if 10<=monN ((n+719468) % 146097 - (ZcO ((n+719468) % 146097)*365+ZcO ((n+719468) % 146097) / 4 - ZcO ((n+719468) % 146097) / 100)) 11 then (n+719468) / 146097*400+ZcO ((n+719468) % 146097)+1 else (n+719468) / 146097*400+ZcO ((n+719468) % 146097):=rfl
 have b:0<=(n+719468) % 146097/\(n+719468) % 146097<146097:=by omega
 have p:n=(n+719468) / 146097*146097+(n+719468) % 146097 - 719468:=by omega
 have i:=ZpE _ b.1 b.2
 generalize (n+719468) % 146097=r at *
 generalize (n+719468) / 146097=c at *
 generalize ZcO r=y at *
 obtain⟨l,m,o,q⟩:=i
 have f:=ZwI _ o
 have j:=ZwS c y l m
 by_cases h:10<=monN (r - (y*365+y / 4 - y / 100)) 11
 ·rw[if_pos h]at a
  have k:=f.1 h
  have d:=ZdO (c*400+y+1)
  have g:=Ze6 (c*400+y+1)
  rw[a,d,j]
  omega
 ·rw[if_neg h]at a
  have k:¬ 306<=r - (y*365+y / 4 - y / 100):=fun e=>h (f.2 e)
  have d:=ZdO (c*400+y)
  have g:=Ze6 (c*400+y)
  rw[a]
  omega
theorem Za9 (a:Int)(k:Nat):jan1 a+365*k<=jan1 (a+k):=by
 induction k with
 | zero=>simp
 | succ k ih =>
  have:=ZdO (a+k)
  have b:=Ze6 (a+k)
  rw[show a+((k+1:Nat):Int)=a+k+1 by omega,this]
  omega
theorem ZwR {n a b:Int}(d:jan1 a<=n)(e:n<jan1 (a+1))(f:jan1 b<=n)(g:n<jan1 (b+1)):a=b:=by
 by_cases h:a<b
 ·have:=Za9 (a+1) (b - (a+1)).toNat
  rw[show a+1+((b - (a+1)).toNat:Int)=b by omega]at this
  omega
 ·by_cases c:b<a
  ·have:=Za9 (b+1) (a - (b+1)).toNat
   rw[show b+1+((a - (b+1)).toNat:Int)=a by omega]at this
   omega
  ·omega
theorem ZrU (y m:Int):ZaW y m 1+365<=ZaW (y+1) m 1:=by
 unfold ZaW Zb2
 split <;> omega
theorem ZrV (y m:Int)(k:Nat):ZaW y m 1+365*k<=ZaW (y+k) m 1:=by
 induction k with
 | zero=>simp
 | succ k ih =>
  have:=ZrU (y+k) m
  rw[show y+((k+1:Nat):Int)=y+k+1 by omega]
  omega
theorem Zke (y:Int):∀ (m:Nat),m<=11->jan1 y<=ZaW y ((m:Int)+1) 1/\ZaW y ((m:Int)+1) 1<=jan1 y+31*m
 | 0,_=>by rw[Zj1];simp
 | m+1,h=>by
  have c:=Zke y m (by omega)
  have a:=Zkd y (m+1) (by omega) (by omega)
  have b:=ZeO y ((m+1:Nat):Int)
  rw[a]
  rw[show((m+1:Nat):Int)=(m:Int)+1 by omega]at *
  omega
theorem ZiU (y m:Int)(a:1<=m)(b:m<=12):jan1 y<=ZaW y m 1/\ZaW y m 1<=jan1 y+341:=by
 have h:=Zke y (m - 1).toNat (by omega)
 rw[show(((m - 1).toNat:Nat):Int)+1=m by omega]at h
 omega
theorem Zmw {y m:Int}{d:DDay}(h:(onD y m d).2=0):1<=m/\m<=12/\ZaW y m 1 - 6<=(onD y m d).1/\(onD y m d).1<=ZaW y m 1+36:=by
 unfold onD at h ⊢
 by_cases a:Zbh y m 1=false
 ·rw[if_pos a]at h;simp at h
 rw[if_neg a]at h ⊢
 by_cases b:ZbH d=false
 ·rw[if_pos b]at h;simp at h
 rw[if_neg b]at h ⊢
 by_cases c:lenM y m<d.day
 ·rw[if_pos c]at h;simp at h
 rw[if_neg c]
 have q:=ZeO y m
 have i:1<=m/\m<=12:=by
  simp only[Zbh,Bool.not_eq_false,Bool.and_eq_true,decide_eq_true_eq]at a
  have e:=a.2
  unfold lenM at e
  by_cases l:m<1\/12<m
  ·rw[if_pos l]at e;omega
  ·omega
 have g:ZbH d=true:=by simpa using b
 refine⟨i.1,i.2,?_⟩
 simp only[ZbH,dayK,Zq2,Bool.and_eq_true,Bool.or_eq_false_iff,Bool.not_eq_true',decide_eq_true_eq,decide_eq_false_iff_not]at g
 simp only[Zbh,Bool.not_eq_false,Bool.and_eq_true,decide_eq_true_eq]at a
 obtain⟨⟨k1,k2⟩,o⟩:=g
 have n:d.kind≠2->1<=d.day:=by
  intro k
  have j:(!decide (d.kind=2))=true:=by simpa using k
  obtain⟨⟨⟨⟨⟨_,_⟩,_⟩,f⟩,p⟩,_⟩:=o
  rw[j]at f
  simp at f
  omega
 unfold Zd8 ZaX Zbx
 dsimp only
 split
 ·omega
 ·split
  ·omega
  ·split <;> omega
theorem ZaT {least:Int}{r:DRule}{i y:Int}{e:Zac}(h:onR least r i y=some e):e.year=y/\e.rule=i/\max r.from_ (-2000000000)<=y/\y<=2000000000/\-604799<=r.at_.sec/\r.at_.sec<=604799/\(onD y r.month r.day).2=0/\e.nominal=86400*(onD y r.month r.day).1+(r.at_.sec+(if r.at_.base=1 then max least (-10800) else 0)):=by
 unfold onR at h
 split at h
 ·cases h
 rename_i b
 split at h
 ·cases h
 rename_i c
 cases h
 have a:ZaL r.at_=true:=by
  cases a:ZaL r.at_
  ·exact absurd (.inr (.inr a)) b
  ·rfl
 simp only[ZaL,Bool.and_eq_true,decide_eq_true_eq]at a
 have f:¬ lastY r<y:=fun h=>b (.inr (.inl h))
 have d:lastY r<=2000000000:=by unfold lastY;split <;> omega
 refine⟨rfl,rfl,?_,by omega,a.1.1.1,a.1.1.2,Decidable.not_not.1 c,?_⟩
 ·have:¬ y<max r.from_ (-2000000000):=fun h=>b (.inl h)
  omega
 ·dsimp only
  omega
theorem Zf9 {least:Int}(k:least<=0){r:DRule}{i y:Int}{e:Zac}(h:onR least r i y=some e):jan1 y*86400 - 1700000<=e.nominal/\e.nominal<=jan1 (y+1)*86400+1700000:=by
 obtain⟨_,_,_,_,d,f,a,g⟩:=ZaT h
 obtain⟨m1,m2,b,c⟩:=Zmw a
 have j:=ZiU y r.month m1 m2
 have m:=ZdO y
 have n:=Ze6 y
 have l : -10800<=(if r.at_.base=1 then max least (-10800) else 0)/\(if r.at_.base=1 then max least (-10800) else 0)<=0:=by split <;> omega
 generalize (if r.at_.base=1 then max least (-10800) else 0)=mx at *
 generalize (onD y r.month r.day).1=D at *
 omega
theorem Zfc {least:Int}{r:DRule}{i l y a:Int}{e b:Zac}(h:onR least r i y=some e)(f:onR least r l a=some b)(u:y<a):e.nominal<b.nominal:=by
 obtain⟨_,_,_,_,q,t,g,j⟩:=ZaT h
 obtain⟨_,_,_,_,g3,g4,c,d⟩:=ZaT f
 obtain⟨m1,m2,m,n⟩:=Zmw g
 obtain⟨v,w,o,p⟩:=Zmw c
 have k:=ZrV y r.month (a - y).toNat
 rw[show y+((a - y).toNat:Int)=a by omega]at k
 rw[j,d]
 generalize r.at_.sec+(if r.at_.base=1 then max least (-10800) else 0)=s at *
 generalize (onD y r.month r.day).1=D at *
 generalize (onD a r.month r.day).1=D' at *
 omega
theorem Zcv {y a:Int}(h:jan1 y*86400 - 2100000<jan1 (a+1)*86400+2100000):y<=a+1:=by
 by_cases b:y<=a+1
 ·exact b
 ·have:=Za9 (a+1) (y - (a+1)).toNat
  rw[show a+1+((y - (a+1)).toNat:Int)=y by omega]at this
  omega
theorem ZdA {t:Int}(a : -40000000000000000<=t)(b:t<=40000000000000000):jan1 (Zay t)*86400<=t/\t<jan1 (Zay t+1)*86400:=by
 have h:=Zgm (t / 86400)
 have c : -2000000000<=ZcA (t / 86400)/\ZcA (t / 86400)<=2000000000:=by
  unfold jan1 at h
  omega
 have e:Zay t=ZcA (t / 86400):=by unfold Zay;omega
 rw[e]
 omega
theorem ZAx (y m:Int)(a:1<=m)(b:m<=12):28<=lenM y m:=by
 unfold lenM
 rw[if_neg (by omega)]
 split
 ·split <;> omega
 ·split <;> omega
end Go.Wk
namespace Go.Proofs.YtpipekfmecikmaaGreatDoor
open Go Go.RowKit Go.Wk
def ZBx (P:Zac->Prop):Option Zac->Prop
 | none=>∀ e,¬ P e
 | some e=>P e/\∀ e',P e'->ltE e' e=false
def Zq1 (M:List Zac)(e:Zac):Prop:=∃ x∈M,ltE x e=true/\e.nominal - x.nominal<259200
theorem Zgp:∀ (M:List Zac),ZpD M->M.Nodup->ZBx (fun e=>e∈M/\Zq1 M e) (Ze0 M)
 | [],_,_=>fun e f=>by simp at f
 | [a],_,_=>fun e f=>by
  obtain⟨i,x,k,n,_⟩:=f
  rw[List.mem_singleton]at i k
  subst i k
  rw[swoE.irrefl]at n
  cases n
 | a::b::l,hd,hn=>by
  obtain⟨p,r⟩:=List.pairwise_cons.1 hd
  obtain⟨y,z⟩:=List.nodup_cons.1 hn
  obtain⟨v,_⟩:=List.pairwise_cons.1 r
  have m:=Zgp (b::l) r z
  have q:∀ x∈b::l,ltE x a=true:=fun x g=>by
   cases h:ltE x a
   ·have:=totE a x (p x g) h
    subst this
    exact absurd g y
   ·rfl
  have d:∀ e∈b::l,Zq1 (a::b::l) e↔Zq1 (b::l) e:=fun e f=>by
   constructor
   ·rintro⟨x,g,i,k⟩
    rcases List.mem_cons.1 g with rfl|g
    ·rw[p e f]at i;cases i
    ·exact⟨x,g,i,k⟩
   ·rintro⟨x,g,i,k⟩
    exact⟨x,List.mem_cons_of_mem _ g,i,k⟩
  have s:Zq1 (a::b::l) a↔a.nominal - b.nominal<259200:=by
   constructor
   ·rintro⟨x,g,i,k⟩
    rcases List.mem_cons.1 g with rfl|g
    ·rw[swoE.irrefl]at i;cases i
    ·have w:x.nominal<=b.nominal:=by
      rcases List.mem_cons.1 g with rfl|g
      ·exact Int.le_refl _
      ·have n:=v x g
       simp only[ltE,Zd3,decide_eq_false_iff_not]at n
       omega
     omega
   ·intro h
    exact⟨b,List.mem_cons_of_mem _ List.mem_cons_self,q b List.mem_cons_self,h⟩
  rw[Ze0]
  cases hc:Ze0 (b::l) with
  | none =>
   rw[hc]at m
   rw[Option.none_or]
   by_cases j:a.nominal - b.nominal<259200
   ·rw[if_pos j]
    refine⟨⟨List.mem_cons_self,s.2 j⟩,fun e f=>?_⟩
    rcases List.mem_cons.1 f.1 with rfl|h
    ·exact swoE.irrefl _
    ·exact absurd ⟨h,(d e h).1 f.2⟩ (m e)
   ·rw[if_neg j]
    intro e f
    rcases List.mem_cons.1 f.1 with rfl|h
    ·exact j (s.1 f.2)
    ·exact m e ⟨h,(d e h).1 f.2⟩
  | some c =>
   rw[hc]at m
   rw[Option.some_or]
   obtain⟨⟨o,t⟩,u⟩:=m
   refine⟨⟨List.mem_cons_of_mem _ o,(d c o).2 t⟩,fun e f=>?_⟩
   rcases List.mem_cons.1 f.1 with rfl|h
   ·exact p c o
   ·exact u e ⟨h,(d e h).1 f.2⟩
theorem ZdL (L y:Int):∀ (l:List DRule) (i:Nat) (e:Zac),e∈Zb6 L y l i↔∃ (j:Nat) (r:DRule),l[j]?=some r/\onR L r ((i+j:Nat):Int) y=some e
 | [],i,e=>by simp[Zb6]
 | r::l,i,e=>by
  rw[Zb6,List.mem_append,ZdL L y l (i+1) e,Option.mem_toList]
  constructor
  ·rintro(h|⟨j,r',h1,h2⟩)
   ·exact⟨0,r,rfl,h⟩
   ·exact⟨j+1,r',by simpa using h1,by rw[show i+(j+1)=i+1+j by omega];exact h2⟩
  ·rintro⟨j,r',h1,h2⟩
   cases j with
   | zero=>simp only[List.getElem?_cons_zero,Option.some.injEq]at h1;subst h1;exact .inl h2
   | succ j=>exact .inr ⟨j,r',by simpa using h1,by rw[show i+1+j=i+(j+1) by omega];exact h2⟩
theorem Zil (l:List DRule)(L f:Int):∀ (k:Nat) (e:Zac),e∈allC l L f k↔∃ q:Nat,q<k/\e∈Zb6 L (f+q) l 0
 | 0,e=>by simp[allC]
 | k+1,e=>by
  rw[allC,List.mem_append,Zil l L f k e]
  constructor
  ·rintro(⟨q,h1,h2⟩|h)
   ·exact⟨q,by omega,h2⟩
   ·exact⟨k,by omega,h⟩
  ·rintro⟨q,h1,h2⟩
   by_cases a:q=k
   ·subst a;exact .inr h2
   ·exact .inl ⟨q,by omega,h2⟩
theorem Zhc (L y:Int):∀ (l:List DRule) (i:Nat),(Zb6 L y l i).Nodup
 | [],_=>List.nodup_nil
 | r::l,i=>by
  rw[Zb6]
  refine List.nodup_append.2 ⟨?_,Zhc L y l (i+1),?_⟩
  ·cases onR L r i y <;> simp
  ·intro a e b f c
   subst c
   obtain⟨j,r',_,d⟩:=(ZdL L y l (i+1) a).1 f
   have g:=(ZaT (Option.mem_toList.1 e)).2.1
   have h:=(ZaT d).2.1
   omega
theorem Zi9 (l:List DRule)(L f:Int):∀ k,(allC l L f k).Nodup
 | 0=>List.nodup_nil
 | k+1=>by
  rw[allC]
  refine List.nodup_append.2 ⟨Zi9 l L f k,Zhc _ _ _ _,?_⟩
  intro a h b i c
  subst c
  obtain⟨q,o,d⟩:=(Zil l L f k a).1 h
  obtain⟨j,r,_,e⟩:=(ZdL _ _ _ _ _).1 d
  obtain⟨p,r',_,g⟩:=(ZdL _ _ _ _ _).1 i
  have m:=(ZaT e).1
  have n:=(ZaT g).1
  omega
theorem ZfN (least nominal:Int)(r:DRule)(i:Int):∀ (k:Nat) (y:Int) (e:Zac),evIn least nominal r i y k=some e->∃ q:Nat,onR least r i (y+q)=some e/\nominal<e.nominal
 | 0,_,_,h=>by cases h
 | k+1,y,e,h=>by
  rw[evIn]at h
  have b:=ZfN least nominal r i k (y+1) e
  have lift:(∃ q:Nat,onR least r i (y+1+q)=some e/\nominal<e.nominal)->∃ q:Nat,onR least r i (y+q)=some e/\nominal<e.nominal:=by
   rintro⟨q,hq⟩
   exact⟨q+1,by rw[show y+((q+1:Nat):Int)=y+1+q by omega];exact hq⟩
  cases he:onR least r i y with
  | none=>rw[he]at h;exact lift (b h)
  | some e' =>
   rw[he]at h
   dsimp only at h
   by_cases a:nominal<e'.nominal
   ·rw[if_pos a]at h
    cases h
    exact⟨0,by simpa using he,a⟩
   ·rw[if_neg a]at h
    exact lift (b h)
theorem Zfg (least nominal:Int)(r:DRule)(i:Int):∀ (k:Nat) (y:Int) (q:Nat) (e:Zac),q<k->onR least r i (y+q)=some e->nominal<e.nominal->∃ a,evIn least nominal r i y k=some a/\a.nominal<=e.nominal
 | 0,_,_,_,h,_,_=>absurd h (by omega)
 | k+1,y,q,e,h,h1,h2=>by
  rw[evIn]
  cases he:onR least r i y with
  | none =>
   cases q with
   | zero=>rw[show y+((0:Nat):Int)=y by omega,he]at h1;cases h1
   | succ q=>exact Zfg least nominal r i k (y+1) q e (by omega) (by rw[show y+1+(q:Int)=y+((q+1:Nat):Int) by omega];exact h1) h2
  | some a =>
   dsimp only
   by_cases b:nominal<a.nominal
   ·rw[if_pos b]
    refine⟨a,rfl,?_⟩
    cases q with
    | zero=>rw[show y+((0:Nat):Int)=y by omega,he]at h1;cases h1;exact Int.le_refl _
    | succ q=>exact Int.le_of_lt (Zfc he h1 (by omega))
   ·rw[if_neg b]
    cases q with
    | zero=>rw[show y+((0:Nat):Int)=y by omega,he]at h1;cases h1;exact absurd h2 b
    | succ q=>exact Zfg least nominal r i k (y+1) q e (by omega) (by rw[show y+1+(q:Int)=y+((q+1:Nat):Int) by omega];exact h1) h2
theorem Zfv (least a c:Int):∀ (l:List DRule) (i:Nat) (b:Option Zac) (e:Zac),ZaY least a c l i b=some e->b=some e\/∃ (j:Nat) (r:DRule),l[j]?=some r/\evIn least a r ((i+j:Nat):Int) (max (max r.from_ (-2000000000)) (c - 2)) 20=some e
 | [],_,_,_,h => .inl h
 | r::l,i,b,e,h=>by
  rw[ZaY]at h
  rcases Zfv least a c l (i+1) _ e h with h1|⟨j,r',h1,h2⟩
  ·cases he:evIn least a r i (max (max r.from_ (-2000000000)) (c - 2)) 20 with
   | none=>rw[he]at h1;exact .inl h1
   | some e' =>
    rw[he]at h1
    have d:∀ x,e'=x->∃ (j:Nat) (r':DRule),(r::l)[j]?=some r'/\evIn least a r' ((i+j:Nat):Int) (max (max r'.from_ (-2000000000)) (c - 2)) 20=some x:=fun x f=>⟨0,r,rfl,by rw[<- f];exact he⟩
    cases b with
    | none=>cases h1;exact .inr (d _ rfl)
    | some b =>
     dsimp only at h1
     split at h1
     ·cases h1;exact .inr (d _ rfl)
     ·exact .inl h1
  ·exact .inr ⟨j+1,r',by simpa using h1,by rw[show i+(j+1)=i+1+j by omega];exact h2⟩
theorem Zcs (least nominal c:Int):∀ (l:List DRule) (i:Nat) (b:Zac),∃ e,ZaY least nominal c l i (some b)=some e/\e.nominal<=b.nominal
 | [],_,b=>⟨b,rfl,Int.le_refl _⟩
 | r::l,i,b=>by
  rw[ZaY]
  cases he:evIn least nominal r i (max (max r.from_ (-2000000000)) (c - 2)) 20 with
  | none=>exact Zcs least nominal c l (i+1) b
  | some e' =>
   dsimp only
   split
   ·rename_i a
    obtain⟨e,d,f⟩:=Zcs least nominal c l (i+1) e'
    have:e'.nominal<=b.nominal:=by
     unfold ordE at a
     split at a
     ·omega
     ·split at a
      ·omega
      ·omega
    exact⟨e,d,by omega⟩
   ·exact Zcs least nominal c l (i+1) b
theorem Zgu (least nominal d:Int):∀ (l:List DRule) (i:Nat) (b:Option Zac) (j:Nat) (r:DRule) (a:Zac),l[j]?=some r->evIn least nominal r ((i+j:Nat):Int) (max (max r.from_ (-2000000000)) (d - 2)) 20=some a->∃ e,ZaY least nominal d l i b=some e/\e.nominal<=a.nominal
 | [],_,_,_,_,_,h,_=>by simp at h
 | r0::l,i,b,0,r,a,h,h2=>by
  simp only[List.getElem?_cons_zero,Option.some.injEq]at h
  subst h
  rw[ZaY,show evIn least nominal r0 (i:Int) (max (max r0.from_ (-2000000000)) (d - 2)) 20=some a from h2]
  cases b with
  | none=>exact Zcs least nominal d l (i+1) a
  | some b =>
   dsimp only
   split
   ·exact Zcs least nominal d l (i+1) a
   ·rename_i c
    obtain⟨e,g1,g2⟩:=Zcs least nominal d l (i+1) b
    refine⟨e,g1,?_⟩
    unfold ordE at c
    split at c
    ·omega
    ·split at c <;> omega
 | r0::l,i,b,j+1,r,a,h,h2=>by
  rw[ZaY]
  exact Zgu least nominal d l (i+1) _ j r a (by simpa using h) (by rw[show i+1+j=i+(j+1) by omega];exact h2)
theorem ZtR:∀ (l:List DRule) (m:Int),l.foldl (fun m r=>min m r.save) m<=m/\(∀ r∈l,l.foldl (fun m r=>min m r.save) m<=r.save)/\(l.foldl (fun m r=>min m r.save) m=m\/∃ r∈l,l.foldl (fun m r=>min m r.save) m=r.save)
 | [],m=>⟨Int.le_refl _,(fun r h=>by cases h),.inl rfl⟩
 | a::l,m=>by
  obtain⟨e,d,c⟩:=ZtR l (min m a.save)
  rw[List.foldl_cons]
  refine⟨by omega,fun r b=>?_,?_⟩
  ·rcases List.mem_cons.1 b with rfl|b
   ·omega
   ·exact d r b
  ·rcases c with c|⟨r,h4,h5⟩
   ·by_cases f:m<=a.save
    ·exact .inl (by omega)
    ·exact .inr ⟨a,List.mem_cons_self,by omega⟩
   ·exact .inr ⟨r,List.mem_cons_of_mem _ h4,h5⟩
theorem Zsx (x:Int)(h : -86400<x/\x<86400):ZaM x≠[]:=by
 unfold ZaM
 rw[if_neg (by omega)]
 exact fun a=>by cases a
theorem Ziv {α:Type}{l:List α}{k:Nat}{d:α}(h:k<l.length):∃ e,l[k]?=some e/\l.getD k d=e:=⟨l[k],List.getElem?_eq_getElem h,by rw[List.getD_eq_getElem?_getD,List.getElem?_eq_getElem h];rfl⟩
attribute [local irreducible] W RL Does Zaq Zai retQ Calls Pu Stp RD Qy Ay Zaj
end Go.Proofs.YtpipekfmecikmaaGreatDoor
namespace Go.Proofs.YtpipekfmecikmaaGreatDoor
open Go Go.RowKit Go.Wk Go.ChangeShapes Go.WideShapes Go.ChangeAt Tryz
section
variable {H:Type}{enc:TypeId × Value->H}{w:World}{sp:Nat->Bool}{held:Bool}
def _root_.Go.Wk.DDay.ok (d:DDay):Prop:=inR .i64 d.kind/\inR .i64 d.week/\inR .i64 d.day
def _root_.Go.Wk.DClock.ok (d:DClock):Prop:=inR .i64 d.sec/\inR .i64 d.base
def _root_.Go.Wk.DRule.ok (d:DRule):Prop:=d.name.size<=maxLen/\inR .i64 d.from_/\inR .i64 d.to/\inR .i64 d.month/\DDay.ok d.day/\DClock.ok d.at_/\inR .i64 d.save/\d.letter.size<=maxLen
def _root_.Go.Wk.DUntil.ok (d:DUntil):Prop:=inR .i64 d.year/\inR .i64 d.month/\DDay.ok d.day/\DClock.ok d.at_
def _root_.Go.Wk.DEra.ok (d:DEra):Prop:=inR .i64 d.off/\inR .i64 d.kind/\inR .i64 d.save/\d.set.size<=maxLen/\d.format.size<=maxLen/\DUntil.ok d.til
def _root_.Go.Wk.DLink.ok (d:DLink):Prop:=d.target.size<=maxLen/\d.name.size<=maxLen
theorem ZsX {n:Nat}{cs:List Value}{y:DataW H × List MemPlace}(h:DataW.trod enc prog w 0 sp held n 64 cs=some y):∃ d:DDay,cs=d.enc/\d.ok:=by
 obtain⟨k,f⟩:=Zdp underlying64 h
 rw[show prog.cellsOf 64=3 from by kernel_rfl]at k
 have a:prog.cellsOf 3=1:=by kernel_rfl
 obtain⟨a0,p,rfl,g⟩:=Zaw k
 obtain⟨A,q,rfl,i⟩:=Zaw g
 obtain⟨a2,r,rfl,j⟩:=Zaw i
 obtain rfl:=List.eq_nil_of_length_eq_zero j
 obtain⟨B,E,s⟩:=f 0 3 0 1 rfl a
 obtain⟨v,b,_,l⟩:=DataW.trod_int underlying3 s
 injection b with b _
 subst b
 obtain⟨C,F,t⟩:=f 1 3 1 1 rfl a
 obtain⟨x,c,_,m⟩:=DataW.trod_int underlying3 t
 injection c with c _
 subst c
 obtain⟨D,G,u⟩:=f 2 3 2 1 rfl a
 obtain⟨z,e,_,o⟩:=DataW.trod_int underlying3 u
 injection e with e _
 subst e
 exact⟨⟨v,x,z⟩,rfl,Zdo l,Zdo m,Zdo o⟩
theorem Zmj {n:Nat}{cs:List Value}{y:DataW H × List MemPlace}(h:DataW.trod enc prog w 0 sp held n 66 cs=some y):∃ d:DClock,cs=d.enc/\d.ok:=by
 obtain⟨g,f⟩:=Zdp underlying66 h
 rw[show prog.cellsOf 66=2 from by kernel_rfl]at g
 have k:prog.cellsOf 2=1:=by kernel_rfl
 have l:prog.cellsOf 3=1:=by kernel_rfl
 obtain⟨a0,m,rfl,c⟩:=Zaw g
 obtain⟨t,o,rfl,e⟩:=Zaw c
 obtain rfl:=List.eq_nil_of_length_eq_zero e
 obtain⟨u,x,p⟩:=f 0 2 0 1 rfl k
 obtain⟨r,a,_,i⟩:=DataW.trod_int underlying2 p
 injection a with a _
 subst a
 obtain⟨v,z,q⟩:=f 1 3 1 1 rfl l
 obtain⟨s,b,_,j⟩:=DataW.trod_int underlying3 q
 injection b with b _
 subst b
 exact⟨⟨r,s⟩,rfl,Zdo i,Zdo j⟩
theorem Zwt {n:Nat}{cs:List Value}{y:DataW H × List MemPlace}(h:DataW.trod enc prog w 0 sp held n 68 cs=some y):∃ d:DRule,cs=d.enc/\d.ok:=by
 obtain⟨E,a⟩:=Zdp underlying68 h
 rw[show prog.cellsOf 68=11 from by kernel_rfl]at E
 have P:prog.cellsOf 2=1:=by kernel_rfl
 have c:prog.cellsOf 3=1:=by kernel_rfl
 have A:prog.cellsOf 9=1:=by kernel_rfl
 have e:prog.cellsOf 64=3:=by kernel_rfl
 have f:prog.cellsOf 66=2:=by kernel_rfl
 obtain⟨a0,Q,rfl,o⟩:=Zaw E
 obtain⟨a1,R,rfl,p⟩:=Zaw o
 obtain⟨a2,S,rfl,q⟩:=Zaw p
 obtain⟨a3,T,rfl,r⟩:=Zaw q
 obtain⟨a4,U,rfl,s⟩:=Zaw r
 obtain⟨a5,V,rfl,t⟩:=Zaw s
 obtain⟨a6,W,rfl,u⟩:=Zaw t
 obtain⟨a7,X,rfl,v⟩:=Zaw u
 obtain⟨a8,Y,rfl,x⟩:=Zaw v
 obtain⟨a9,Z,rfl,z⟩:=Zaw x
 obtain⟨F,B,rfl,b⟩:=Zaw z
 obtain rfl:=List.eq_nil_of_length_eq_zero b
 obtain⟨n0,y0,h0⟩:=a 0 9 0 1 rfl A
 obtain⟨x0,g,_,G⟩:=DataW.trod_string underlying9 h0
 injection g with g _
 subst g
 obtain⟨n1,y1,h1⟩:=a 1 3 1 1 rfl c
 obtain⟨x1,i,_,I⟩:=DataW.trod_int underlying3 h1
 injection i with i _
 subst i
 obtain⟨n2,y2,h2⟩:=a 2 3 2 1 rfl c
 obtain⟨x2,j,_,J⟩:=DataW.trod_int underlying3 h2
 injection j with j _
 subst j
 obtain⟨n3,y3,h3⟩:=a 3 3 3 1 rfl c
 obtain⟨x3,k,_,K⟩:=DataW.trod_int underlying3 h3
 injection k with k _
 subst k
 obtain⟨n4,y4,h4⟩:=a 4 64 4 3 rfl e
 obtain⟨x4,C,L⟩:=ZsX h4
 simp only[DDay.enc,List.cons.injEq,and_true]at C
 obtain⟨rfl,rfl,rfl⟩:=C
 obtain⟨n5,y5,h5⟩:=a 5 66 7 2 rfl f
 obtain⟨x5,D,M⟩:=Zmj h5
 simp only[DClock.enc,List.cons.injEq,and_true]at D
 obtain⟨rfl,rfl⟩:=D
 obtain⟨n6,y6,h6⟩:=a 6 2 9 1 rfl P
 obtain⟨x6,l,_,N⟩:=DataW.trod_int underlying2 h6
 injection l with l _
 subst l
 obtain⟨n7,y7,h7⟩:=a 7 9 10 1 rfl A
 obtain⟨x7,m,_,O⟩:=DataW.trod_string underlying9 h7
 injection m with m _
 subst m
 exact⟨⟨x0,x1,x2,x3,x4,x5,x6,x7⟩,rfl,G,Zdo I,Zdo J,Zdo K,L,M,Zdo N,O⟩
theorem ZsW {n:Nat}{cs:List Value}{y:DataW H × List MemPlace}(h:DataW.trod enc prog w 0 sp held n 73 cs=some y):∃ d:DUntil,cs=d.enc/\d.ok:=by
 obtain⟨u,a⟩:=Zdp underlying73 h
 rw[show prog.cellsOf 73=8 from by kernel_rfl]at u
 have r:prog.cellsOf 3=1:=by kernel_rfl
 have B:prog.cellsOf 4=1:=by kernel_rfl
 have b:prog.cellsOf 64=3:=by kernel_rfl
 have c:prog.cellsOf 66=2:=by kernel_rfl
 obtain⟨a0,C,rfl,i⟩:=Zaw u
 obtain⟨V,D,rfl,j⟩:=Zaw i
 obtain⟨a2,E,rfl,k⟩:=Zaw j
 obtain⟨a3,F,rfl,l⟩:=Zaw k
 obtain⟨a4,G,rfl,m⟩:=Zaw l
 obtain⟨a5,I,rfl,o⟩:=Zaw m
 obtain⟨W,J,rfl,p⟩:=Zaw o
 obtain⟨X,K,rfl,q⟩:=Zaw p
 obtain rfl:=List.eq_nil_of_length_eq_zero q
 obtain⟨Y,y0,L⟩:=a 0 4 0 1 rfl B
 obtain⟨Q,e,_⟩:=DataW.trod_bool underlying4 L
 injection e with e _
 subst e
 obtain⟨Z,y1,M⟩:=a 1 3 1 1 rfl r
 obtain⟨R,f,_,v⟩:=DataW.trod_int underlying3 M
 injection f with f _
 subst f
 obtain⟨n2,y2,N⟩:=a 2 3 2 1 rfl r
 obtain⟨S,g,_,x⟩:=DataW.trod_int underlying3 N
 injection g with g _
 subst g
 obtain⟨n3,y3,O⟩:=a 3 64 3 3 rfl b
 obtain⟨T,s,z⟩:=ZsX O
 simp only[DDay.enc,List.cons.injEq,and_true]at s
 obtain⟨rfl,rfl,rfl⟩:=s
 obtain⟨n4,y4,P⟩:=a 4 66 6 2 rfl c
 obtain⟨U,t,A⟩:=Zmj P
 simp only[DClock.enc,List.cons.injEq,and_true]at t
 obtain⟨rfl,rfl⟩:=t
 exact⟨⟨Q,R,S,T,U⟩,rfl,Zdo v,Zdo x,z,A⟩
theorem ZAi {n:Nat}{cs:List Value}{y:DataW H × List MemPlace}(h:DataW.trod enc prog w 0 sp held n 75 cs=some y):∃ d:DEra,cs=d.enc/\d.ok:=by
 obtain⟨F,a⟩:=Zdp underlying75 h
 rw[show prog.cellsOf 75=13 from by kernel_rfl]at F
 have z:prog.cellsOf 2=1:=by kernel_rfl
 have Q:prog.cellsOf 3=1:=by kernel_rfl
 have A:prog.cellsOf 9=1:=by kernel_rfl
 have f:prog.cellsOf 73=8:=by kernel_rfl
 obtain⟨a0,R,rfl,m⟩:=Zaw F
 obtain⟨a1,S,rfl,o⟩:=Zaw m
 obtain⟨a2,T,rfl,p⟩:=Zaw o
 obtain⟨a3,U,rfl,q⟩:=Zaw p
 obtain⟨a4,V,rfl,r⟩:=Zaw q
 obtain⟨a5,W,rfl,s⟩:=Zaw r
 obtain⟨a6,X,rfl,t⟩:=Zaw s
 obtain⟨a7,Y,rfl,u⟩:=Zaw t
 obtain⟨a8,Z,rfl,v⟩:=Zaw u
 obtain⟨a9,aa,rfl,x⟩:=Zaw v
 obtain⟨G,B,rfl,b⟩:=Zaw x
 obtain⟨I,C,rfl,c⟩:=Zaw b
 obtain⟨J,D,rfl,e⟩:=Zaw c
 obtain rfl:=List.eq_nil_of_length_eq_zero e
 obtain⟨n0,y0,h0⟩:=a 0 2 0 1 rfl z
 obtain⟨x0,g,_,K⟩:=DataW.trod_int underlying2 h0
 injection g with g _
 subst g
 obtain⟨n1,y1,h1⟩:=a 1 3 1 1 rfl Q
 obtain⟨x1,i,_,L⟩:=DataW.trod_int underlying3 h1
 injection i with i _
 subst i
 obtain⟨n2,y2,h2⟩:=a 2 2 2 1 rfl z
 obtain⟨x2,j,_,M⟩:=DataW.trod_int underlying2 h2
 injection j with j _
 subst j
 obtain⟨n3,y3,h3⟩:=a 3 9 3 1 rfl A
 obtain⟨x3,k,_,N⟩:=DataW.trod_string underlying9 h3
 injection k with k _
 subst k
 obtain⟨n4,y4,h4⟩:=a 4 9 4 1 rfl A
 obtain⟨x4,l,_,O⟩:=DataW.trod_string underlying9 h4
 injection l with l _
 subst l
 obtain⟨n5,y5,h5⟩:=a 5 73 5 8 rfl f
 obtain⟨x5,E,P⟩:=ZsW h5
 simp only[DUntil.enc,List.cons.injEq,and_true]at E
 obtain⟨rfl,rfl,rfl,rfl,rfl,rfl,rfl,rfl⟩:=E
 exact⟨⟨x0,x1,x2,x3,x4,x5⟩,rfl,Zdo K,Zdo L,Zdo M,N,O,P⟩
theorem Zwu {n:Nat}{cs:List Value}{y:DataW H × List MemPlace}(h:DataW.trod enc prog w 0 sp held n 77 cs=some y):∃ d:DLink,cs=d.enc/\d.ok:=by
 obtain⟨i,g⟩:=Zdp underlying77 h
 rw[show prog.cellsOf 77=2 from by kernel_rfl]at i
 have f:prog.cellsOf 9=1:=by kernel_rfl
 obtain⟨a0,l,rfl,c⟩:=Zaw i
 obtain⟨s,m,rfl,e⟩:=Zaw c
 obtain rfl:=List.eq_nil_of_length_eq_zero e
 obtain⟨t,v,o⟩:=g 0 9 0 1 rfl f
 obtain⟨q,a,_,j⟩:=DataW.trod_string underlying9 o
 injection a with a _
 subst a
 obtain⟨u,x,p⟩:=g 1 9 1 1 rfl f
 obtain⟨r,b,_,k⟩:=DataW.trod_string underlying9 p
 injection b with b _
 subst b
 exact⟨⟨q,r⟩,rfl,j,k⟩
end
end Go.Proofs.YtpipekfmecikmaaGreatDoor
namespace Go.Wk
open Go Go.RowKit
end Go.Wk
namespace Go.Proofs.YtpipekfmecikmaaGreatDoor
open Go Go.RowKit Go.Wk
attribute [local irreducible] W RL Does Zaq Zai retQ Calls Pu Stp RD Qy Ay Zaj
end Go.Proofs.YtpipekfmecikmaaGreatDoor
namespace Go.Wk
open Go Go.RowKit
end Go.Wk
namespace Go.Proofs.YtpipekfmecikmaaGreatDoor
open Go Go.RowKit Go.Wk
structure RdLL {α:Type}(w:World)(A:Option Addr)(c:Nat)(enc:α->List Value)(sz:Nat)(ll:List (List α)):Prop where
 le:ll.length<=c
 cap:c<=maxLen
 rd:∀ k l,ll[k]?=some l->A≠none/\∃ B cb,RdSl w B cb enc sz l/\Zat w ((adr A).add (k*1)) [.slice B l.length cb]
end Go.Proofs.YtpipekfmecikmaaGreatDoor
set_option maxHeartbeats 0
namespace Go.Wk
open Go Go.RowKit
structure ZcH (s:DSource):Prop where
 nr:s.rules.length<=1000000
 nz:s.zones.length<=1000000
 nl:s.links.length<=1000000
 ns:s.shifts.length<=2000000
 rs:∀ r∈s.rules,r.name.size<=1000000000/\r.letter.size<=1000000000
 zs:∀ z∈s.zones,z.name.size<=1000000000/\z.eras.length<=1000000/\∀ e∈z.eras,e.set.size<=1000000000/\e.format.size<=1000000000
 ls:∀ l∈s.links,l.target.size<=1000000000/\l.name.size<=1000000000
def plV (p:Zar):Value := .agg (Zar.enc p).toArray
def ptV:Option (Zar × Int)->Value
 | none => .tuple #[plV ⟨0,0,0⟩,.int .i64 0]
 | some (p,e) => .tuple #[plV p,.int .i64 e]
end Go.Wk
namespace Go.Proofs.YtpipekfmecikmaaGreatDoor
open Go Go.RowKit Go.Wk Tryz
attribute [local irreducible] W RL Does Zaq Zai retQ Calls Pu Stp RD Qy Ay Zaj
theorem ZrD (Ar Az Al As:Option Addr)(C u B cs:Nat)(a:DSource)(t:Nat)(mk:List (ByteArray × Value))(w:World)(I:Zam w Ar Az Al As C u B cs a)(D:ZcH a)(H:MpAt w t mk)(J:IxM mk fun x=>ZaK x a.zones 0) :
  Does prog 232 [srcV Ar Az Al As C u B cs a,.map (some t)] w (fun v O=>v=ptV (Za8 a a.zones 0)/\O=[]):=by
 have Q:=D.nz
 obtain⟨i,g⟩:∃ i,Za8 a a.zones 0=i:=⟨_,rfl⟩
 rw[g]
 refine Zaa func232 rfl rfl rfl rfl ?_
 repeat (first|(refine js ?_;(refine bx ?_;intro d))|refine walk ?_)
 refine Zah [(1,.map (some t)),(4,.pointer (some ⟨d,0,none⟩)),(10,.slice Az a.zones.length u),(11,.int .i64 a.zones.length)] [.blk d [.int .i64 0,.int .i64 0,.int .i64 0] 138] (fun k:Nat=>[(12,.int .i64 k)]) (fun _=>[]) (fun k=>k<=a.zones.length/\Za8 a (a.zones.drop k) k=i) (fun k=>a.zones.length - k) 0 SFA SOA ⟨Nat.zero_le _,g⟩ ?_
 rintro k ⟨K,c⟩
 obtain⟨A,q⟩:∃ A,d=A:=⟨_,rfl⟩
 rw[q]at *
 clear q d
 repeat (first|(refine js ?_;(refine bx ?_;intro d))|refine walk ?_)
 refine Zaf rfl (fun m=>?_) (fun m=>?_)
 ·simp only[decide_eq_true_eq,Int.ofNat_lt]at m
  obtain⟨hna,F,⟨Ae,N,_,rfl⟩,hca⟩:=I.z k _ (List.getElem?_eq_getElem m)
  have f:=List.getElem_mem m
  rw[Zag m,Za8]at c
  generalize a.zones[k]=z at *
  have L:=(D.zs z f).1
  obtain⟨j,E⟩:=Zj5 0 f
  obtain⟨y,_⟩:=J.some E
  have r:=fun w'=>ZlQ z.name (by omega) w'
  rw[E]at c
  generalize Zfl z.name=zb at *
  cases zb with
  | false =>
   rw[if_pos rfl]at c
   subst c
   repeat (first|(apply RL_pu;rfl;exact PuI)|(refine js ?_;(first|(refine Zab (fun w' M=>r w') ?_)|(refine bx ?_;intro d)))|refine walk1 ?_)
   exact rtC
  | true =>
   rw[if_neg (by decide)]at c
   repeat (first|(apply RL_pu;rfl;(first|exact PuI|(apply ZnF;rfl;rfl;exact H;exact y)))|(refine js ?_;(first|(refine Zab (fun w' M=>r w') ?_)|(refine bx ?_;intro d)))|refine walk1 ?_)
   refine Zaf rfl (fun s=>?_) (fun s=>?_)
   ·simp only[Bool.not_eq_true',decide_eq_false_iff_not]at s
    rw[if_pos (fun e=>s (by simp only[Option.some.injEq]at e;omega))]at c
    subst c
    repeat (first|(refine js ?_;(refine bx ?_;intro d))|refine walk ?_)
    exact rtC
   ·simp only[Bool.not_eq_false',decide_eq_true_eq]at s
    rw[if_neg (fun e=>e (by congr 1;omega))]at c
    repeat (first|(refine js ?_;(refine bx ?_;intro d))|refine walk ?_)
    exact⟨k+1,OA,⟨OA,c⟩,SFA,SOA⟩
 ·simp only[decide_eq_false_iff_not,Int.ofNat_lt]at m
  rw[List.drop_eq_nil_of_le (by omega),Za8]at c
  subst c
  repeat (first|(refine js ?_;(refine bx ?_;intro d))|refine walk ?_)
  exact rtC
theorem IxM.any {m:List (ByteArray × Value)}{f:ByteArray->Option Nat}(h:IxM m f)(x:ByteArray):∃ n:Int,(mget m x).getD (.int .i64 0) = .int .i64 n/\(mget m x).isSome=(f x).isSome:=by
 rw[h x]
 cases f x with
 | none=>exact⟨0,rfl,rfl⟩
 | some i=>exact⟨i,rfl,rfl⟩
theorem Zes (s:DSource):∀ (l:List DZone) (i:Nat) (p:Zar) (e:Int),Za8 s l i=some (p,e)->e≠0
 | [],_,_,_,h=>by cases h
 | z::l,i,p,e,h=>by
  simp only[Za8]at h
  split at h
  ·simp only[Option.some.injEq,Prod.mk.injEq]at h;omega
  ·split at h
   ·simp only[Option.some.injEq,Prod.mk.injEq]at h;omega
   ·exact Zes s l _ p e h
theorem Zds {G G':Prop}(k:G')(h:Hold G'->G:=by intro k9;(refine walk ?_);exact k9.out):G:=h ⟨k⟩
theorem ZBq {G:Prop}(h:G:=by(apply Zal;rfl;rfl;exact hne')):G:=h
theorem ZBp {G:Prop}(h:G:=by(first|exact PuI|(apply Zb5;rfl;rfl;(focus repeat' constructor);exact hv1;exact hc1)|(apply Zb5;rfl;rfl;(focus repeat' constructor);exact hv2;exact hc2)|(apply Zb5;rfl;rfl;(focus repeat' constructor);exact hv3;exact hc3)|(apply Zg8;rfl;rfl;(focus repeat' constructor);exact hv4))):G:=h
theorem ZnS {G G':Prop}(k:G')(h:Hold G'->G:=by intro k9;(first|(apply RL_pu;rfl;exact ZBp)|refine walk1 ?_|(refine jg ?_;(try intro F);(first|(refine Zab (fun w' hw=>hzn w') ?_)|(refine stA ?_));first|refine⟨_,EndsA,QFLnkB2,?_⟩|refine fin ?_));exact k9.out):G:=h ⟨k⟩
theorem ZrF (Ar Az Al As:Option Addr)(s t q cs:Nat)(a:DSource)(w:World)(J:Zam w Ar Az Al As s t q cs a)(N:ZcH a) :
  Does prog 181 [srcV Ar Az Al As s t q cs a] w (fun v O=>v=ptV (Zdm a)/\O=[]):=by
 have aa:=N.nz
 have Y:=N.nl
 have Z:=fun m mk w' (S:Zam w' Ar Az Al As s t q cs a)=>ZrD Ar Az Al As s t q cs a m mk w' S N
 refine Zaa func181 rfl rfl rfl rfl ?_
 repeat (first|refine ZAa ?_|(refine jn ?_;(try intro F);((refine bx ?_;intro x));refine fin ?_))
 rename_i M
 obtain⟨H,K⟩:∃ H,x=H:=⟨_,rfl⟩
 rw[K]
 clear K x
 repeat (first|refine walk ?_|(refine jg ?_;(try intro F);(first|(apply Zad (h:=fun w' hw _=>Zio Ar Az Al As s t q cs a w' (J.up hw) aa);rfl;rintro v O' ⟨m,mk,rfl,rfl,Q,ab,ac⟩)|(apply Zad (h:=fun w' hw _=>Zge Ar Az Al As s t q cs a w' (J.up hw) Y);rfl;rintro v O' ⟨I,R,rfl,rfl,T,U,W⟩));refine fin ?_)|(refine jn ?_;(try intro F);((apply Zan;exact PuA));refine fin ?_))
 have d:=fun w' hw y=>Z m mk w' (Zam.up J hw) y Q
 unfold Zdm
 cases hzf:Za8 a a.zones 0 with
 | some pe =>
  obtain⟨pl,e⟩:=pe
  rw[hzf]at d
  have X:=Zes a a.zones 0 pl e hzf
  have hne':(!decide (e=0))=true:=by rw[dF_ X];rfl
  repeat (first|(apply RL_pu;rfl;exact ZBq)|refine walk1 ?_|(refine jg ?_;(try intro F);(first|(refine ZaH (fun w' hw y=>d w' hw (y.of (A := .mp m mk) cS_)) ?_)|(refine bx ?_;intro x));first|refine⟨_,EndsA,QFLnkB1,?_⟩|refine fin ?_))
  exact rtC
 | none =>
 rw[hzf]at d
 rw[Option.none_or]
 obtain⟨u,r⟩:∃ u,(Zbp a a.links 0).or (Zbo a a.links 0)=u:=⟨_,rfl⟩
 rw[r]
 repeat (first|refine walk ?_|(refine jg ?_;(try intro F);(first|(refine ZaH (fun w' hw y=>d w' hw (y.of (A := .mp m mk) cS_)) ?_)|(refine bx ?_;intro x));refine fin ?_))
 refine Zah [(1,.pointer (some ⟨M,0,none⟩)),(2,.pointer (some ⟨H,0,none⟩)),(4,.map (some m)),(5,.map (some I)),(36,.slice Al a.links.length q),(37,.int .i64 a.links.length)] [.mp I R,.mp m mk,.blk H [.int .i64 0,.int .i64 0,.int .i64 0] 138,.blk M [.slice Ar a.rules.length s,.slice Az a.zones.length t,.slice Al a.links.length q,.slice As a.shifts.length cs] 27]
  (fun k:Nat=>[(38,.int .i64 k)]) (fun _=>[]) (fun k=>k<=a.links.length/\(Zbp a (a.links.drop k) k).or (Zbo a a.links 0)=u) (fun k=>a.links.length - k) 0 SFA SOA ⟨Nat.zero_le _,r⟩ ?_
 rintro k ⟨z,c⟩
 repeat (refine Zds ?_)
 refine Zaf rfl (fun f=>?_) (fun f=>?_)
 ·simp only[decide_eq_true_eq,Int.ofNat_lt]at f
  obtain⟨hna,hca⟩:=J.l.rd k _ (List.getElem?_eq_getElem f)
  have D:=List.getElem_mem f
  rw[Zag f,Zbp]at c
  generalize a.links[k]=lk at *
  have ad:=(N.ls lk D).2
  obtain⟨n1,hv1,hc1⟩:=Q.any lk.name
  obtain⟨n2,hv2,hc2⟩:=Q.any lk.target
  obtain⟨n3,hv3,hc3⟩:=T.any lk.target
  obtain⟨j,hj⟩:=Zj6 0 D
  have hv4:=(T.some hj).1
  rw[hj]at c
  generalize (ZaK lk.name a.zones 0).isSome=c1 at *
  rw[<- Option.not_isSome,<- Option.not_isSome]at c
  generalize (ZaK lk.target a.zones 0).isSome=c2 at *
  generalize (ZaO lk.target a.links 0).isSome=c3 at *
  have hzn:=fun w'=>ZlQ lk.name (by omega) w'
  generalize Zfl lk.name=zb at *
  cases zb with
  | false =>
   rw[if_pos rfl]at c
   subst c
   repeat (first|refine ZnS ?_|(refine jg ?_;(try intro F);(refine bx ?_;intro x);refine fin ?_))
   exact rtC
  | true =>
   rw[if_neg (by decide)]at c
   cases c1 with
   | true =>
    rw[if_pos (.inl rfl)]at c
    subst c
    repeat (first|refine ZnS ?_|(refine jg ?_;(try intro F);(refine bx ?_;intro x);refine fin ?_))
    exact rtC
   | false =>
    repeat (first|refine ZnS ?_|(refine jg ?_;(try intro F);(refine bx ?_;intro x);refine fin ?_))
    refine Zaf rfl (fun g=>?_) (fun g=>?_)
    ·simp only[Bool.not_eq_true',decide_eq_false_iff_not]at g
     rw[if_pos (.inr fun e=>g (by simp only[Option.some.injEq]at e;omega))]at c
     subst c
     repeat (refine Zds ?_)
     exact rtC
    ·simp only[Bool.not_eq_false',decide_eq_true_eq]at g
     rw[if_neg (by rintro(e|e);cases e;exact e (by congr 1;omega))]at c
     by_cases E:c2=false/\c3=false
     ·obtain⟨rfl,rfl⟩:=E
      rw[if_pos ⟨rfl,rfl⟩]at c
      subst c
      repeat (refine Zds ?_)
      exact rtC
     ·rw[if_neg (by simpa using E)]at c
      cases c2 with
      | true =>
       repeat (refine Zds ?_)
       exact⟨k+1,OA,⟨OA,c⟩,SFA,SOA⟩
      | false =>
       cases c3 with
       | false=>exact absurd ⟨rfl,rfl⟩ E
       | true =>
        repeat (refine Zds ?_)
        exact⟨k+1,OA,⟨OA,c⟩,SFA,SOA⟩
 ·simp only[decide_eq_false_iff_not,Int.ofNat_lt]at f
  rw[List.drop_eq_nil_of_le (by omega),Zbp,Option.none_or]at c
  repeat (refine Zds ?_)
  clear f z r
  refine Zah [(1,.pointer (some ⟨M,0,none⟩)),(2,.pointer (some ⟨H,0,none⟩)),(4,.map (some m)),(5,.map (some I)),(93,.slice Al a.links.length q),(94,.int .i64 a.links.length)] [.mp I R,.mp m mk,.blk H [.int .i64 0,.int .i64 0,.int .i64 0] 138,.blk M [.slice Ar a.rules.length s,.slice Az a.zones.length t,.slice Al a.links.length q,.slice As a.shifts.length cs] 27]
   (fun k:Nat=>[(95,.int .i64 k)]) (fun _=>[]) (fun k=>k<=a.links.length/\Zbo a (a.links.drop k) k=u) (fun k=>a.links.length - k) 0 SFA SOA ⟨Nat.zero_le _,c⟩ ?_
  clear c
  rintro k ⟨z,c⟩
  repeat (refine Zds ?_)
  refine Zaf rfl (fun f=>?_) (fun f=>?_)
  ·simp only[decide_eq_true_eq,Int.ofNat_lt]at f
   obtain⟨hna,hca⟩:=J.l.rd k _ (List.getElem?_eq_getElem f)
   rw[Zag f,Zbo]at c
   generalize a.links[k]=lk at *
   have L:=fun w' S h1 g=>Zix Ar Az Al As s t q cs a m I mk R lk.name w' S h1 g Q T U W
   generalize ZaI a (a.links.length+1) [] lk.name=fo at *
   obtain⟨fi,fe⟩:=fo
   dsimp only at L c
   repeat (first|(apply RL_pu;rfl;exact PuI)|refine walk1 ?_|(refine jg ?_;(try intro F);(first|(refine ZaH (fun w' hw y=>L w' (J.up hw) (y.of (A := .mp m mk) cS_) (y.of (A := .mp I R) cS_)) ?_)|(refine bx ?_;intro x));first|refine⟨_,EndsA,QFI,?_⟩|refine fin ?_))
   refine Zaf rfl (fun g=>?_) (fun g=>?_)
   ·simp only[decide_eq_true_eq]at g
    subst g
    rw[if_pos rfl]at c
    subst c
    repeat (refine Zds ?_)
    exact rtC
   ·simp only[decide_eq_false_iff_not]at g
    rw[if_neg g]at c
    repeat (refine Zds ?_)
    exact⟨k+1,OA,⟨OA,c⟩,SFA,SOA⟩
  ·simp only[decide_eq_false_iff_not,Int.ofNat_lt]at f
   rw[List.drop_eq_nil_of_le (by omega),Zbo]at c
   subst c
   repeat (refine Zds ?_)
   exact rtC
