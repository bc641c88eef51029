/- Parts of the proof. -/
import Derived.Test.YtpipekfmecikmaaGreatDoorV20
import Derived.Test.YtpipekfmecikmaaGreatDoorV15
import Derived.Test.YtpipekfmecikmaaGreatDoorV16
import Derived.Test.YtpipekfmecikmaaGreatDoorV13
import Derived.Test.YtpipekfmecikmaaGreatDoorV07
import Derived.Test.YtpipekfmecikmaaGreatDoorV10
set_option maxHeartbeats 4000000
set_option linter.unusedVariables false
set_option linter.unusedSimpArgs false
namespace Go.Proofs.YtpipekfmecikmaaGreatDoor
open Go Go.RowKit Go.Wk
theorem Zgg (least nominal:Int)(r:DRule)(i:Int):∀ (k:Nat) (y:Int) (e:Zad),beIn least nominal r i y k=some e->∃ y',onR least r i y'=some e/\e.nominal<nominal
 | 0,_,_,h=>by cases h
 | k+1,y,e,h=>by
  rw[beIn]at h
  cases he:onR least r i y with
  | none=>rw[he]at h;exact Zgg least nominal r i k (y - 1) e h
  | some e' =>
   rw[he]at h
   dsimp only at h
   by_cases hc:e'.nominal<nominal
   ·rw[if_pos hc]at h
    cases h
    exact⟨y,he,hc⟩
   ·rw[if_neg hc]at h
    exact Zgg least nominal r i k (y - 1) e h
theorem ZfJ (least nominal:Int)(r:DRule)(i:Int):∀ (k:Nat) (y:Int) (q:Nat) (e:Zad),q<k->onR least r i (y - q)=some e->e.nominal<nominal->∃ e',beIn least nominal r i y k=some e'/\e.nominal<=e'.nominal
 | 0,_,_,_,h,_,_=>absurd h (by omega)
 | k+1,y,q,e,h,h1,h2=>by
  rw[beIn]
  cases he:onR least r i y with
  | none =>
   cases q with
   | zero=>rw[show y - ((0:Nat):Int)=y by omega,he]at h1;cases h1
   | succ q=>exact ZfJ least nominal r i k (y - 1) q e (by omega) (by rw[show y - 1 - (q:Int)=y - ((q+1:Nat):Int) by omega];exact h1) h2
  | some e' =>
   dsimp only
   by_cases hc:e'.nominal<nominal
   ·rw[if_pos hc]
    refine⟨e',rfl,?_⟩
    cases q with
    | zero=>rw[show y - ((0:Nat):Int)=y by omega,he]at h1;cases h1;exact Int.le_refl _
    | succ q=>exact Int.le_of_lt (Zke h1 he (by omega))
   ·rw[if_neg hc]
    cases q with
    | zero=>rw[show y - ((0:Nat):Int)=y by omega,he]at h1;cases h1;exact absurd h2 hc
    | succ q=>exact ZfJ least nominal r i k (y - 1) q e (by omega) (by rw[show y - 1 - (q:Int)=y - ((q+1:Nat):Int) by omega];exact h1) h2
theorem Zip (least nominal yr:Int):∀ (l:List DRule) (i:Nat) (b:Option Zad) (e:Zad),Zer least nominal yr l i b=some e->b=some e\/∃ (j:Nat) (r:DRule),l[j]?=some r/\beIn least nominal r ((i+j:Nat):Int) (min (lastY r) (yr+2)) 20=some e
 | [],_,_,_,h => .inl h
 | r::l,i,b,e,h=>by
  rw[Zer]at h
  rcases Zip least nominal yr l (i+1) _ e h with h1|⟨j,r',h1,h2⟩
  ·cases he:beIn least nominal r i (min (lastY r) (yr+2)) 20 with
   | none=>rw[he]at h1;exact .inl h1
   | some e' =>
    rw[he]at h1
    have hr:∀ x,e'=x->∃ (j:Nat) (r':DRule),(r::l)[j]?=some r'/\beIn least nominal r' ((i+j:Nat):Int) (min (lastY r') (yr+2)) 20=some x:=fun x hx=>⟨0,r,rfl,by rw[<- hx];exact he⟩
    cases b with
    | none=>cases h1;exact .inr (hr _ rfl)
    | some b =>
     dsimp only at h1
     split at h1
     ·cases h1;exact .inr (hr _ rfl)
     ·exact .inl h1
  ·exact .inr ⟨j+1,r',by simpa using h1,by rw[show i+(j+1)=i+1+j by omega];exact h2⟩
theorem ZeN (least nominal yr:Int):∀ (l:List DRule) (i:Nat) (b:Zad),∃ e,Zer least nominal yr l i (some b)=some e/\b.nominal<=e.nominal
 | [],_,b=>⟨b,rfl,Int.le_refl _⟩
 | r::l,i,b=>by
  rw[Zer]
  cases he:beIn least nominal r i (min (lastY r) (yr+2)) 20 with
  | none=>exact ZeN least nominal yr l (i+1) b
  | some e' =>
   dsimp only
   split
   ·rename_i hlt
    obtain⟨e,h1,h2⟩:=ZeN least nominal yr l (i+1) e'
    have:b.nominal<=e'.nominal:=by
     unfold ordE at hlt
     split at hlt
     ·omega
     ·split at hlt
      ·omega
      ·omega
    exact⟨e,h1,by omega⟩
   ·exact ZeN least nominal yr l (i+1) b
theorem ZjL (least nominal yr:Int):∀ (l:List DRule) (i:Nat) (b:Option Zad) (j:Nat) (r:DRule) (e':Zad),l[j]?=some r->beIn least nominal r ((i+j:Nat):Int) (min (lastY r) (yr+2)) 20=some e'->∃ e,Zer least nominal yr l i b=some e/\e'.nominal<=e.nominal
 | [],_,_,_,_,_,h,_=>by simp at h
 | r0::l,i,b,0,r,e',h,h2=>by
  simp only[List.getElem?_cons_zero,Option.some.injEq]at h
  subst h
  rw[Zer,show beIn least nominal r0 (i:Int) (min (lastY r0) (yr+2)) 20=some e' from h2]
  cases b with
  | none=>exact ZeN least nominal yr l (i+1) e'
  | some b =>
   dsimp only
   split
   ·exact ZeN least nominal yr l (i+1) e'
   ·rename_i hlt
    obtain⟨e,g1,g2⟩:=ZeN least nominal yr l (i+1) b
    refine⟨e,g1,?_⟩
    unfold ordE at hlt
    split at hlt
    ·omega
    ·split at hlt <;> omega
 | r0::l,i,b,j+1,r,e',h,h2=>by
  rw[Zer]
  exact ZjL least nominal yr l (i+1) _ j r e' (by simpa using h) (by rw[show i+1+j=i+(j+1) by omega];exact h2)
def EvOf (l:List DRule)(e:Zad):Prop:=∃ (j:Nat) (r:DRule) (y:Int),l[j]?=some r/\onR (Zah l) r (j:Int) y=some e
section
variable {l:List DRule}
theorem Zyz {n:Int}{e:Zad}(he:befD l n=some e):EvOf l e/\e.nominal<n:=by
 rcases Zip _ _ _ l 0 none e he with h1|⟨j,r,h1,h2⟩
 ·cases h1
 ·obtain⟨y,h3,h4⟩:=Zgg _ _ _ _ _ _ _ h2
  rw[Nat.zero_add]at h3
  exact⟨⟨j,r,y,h1,h3⟩,h4⟩
end
structure Zcv (r:DRule):Prop where
 f0:1850<=r.from_
 f1:r.from_<=2149
 ft:r.from_<=r.to
 t1:r.to<=2149\/r.to=1048576
 alw:ZbU r.from_ r.to r.month r.day=true
 clk:ZaH r.at_=true
 save : -10800<=r.save/\r.save<=10800
 letter:r.letter=ByteArray.empty\/Zeg r.letter=true
theorem Zcv.of {r:DRule}{least:Int}(h:Zbm r least=0):Zcv r:=by
 unfold Zbm at h
 by_cases h1:(Zbj r.from_&&(Zbj r.to||decide (r.to=1048576)))=false
 ·rw[if_pos h1]at h;omega
 rw[if_neg h1]at h
 by_cases h2:r.to<r.from_
 ·rw[if_pos h2]at h;omega
 rw[if_neg h2]at h
 by_cases h3:ZbU r.from_ r.to r.month r.day=false
 ·rw[if_pos h3]at h;omega
 rw[if_neg h3]at h
 by_cases h4:ZdR r.at_ least=false
 ·rw[if_pos h4]at h;omega
 rw[if_neg h4]at h
 by_cases h5:(decide (-10800<=r.save)&&decide (r.save<=10800))=false
 ·rw[if_pos h5]at h;omega
 rw[if_neg h5]at h
 by_cases h6:(decide (r.letter=ByteArray.empty)||Zeg r.letter)=false
 ·rw[if_pos h6]at h;omega
 simp only[Zbj,Bool.not_eq_false,Bool.and_eq_true,Bool.or_eq_true,decide_eq_true_eq]at h1 h3 h4 h5 h6
 have h7:ZaH r.at_=true:=by
  unfold ZdR at h4
  rw[Bool.and_eq_true]at h4
  exact h4.1
 exact⟨h1.1.1,h1.1.2,by omega,by omega,h3,h7,h5,h6⟩
theorem ZyA {f t m:Int}{d:DDay}(h:ZbU f t m d=true):1<=m/\m<=12/\Za8 d=true:=by
 unfold ZbU at h
 by_cases h1:m<1\/12<m\/Za8 d=false
 ·rw[if_pos h1]at h;cases h
 ·cases hd:Za8 d with
  | false=>exact absurd (.inr (.inr hd)) h1
  | true=>exact⟨by omega,by omega,rfl⟩
theorem Zzm (y m:Int):lenM 1 m<=lenM y m:=by
 unfold lenM
 rw[show ZbP 1=false by decide]
 split
 ·omega
 ·split
  ·cases ZbP y <;> simp
  ·omega
theorem Zsi {y:Int}(h:0<=y):ZbP (y.tmod 400)=ZbP y:=by
 rw[Int.tmod_eq_emod_of_nonneg h]
 unfold ZbP
 rw[show y % 400 % 4=y % 4 by omega,show y % 400 % 100=y % 100 by omega,show y % 400 % 400=y % 400 by omega]
theorem Zcv.on {r:DRule}(h:Zcv r){y:Int}(h0:r.from_<=y)(h1:y<=Go.Wk.lastY r):(onD y r.month r.day).2=0:=by
 obtain⟨m0,m1,hd⟩:=ZyA h.alw
 have hf0:=h.f0
 have hl:y<=2000000000:=by
  unfold Go.Wk.lastY at h1
  split at h1 <;> omega
 have h28:=Zyh y r.month m0 m1
 have hle:r.day.day<=lenM y r.month:=by
  have ha:=h.alw
  unfold ZbU at ha
  rw[if_neg (by rw[hd];rintro(q|q|q);omega;omega;cases q)]at ha
  by_cases c1:(r.to<1048576/\r.to<r.from_)\/r.day.day<=lenM 1 r.month
  ·have h2:=h.ft
   have:=Zzm y r.month
   omega
  rw[if_neg c1]at ha
  by_cases c2:1048576<=r.to\/r.from_≠r.to\/r.month≠2
  ·rw[if_pos c2]at ha;cases ha
  rw[if_neg c2]at ha
  have hy:y=r.from_:=by
   unfold Go.Wk.lastY at h1
   rw[if_neg (by omega)]at h1
   omega
  have e:lenM (r.from_.tmod 400) r.month=lenM y r.month:=by
   unfold lenM
   rw[Zsi (by omega),hy]
  rw[e]at ha
  exact of_decide_eq_true ha
 unfold onD
 have hdo:ZaN y r.month 1=true:=by
  unfold ZaN inY
  simp
  omega
 rw[if_neg (by rw[hdo];decide),if_neg (by rw[hd];decide),if_neg (by omega)]
theorem Zcv.last {r:DRule}(h:Zcv r):r.from_<=Go.Wk.lastY r/\Go.Wk.lastY r<=2000000000/\(r.to=1048576->Go.Wk.lastY r=2000000000)/\(r.to≠1048576->Go.Wk.lastY r=r.to):=by
 have h0:=h.f0
 have h1:=h.f1
 have h2:=h.ft
 have h3:=h.t1
 unfold Go.Wk.lastY
 split <;> omega
theorem Zcv.onY {r:DRule}(h:Zcv r)(least i:Int){y:Int}(h0:r.from_<=y)(h1:y<=Go.Wk.lastY r):∃ e,onR least r i y=some e:=by
 have ho:=h.on h0 h1
 have hf0:=h.f0
 unfold onR
 rw[if_neg (by rw[h.clk];rintro(q|q|q);omega;omega;cases q),if_neg (by rw[ho];decide)]
 exact⟨_,rfl⟩
theorem Zh8 (least:Int):∀ (l:List DRule) (k:Nat) (x:Nat × Int),ZaW least l k=some x->x.2≠0
 | [],_,_,h=>by cases h
 | r::l,k,x,h=>by
  rw[ZaW]at h
  by_cases h0:Zbm r least=0
  ·rw[if_pos h0]at h
   exact Zh8 least l (k+1) x h
  ·rw[if_neg h0]at h
   cases h
   exact h0
structure Zdq (l:List DRule):Prop where
 rule:∀ r∈l,Zcv r
 zero:∃ r∈l,r.save=0
 last:Zff l=true
 apart:Zes l=none
theorem Zdq.least {l:List DRule}(h:∀ r∈l,Zcv r) : -10800<=Zah l/\Zah l<=0:=by
 obtain⟨h1,h2,h3⟩:=Zsw l 0
 unfold Zah
 refine⟨?_,h1⟩
 rcases h3 with h3|⟨r,h4,h5⟩
 ·omega
 ·have:=(h r h4).save
  omega
theorem Zdq.of {l:List DRule}(h1:(Zcq l).2=0)(h2:Zes l=none):Zdq l:=by
 unfold Zcq at h1
 cases hb:ZaW (Zah l) l 0 with
 | some x =>
  rw[hb]at h1
  exact absurd h1 (Zh8 _ _ _ x hb)
 | none =>
  rw[hb]at h1
  dsimp only at h1
  by_cases c1:(l.any fun r=>decide (r.save=0))=false\/(Zah l<0/\(l.any fun r => !decide (r.save=0)&&!decide (r.save=Zah l))=true)
  ·rw[if_pos c1]at h1;simp at h1
  rw[if_neg c1]at h1
  by_cases c2:Zff l=false
  ·rw[if_pos c2]at h1;simp at h1
  refine⟨fun r hr=>Zcv.of (ZdG _ _ _ hb r hr),?_,by simpa using c2,h2⟩
  have c3:(l.any fun r=>decide (r.save=0))=true:=by
   cases hc:l.any fun r=>decide (r.save=0) with
   | true=>rfl
   | false=>exact absurd (.inl hc) c1
  obtain⟨r,hr,hs⟩:=List.any_eq_true.1 c3
  exact⟨r,hr,of_decide_eq_true hs⟩
section
variable {l:List DRule}(h:Zdq l)
include h
theorem Zdq.bef_some {n:Int}(hn:100000000000000000<=n):∃ e j r y,befD l n=some e/\l[j]?=some r/\onR (Zah l) r (j:Nat) y=some e:=by
 obtain⟨r,hr,_⟩:=h.zero
 obtain⟨j,hj⟩:=List.mem_iff_getElem?.1 hr
 have hR:=h.rule r hr
 have hl:=(Zdq.least h.rule).2
 obtain⟨a0,a1,_⟩:=hR.last
 have f0:=hR.f0
 have hm:min (Go.Wk.lastY r) (ZaC n+2)=Go.Wk.lastY r:=by
  have hy:2000000000<=ZaC n:=by
   have h1:=Zep (n / 86400)
   have h2:2000000000<=ZbD (n / 86400):=by
    refine Int.not_lt.1 fun hh=>?_
    have h3:=ZbQ (ZbD (n / 86400)+1) (2000000000 - (ZbD (n / 86400)+1)).toNat
    rw[show ZbD (n / 86400)+1+((2000000000 - (ZbD (n / 86400)+1)).toNat:Int)=2000000000 by omega]at h3
    have h5:jan1 2000000000<=800000000000:=by unfold jan1;omega
    omega
   unfold ZaC
   omega
  omega
 obtain⟨g,hg⟩:=hR.onY (Zah l) (j:Nat) (y:=Go.Wk.lastY r) a0 (Int.le_refl _)
 have hgn:g.nominal<n:=by
  obtain⟨_,g2⟩:=ZoT hl hg
  have h3:=ZbQ (Go.Wk.lastY r+1) (2000000001 - (Go.Wk.lastY r+1)).toNat
  rw[show Go.Wk.lastY r+1+((2000000001 - (Go.Wk.lastY r+1)).toNat:Int)=2000000001 by omega]at h3
  have h5:jan1 2000000001<=800000000000:=by unfold jan1;omega
  omega
 obtain⟨e',k1,k2⟩:=ZfJ (Zah l) n r (j:Nat) 20 (Go.Wk.lastY r) 0 g (by omega) (by rw[show Go.Wk.lastY r - ((0:Nat):Int)=Go.Wk.lastY r by omega];exact hg) hgn
 obtain⟨e,k3,_⟩:=ZjL (Zah l) n (ZaC n) l 0 none j r e' hj (by rw[Nat.zero_add,hm];exact k1)
 obtain⟨⟨i,s,y,b1,b2⟩,_⟩:=Zyz (l:=l) (n:=n) (e:=e) k3
 exact⟨e,i,s,y,k3,b1,b2⟩
end
def betB (b:Option Zad)(x:Zad):Bool:=match b with
 | none=>true
 | some b=>ltE b x
def upB (n:Int)(b o:Option Zad):Option Zad:=match o with
 | none=>b
 | some x=>if (decide (x.nominal<n)&&betB b x)=true then some x else b
def rbI (least n:Int)(r:DRule)(i y:Int):Nat->Option Zad->Option Zad
 | 0,b=>b
 | k+1,b=>rbI least n r i (y+1) k (upB n b (onR least r i y))
def Zcs (r:DRule)(yr:Int):Int × Int:=(max (max r.from_ (-2000000000)) (min (lastY r) (yr+2) - 20),min (lastY r) (yr+2))
def Zv6 (r:DRule)(yr:Int):Int × Int:=(max (max r.from_ (-2000000000)) (yr - 2),min (lastY r) (max (max r.from_ (-2000000000)) (yr - 2)+20))
def rbGo (least n yr:Int):List DRule->Nat->Option Zad->Option Zad
 | [],_,b=>b
 | r::l,i,b=>rbGo least n yr l (i+1) (rbI least n r i (Zcs r yr).1 ((Zcs r yr).2+1 - (Zcs r yr).1).toNat b)
theorem Zye {a b:Zad}(h:a.nominal<b.nominal):ltE a b=true:=by
 simp only[ltE,Zec,decide_eq_true_eq]
 exact .inl h
theorem ZoQ (least n:Int)(r:DRule)(i:Int):∀ (k:Nat) (y:Int) (b:Option Zad),rbI least n r i y (k+1) b=upB n (rbI least n r i y k b) (onR least r i (y+k))
 | 0,y,b=>by rw[rbI,rbI,rbI,show y+((0:Nat):Int)=y by omega]
 | k+1,y,b=>by
  rw[rbI,ZoQ least n r i k (y+1),rbI,show y+1+(k:Int)=y+((k+1:Nat):Int) by omega]
theorem Zn1 (least n:Int)(r:DRule)(i:Int):∀ (k:Nat) (y:Int) (e:Zad),beIn least n r i y k=some e->∃ y',y'<=y/\onR least r i y'=some e/\e.nominal<n
 | 0,_,_,h=>by cases h
 | k+1,y,e,h=>by
  rw[beIn]at h
  have ih:=Zn1 least n r i k (y - 1) e
  have lift:(∃ y',y'<=y - 1/\onR least r i y'=some e/\e.nominal<n)->∃ y',y'<=y/\onR least r i y'=some e/\e.nominal<n:=fun⟨y',h1,h2⟩=>⟨y',by omega,h2⟩
  cases he:onR least r i y with
  | none=>rw[he]at h;exact lift (ih h)
  | some x =>
   rw[he]at h
   dsimp only at h
   by_cases hc:x.nominal<n
   ·rw[if_pos hc]at h
    cases h
    exact⟨y,Int.le_refl _,he,hc⟩
   ·rw[if_neg hc]at h
    exact lift (ih h)
def cmB (b o:Option Zad):Option Zad:=match o with
 | none=>b
 | some e=>if betB b e=true then some e else b
theorem ZvX {n:Int}{b:Option Zad}{e:Zad}(h:e.nominal<n):upB n b (some e)=cmB b (some e):=by
 unfold upB cmB
 dsimp only
 rw[decide_eq_true h,Bool.true_and]
theorem ZvY {n:Int}{b:Option Zad}{e:Zad}(h:¬ e.nominal<n):upB n b (some e)=b:=by
 unfold upB
 dsimp only
 rw[decide_eq_false h,Bool.false_and,if_neg (by decide)]
theorem ZsK {b0 e:Zad}(h:ltE b0 e=true):cmB (some b0) (some e)=some e:=if_pos h
theorem ZzC {b0 e:Zad}(h:ltE b0 e=false):cmB (some b0) (some e)=some b0:=if_neg (by rw[show betB (some b0) e=ltE b0 e from rfl,h];decide)
theorem Zvz (b:Option Zad){e' e:Zad}(hlt:ltE e' e=true):cmB (cmB b (some e')) (some e)=cmB b (some e):=by
 cases b with
 | none=>exact ZsK hlt
 | some b0 =>
  cases hb:ltE b0 e' with
  | true=>rw[ZsK hb,ZsK hlt,ZsK (swoE.trans _ _ _ hb hlt)]
  | false=>rw[ZzC hb]
theorem Zv1 (least n:Int)(r:DRule)(i:Int):∀ (k:Nat) (y:Int) (b:Option Zad),rbI least n r i y k b=cmB b (beIn least n r i (y+k - 1) k)
 | 0,y,b=>rfl
 | k+1,y,b=>by
  rw[ZoQ,Zv1 least n r i k y b,show y+((k+1:Nat):Int) - 1=y+k by omega,beIn]
  cases he:onR least r i (y+k) with
  | none=>rfl
  | some e =>
   dsimp only
   by_cases hc:e.nominal<n
   ·rw[if_pos hc,ZvX hc]
    cases ho:beIn least n r i (y+k - 1) k with
    | none=>rfl
    | some e' =>
     obtain⟨y',h1,h2,_⟩:=Zn1 _ _ _ _ _ _ _ ho
     exact Zvz b (Zye (Zke h2 he (by omega)))
   ·rw[if_neg hc,ZvY hc]
theorem Zir (least n:Int)(r:DRule)(i:Int)(m:Nat):∀ (k:Nat) (y:Int) (e:Zad),beIn least n r i y k=some e->beIn least n r i y (k+m)=some e
 | 0,_,_,h=>by cases h
 | k+1,y,e,h=>by
  rw[show k+1+m=k+m+1 by omega]
  rw[beIn]at h ⊢
  cases he:onR least r i y with
  | none=>rw[he]at h;exact Zir least n r i m k (y - 1) e h
  | some x =>
   rw[he]at h
   dsimp only at h ⊢
   by_cases hc:x.nominal<n
   ·rw[if_pos hc]at h ⊢;exact h
   ·rw[if_neg hc]at h ⊢;exact Zir least n r i m k (y - 1) e h
theorem Ziq (least n:Int)(r:DRule)(i:Int):∀ (k:Nat) (y:Int),y<r.from_->beIn least n r i y k=none:=fun k y hy=>by
 cases h:beIn least n r i y k with
 | none=>rfl
 | some e =>
  obtain⟨y',h1,h2,_⟩:=Zn1 _ _ _ _ _ _ _ h
  have:=(ZbO h2).2.2.1
  omega
theorem Zpk (least n:Int)(r:DRule)(i:Int)(m:Nat):∀ (k:Nat) (y:Int),y - k<r.from_->beIn least n r i y (k+m)=beIn least n r i y k
 | 0,y,h=>by
  rw[Ziq _ _ _ _ _ _ (by omega)]
  rfl
 | k+1,y,h=>by
  rw[show k+1+m=k+m+1 by omega,beIn,beIn,Zpk least n r i m k (y - 1) (by omega)]
theorem Zx5 {least n yr:Int}{r:DRule}(h:Zcv r)(i:Int)(b:Option Zad)(hn:∀ y e,y<=yr - 17->onR least r i y=some e->e.nominal<n) :
  rbI least n r i (Zcs r yr).1 ((Zcs r yr).2+1 - (Zcs r yr).1).toNat b=cmB b (beIn least n r i (min (lastY r) (yr+2)) 20):=by
 rw[Zv1]
 congr 1
 have f0:=h.f0
 unfold Zcs
 dsimp only
 obtain⟨y0,hy0⟩:∃ y0,min (lastY r) (yr+2)=y0:=⟨_,rfl⟩
 rw[hy0]
 obtain⟨f,hf⟩:∃ f,max (max r.from_ (-2000000000)) (y0 - 20)=f:=⟨_,rfl⟩
 rw[hf]
 by_cases c0:y0<r.from_
 ·rw[Ziq _ _ _ _ _ _ (by omega),Ziq _ _ _ _ _ _ (by omega)]
 rw[show f+((y0+1 - f).toNat:Int) - 1=y0 by omega]
 by_cases c1:y0 - 20<r.from_
 ·have:=Zpk least n r i (20 - (y0+1 - f).toNat) (y0+1 - f).toNat y0 (by omega)
  rw[show(y0+1 - f).toNat+(20 - (y0+1 - f).toNat)=20 by omega]at this
  exact this.symm
 ·rw[show(y0+1 - f).toNat=20+1 by omega]
  obtain⟨g,hg⟩:=h.onY least i (y:=y0 - 19) (by omega) (by omega)
  obtain⟨e,he,_⟩:=ZfJ least n r i 20 y0 19 g (by omega) (by rw[show y0 - ((19:Nat):Int)=y0 - 19 by omega];exact hg) (hn _ _ (by omega) hg)
  rw[he,Zir _ _ _ _ 1 _ _ _ he]
theorem ZrL (least n yr:Int):∀ (l:List DRule) (i:Nat) (b:Option Zad),(∀ r∈l,Zcv r)->(∀ r∈l,∀ i y e,y<=yr - 17->onR least r i y=some e->e.nominal<n)->rbGo least n yr l i b=Zer least n yr l i b
 | [],_,_,_,_=>rfl
 | r::l,i,b,h,hn=>by
  rw[rbGo,Zer,Zx5 (h r List.mem_cons_self) i b (hn r List.mem_cons_self i),ZrL least n yr l (i+1) _ (fun r hr=>h r (List.mem_cons_of_mem _ hr)) (fun r hr=>hn r (List.mem_cons_of_mem _ hr))]
  congr 1
  cases beIn least n r i (min (lastY r) (yr+2)) 20 with
  | none=>rfl
  | some e =>
   cases b with
   | none=>rfl
   | some b0 =>
    unfold cmB betB ltE
    dsimp only
    by_cases hh:ordE b0 e<0
    ·rw[if_pos (decide_eq_true hh),if_pos hh]
    ·rw[if_neg (by rw[decide_eq_false hh];decide),if_neg hh]
theorem ZAp {n:Int}(h:40000000000000000<=n):ZaC n=2000000000\/(jan1 (ZaC n)*86400<=n/\n<jan1 (ZaC n+1)*86400):=by
 have h1:=Zep (n / 86400)
 by_cases h2:2000000000<=ZbD (n / 86400)
 ·left
  unfold ZaC
  omega
 ·right
  have h3 : -2000000000<=ZbD (n / 86400):=by
   refine Int.not_lt.1 fun hh=>?_
   have h4:=ZbQ (ZbD (n / 86400)+1) (0 - (ZbD (n / 86400)+1)).toNat
   rw[show ZbD (n / 86400)+1+((0 - (ZbD (n / 86400)+1)).toNat:Int)=0 by omega]at h4
   have h5:jan1 0 = -719528:=by decide
   omega
  have e:ZaC n=ZbD (n / 86400):=by unfold ZaC;omega
  rw[e]
  omega
theorem ZuX {l:List DRule}(h:∀ r∈l,Zcv r)(hl:Zah l<=0){n:Int}(h0 : -40000000000000000<=n):rbGo (Zah l) n (ZaC n) l 0 none=befD l n:=by
 refine ZrL _ _ _ l 0 none h fun r hr i y e hy he=>?_
 obtain⟨_,g2⟩:=ZoT hl he
 have key:jan1 (ZaC n)*86400<=n\/ZaC n=2000000000/\40000000000000000<=n:=by
  by_cases h1:n<=40000000000000000
  ·exact .inl (ZfU h0 h1).1
  ·rcases ZAp (n:=n) (by omega) with q|q
   ·exact .inr ⟨q,by omega⟩
   ·exact .inl q.1
 rcases key with q|⟨q,q2⟩
 ·have h3:=ZbQ (y+1) (ZaC n - (y+1)).toNat
  rw[show y+1+((ZaC n - (y+1)).toNat:Int)=ZaC n by omega]at h3
  omega
 ·by_cases h4:80000000000000000<=n
  ·have h3:=ZbQ (y+1) (2000000000 - (y+1)).toNat
   rw[show y+1+((2000000000 - (y+1)).toNat:Int)=2000000000 by omega]at h3
   have h5:jan1 2000000000<=800000000000:=by unfold jan1;omega
   omega
  ·have h1:=Zep (n / 86400)
   have h6:2000000000<=ZbD (n / 86400):=by
    have:ZaC n=min (max (ZbD (n / 86400)) (-2000000000)) 2000000000:=rfl
    omega
   have h3:=ZbQ (y+1) (ZbD (n / 86400) - (y+1)).toNat
   rw[show y+1+((ZbD (n / 86400) - (y+1)).toNat:Int)=ZbD (n / 86400) by omega]at h3
   omega
attribute [local irreducible] W RL Does Zat Zaj retQ Calls Pu Stp RD Qy Ay Zak
theorem Zfe (a b:Int)(h0:0<b)(ha : -4611686018427387904<=a/\a<=4611686018427387904)(hb:b<=4611686018427387904)(w:World):Does Tryz.prog 131 [.int .i64 a,.int .i64 b] w (fun v O=>v = .int .i64 (a / b)/\O=[]):=by
 have h2:=Int.tmod_lt_of_pos a h0
 have h3:=Int.lt_tmod_of_pos a h0
 have h4:=ZmW a b
 obtain⟨h5,h6⟩:=Zfp a b h0
 refine Zaa Tryz.func131 rfl rfl rfl rfl ?_
 repeat' (first|(apply RL_pu;rfl;(first|(apply Zty;rfl;rfl;omega;omega)|(apply Pu_rem;rfl;rfl;omega)))|refine walk1 ?_|(refine Zaf rfl (fun hc=>?_) (fun hc=>?_)))
 ·obtain⟨e1,e2⟩:=h5 (of_decide_eq_true hc)
  exact ret_1 _ [] (.tmp rfl) .nil ⟨by rw[<- e1],rfl⟩
 ·obtain⟨e1,e2⟩:=h6 (of_decide_eq_false hc)
  exact ret_1 _ [] (.tmp rfl) .nil ⟨by rw[<- e1],rfl⟩
theorem ZxK {G:Prop}(h:G:=by(apply Pu_rem;rfl;rfl;decide)):G:=h
theorem Zi4 (y:Int)(w:World):Does Tryz.prog 205 [.int .i64 y] w (fun v O=>v = .bool (ZbP y)/\O=[]):=by
 rw[show ZbP y=((decide (y.tmod 4=0)&&!decide (y.tmod 100=0))||decide (y.tmod 400=0)) by
  rw[Bool.eq_iff_iff,Zeh]
  simp only[Zhq,Bool.and_eq_true,Bool.or_eq_true,decide_eq_true_eq,Bool.not_eq_true',decide_eq_false_iff_not]
  omega]
 refine Zaa Tryz.func205 rfl rfl rfl rfl ?_
 repeat' (first|(apply RL_pu;rfl;exact ZxK)|refine walk1 ?_|refine und ?_|(refine Zam rfl rfl rfl (fun hc=>?_) (fun hc=>?_))|(refine Zas rfl rfl rfl (fun hc=>?_) (fun hc=>?_))|(refine Zaf rfl (fun hc=>?_) (fun hc=>?_)))
 all_goals exact clo1
theorem Zdf (y m:Int)(w:World):Does Tryz.prog 140 [.int .i64 y,.int .i64 m] w (fun v O=>v = .int .i64 (lenM y m)/\O=[]):=by
 refine Zaa Tryz.func140 rfl rfl rfl rfl ?_
 repeat' (first|(refine js ?_;(refine Zab (fun w' _=>Zi4 y w') ?_))|refine walk ?_|(refine Zaf rfl (fun hc=>?_) (fun hc=>?_)))
 all_goals first|(refine ret_1 _ [] (.tmp rfl) .nil ⟨?_,rfl⟩;first|rfl|(simp only[*,Bool.true_and,Bool.false_and,Bool.true_or,Bool.false_or,Bool.not_true,Bool.not_false];done)|(simp_all [lenM];done)|(simp_all [lenM];omega)|(simp_all [lenM];rw[Bool.eq_iff_iff];simp;omega))|(exfalso;simp_all [lenM];done)|(exfalso;simp_all [lenM];omega)|(exfalso;omega)
theorem Zi2 (y:Int)(w:World):Does Tryz.prog 198 [.int .i64 y] w (fun v O=>v = .int .i64 (ZfW y)/\O=[]):=by
 refine Zaa Tryz.func198 rfl rfl rfl rfl ?_
 repeat' (first|(refine js ?_;(refine Zab (fun w' _=>Zi4 y w') ?_))|refine walk ?_|(refine Zaf rfl (fun hc=>?_) (fun hc=>?_)))
 all_goals first|(refine ret_1 _ [] (.tmp rfl) .nil ⟨?_,rfl⟩;first|rfl|(simp only[*,Bool.true_and,Bool.false_and,Bool.true_or,Bool.false_or,Bool.not_true,Bool.not_false];done)|(simp_all [ZfW];done)|(simp_all [ZfW];omega)|(simp_all [ZfW];rw[Bool.eq_iff_iff];simp;omega))|(exfalso;simp_all [ZfW];done)|(exfalso;simp_all [ZfW];omega)|(exfalso;omega)
theorem ZuS (y:Int)(w:World):Does Tryz.prog 257 [.int .i64 y] w (fun v O=>v = .bool (inY y)/\O=[]):=by
 refine Zaa Tryz.func257 rfl rfl rfl rfl ?_
 repeat' (first|refine walk ?_|refine und ?_|(refine Zam rfl rfl rfl (fun hc=>?_) (fun hc=>?_))|(refine Zas rfl rfl rfl (fun hc=>?_) (fun hc=>?_))|(refine Zaf rfl (fun hc=>?_) (fun hc=>?_)))
 all_goals first|(refine ret_1 _ [] (.tmp rfl) .nil ⟨?_,rfl⟩;first|rfl|(simp only[*,Bool.true_and,Bool.false_and,Bool.true_or,Bool.false_or,Bool.not_true,Bool.not_false];done)|(simp_all [inY];done)|(simp_all [inY];omega)|(simp_all [inY];rw[Bool.eq_iff_iff];simp;omega))|(exfalso;simp_all [inY];done)|(exfalso;simp_all [inY];omega)|(exfalso;omega)
structure RyG where
 i:Int
 d:Int
theorem Zj1 {G:Prop}(h:G:=by(apply Zc0;rfl;rfl;(constructor <;> omega))):G:=h
theorem Zna (y:Int)(hy : -2000000000<=y/\y<=2000000000)(w:World):Does Tryz.prog 258 [.int .i64 y] w (fun v O=>v = .int .i64 (jan1 y)/\O=[]):=by
 have hj:∀ i,jan1 i=365*i+(i+3) / 4 - (i+99) / 100+(i+399) / 400 - 719528:=fun _=>rfl
 have hfl:=fun w'=>Zfe y 400 (by decide) (by omega) (by decide) w'
 refine Zaa Tryz.func258 rfl rfl rfl rfl ?_
 repeat (first|(apply RL_pu;rfl;exact Zj1)|(refine js ?_;(refine Zab (fun w' _=>hfl w') ?_))|refine walk1 ?_)
 refine Zai [(0,.int .i64 y)] [] (fun g:RyG=>[(4,.int .i64 g.d),(5,.int .i64 g.i)]) (fun _=>[]) (fun g=>y / 400*400<=g.i/\g.i<=y/\g.d=jan1 g.i) (fun g=>(y - g.i).toNat) ⟨y / 400*400,y / 400*146097 - 719528⟩ SFA SOA ⟨Int.le_refl _,by dsimp only;omega,(Zwb _).symm⟩ ?_
 rintro⟨i,d⟩ ⟨h1,h2,h3⟩
 dsimp only at h1 h2 h3 ⊢
 have hs:=fun w'=>Zi2 i w'
 have hsb:=ZeA i
 have h4:=Zdk i
 have h5:=hj i
 repeat (first|refine walk ?_)
 refine Zaf rfl (fun hc=>?_) (fun hc=>?_)
 ·simp only[decide_eq_true_eq]at hc
  repeat (first|(apply RL_pu;rfl;exact Zj1)|(refine js ?_;(refine Zab (fun w' _=>hs w') ?_))|refine walk1 ?_)
  exact⟨⟨i+1,d+ZfW i⟩,OA,⟨OA,OA,by dsimp only;omega⟩,SFA,SOA⟩
 ·simp only[decide_eq_false_iff_not]at hc
  obtain rfl:i=y:=by omega
  repeat (first|refine walk ?_)
  exact ret_1 _ [] (.tmp rfl) .nil ⟨by rw[h3],rfl⟩
theorem ZrI (y m d:Int)(hy : -2000000000<=y/\y<=2000000000)(hd : -1000<=d/\d<=1000) : -1000000000000<=ZaP y m d/\ZaP y m d<=1000000000000:=by
 unfold ZaP ZbI
 split
 ·have:=ZbJ (m+12 - 3).toNat;omega
 ·have:=ZbJ (m - 3).toNat;omega
structure RdG where
 i:Nat
 d:Int
theorem ZpT {G:Prop}(h:G:=by(first|(apply Zaz;rfl;rfl;exact b1)|(apply Zaw;rfl;rfl;exact b2))):G:=h
theorem ZxJ {G:Prop}(h:G:=by(apply Zaz;rfl;rfl;exact b1)):G:=h
theorem Zqm (y m d:Int)(w:World):Does Tryz.prog 199 [.int .i64 y,.int .i64 m,.int .i64 d] w (fun v O=>v = .tuple #[.int .i64 (if ZaN y m d then ZaP y m d else 0),.int .i64 (if ZaN y m d then 0 else 3)]/\O=[]):=by
 have hi:=fun w'=>ZuS y w'
 have hl:=fun w'=>Zdf y m w'
 refine Zaa Tryz.func199 rfl rfl rfl rfl ?_
 by_cases hok:ZaN y m d=true
 ·obtain⟨h1,h2,h3⟩:=Zdl hok
  have hk:=hok
  simp only[ZaN,Bool.and_eq_true,decide_eq_true_eq]at hk
  obtain⟨⟨hy,hd1⟩,hd2⟩:=hk
  rw[hy]at hi
  have b1:decide (d<1)=false:=decide_eq_false (by omega)
  have b2:decide (lenM y m<d)=false:=decide_eq_false (by omega)
  have hf:=fun w'=>Zna y h1 w'
  rw[if_pos hok,if_pos hok]
  obtain⟨n,rfl⟩:=Int.eq_ofNat_of_zero_le (show 0<=m by omega)
  repeat (first|(apply RL_pu;rfl;exact ZpT)|(refine js ?_;(first|(refine Zab (fun w' _=>hi w') ?_)|(refine Zab (fun w' _=>hl w') ?_)|(refine Zab (fun w' _=>hf w') ?_)))|refine walk1 ?_)
  refine Zai [(0,.int .i64 y),(1,.int .i64 n),(2,.int .i64 d)] [] (fun g:RdG=>[(8,.int .i64 g.d),(9,.int .i64 g.i)]) (fun _=>[]) (fun g=>1<=g.i/\g.i<=n/\g.d=ZaP y g.i 1) (fun g=>n - g.i) ⟨1,jan1 y⟩ SFA SOA ⟨Nat.le_refl _,by dsimp only;omega,Zjn y⟩ ?_
  rintro⟨i,s⟩ ⟨h4,h5,h6⟩
  dsimp only at h4 h5 h6 ⊢
  have hli:=fun w'=>Zdf y i w'
  have hlb:=Zc4 y i
  have hsb:=ZrI y i 1 h1 (by omega)
  repeat (first|refine walk ?_)
  refine Zaf rfl (fun hc=>?_) (fun hc=>?_)
  ·simp only[decide_eq_true_eq,Int.ofNat_lt]at hc
   have h7:=Zjx y i h4 (by omega)
   repeat (first|(apply RL_pu;rfl;exact Zj1)|(refine js ?_;(refine Zab (fun w' _=>hli w') ?_))|refine walk1 ?_)
   exact⟨⟨i+1,s+lenM y i⟩,OA,⟨OA,OA,by dsimp only;rw[h6,<- h7];rfl⟩,SFA,SOA⟩
  ·simp only[decide_eq_false_iff_not,Int.ofNat_lt]at hc
   obtain rfl:i=n:=by omega
   repeat (first|(apply RL_pu;rfl;exact Zj1)|refine walk1 ?_)
   exact ret_2 _ _ [] (.tmp rfl) (.tmp rfl) .nil ⟨by rw[ZsG,h6],rfl⟩
 ·rw[if_neg hok,if_neg hok]
  unfold ZaN at hok
  cases hy:inY y with
  | false =>
   rw[hy]at hi
   repeat (first|refine und ?_|(refine js ?_;(refine Zab (fun w' _=>hi w') ?_))|refine walk ?_)
   exact rtB
  | true =>
   rw[hy]at hi hok
   by_cases hd:d<1
   ·have b1:decide (d<1)=true:=decide_eq_true hd
    repeat (first|refine und ?_|(apply RL_pu;rfl;exact ZxJ)|(refine js ?_;(refine Zab (fun w' _=>hi w') ?_))|refine walk1 ?_)
    exact rtB
   ·have b1:decide (d<1)=false:=decide_eq_false hd
    have b2:decide (lenM y m<d)=true:=decide_eq_true (by simp only[Bool.true_and,Bool.and_eq_true,decide_eq_true_eq,not_and]at hok;have:=hok (by omega);omega)
    repeat (first|(apply RL_pu;rfl;exact ZpT)|(refine js ?_;(first|(refine Zab (fun w' _=>hi w') ?_)|(refine Zab (fun w' _=>hl w') ?_)))|refine walk1 ?_)
    exact rtB
theorem Zfc (a:Int)(w:World):Does Tryz.prog 200 [.int .i64 a] w (fun v O=>v = .int .i64 (Zd1 a)/\O=[]):=by
 have h2:=Int.tmod_lt_of_pos a (b:=7) (by decide)
 have h3:=Int.lt_tmod_of_pos a (b:=7) (by decide)
 have h:=Zfp a 7 (by decide)
 have e:(a.tmod 7+11).tmod 7=Zd1 a:=by
  rw[Int.tmod_eq_emod_of_nonneg (by omega)]
  unfold Zd1
  by_cases hn:a.tmod 7<0
  ·have:=(h.1 hn).2;omega
  ·have:=(h.2 hn).2;omega
 rw[<- e]
 refine Zaa Tryz.func200 rfl rfl rfl rfl ?_
 repeat (first|(apply RL_pu;rfl;exact ZxK)|refine walk1 ?_)
 exact rtA
theorem Zqa (n:Int)(hn : -1000000000000000<=n/\n<=1000000000000000)(w:World):Does Tryz.prog 130 [.int .i64 n] w (fun v O=>v = .tuple #[.int .i64 (ZbD n),.int .i64 (n - jan1 (ZbD n))]/\O=[]):=by
 have hfl:=fun w'=>Zfe n 146097 (by decide) (by omega) (by decide) w'
 refine Zaa Tryz.func130 rfl rfl rfl rfl ?_
 repeat (first|(apply RL_pu;rfl;exact Zj1)|(refine js ?_;(refine Zab (fun w' _=>hfl w') ?_))|refine walk1 ?_)
 refine Zai [] [] (fun g:RyG=>[(5,.int .i64 g.d),(6,.int .i64 g.i)]) (fun _=>[]) (fun g=>0<=g.d/\g.d=n - jan1 g.i/\n / 146097*400<=g.i/\g.i+g.d<=n / 146097*400+1000000) (fun g=>g.d.toNat) ⟨n / 146097*400,n - n / 146097*146097+719528⟩ SFA SOA ⟨by dsimp only;omega,by dsimp only;rw[Zwb];omega,Int.le_refl _,by dsimp only;omega⟩ ?_
 rintro⟨y,r⟩ ⟨h1,h2,h3,h4⟩
 dsimp only at h1 h2 h3 h4 ⊢
 have hs:=fun w'=>Zi2 y w'
 have hsb:=ZeA y
 have h5:=Zdk y
 repeat (first|(refine js ?_;(refine Zab (fun w' _=>hs w') ?_))|refine walk ?_)
 refine Zaf rfl (fun hc=>?_) (fun hc=>?_)
 ·simp only[decide_eq_true_eq]at hc
  repeat (first|(apply RL_pu;rfl;exact Zj1)|(refine js ?_;(refine Zab (fun w' _=>hs w') ?_))|refine walk1 ?_)
  exact⟨⟨y+1,r - ZfW y⟩,OA,⟨OA,by dsimp only;omega,OA,OA⟩,SFA,SOA⟩
 ·simp only[decide_eq_false_iff_not]at hc
  have hd:=Zep n
  obtain rfl:y=ZbD n:=Zvi (n:=n) (by omega) (by omega) hd.1 hd.2
  repeat (first|refine walk ?_)
  exact ret_2 _ _ [] (.tmp rfl) (.tmp rfl) .nil ⟨by rw[h2],rfl⟩
theorem Zi8 (t:Int)(ht : -4611686018427387904<=t/\t<=4611686018427387904)(w:World):Does Tryz.prog 88 [.int .i64 t] w (fun v O=>v = .int .i64 (ZaC t)/\O=[]):=by
 unfold ZaC
 refine Zaa Tryz.func88 rfl rfl rfl rfl ?_
 have hfl:=fun w'=>Zfe t 86400 (by decide) (by omega) (by decide) w'
 have hyr:=fun w'=>Zqa (t / 86400) (by omega) w'
 generalize ZbD (t / 86400)=y at *
 by_cases h1:y < -2000000000
 ·have b1:decide (y < -2000000000)=true:=decide_eq_true h1
  repeat (first|(apply RL_pu;rfl;exact ZxJ)|(refine js ?_;(first|(refine Zab (fun w' _=>hfl w') ?_)|(refine Zab (fun w' _=>hyr w') ?_)))|refine walk1 ?_)
  exact ret_1 _ [] (.tmp rfl) .nil ⟨by congr 1;omega,rfl⟩
 have b1:decide (y < -2000000000)=false:=decide_eq_false h1
 by_cases h2:2000000000<y
 ·have b2:decide (2000000000<y)=true:=decide_eq_true h2
  repeat (first|(apply RL_pu;rfl;exact ZpT)|(refine js ?_;(first|(refine Zab (fun w' _=>hfl w') ?_)|(refine Zab (fun w' _=>hyr w') ?_)))|refine walk1 ?_)
  exact ret_1 _ [] (.tmp rfl) .nil ⟨by congr 1;omega,rfl⟩
 have b2:decide (2000000000<y)=false:=decide_eq_false h2
 repeat (first|(apply RL_pu;rfl;exact ZpT)|(refine js ?_;(first|(refine Zab (fun w' _=>hfl w') ?_)|(refine Zab (fun w' _=>hyr w') ?_)))|refine walk1 ?_)
 exact ret_1 _ [] (.tmp rfl) .nil ⟨by congr 1;omega,rfl⟩
def inB (n a b:Int):Bool:=decide (a<=n)&&decide (n<=b)
theorem Zfu (n a b:Int)(w:World):Does Tryz.prog 139 [.int .i64 n,.int .i64 a,.int .i64 b] w (fun v O=>v = .bool (inB n a b)/\O=[]):=by
 refine Zaa Tryz.func139 rfl rfl rfl rfl ?_
 repeat' (first|refine walk ?_|refine und ?_|(refine Zam rfl rfl rfl (fun hc=>?_) (fun hc=>?_))|(refine Zas rfl rfl rfl (fun hc=>?_) (fun hc=>?_))|(refine Zaf rfl (fun hc=>?_) (fun hc=>?_)))
 all_goals first|(refine ret_1 _ [] (.tmp rfl) .nil ⟨?_,rfl⟩;first|rfl|(simp only[*,Bool.true_and,Bool.false_and,Bool.true_or,Bool.false_or,Bool.not_true,Bool.not_false];done)|(simp_all [inB];done)|(simp_all [inB];omega)|(simp_all [inB];rw[Bool.eq_iff_iff];simp;omega))|(exfalso;simp_all [inB];done)|(exfalso;simp_all [inB];omega)|(exfalso;omega)
theorem ZsH (d:DDay):Za8 d=((decide (d.kind=1)&&decide (d.week=0)&&inB d.day 1 31)||(decide (d.kind=2)&&inB d.week 0 6&&decide (d.day=0))||((decide (d.kind=3)||decide (d.kind=4))&&inB d.week 0 6&&inB d.day 1 31)):=by
 obtain⟨k,w,n⟩:=d
 unfold Za8 Zp4 dayK inB
 dsimp only
 by_cases h:1<=k/\k<=4
 ·obtain rfl|rfl|rfl|rfl:k=1\/k=2\/k=3\/k=4:=by omega
  all_goals
   rw[Bool.eq_iff_iff]
   by_cases hn:n=0
   ·subst hn;simp;try omega
   ·simp[hn];try omega
 ·have h1:decide (k=1)=false:=decide_eq_false (by omega)
  have h2:decide (k=2)=false:=decide_eq_false (by omega)
  have h3:decide (k=3)=false:=decide_eq_false (by omega)
  have h4:decide (k=4)=false:=decide_eq_false (by omega)
  have h5:(decide (1<=k)&&decide (k<=4))=false:=by simp;omega
  rw[h1,h2,h3,h4,h5]
  simp
set_option maxHeartbeats 2000000 in
theorem ZeF (d:DDay)(w:World):Does Tryz.prog 92 [.agg (DDay.enc d).toArray] w (fun v O=>v = .int .i64 (if Za8 d then 0 else 2)/\O=[]):=by
 rw[ZsH]
 have h1:=fun w'=>Zfu d.week 0 6 w'
 have h2:=fun w'=>Zfu d.day 1 31 w'
 generalize inB d.week 0 6=x at *
 generalize inB d.day 1 31=y at *
 obtain⟨k,wk,n⟩:=d
 show Does _ _ [.agg #[.int .i64 k,.int .i64 wk,.int .i64 n]] w _
 refine Zaa Tryz.func92 rfl rfl rfl rfl ?_
 repeat' (first|(refine js ?_;(first|(refine Zab (fun w' _=>h1 w') ?_)|(refine Zab (fun w' _=>h2 w') ?_)|(refine bx ?_;intro bk)))|refine walk ?_|(refine Zdo ?_;intro F;(first|(refine Zab (fun w' _=>h1 w') ?_)|(refine Zab (fun w' _=>h2 w') ?_));refine⟨_,EndsA,SubO.right _ _,?_⟩)|(refine RD_Lw ?_;intro F;(first|(refine Zab (fun w' _=>h1 w') ?_)|(refine Zab (fun w' _=>h2 w') ?_)|(refine bx ?_;intro bk)|(apply Zac;exact PuA));refine⟨_,EndsA,QFA,?_⟩)|refine und ?_|(refine Zam rfl rfl rfl (fun hc=>?_) (fun hc=>?_))|(refine Zas rfl rfl rfl (fun hc=>?_) (fun hc=>?_))|(refine Zaf rfl (fun hc=>?_) (fun hc=>?_)))
 all_goals exact clo1
theorem ZeE (d:DClock)(w:World):Does Tryz.prog 93 [.agg (DClock.enc d).toArray] w (fun v O=>v = .int .i64 (if ZaH d then 0 else 2)/\O=[]):=by
 obtain⟨k,wk⟩:=d
 show Does _ _ [.agg #[.int .i64 k,.int .i64 wk]] w _
 refine Zaa Tryz.func93 rfl rfl rfl rfl ?_
 repeat' (first|(refine js ?_;(refine bx ?_;intro bk))|refine walk ?_|refine und ?_|(refine Zam rfl rfl rfl (fun hc=>?_) (fun hc=>?_))|(refine Zas rfl rfl rfl (fun hc=>?_) (fun hc=>?_))|(refine Zaf rfl (fun hc=>?_) (fun hc=>?_)))
 all_goals first|(refine ret_1 _ [] (.tmp rfl) .nil ⟨?_,rfl⟩;first|rfl|(simp only[*,Bool.true_and,Bool.false_and,Bool.true_or,Bool.false_or,Bool.not_true,Bool.not_false];done)|(simp_all [ZaH];done)|(simp_all [ZaH];omega)|(simp_all [ZaH];rw[Bool.eq_iff_iff];simp;omega))|(exfalso;simp_all [ZaH];done)|(exfalso;simp_all [ZaH];omega)|(exfalso;omega)
theorem Zni (y:Int)(w:World):Does Tryz.prog 293 [.int .i64 y] w (fun v O=>v = .bool (ZbP y)/\O=[]):=by
 rw[show ZbP y=(decide (y.tmod 4=0)&&(!decide (y.tmod 100=0)||decide (y.tmod 400=0))) by simp only[ZbP,Zhq]]
 refine Zaa Tryz.func293 rfl rfl rfl rfl ?_
 repeat' (first|(apply RL_pu;rfl;(apply Pu_rem;rfl;rfl;decide))|refine walk1 ?_|refine und ?_|(refine Zam rfl rfl rfl (fun hc=>?_) (fun hc=>?_))|(refine Zas rfl rfl rfl (fun hc=>?_) (fun hc=>?_))|(refine Zaf rfl (fun hc=>?_) (fun hc=>?_)))
 all_goals exact clo1
theorem ZqD (a:Int):ZbP (a.tmod 400)=ZbP a:=by
 have h:=Zfp a 400 (by decide)
 have h2:a.tmod 400=a % 400\/a.tmod 400=a % 400 - 400:=by
  by_cases hn:a.tmod 400<0
  ·have:=(h.1 hn).2;omega
  ·have:=(h.2 hn).2;omega
 rw[Bool.eq_iff_iff,Zeh,Zeh]
 rcases h2 with e|e <;> rw[e] <;> omega
def alwB (a b m:Int)(d:DDay):Bool:=(inB m 1 12&&Za8 d)&&((decide (b<1048576)&&decide (b<a))||decide (d.day<=lenM 2001 m)||(decide (m=2)&&decide (d.day=29)&&decide (a=b)&&decide (b<1048576)&&ZbP a))
theorem Zq3 (a b m:Int)(d:DDay):ZbU a b m d=alwB a b m d:=by
 unfold ZbU alwB inB
 by_cases hm:1<=m/\m<=12
 ·rw[decide_eq_true hm.1,decide_eq_true hm.2]
  cases hc:Za8 d with
  | false=>rw[if_pos (.inr (.inr rfl))];rfl
  | true =>
   have hb:=Zcm hc
   rw[if_neg (by simp;omega)]
   have hl:lenM 2001 m=lenM 1 m:=by
    unfold lenM
    rw[show ZbP 2001=ZbP 1 by decide]
   rw[hl]
   by_cases h1:(b<1048576/\b<a)\/d.day<=lenM 1 m
   ·rw[if_pos h1]
    rcases h1 with⟨h1,h2⟩|h1
    ·rw[decide_eq_true h1,decide_eq_true h2];rfl
    ·rw[decide_eq_true h1];simp
   ·rw[if_neg h1]
    have h2:(decide (b<1048576)&&decide (b<a))=false:=by simp;omega
    have h3:decide (d.day<=lenM 1 m)=false:=decide_eq_false (fun e=>h1 (.inr e))
    rw[h2,h3]
    by_cases h4:1048576<=b\/a≠b\/m≠2
    ·rw[if_pos h4]
     symm
     simp
     omega
    ·rw[if_neg h4]
     obtain rfl:m=2:=by omega
     have h5:¬ d.day<=28:=fun e=>h1 (.inr e)
     have h6:lenM (a.tmod 400) 2=if ZbP a then 29 else 28:=by
      show(if ZbP (a.tmod 400) then (29:Int) else 28)=_
      rw[ZqD]
     rw[h6,decide_eq_true (show a=b by omega),decide_eq_true (show b<1048576 by omega)]
     cases ZbP a with
     | true=>simp;omega
     | false=>simp;omega
 ·rw[if_pos (by omega)]
  have:(decide (1<=m)&&decide (m<=12))=false:=by simp;omega
  rw[this]
  rfl
theorem Zlp (a b m:Int)(d:DDay)(w:World):Does Tryz.prog 279 [.int .i64 a,.int .i64 b,.int .i64 m,.agg (DDay.enc d).toArray] w (fun v O=>v = .bool (ZbU a b m d)/\O=[]):=by
 rw[Zq3]
 unfold alwB
 have h1:=fun w'=>Zfu m 1 12 w'
 have h2:=fun w'=>ZeF d w'
 have h3:=fun w'=>Zdf 2001 m w'
 have h4:=fun w'=>Zni a w'
 generalize Za8 d=c at *
 generalize inB m 1 12=x at *
 generalize ZbP a=y at *
 generalize lenM 2001 m=z at *
 obtain⟨k,wk,n⟩:=d
 show Does _ _ [.int .i64 a,.int .i64 b,.int .i64 m,.agg #[.int .i64 k,.int .i64 wk,.int .i64 n]] w _
 refine Zaa Tryz.func279 rfl rfl rfl rfl ?_
 repeat' (first|(refine js ?_;(first|(refine Zab (fun w' _=>h1 w') ?_)|(refine Zab (fun w' _=>h2 w') ?_)|(refine Zab (fun w' _=>h3 w') ?_)|(refine Zab (fun w' _=>h4 w') ?_)|(refine bx ?_;intro bk)))|refine walk ?_|(refine Zdo ?_;intro F;(first|(refine Zab (fun w' _=>h1 w') ?_)|(refine Zab (fun w' _=>h2 w') ?_)|(refine Zab (fun w' _=>h3 w') ?_)|(refine Zab (fun w' _=>h4 w') ?_));refine⟨_,EndsA,SubO.right _ _,?_⟩)|(refine RD_Lw ?_;intro F;(first|(refine Zab (fun w' _=>h1 w') ?_)|(refine Zab (fun w' _=>h2 w') ?_)|(refine Zab (fun w' _=>h3 w') ?_)|(refine Zab (fun w' _=>h4 w') ?_)|(refine bx ?_;intro bk)|(apply Zac;exact PuA));refine⟨_,EndsA,QFA,?_⟩)|refine und ?_|(refine Zam rfl rfl rfl (fun hc=>?_) (fun hc=>?_))|(refine Zas rfl rfl rfl (fun hc=>?_) (fun hc=>?_))|(refine Zaf rfl (fun hc=>?_) (fun hc=>?_)))
 all_goals exact clo1
theorem Zmf (x k:Int)(hk:0<=k/\k<=6)(h:Zd1 x≠k):Zbp (x+1) k=Zbp x k/\x+1<=Zbp x k:=by
 unfold Zbp Zd1 at *
 omega
theorem Zn0 (x k:Int)(h:Zd1 x=k):Zbp x k=x:=by
 unfold Zbp
 rw[h]
 omega
theorem ZgI (x k:Int)(hk:0<=k/\k<=6)(h:Zd1 x≠k):Za1 (x - 1) k=Za1 x k/\Za1 x k<=x - 1:=by
 unfold Za1 Zd1 at *
 omega
theorem Zio (x k:Int)(h:Zd1 x=k):Za1 x k=x:=by
 unfold Za1
 rw[h]
 omega
end Go.Proofs.YtpipekfmecikmaaGreatDoor
