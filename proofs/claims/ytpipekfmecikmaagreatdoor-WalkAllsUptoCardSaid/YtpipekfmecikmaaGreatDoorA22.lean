/- Parts of the proof. -/
import Derived.Test.YtpipekfmecikmaaGreatDoorA21
set_option maxHeartbeats 0
set_option linter.all false
namespace Go.Proofs.YtpipekfmecikmaaGreatDoor
open Go Go.RowKit Go.Wk Tryz
structure ZbS (r:DRule):Prop where
 f0:1850<=r.from_
 f1:r.from_<=2149
 ft:r.from_<=r.to
 t1:r.to<=2149\/r.to=1048576
 alw:Zcf r.from_ r.to r.month r.day=true
 clk:ZaL r.at_=true
 save : -10800<=r.save/\r.save<=10800
 letter:r.letter=ByteArray.empty\/ZeN r.letter=true
theorem ZbS.of {r:DRule}{least:Int}(h:Zbu r least=0):ZbS r:=by
 unfold Zbu at h
 by_cases b:(ZbJ r.from_&&(ZbJ r.to||decide (r.to=1048576)))=false
 ·rw[if_pos b]at h;omega
 rw[if_neg b]at h
 by_cases f:r.to<r.from_
 ·rw[if_pos f]at h;omega
 rw[if_neg f]at h
 by_cases c:Zcf r.from_ r.to r.month r.day=false
 ·rw[if_pos c]at h;omega
 rw[if_neg c]at h
 by_cases a:Zek r.at_ least=false
 ·rw[if_pos a]at h;omega
 rw[if_neg a]at h
 by_cases d:(decide (-10800<=r.save)&&decide (r.save<=10800))=false
 ·rw[if_pos d]at h;omega
 rw[if_neg d]at h
 by_cases e:(decide (r.letter=ByteArray.empty)||ZeN r.letter)=false
 ·rw[if_pos e]at h;omega
 simp only[ZbJ,Bool.not_eq_false,Bool.and_eq_true,Bool.or_eq_true,decide_eq_true_eq]at b c a d e
 have g:ZaL r.at_=true:=by
  unfold Zek at a
  rw[Bool.and_eq_true]at a
  exact a.1
 exact⟨b.1.1,b.1.2,by omega,by omega,c,g,d,e⟩
theorem ZAV {f t m:Int}{d:DDay}(h:Zcf f t m d=true):1<=m/\m<=12/\ZbH d=true:=by
 unfold Zcf at h
 by_cases a:m<1\/12<m\/ZbH d=false
 ·rw[if_pos a]at h;cases h
 ·cases hd:ZbH d with
  | false=>exact absurd (.inr (.inr hd)) a
  | true=>exact⟨by omega,by omega,rfl⟩
theorem ZBN (y m:Int):lenM 1 m<=lenM y m:=by
 unfold lenM
 rw[show ZbQ 1=false by decide]
 split
 ·omega
 ·split
  ·cases ZbQ y <;> simp
  ·omega
theorem ZwM (y:Int)(k:Nat):ZbQ (y+400*k)=ZbQ y:=by
 unfold ZbQ
 rw[show(y+400*k) % 4=y % 4 by omega,show(y+400*k) % 100=y % 100 by omega,show(y+400*k) % 400=y % 400 by omega]
theorem ZwL (y m:Int)(k:Nat):lenM (y+400*k) m=lenM y m:=by
 unfold lenM
 rw[ZwM]
theorem ZtC {y:Int}(h:0<=y):ZbQ (y.tmod 400)=ZbQ y:=by
 rw[Int.tmod_eq_emod_of_nonneg h]
 unfold ZbQ
 rw[show y % 400 % 4=y % 4 by omega,show y % 400 % 100=y % 100 by omega,show y % 400 % 400=y % 400 by omega]
theorem Zt9 (y m d:Int)(k:Nat):ZaW (y+400*k) m d=ZaW y m d+146097*k:=by
 unfold ZaW Zb2
 split <;> omega
theorem ZtV (a b:Int)(d:DDay)(k:Nat):Zd8 (a+146097*k) (b+146097*k) d=Zd8 a b d+146097*k:=by
 unfold Zd8 Zbx ZaX Zep
 split
 ·omega
 ·split
  ·omega
  ·split <;> omega
theorem ZbS.on {r:DRule}(h:ZbS r){y:Int}(m:r.from_<=y)(b:y<=Go.Wk.lastY r):(onD y r.month r.day).2=0:=by
 obtain⟨m0,m1,f⟩:=ZAV h.alw
 have j:=h.f0
 have o:y<=2000000000:=by
  unfold Go.Wk.lastY at b
  split at b <;> omega
 have i:=ZAx y r.month m0 m1
 have k:r.day.day<=lenM y r.month:=by
  have a:=h.alw
  unfold Zcf at a
  rw[if_neg (by rw[f];rintro(q|q|q);omega;omega;cases q)]at a
  by_cases g:(r.to<1048576/\r.to<r.from_)\/r.day.day<=lenM 1 r.month
  ·have n:=h.ft
   have:=ZBN y r.month
   omega
  rw[if_neg g]at a
  by_cases d:1048576<=r.to\/r.from_≠r.to\/r.month≠2
  ·rw[if_pos d]at a;cases a
  rw[if_neg d]at a
  have l:y=r.from_:=by
   unfold Go.Wk.lastY at b
   rw[if_neg (by omega)]at b
   omega
  have e:lenM (r.from_.tmod 400) r.month=lenM y r.month:=by
   unfold lenM
   rw[ZtC (by omega),l]
  rw[e]at a
  exact of_decide_eq_true a
 unfold onD
 have c:Zbh y r.month 1=true:=by
  unfold Zbh inY
  simp
  omega
 rw[if_neg (by rw[c];decide),if_neg (by rw[f];decide),if_neg (by omega)]
theorem ZbS.last {r:DRule}(h:ZbS r):r.from_<=Go.Wk.lastY r/\Go.Wk.lastY r<=2000000000/\(r.to=1048576->Go.Wk.lastY r=2000000000)/\(r.to≠1048576->Go.Wk.lastY r=r.to):=by
 have a:=h.f0
 have b:=h.f1
 have c:=h.ft
 have d:=h.t1
 unfold Go.Wk.lastY
 split <;> omega
theorem ZbS.onY {r:DRule}(h:ZbS r)(least i:Int){y:Int}(a:r.from_<=y)(b:y<=Go.Wk.lastY r):∃ e,onR least r i y=some e:=by
 have d:=h.on a b
 have c:=h.f0
 unfold onR
 rw[if_neg (by rw[h.clk];rintro(q|q|q);omega;omega;cases q),if_neg (by rw[d];decide)]
 exact⟨_,rfl⟩
theorem ZbS.again {r:DRule}(h:ZbS r)(m:r.to=1048576){least i y:Int}{k:Nat}(j:r.from_<=y)(o:y+400*k<=2000000000){e:Zac}(c:onR least r i y=some e):onR least r i (y+400*k)=some ⟨y+400*k,i,e.nominal+12622780800*k⟩:=by
 have p:=h.last.2.2.1 m
 have l:=h.f0
 have a:=h.on j (by omega)
 have b:=h.on (y:=y+400*k) (by omega) (by omega)
 have n:(onD (y+400*k) r.month r.day).1=(onD y r.month r.day).1+146097*k:=by
  unfold onD at a b ⊢
  split at a
  ·simp at a
  rename_i d
  split at a
  ·simp at a
  rename_i a2
  split at a
  ·simp at a
  rename_i a3
  split at b
  ·simp at b
  rename_i f
  split at b
  ·simp at b
  rename_i g
  rw[if_neg f,if_neg a2,if_neg g,if_neg d,if_neg a2,if_neg a3]
  dsimp only
  rw[Zt9,ZwL,show ZaW y r.month 1+146097*(k:Int)+lenM y r.month - 1=ZaW y r.month 1+lenM y r.month - 1+146097*k by omega,ZtV]
 unfold onR at c ⊢
 rw[if_neg (by rw[h.clk];rintro(q|q|q);omega;omega;cases q),if_neg (by rw[a];decide)]at c
 rw[if_neg (by rw[h.clk];rintro(q|q|q);omega;omega;cases q),if_neg (by rw[b];decide),n]
 cases c
 dsimp only
 congr 2
 omega
theorem ZiH (least:Int):∀ (l:List DRule) (k:Nat) (x:Nat × Int),ZaS least l k=some x->x.2≠0
 | [],_,_,h=>by cases h
 | r::l,k,x,h=>by
  rw[ZaS]at h
  by_cases a:Zbu r least=0
  ·rw[if_pos a]at h
   exact ZiH least l (k+1) x h
  ·rw[if_neg a]at h
   cases h
   exact a
structure Zbb (l:List DRule):Prop where
 rule:∀ r∈l,ZbS r
 zero:∃ r∈l,r.save=0
 last:ZgQ l=true
 apart:Zen l=none
theorem Zbb.least {l:List DRule}(h:∀ r∈l,ZbS r) : -10800<=Zae l/\Zae l<=0:=by
 obtain⟨b,c,a⟩:=ZtR l 0
 unfold Zae
 refine⟨?_,b⟩
 rcases a with a|⟨r,h4,h5⟩
 ·omega
 ·have:=(h r h4).save
  omega
theorem Zbb.of {l:List DRule}(a:(ZcE l).2=0)(f:Zen l=none):Zbb l:=by
 unfold ZcE at a
 cases hb:ZaS (Zae l) l 0 with
 | some x =>
  rw[hb]at a
  exact absurd a (ZiH _ _ _ x hb)
 | none =>
  rw[hb]at a
  dsimp only at a
  by_cases b:(l.any fun r=>decide (r.save=0))=false\/(Zae l<0/\(l.any fun r => !decide (r.save=0)&&!decide (r.save=Zae l))=true)
  ·rw[if_pos b]at a;simp at a
  rw[if_neg b]at a
  by_cases d:ZgQ l=false
  ·rw[if_pos d]at a;simp at a
  refine⟨fun r c=>ZbS.of (Zd7 _ _ _ hb r c),?_,by simpa using d,f⟩
  have e:(l.any fun r=>decide (r.save=0))=true:=by
   cases hc:l.any fun r=>decide (r.save=0) with
   | true=>rfl
   | false=>exact absurd (.inl hc) b
  obtain⟨r,c,g⟩:=List.any_eq_true.1 e
  exact⟨r,c,of_decide_eq_true g⟩
section
variable {l:List DRule}(h:Zbb l)
include h
theorem Zbb.near {j k:Nat}{a b:DRule}{y z:Int}{e f:Zac}(s:l[j]?=some a)(t:l[k]?=some b)(u:onR (Zae l) a j y=some e)(v:onR (Zae l) b k z=some f)(C:y<=2550)(D:z<=2550)(A:e≠f) :
  259200<=e.nominal - f.nominal\/259200<=f.nominal - e.nominal:=by
 have n:=Zgp (Zdb l (Zae l) 1850 701) (Zec _ _ _ _) ((Zcr l (Zae l) 1850 701).nodup_iff.2 (Zi9 l (Zae l) 1850 701))
 have c:=h.apart
 unfold Zen at c
 rw[c]at n
 have q:∀ {i:Nat} {r:DRule} {x:Int} {g:Zac},l[i]?=some r->onR (Zae l) r i x=some g->x<=2550->g∈Zdb l (Zae l) 1850 701:=fun{i r x g} p o F=>by
  have B:=h.rule r (List.mem_of_getElem? p)
  have E:=B.f0
  have d:=(ZaT o).2.2.1
  rw[(Zcr l (Zae l) 1850 701).mem_iff,Zil]
  refine⟨(x - 1850).toNat,by omega,(ZdL _ _ _ _ _).2 ⟨i,r,p,?_⟩⟩
  rw[Nat.zero_add,show(1850:Int)+((x - 1850).toNat:Int)=x by omega]
  exact o
 have m1:=q s u C
 have m2:=q t v D
 have key:∀ {e f:Zac},e∈Zdb l (Zae l) 1850 701->f∈Zdb l (Zae l) 1850 701->ltE f e=true->259200<=e.nominal - f.nominal:=fun{e f} m1 m2 m=>by
  refine Int.not_lt.1 fun w=>n e ⟨m1,f,m2,m,w⟩
 cases d:ltE f e with
 | true=>exact .inl (key m1 m2 d)
 | false =>
  cases h2:ltE e f with
  | true=>exact .inr (key m2 m1 h2)
  | false=>exact absurd (totE e f h2 d) A
theorem Zbb.far1 {j k:Nat}{a b:DRule}{y z:Int}{e f:Zac}(p:l[j]?=some a)(r:l[k]?=some b)(m:onR (Zae l) a j y=some e)(o:onR (Zae l) b k z=some f)(G:y<=z)(u:e≠f) :
  259200<=e.nominal - f.nominal\/259200<=f.nominal - e.nominal:=by
 have t:=(Zbb.least h.rule).2
 by_cases N:y+2<=z
 ·obtain⟨_,K⟩:=Zf9 t m
  obtain⟨f1,_⟩:=Zf9 t o
  have D:=Za9 (y+1) (z - (y+1)).toNat
  rw[show y+1+((z - (y+1)).toNat:Int)=z by omega]at D
  omega
 by_cases B:z<=2550
 ·exact h.near p r m o (by omega) B u
 have g:=h.rule a (List.mem_of_getElem? p)
 have i:=h.rule b (List.mem_of_getElem? r)
 have I:=g.t1
 have J:=i.t1
 have H:=g.last
 have lb:=i.last
 have L:=g.f1
 have M:=i.f1
 have S:=ZhD m
 have T:=ZhD o
 have w:a.to=1048576:=by
  rcases I with q|q
  ·have:=H.2.2.2 (by omega);omega
  ·exact q
 have x:b.to=1048576:=by
  rcases J with q|q
  ·have:=lb.2.2.2 (by omega);omega
  ·exact q
 obtain⟨n,E,F⟩:∃ n:Nat,2150<=y - 400*n/\y - 400*n<=2549:=⟨((y - 2150) / 400).toNat,by omega,by omega⟩
 obtain⟨v,c⟩:=g.onY (Zae l) j (y:=y - 400*n) (by omega) (by omega)
 obtain⟨A,d⟩:=i.onY (Zae l) k (y:=z - 400*n) (by omega) (by omega)
 have ge:=g.again w (k:=n) (by omega) (by omega) c
 have gf:=i.again x (k:=n) (by omega) (by omega) d
 rw[show y - 400*(n:Int)+400*n=y by omega,m]at ge
 rw[show z - 400*(n:Int)+400*n=z by omega,o]at gf
 cases ge
 cases gf
 have s:v≠A:=fun C=>by
  subst C
  obtain⟨O,P,_⟩:=ZaT c
  obtain⟨Q,R,_⟩:=ZaT d
  exact u (by rw[Zac.mk.injEq];exact⟨by omega,by omega,rfl⟩)
 have:=h.near p r c d (by omega) (by omega) s
 dsimp only
 omega
theorem Zbb.uniq {e f:Zac}(n:EvOf l e)(o:EvOf l f)(m:e≠f):259200<=e.nominal - f.nominal\/259200<=f.nominal - e.nominal:=by
 obtain⟨j,a,y,c,d⟩:=n
 obtain⟨k,b,z,g,i⟩:=o
 rcases Int.le_total y z with q|q
 ·exact h.far1 c g d i q m
 ·rcases h.far1 g c i d q (Ne.symm m) with q|q
  ·exact .inr q
  ·exact .inl q
theorem Zbb.ne:l≠[]:=fun b=>by
 obtain⟨r,a,_⟩:=h.zero
 rw[b]at a
 cases a
end
def betB (b:Option Zac)(x:Zac):Bool:=match b with
 | none=>true
 | some b=>ltE b x
def betA (b:Option Zac)(x:Zac):Bool:=match b with
 | none=>true
 | some b=>ltE x b
def upB (n:Int)(b o:Option Zac):Option Zac:=match o with
 | none=>b
 | some x=>if (decide (x.nominal<n)&&betB b x)=true then some x else b
def upA (n:Int)(b o:Option Zac):Option Zac:=match o with
 | none=>b
 | some x=>if (decide (n<x.nominal)&&betA b x)=true then some x else b
def rbI (least n:Int)(r:DRule)(i y:Int):Nat->Option Zac->Option Zac
 | 0,b=>b
 | k+1,b=>rbI least n r i (y+1) k (upB n b (onR least r i y))
def raI (least n:Int)(r:DRule)(i y:Int):Nat->Option Zac->Option Zac
 | 0,b=>b
 | k+1,b=>raI least n r i (y+1) k (upA n b (onR least r i y))
def ZcK (r:DRule)(yr:Int):Int × Int:=(max (max r.from_ (-2000000000)) (min (lastY r) (yr+2) - 20),min (lastY r) (yr+2))
def ZcL (r:DRule)(yr:Int):Int × Int:=(max (max r.from_ (-2000000000)) (yr - 2),min (lastY r) (max (max r.from_ (-2000000000)) (yr - 2)+20))
def rbGo (least n yr:Int):List DRule->Nat->Option Zac->Option Zac
 | [],_,b=>b
 | r::l,i,b=>rbGo least n yr l (i+1) (rbI least n r i (ZcK r yr).1 ((ZcK r yr).2+1 - (ZcK r yr).1).toNat b)
def raGo (least n yr:Int):List DRule->Nat->Option Zac->Option Zac
 | [],_,b=>b
 | r::l,i,b=>raGo least n yr l (i+1) (raI least n r i (ZcL r yr).1 ((ZcL r yr).2+1 - (ZcL r yr).1).toNat b)
theorem Ztt {a b:Zac}(h:a.nominal<b.nominal):ltE a b=true:=by
 simp only[ltE,Zd3,decide_eq_true_eq]
 exact .inl h
theorem ZpY (least n:Int)(r:DRule)(i:Int):∀ (k:Nat) (y:Int) (b:Option Zac),rbI least n r i y (k+1) b=upB n (rbI least n r i y k b) (onR least r i (y+k))
 | 0,y,b=>by rw[rbI,rbI,rbI,show y+((0:Nat):Int)=y by omega]
 | k+1,y,b=>by
  rw[rbI,ZpY least n r i k (y+1),rbI,show y+1+(k:Int)=y+((k+1:Nat):Int) by omega]
theorem Zo4 (least n:Int)(r:DRule)(i:Int):∀ (k:Nat) (y:Int) (e:Zac),beIn least n r i y k=some e->∃ a,a<=y/\onR least r i a=some e/\e.nominal<n
 | 0,_,_,h=>by cases h
 | k+1,y,e,h=>by
  rw[beIn]at h
  have c:=Zo4 least n r i k (y - 1) e
  have lift:(∃ a,a<=y - 1/\onR least r i a=some e/\e.nominal<n)->∃ a,a<=y/\onR least r i a=some e/\e.nominal<n:=fun⟨a,f,d⟩=>⟨a,by omega,d⟩
  cases he:onR least r i y with
  | none=>rw[he]at h;exact lift (c h)
  | some x =>
   rw[he]at h
   dsimp only at h
   by_cases b:x.nominal<n
   ·rw[if_pos b]at h
    cases h
    exact⟨y,Int.le_refl _,he,b⟩
   ·rw[if_neg b]at h
    exact lift (c h)
def cmB (b o:Option Zac):Option Zac:=match o with
 | none=>b
 | some e=>if betB b e=true then some e else b
def cmA (b o:Option Zac):Option Zac:=match o with
 | none=>b
 | some e=>if betA b e=true then some e else b
theorem ZxG {n:Int}{b:Option Zac}{e:Zac}(h:e.nominal<n):upB n b (some e)=cmB b (some e):=by
 unfold upB cmB
 dsimp only
 rw[dT_ h,Bool.true_and]
theorem ZxH {n:Int}{b:Option Zac}{e:Zac}(h:¬ e.nominal<n):upB n b (some e)=b:=by
 unfold upB
 dsimp only
 rw[dF_ h,Bool.false_and,if_neg (by decide)]
theorem ZxJ {n:Int}{b:Option Zac}{e:Zac}(h:n<e.nominal):upA n b (some e)=cmA b (some e):=by
 unfold upA cmA
 dsimp only
 rw[dT_ h,Bool.true_and]
theorem ZxI {n:Int}{b:Option Zac}{e:Zac}(h:¬ n<e.nominal):upA n b (some e)=b:=by
 unfold upA
 dsimp only
 rw[dF_ h,Bool.false_and,if_neg (by decide)]
theorem Zud {a e:Zac}(h:ltE a e=true):cmB (some a) (some e)=some e:=if_pos h
theorem ZB2 {a e:Zac}(h:ltE a e=false):cmB (some a) (some e)=some a:=if_neg (by rw[show betB (some a) e=ltE a e from rfl,h];decide)
theorem ZB3 {a e:Zac}(h:ltE e a=true):cmA (some a) (some e)=some e:=if_pos h
theorem Zue {a e:Zac}(h:ltE e a=false):cmA (some a) (some e)=some a:=if_neg (by rw[show betA (some a) e=ltE e a from rfl,h];decide)
theorem Zw5 (b:Option Zac){c e:Zac}(a:ltE c e=true):cmB (cmB b (some c)) (some e)=cmB b (some e):=by
 cases b with
 | none=>exact Zud a
 | some b0 =>
  cases hb:ltE b0 c with
  | true=>rw[Zud hb,Zud a,Zud (swoE.trans _ _ _ hb a)]
  | false=>rw[ZB2 hb]
theorem Zw6 (b:Option Zac){e a:Zac}(c:ltE e a=true):cmA (cmA b (some e)) (some a)=cmA b (some e):=by
 have f:ltE a e=false:=by
  cases h:ltE a e with
  | false=>rfl
  | true =>
   have d:=swoE.irrefl e
   rw[swoE.trans _ _ _ c h]at d
   cases d
 cases b with
 | none=>exact Zue f
 | some b0 =>
  cases hb:ltE e b0 with
  | true=>rw[ZB3 hb,Zue f]
  | false =>
   rw[Zue hb]
   refine Zue ?_
   cases h:ltE a b0 with
   | false=>rfl
   | true =>
    rw[swoE.trans _ _ _ c h]at hb
    cases hb
theorem ZxP (least n:Int)(r:DRule)(i:Int):∀ (k:Nat) (y:Int) (b:Option Zac),rbI least n r i y k b=cmB b (beIn least n r i (y+k - 1) k)
 | 0,y,b=>rfl
 | k+1,y,b=>by
  rw[ZpY,ZxP least n r i k y b,show y+((k+1:Nat):Int) - 1=y+k by omega,beIn]
  cases he:onR least r i (y+k) with
  | none=>rfl
  | some e =>
   dsimp only
   by_cases a:e.nominal<n
   ·rw[if_pos a,ZxG a]
    cases ho:beIn least n r i (y+k - 1) k with
    | none=>rfl
    | some e' =>
     obtain⟨f,d,c,_⟩:=Zo4 _ _ _ _ _ _ _ ho
     exact Zw5 b (Ztt (Zfc c he (by omega)))
   ·rw[if_neg a,ZxH a]
theorem Zt3 (least n:Int)(r:DRule)(i:Int):∀ (k:Nat) (y:Int) (e:Zac),evIn least n r i y k=some e->∃ a,y<=a/\onR least r i a=some e/\n<e.nominal:=fun k y e h=>by
 obtain⟨q,b,c⟩:=ZfN least n r i k y e h
 exact⟨y+q,by omega,b,c⟩
theorem ZxQ (least n:Int)(r:DRule)(i:Int):∀ (k:Nat) (y:Int) (b:Option Zac),raI least n r i y k b=cmA b (evIn least n r i y k)
 | 0,y,b=>rfl
 | k+1,y,b=>by
  rw[raI,ZxQ least n r i k (y+1),evIn]
  cases he:onR least r i y with
  | none=>rfl
  | some e =>
   dsimp only
   by_cases a:n<e.nominal
   ·rw[if_pos a,ZxJ a]
    cases ho:evIn least n r i (y+1) k with
    | none=>rfl
    | some e' =>
     obtain⟨f,d,c,_⟩:=Zt3 _ _ _ _ _ _ _ ho
     exact Zw6 b (Ztt (Zfc he c (by omega)))
   ·rw[if_neg a,ZxI a]
theorem Zi4 (least n:Int)(r:DRule)(i:Int)(m:Nat):∀ (k:Nat) (y:Int) (e:Zac),beIn least n r i y k=some e->beIn least n r i y (k+m)=some e
 | 0,_,_,h=>by cases h
 | k+1,y,e,h=>by
  rw[show k+1+m=k+m+1 by omega]
  rw[beIn]at h ⊢
  cases he:onR least r i y with
  | none=>rw[he]at h;exact Zi4 least n r i m k (y - 1) e h
  | some x =>
   rw[he]at h
   dsimp only at h ⊢
   by_cases a:x.nominal<n
   ·rw[if_pos a]at h ⊢;exact h
   ·rw[if_neg a]at h ⊢;exact Zi4 least n r i m k (y - 1) e h
theorem ZiN (least n:Int)(r:DRule)(i:Int)(m:Nat):∀ (k:Nat) (y:Int) (e:Zac),evIn least n r i y k=some e->evIn least n r i y (k+m)=some e
 | 0,_,_,h=>by cases h
 | k+1,y,e,h=>by
  rw[show k+1+m=k+m+1 by omega]
  rw[evIn]at h ⊢
  cases he:onR least r i y with
  | none=>rw[he]at h;exact ZiN least n r i m k (y+1) e h
  | some x =>
   rw[he]at h
   dsimp only at h ⊢
   by_cases a:n<x.nominal
   ·rw[if_pos a]at h ⊢;exact h
   ·rw[if_neg a]at h ⊢;exact ZiN least n r i m k (y+1) e h
theorem Zi3 (least n:Int)(r:DRule)(i:Int):∀ (k:Nat) (y:Int),y<r.from_->beIn least n r i y k=none:=fun k y c=>by
 cases h:beIn least n r i y k with
 | none=>rfl
 | some e =>
  obtain⟨d,b,a,_⟩:=Zo4 _ _ _ _ _ _ _ h
  have:=(ZaT a).2.2.1
  omega
theorem Zqs (least n:Int)(r:DRule)(i:Int)(m:Nat):∀ (k:Nat) (y:Int),y - k<r.from_->beIn least n r i y (k+m)=beIn least n r i y k
 | 0,y,h=>by
  rw[Zi3 _ _ _ _ _ _ (by omega)]
  rfl
 | k+1,y,h=>by
  rw[show k+1+m=k+m+1 by omega,beIn,beIn,Zqs least n r i m k (y - 1) (by omega)]
theorem Zt2 (least n:Int)(r:DRule)(i:Int):∀ (k:Nat) (y:Int),lastY r<y->evIn least n r i y k=none:=fun k y c=>by
 cases h:evIn least n r i y k with
 | none=>rfl
 | some e =>
  obtain⟨d,b,a,_⟩:=Zt3 _ _ _ _ _ _ _ h
  have:=ZhD a
  omega
theorem Znd (least n:Int)(r:DRule)(i:Int)(m:Nat):∀ (k:Nat) (y:Int),lastY r<y+k->evIn least n r i y (k+m)=evIn least n r i y k
 | 0,y,h=>by
  rw[Zt2 _ _ _ _ _ _ (by omega)]
  rfl
 | k+1,y,h=>by
  rw[show k+1+m=k+m+1 by omega,evIn,evIn,Znd least n r i m k (y+1) (by omega)]
theorem ZAk {least n c:Int}{r:DRule}(h:ZbS r)(i:Int)(b:Option Zac)(m:∀ y e,y<=c - 17->onR least r i y=some e->e.nominal<n) :
  rbI least n r i (ZcK r c).1 ((ZcK r c).2+1 - (ZcK r c).1).toNat b=cmB b (beIn least n r i (min (lastY r) (c+2)) 20):=by
 rw[ZxP]
 congr 1
 have f0:=h.f0
 unfold ZcK
 dsimp only
 obtain⟨a,d⟩:∃ a,min (lastY r) (c+2)=a:=⟨_,rfl⟩
 rw[d]
 obtain⟨f,l⟩:∃ f,max (max r.from_ (-2000000000)) (a - 20)=f:=⟨_,rfl⟩
 rw[l]
 by_cases o:a<r.from_
 ·rw[Zi3 _ _ _ _ _ _ (by omega),Zi3 _ _ _ _ _ _ (by omega)]
 rw[show f+((a+1 - f).toNat:Int) - 1=a by omega]
 by_cases p:a - 20<r.from_
 ·have:=Zqs least n r i (20 - (a+1 - f).toNat) (a+1 - f).toNat a (by omega)
  rw[show(a+1 - f).toNat+(20 - (a+1 - f).toNat)=20 by omega]at this
  exact this.symm
 ·rw[show(a+1 - f).toNat=20+1 by omega]
  obtain⟨g,k⟩:=h.onY least i (y:=a - 19) (by omega) (by omega)
  obtain⟨e,j,_⟩:=Zi5 least n r i 20 a 19 g (by omega) (by rw[show a - ((19:Nat):Int)=a - 19 by omega];exact k) (m _ _ (by omega) k)
  rw[j,Zi4 _ _ _ _ 1 _ _ _ j]
theorem ZAl {least n c:Int}{r:DRule}(h:ZbS r)(i:Int)(b:Option Zac)(k:∀ y e,c+17<=y->onR least r i y=some e->n<e.nominal) :
  raI least n r i (ZcL r c).1 ((ZcL r c).2+1 - (ZcL r c).1).toNat b=cmA b (evIn least n r i (max (max r.from_ (-2000000000)) (c - 2)) 20):=by
 rw[ZxQ]
 congr 1
 have f0:=h.f0
 unfold ZcL
 dsimp only
 obtain⟨a,d⟩:∃ a,max (max r.from_ (-2000000000)) (c - 2)=a:=⟨_,rfl⟩
 rw[d]
 by_cases l:lastY r<a+20
 ·have:=Znd least n r i (20 - (min (lastY r) (a+20)+1 - a).toNat) (min (lastY r) (a+20)+1 - a).toNat a (by omega)
  rw[show(min (lastY r) (a+20)+1 - a).toNat+(20 - (min (lastY r) (a+20)+1 - a).toNat)=20 by omega]at this
  exact this.symm
 ·rw[show(min (lastY r) (a+20)+1 - a).toNat=20+1 by omega]
  obtain⟨g,j⟩:=h.onY least i (y:=a+19) (by omega) (by omega)
  obtain⟨e,f,_⟩:=Zfg least n r i 20 a 19 g (by omega) (by rw[show a+((19:Nat):Int)=a+19 by omega];exact j) (k _ _ (by omega) j)
  rw[f,ZiN _ _ _ _ 1 _ _ _ f]
theorem Zs1 (least n a:Int):∀ (l:List DRule) (i:Nat) (b:Option Zac),(∀ r∈l,ZbS r)->(∀ r∈l,∀ i y e,y<=a - 17->onR least r i y=some e->e.nominal<n)->rbGo least n a l i b=Zfn least n a l i b
 | [],_,_,_,_=>rfl
 | r::l,i,b,h,hn=>by
  rw[rbGo,Zfn,ZAk (h r List.mem_cons_self) i b (hn r List.mem_cons_self i),Zs1 least n a l (i+1) _ (fun r d=>h r (List.mem_cons_of_mem _ d)) (fun r d=>hn r (List.mem_cons_of_mem _ d))]
  congr 1
  cases beIn least n r i (min (lastY r) (a+2)) 20 with
  | none=>rfl
  | some e =>
   cases b with
   | none=>rfl
   | some b0 =>
    unfold cmB betB ltE
    dsimp only
    by_cases c:ordE b0 e<0
    ·rw[if_pos (dT_ c),if_pos c]
    ·rw[if_neg (by rw[dF_ c];decide),if_neg c]
theorem Zs2 (least n a:Int):∀ (l:List DRule) (i:Nat) (b:Option Zac),(∀ r∈l,ZbS r)->(∀ r∈l,∀ i y e,a+17<=y->onR least r i y=some e->n<e.nominal)->raGo least n a l i b=ZaY least n a l i b
 | [],_,_,_,_=>rfl
 | r::l,i,b,h,hn=>by
  rw[raGo,ZaY,ZAl (h r List.mem_cons_self) i b (hn r List.mem_cons_self i),Zs2 least n a l (i+1) _ (fun r d=>h r (List.mem_cons_of_mem _ d)) (fun r d=>hn r (List.mem_cons_of_mem _ d))]
  congr 1
  cases evIn least n r i (max (max r.from_ (-2000000000)) (a - 2)) 20 with
  | none=>rfl
  | some e =>
   cases b with
   | none=>rfl
   | some b0 =>
    unfold cmA betA ltE
    dsimp only
    by_cases c:ordE e b0<0
    ·rw[if_pos (dT_ c),if_pos c]
    ·rw[if_neg (by rw[dF_ c];decide),if_neg c]
theorem ZDU {n:Int}(h:40000000000000000<=n):Zay n=2000000000\/(jan1 (Zay n)*86400<=n/\n<jan1 (Zay n+1)*86400):=by
 have b:=Zgm (n / 86400)
 by_cases c:2000000000<=ZcA (n / 86400)
 ·left
  unfold Zay
  omega
 ·right
  have d : -2000000000<=ZcA (n / 86400):=by
   refine Int.not_lt.1 fun g=>?_
   have a:=Za9 (ZcA (n / 86400)+1) (0 - (ZcA (n / 86400)+1)).toNat
   rw[show ZcA (n / 86400)+1+((0 - (ZcA (n / 86400)+1)).toNat:Int)=0 by omega]at a
   have f:jan1 0 = -719528:=by decide
   omega
  have e:Zay n=ZcA (n / 86400):=by unfold Zay;omega
  rw[e]
  omega
theorem Zww {l:List DRule}(h:∀ r∈l,ZbS r)(f:Zae l<=0){n:Int}(c : -40000000000000000<=n):rbGo (Zae l) n (Zay n) l 0 none=befD l n:=by
 refine Zs1 _ _ _ l 0 none h fun r m i y e o d=>?_
 obtain⟨_,g2⟩:=Zf9 f d
 have key:jan1 (Zay n)*86400<=n\/Zay n=2000000000/\40000000000000000<=n:=by
  by_cases b:n<=40000000000000000
  ·exact .inl (ZdA c b).1
  ·rcases ZDU (n:=n) (by omega) with q|q
   ·exact .inr ⟨q,by omega⟩
   ·exact .inl q.1
 rcases key with q|⟨q,q2⟩
 ·have a:=Za9 (y+1) (Zay n - (y+1)).toNat
  rw[show y+1+((Zay n - (y+1)).toNat:Int)=Zay n by omega]at a
  omega
 ·by_cases g:80000000000000000<=n
  ·have a:=Za9 (y+1) (2000000000 - (y+1)).toNat
   rw[show y+1+((2000000000 - (y+1)).toNat:Int)=2000000000 by omega]at a
   have j:jan1 2000000000<=800000000000:=by unfold jan1;omega
   omega
  ·have b:=Zgm (n / 86400)
   have k:2000000000<=ZcA (n / 86400):=by
    have:Zay n=min (max (ZcA (n / 86400)) (-2000000000)) 2000000000:=rfl
    omega
   have a:=Za9 (y+1) (ZcA (n / 86400) - (y+1)).toNat
   rw[show y+1+((ZcA (n / 86400) - (y+1)).toNat:Int)=ZcA (n / 86400) by omega]at a
   omega
theorem Zwx {l:List DRule}(h:∀ r∈l,ZbS r)(f:Zae l<=0){n:Int}(a : -40000000000000000<=n)(b:n<=40000000000000000):raGo (Zae l) n (Zay n) l 0 none=ZbC l n:=by
 refine Zs2 _ _ _ l 0 none h fun r g i y e j d=>?_
 obtain⟨g1,_⟩:=Zf9 f d
 have q:=(ZdA a b).2
 have c:=Za9 (Zay n+1) (y - (Zay n+1)).toNat
 rw[show Zay n+1+((y - (Zay n+1)).toNat:Int)=y by omega]at c
 omega
attribute [local irreducible] W RL Does Zaq Zai retQ Calls Pu Stp RD Qy Ay Zaj
theorem ZfH (a b:Int)(d:0<b)(q : -4611686018427387904<=a/\a<=4611686018427387904)(r:b<=4611686018427387904)(w:World):Does prog 131 [.int .i64 a,.int .i64 b] w (fun v O=>v = .int .i64 (a / b)/\O=[]):=by
 have j:=Int.tmod_lt_of_pos a d
 have m:=Int.lt_tmod_of_pos a d
 have p:=Zn1 a b
 obtain⟨g,i⟩:=ZfU a b d
 refine Zaa func131 rfl rfl rfl rfl ?_
 repeat' (first|(apply RL_pu;rfl;(first|(apply Zu9;rfl;rfl;omega;omega)|(apply Pu_rem;rfl;rfl;omega)))|refine walk1 ?_|(refine Zaf rfl (fun e=>?_) (fun e=>?_)))
 ·obtain⟨c,f⟩:=g (of_decide_eq_true e)
  exact ret_1 _ [] (.tmp rfl) .nil ⟨by rw[<- c],rfl⟩
 ·obtain⟨c,f⟩:=i (of_decide_eq_false e)
  exact ret_1 _ [] (.tmp rfl) .nil ⟨by rw[<- c],rfl⟩
theorem ZzY {G:Prop}(h:G:=by(apply Pu_rem;rfl;rfl;decide)):G:=h
theorem ZjG (y:Int)(w:World):Does prog 205 [.int .i64 y] w (fun v O=>v = .bool (ZbQ y)/\O=[]):=by
 rw[show ZbQ y=((decide (y.tmod 4=0)&&!decide (y.tmod 100=0))||decide (y.tmod 400=0)) by
  rw[Bool.eq_iff_iff,ZeP]
  simp only[ZhU,Bool.and_eq_true,Bool.or_eq_true,decide_eq_true_eq,Bool.not_eq_true',decide_eq_false_iff_not]
  omega]
 refine Zaa func205 rfl rfl rfl rfl ?_
 repeat' (first|(apply RL_pu;rfl;exact ZzY)|refine walk1 ?_|(refine Zas rfl rfl rfl (fun a=>?_) (fun a=>?_)))
 all_goals exact clo1
theorem ZfZ (y m:Int)(w:World):Does prog 140 [.int .i64 y,.int .i64 m] w (fun v O=>v = .int .i64 (lenM y m)/\O=[]):=by
 refine Zaa func140 rfl rfl rfl rfl ?_
 repeat' (first|(refine js ?_;(refine Zab (fun w' _=>ZjG y w') ?_))|refine walk ?_|(refine Zaf rfl (fun a=>?_) (fun a=>?_)))
 all_goals (refine ret_1 _ [] (.tmp rfl) .nil ⟨?_,rfl⟩;first|(simp_all [lenM];done)|(simp_all [lenM];omega))
theorem ZjC (y:Int)(w:World):Does prog 198 [.int .i64 y] w (fun v O=>v = .int .i64 (ZkR y)/\O=[]):=by
 refine Zaa func198 rfl rfl rfl rfl ?_
 repeat' (first|(refine js ?_;(refine Zab (fun w' _=>ZjG y w') ?_))|refine walk ?_|(refine Zaf rfl (fun a=>?_) (fun a=>?_)))
 all_goals (refine ret_1 _ [] (.tmp rfl) .nil ⟨?_,rfl⟩;(simp_all [ZkR];done))
theorem Zws (y:Int)(w:World):Does prog 257 [.int .i64 y] w (fun v O=>v = .bool (inY y)/\O=[]):=by
 refine Zaa func257 rfl rfl rfl rfl ?_
 repeat' (first|refine walk ?_|(refine Zas rfl rfl rfl (fun a=>?_) (fun a=>?_)))
 all_goals (refine ret_1 _ [] (.tmp rfl) .nil ⟨?_,rfl⟩;first|(simp_all [inY];done)|(simp_all [inY];omega))
structure RyG where
 i:Int
 d:Int
theorem ZvH {G:Prop}(h:G:=by(apply Zeo;rfl;rfl;(constructor <;> omega))):G:=h
theorem Zoh (y:Int)(s : -2000000000<=y/\y<=2000000000)(w:World):Does prog 258 [.int .i64 y] w (fun v O=>v = .int .i64 (jan1 y)/\O=[]):=by
 have f:∀ i,jan1 i=365*i+(i+3) / 4 - (i+99) / 100+(i+399) / 400 - 719528:=fun _=>rfl
 have e:=fun w'=>ZfH y 400 (by decide) (by omega) (by decide) w'
 refine Zaa func258 rfl rfl rfl rfl ?_
 repeat (first|(apply RL_pu;rfl;exact ZvH)|(refine js ?_;(refine Zab (fun w' _=>e w') ?_))|refine walk1 ?_)
 refine Zah [(0,.int .i64 y)] [] (fun g:RyG=>[(4,.int .i64 g.d),(5,.int .i64 g.i)]) (fun _=>[]) (fun g=>y / 400*400<=g.i/\g.i<=y/\g.d=jan1 g.i) (fun g=>(y - g.i).toNat) ⟨y / 400*400,y / 400*146097 - 719528⟩ SFA SOA ⟨Int.le_refl _,by dsimp only;omega,(ZxW _).symm⟩ ?_
 rintro⟨i,d⟩ ⟨h1,h2,h3⟩
 dsimp only at h1 h2 h3 ⊢
 have j:=fun w'=>ZjC i w'
 have m:=Ze6 i
 have q:=ZdO i
 have r:=f i
 repeat (refine walk ?_)
 refine Zaf rfl (fun c=>?_) (fun c=>?_)
 ·simp only[decide_eq_true_eq]at c
  repeat (first|(refine js ?_;(refine Zab (fun w' _=>j w') ?_))|refine walk1 ?_)
  exact⟨⟨i+1,d+ZkR i⟩,OA,⟨OA,OA,by dsimp only;omega⟩,SFA,SOA⟩
 ·simp only[decide_eq_false_iff_not]at c
  obtain rfl:i=y:=by omega
  repeat (refine walk ?_)
  exact ret_1 _ [] (.tmp rfl) .nil ⟨by rw[h3],rfl⟩
theorem ZsV (y m d:Int)(b : -2000000000<=y/\y<=2000000000)(a : -1000<=d/\d<=1000) : -1000000000000<=ZaW y m d/\ZaW y m d<=1000000000000:=by
 unfold ZaW Zb2
 split
 ·have:=Zb3 (m+12 - 3).toNat;omega
 ·have:=Zb3 (m - 3).toNat;omega
structure RdG where
 i:Nat
 d:Int
theorem ZqX {G:Prop}(h:G:=by(first|(apply Zau;rfl;rfl;exact b1)|(apply Zav;rfl;rfl;exact b2))):G:=h
theorem ZzX {G:Prop}(h:G:=by(apply Zau;rfl;rfl;exact b1)):G:=h
theorem Zrn (y m d:Int)(w:World):Does prog 199 [.int .i64 y,.int .i64 m,.int .i64 d] w (fun v O=>v = .tuple #[.int .i64 (if Zbh y m d then ZaW y m d else 0),.int .i64 (if Zbh y m d then 0 else 3)]/\O=[]):=by
 have e:=fun w'=>Zws y w'
 have x:=fun w'=>ZfZ y m w'
 refine Zaa func199 rfl rfl rfl rfl ?_
 by_cases c:Zbh y m d=true
 ·obtain⟨r,F,H⟩:=ZdQ c
  have u:=c
  simp only[Zbh,Bool.and_eq_true,decide_eq_true_eq]at u
  obtain⟨⟨f,A⟩,B⟩:=u
  rw[f]at e
  have b1:decide (d<1)=false:=dF_ (by omega)
  have b2:decide (lenM y m<d)=false:=dF_ (by omega)
  have C:=fun w'=>Zoh y r w'
  rw[if_pos c,if_pos c]
  obtain⟨n,rfl⟩:=Int.eq_ofNat_of_zero_le (show 0<=m by omega)
  repeat (first|(apply RL_pu;rfl;exact ZqX)|(refine js ?_;(first|(refine Zab (fun w' _=>e w') ?_)|(refine Zab (fun w' _=>x w') ?_)|(refine Zab (fun w' _=>C w') ?_)))|refine walk1 ?_)
  refine Zah [(0,.int .i64 y),(1,.int .i64 n),(2,.int .i64 d)] [] (fun g:RdG=>[(8,.int .i64 g.d),(9,.int .i64 g.i)]) (fun _=>[]) (fun g=>1<=g.i/\g.i<=n/\g.d=ZaW y g.i 1) (fun g=>n - g.i) ⟨1,jan1 y⟩ SFA SOA ⟨Nat.le_refl _,by dsimp only;omega,Zj1 y⟩ ?_
  rintro⟨i,s⟩ ⟨h4,h5,h6⟩
  dsimp only at h4 h5 h6 ⊢
  have q:=fun w'=>ZfZ y i w'
  have D:=ZeO y i
  have E:=ZsV y i 1 r (by omega)
  repeat (refine walk ?_)
  refine Zaf rfl (fun j=>?_) (fun j=>?_)
  ·simp only[decide_eq_true_eq,Int.ofNat_lt]at j
   have z:=Zkd y i h4 (by omega)
   repeat (first|(refine js ?_;(refine Zab (fun w' _=>q w') ?_))|refine walk1 ?_)
   exact⟨⟨i+1,s+lenM y i⟩,OA,⟨OA,OA,by dsimp only;rw[h6,<- z];rfl⟩,SFA,SOA⟩
  ·simp only[decide_eq_false_iff_not,Int.ofNat_lt]at j
   obtain rfl:i=n:=by omega
   repeat (first|(apply RL_pu;rfl;exact ZvH)|refine walk1 ?_)
   exact ret_2 _ _ [] (.tmp rfl) (.tmp rfl) .nil ⟨by rw[Zt8,h6],rfl⟩
 ·rw[if_neg c,if_neg c]
  unfold Zbh at c
  cases f:inY y with
  | false =>
   rw[f]at e
   repeat (first|(refine js ?_;(refine Zab (fun w' _=>e w') ?_))|refine walk ?_)
   exact rtB
  | true =>
   rw[f]at e c
   by_cases t:d<1
   ·have b1:decide (d<1)=true:=dT_ t
    repeat (first|(apply RL_pu;rfl;exact ZzX)|(refine js ?_;(refine Zab (fun w' _=>e w') ?_))|refine walk1 ?_)
    exact rtB
   ·have b1:decide (d<1)=false:=dF_ t
    have b2:decide (lenM y m<d)=true:=dT_ (by simp only[Bool.true_and,Bool.and_eq_true,decide_eq_true_eq,not_and]at c;have:=c (by omega);omega)
    repeat (first|(apply RL_pu;rfl;exact ZqX)|(refine js ?_;(first|(refine Zab (fun w' _=>e w') ?_)|(refine Zab (fun w' _=>x w') ?_)))|refine walk1 ?_)
    exact rtB
theorem ZfF (a:Int)(w:World):Does prog 200 [.int .i64 a] w (fun v O=>v = .int .i64 (Zep a)/\O=[]):=by
 have d:=Int.tmod_lt_of_pos a (b:=7) (by decide)
 have f:=Int.lt_tmod_of_pos a (b:=7) (by decide)
 have h:=ZfU a 7 (by decide)
 have e:(a.tmod 7+11).tmod 7=Zep a:=by
  rw[Int.tmod_eq_emod_of_nonneg (by omega)]
  unfold Zep
  by_cases c:a.tmod 7<0
  ·have:=(h.1 c).2;omega
  ·have:=(h.2 c).2;omega
 rw[<- e]
 refine Zaa func200 rfl rfl rfl rfl ?_
 repeat (first|(apply RL_pu;rfl;exact ZzY)|refine walk1 ?_)
 exact rtA
theorem Zrd (n:Int)(s : -1000000000000000<=n/\n<=1000000000000000)(w:World):Does prog 130 [.int .i64 n] w (fun v O=>v = .tuple #[.int .i64 (ZcA n),.int .i64 (n - jan1 (ZcA n))]/\O=[]):=by
 have e:=fun w'=>ZfH n 146097 (by decide) (by omega) (by decide) w'
 refine Zaa func130 rfl rfl rfl rfl ?_
 repeat (first|(apply RL_pu;rfl;exact ZvH)|(refine js ?_;(refine Zab (fun w' _=>e w') ?_))|refine walk1 ?_)
 refine Zah [] [] (fun g:RyG=>[(5,.int .i64 g.d),(6,.int .i64 g.i)]) (fun _=>[]) (fun g=>0<=g.d/\g.d=n - jan1 g.i/\n / 146097*400<=g.i/\g.i+g.d<=n / 146097*400+1000000) (fun g=>g.d.toNat) ⟨n / 146097*400,n - n / 146097*146097+719528⟩ SFA SOA ⟨by dsimp only;omega,by dsimp only;rw[ZxW];omega,Int.le_refl _,by dsimp only;omega⟩ ?_
 rintro⟨y,r⟩ ⟨h1,h2,h3,h4⟩
 dsimp only at h1 h2 h3 h4 ⊢
 have j:=fun w'=>ZjC y w'
 have m:=Ze6 y
 have q:=ZdO y
 repeat (first|(refine js ?_;(refine Zab (fun w' _=>j w') ?_))|refine walk ?_)
 refine Zaf rfl (fun c=>?_) (fun c=>?_)
 ·simp only[decide_eq_true_eq]at c
  repeat (first|(refine js ?_;(refine Zab (fun w' _=>j w') ?_))|refine walk1 ?_)
  exact⟨⟨y+1,r - ZkR y⟩,OA,⟨OA,by dsimp only;omega,OA,OA⟩,SFA,SOA⟩
 ·simp only[decide_eq_false_iff_not]at c
  have f:=Zgm n
  obtain rfl:y=ZcA n:=ZwR (n:=n) (by omega) (by omega) f.1 f.2
  repeat (refine walk ?_)
  exact ret_2 _ _ [] (.tmp rfl) (.tmp rfl) .nil ⟨by rw[h2],rfl⟩
theorem ZgL (t:Int)(e : -4611686018427387904<=t/\t<=4611686018427387904)(w:World):Does prog 88 [.int .i64 t] w (fun v O=>v = .int .i64 (Zay t)/\O=[]):=by
 unfold Zay
 refine Zaa func88 rfl rfl rfl rfl ?_
 have a:=fun w'=>ZfH t 86400 (by decide) (by omega) (by decide) w'
 have b:=fun w'=>Zrd (t / 86400) (by omega) w'
 generalize ZcA (t / 86400)=y at *
 by_cases c:y < -2000000000
 ·have b1:decide (y < -2000000000)=true:=dT_ c
  repeat (first|(apply RL_pu;rfl;exact ZzX)|(refine js ?_;(first|(refine Zab (fun w' _=>a w') ?_)|(refine Zab (fun w' _=>b w') ?_)))|refine walk1 ?_)
  exact ret_1 _ [] (.tmp rfl) .nil ⟨by congr 1;omega,rfl⟩
 have b1:decide (y < -2000000000)=false:=dF_ c
 by_cases d:2000000000<y
 ·have b2:decide (2000000000<y)=true:=dT_ d
  repeat (first|(apply RL_pu;rfl;exact ZqX)|(refine js ?_;(first|(refine Zab (fun w' _=>a w') ?_)|(refine Zab (fun w' _=>b w') ?_)))|refine walk1 ?_)
  exact ret_1 _ [] (.tmp rfl) .nil ⟨by congr 1;omega,rfl⟩
 have b2:decide (2000000000<y)=false:=dF_ d
 repeat (first|(apply RL_pu;rfl;exact ZqX)|(refine js ?_;(first|(refine Zab (fun w' _=>a w') ?_)|(refine Zab (fun w' _=>b w') ?_)))|refine walk1 ?_)
 exact ret_1 _ [] (.tmp rfl) .nil ⟨by congr 1;omega,rfl⟩
def inB (n a b:Int):Bool:=decide (a<=n)&&decide (n<=b)
theorem Zf3 (n a b:Int)(w:World):Does prog 139 [.int .i64 n,.int .i64 a,.int .i64 b] w (fun v O=>v = .bool (inB n a b)/\O=[]):=by
 refine Zaa func139 rfl rfl rfl rfl ?_
 repeat' (first|refine walk ?_|(refine Zas rfl rfl rfl (fun c=>?_) (fun c=>?_)))
 all_goals (refine ret_1 _ [] (.tmp rfl) .nil ⟨?_,rfl⟩;first|(simp_all [inB];done)|(simp_all [inB];omega))
theorem Zua (d:DDay):ZbH d=((decide (d.kind=1)&&decide (d.week=0)&&inB d.day 1 31)||(decide (d.kind=2)&&inB d.week 0 6&&decide (d.day=0))||((decide (d.kind=3)||decide (d.kind=4))&&inB d.week 0 6&&inB d.day 1 31)):=by
 obtain⟨k,w,n⟩:=d
 unfold ZbH Zq2 dayK inB
 dsimp only
 by_cases h:1<=k/\k<=4
 ·obtain rfl|rfl|rfl|rfl:k=1\/k=2\/k=3\/k=4:=by omega
  all_goals
   rw[Bool.eq_iff_iff]
   by_cases a:n=0
   ·subst a;simp;try omega
   ·simp[a];try omega
 ·have b:decide (k=1)=false:=dF_ (by omega)
  have c:decide (k=2)=false:=dF_ (by omega)
  have e:decide (k=3)=false:=dF_ (by omega)
  have f:decide (k=4)=false:=dF_ (by omega)
  have g:(decide (1<=k)&&decide (k<=4))=false:=by simp;omega
  rw[b,c,e,f,g]
  simp
set_option maxHeartbeats 0 in
theorem ZjM (d:DDay)(w:World):Does prog 92 [.agg (DDay.enc d).toArray] w (fun v O=>v = .int .i64 (if ZbH d then 0 else 2)/\O=[]):=by
 rw[Zua]
 have b:=fun w'=>Zf3 d.week 0 6 w'
 have c:=fun w'=>Zf3 d.day 1 31 w'
 generalize inB d.week 0 6=x at *
 generalize inB d.day 1 31=y at *
 obtain⟨k,wk,n⟩:=d
 show Does _ _ [.agg #[.int .i64 k,.int .i64 wk,.int .i64 n]] w _
 refine Zaa func92 rfl rfl rfl rfl ?_
 repeat' (first|(refine js ?_;((refine bx ?_;intro e)))|refine walk ?_|(refine RD_Lw ?_;intro F;(first|(refine Zab (fun w' _=>b w') ?_)|(refine Zab (fun w' _=>c w') ?_)|(apply Zan;exact PuA));refine⟨_,EndsA,QFA,?_⟩)|refine und ?_|(refine Zas rfl rfl rfl (fun a=>?_) (fun a=>?_))|(refine Zaf rfl (fun a=>?_) (fun a=>?_)))
 all_goals exact clo1
theorem ZjL (d:DClock)(w:World):Does prog 93 [.agg (DClock.enc d).toArray] w (fun v O=>v = .int .i64 (if ZaL d then 0 else 2)/\O=[]):=by
 obtain⟨k,wk⟩:=d
 show Does _ _ [.agg #[.int .i64 k,.int .i64 wk]] w _
 refine Zaa func93 rfl rfl rfl rfl ?_
 repeat' (first|(refine js ?_;(refine bx ?_;intro b))|refine walk ?_|(refine Zas rfl rfl rfl (fun a=>?_) (fun a=>?_))|(refine Zaf rfl (fun a=>?_) (fun a=>?_)))
 all_goals (refine ret_1 _ [] (.tmp rfl) .nil ⟨?_,rfl⟩;first|(simp_all [ZaL];done)|(simp_all [ZaL];omega))
theorem Zon (y:Int)(w:World):Does prog 293 [.int .i64 y] w (fun v O=>v = .bool (ZbQ y)/\O=[]):=by
 rw[show ZbQ y=(decide (y.tmod 4=0)&&(!decide (y.tmod 100=0)||decide (y.tmod 400=0))) by simp only[ZbQ,ZhU]]
 refine Zaa func293 rfl rfl rfl rfl ?_
 repeat' (first|(apply RL_pu;rfl;(apply Pu_rem;rfl;rfl;decide))|refine walk1 ?_|refine und ?_|(refine Zas rfl rfl rfl (fun a=>?_) (fun a=>?_)))
 all_goals exact clo1
theorem ZrG (a:Int):ZbQ (a.tmod 400)=ZbQ a:=by
 have h:=ZfU a 400 (by decide)
 have c:a.tmod 400=a % 400\/a.tmod 400=a % 400 - 400:=by
  by_cases b:a.tmod 400<0
  ·have:=(h.1 b).2;omega
  ·have:=(h.2 b).2;omega
 rw[Bool.eq_iff_iff,ZeP,ZeP]
 rcases c with e|e <;> rw[e] <;> omega
def alwB (a b m:Int)(d:DDay):Bool:=(inB m 1 12&&ZbH d)&&((decide (b<1048576)&&decide (b<a))||decide (d.day<=lenM 2001 m)||(decide (m=2)&&decide (d.day=29)&&decide (a=b)&&decide (b<1048576)&&ZbQ a))
theorem Zr8 (a b m:Int)(d:DDay):Zcf a b m d=alwB a b m d:=by
 unfold Zcf alwB inB
 by_cases h:1<=m/\m<=12
 ·rw[dT_ h.1,dT_ h.2]
  cases hc:ZbH d with
  | false=>rw[if_pos (.inr (.inr rfl))];rfl
  | true =>
   have n:=ZeY hc
   rw[if_neg (by simp;omega)]
   have k:lenM 2001 m=lenM 1 m:=by
    unfold lenM
    rw[show ZbQ 2001=ZbQ 1 by decide]
   rw[k]
   by_cases c:(b<1048576/\b<a)\/d.day<=lenM 1 m
   ·rw[if_pos c]
    rcases c with⟨c,f⟩|c
    ·rw[dT_ c,dT_ f];rfl
    ·rw[dT_ c];simp
   ·rw[if_neg c]
    have f:(decide (b<1048576)&&decide (b<a))=false:=by simp;omega
    have i:decide (d.day<=lenM 1 m)=false:=dF_ (fun e=>c (.inr e))
    rw[f,i]
    by_cases g:1048576<=b\/a≠b\/m≠2
    ·rw[if_pos g]
     symm
     simp
     omega
    ·rw[if_neg g]
     obtain rfl:m=2:=by omega
     have l:¬ d.day<=28:=fun e=>c (.inr e)
     have j:lenM (a.tmod 400) 2=if ZbQ a then 29 else 28:=by
      show(if ZbQ (a.tmod 400) then (29:Int) else 28)=_
      rw[ZrG]
     rw[j,dT_ (show a=b by omega),dT_ (show b<1048576 by omega)]
     cases ZbQ a with
     | true=>simp;omega
     | false=>simp;omega
 ·rw[if_pos (by omega)]
  have:(decide (1<=m)&&decide (m<=12))=false:=by simp;omega
  rw[this]
  rfl
theorem Zml (a b m:Int)(d:DDay)(w:World):Does prog 279 [.int .i64 a,.int .i64 b,.int .i64 m,.agg (DDay.enc d).toArray] w (fun v O=>v = .bool (Zcf a b m d)/\O=[]):=by
 rw[Zr8]
 unfold alwB
 have f:=fun w'=>Zf3 m 1 12 w'
 have g:=fun w'=>ZjM d w'
 have j:=fun w'=>ZfZ 2001 m w'
 have p:=fun w'=>Zon a w'
 generalize ZbH d=c at *
 generalize inB m 1 12=x at *
 generalize ZbQ a=y at *
 generalize lenM 2001 m=z at *
 obtain⟨k,wk,n⟩:=d
 show Does _ _ [.int .i64 a,.int .i64 b,.int .i64 m,.agg #[.int .i64 k,.int .i64 wk,.int .i64 n]] w _
 refine Zaa func279 rfl rfl rfl rfl ?_
 repeat' (first|(refine js ?_;(first|(refine Zab (fun w' _=>f w') ?_)|(refine Zab (fun w' _=>g w') ?_)|(refine Zab (fun w' _=>p w') ?_)|(refine bx ?_;intro q)))|refine walk ?_|(refine RD_Lw ?_;intro F;((refine Zab (fun w' _=>j w') ?_));refine⟨_,EndsA,QFA,?_⟩)|(refine Zas rfl rfl rfl (fun e=>?_) (fun e=>?_))|(refine Zaf rfl (fun e=>?_) (fun e=>?_)))
 all_goals exact clo1
theorem Znt (x k:Int)(a:0<=k/\k<=6)(h:Zep x≠k):Zbx (x+1) k=Zbx x k/\x+1<=Zbx x k:=by
 unfold Zbx Zep at *
 omega
theorem Zo3 (x k:Int)(h:Zep x=k):Zbx x k=x:=by
 unfold Zbx
 rw[h]
 omega
theorem Zhu (x k:Int)(a:0<=k/\k<=6)(h:Zep x≠k):ZaX (x - 1) k=ZaX x k/\ZaX x k<=x - 1:=by
 unfold ZaX Zep at *
 omega
theorem Zi0 (x k:Int)(h:Zep x=k):ZaX x k=x:=by
 unfold ZaX
 rw[h]
 omega
