/- Parts of the proof. -/
import Derived.Test.YtbjomhdhkpgbaaaGreatDoorV24
import Derived.Test.YtbjomhdhkpgbaaaGreatDoorV01
import Derived.Test.YtbjomhdhkpgbaaaGreatDoorV17
set_option maxHeartbeats 4000000
set_option linter.unusedVariables false
set_option linter.unusedSimpArgs false
namespace Go.Wk
open Go Go.RowKit
def mar1 (y:Int):Int:=y / 400*146097+y % 400*365+y % 400 / 4 - y % 400 / 100 - 719468
theorem Znt (y:Int):mar1 y+365<=mar1 (y+1)/\mar1 (y+1)<=mar1 y+366:=by unfold mar1;omega
theorem Znu (y:Int):∀ k:Nat,mar1 y+365*k<=mar1 (y+k)
 | 0=>by simp
 | k+1=>by
  have h1:=Znu y k
  have h2:=Znt (y+k)
  rw[show y+((k+1:Nat):Int)=y+k+1 by omega]
  omega
theorem Zhy {y z:Int}(h:y<z):mar1 y+365<=mar1 z:=by
 have h1:=Znu y (z - y).toNat
 rw[show y+((z - y).toNat:Int)=z by omega]at h1
 omega
theorem Zu3 {y z:Int}(h:y<=z):mar1 y<=mar1 z:=by
 by_cases he:y=z
 ·subst he;exact Int.le_refl _
 ·have:=Zhy (y:=y) (z:=z) (by omega)
  omega
theorem Zn3 (y m d:Int)(h:3<=m):Zb7 y m d=mar1 y+Zbr.getD (m - 3).toNat 0+d - 1:=by
 unfold Zb7 Zh8 mar1
 rw[if_neg (by omega)]
 omega
theorem ZvS (y:Int):mar1 y - 29<=Zb7 y 2 1/\Zb7 y 2 1<=mar1 y - 28:=by
 have h:=Znt (y - 1)
 rw[show y - 1+1=y by omega]at h
 unfold Zb7 Zh8
 rw[if_pos (by omega),show Zbr.getD ((2:Int)+12 - 3).toNat 0=337 by decide]
 unfold mar1 at *
 omega
theorem ZlT (y m:Int)(h0:1<=m)(h1:m<=12):28<=lenM y m:=by
 unfold lenM
 rw[if_neg (by omega)]
 split
 ·split <;> omega
 ·split <;> omega
def Zf1 (d:DDay):Prop:=(d.kind=2/\0<=d.week/\d.week<=6/\d.day=0)\/(d.kind=3/\0<=d.week/\d.week<=6/\1<=d.day/\d.day<=22/\d.day.tmod 7=1)\/(d.kind=1/\d.week=0/\1<=d.day/\d.day<=28)
theorem Zf1.chk {d:DDay}(h:Zf1 d):ZdH d=true:=by
 obtain⟨k,w,n⟩:=d
 simp only[Zf1]at h
 rcases h with⟨rfl,h1,h2,rfl⟩|⟨rfl,h1,h2,h3,h4,_⟩|⟨rfl,rfl,h3,h4⟩
 ·simp[ZdH,dayK,ZoS];omega
 ·simp[ZdH,dayK,ZoS];omega
 ·simp[ZdH,dayK,ZoS];omega
theorem Zf1.le28 {d:DDay}(h:Zf1 d):d.day<=28:=by
 unfold Zf1 at h
 omega
theorem Zf1.on {d:DDay}(h:Zf1 d){y m:Int}(hy:inY y=true)(h0:1<=m)(h1:m<=12):(onD y m d).2=0/\Zb7 y m 1<=(onD y m d).1/\(onD y m d).1<=Zb7 y m 1+30:=by
 have hl:=ZlT y m h0 h1
 have hl2:=ZlS y m
 have h28:=h.le28
 have hd:Zci y m 1=true:=by
  unfold Zci
  rw[hy]
  simp
  omega
 unfold onD
 rw[if_neg (by rw[hd];decide),if_neg (by rw[h.chk];decide),if_neg (by omega)]
 refine⟨rfl,?_⟩
 dsimp only
 generalize Zb7 y m 1=D
 generalize lenM y m=L at *
 obtain⟨k,w,n⟩:=d
 simp only[Zf1]at h
 unfold ZfY Zfu Zgv
 dsimp only at h28 ⊢
 rcases h with⟨rfl,h1,h2,rfl⟩|⟨rfl,h1,h2,h3,h4,_⟩|⟨rfl,rfl,h3,h4⟩
 ·rw[if_neg (by decide),if_pos rfl];omega
 ·rw[if_neg (by decide),if_neg (by decide),if_pos rfl];omega
 ·rw[if_pos rfl];omega
structure DrRule (r:Zab):Prop where
 f0:1900<=r.from_
 f1:r.from_<=2149
 ft:r.from_<=r.to
 t1:r.to<=2149\/r.to=1048576
 mon:(2<=r.month/\r.month<=4)\/r.month=6\/(8<=r.month/\r.month<=10)
 day:Zf1 r.day
 clk:0<=r.at_.sec/\r.at_.sec<=86400/\0<=r.at_.base/\r.at_.base<=2
 save : -3600<=r.save/\r.save<=7200
 letter:r.letter∈[ByteArray.empty,⟨#[83]⟩,⟨#[68]⟩,⟨#[68,84]⟩]
def sea (m:Int):Int:=if m<=4 then 0 else if m<=7 then 1 else 2
def loS (m:Int):Int:=if m<=4 then -29 else if m<=7 then 92 else 153
def hiS (m:Int):Int:=if m<=4 then 62 else if m<=7 then 123 else 245
theorem DrRule.mon12 {r:Zab}(h:DrRule r):1<=r.month/\r.month<=12:=by have:=h.mon;omega
theorem ZCo {m:Int}(h:(2<=m/\m<=4)\/m=6\/(8<=m/\m<=10))(y:Int):mar1 y+loS m<=Zb7 y m 1/\Zb7 y m 1+31<=mar1 y+hiS m:=by
 have hc:m=2\/m=3\/m=4\/m=6\/m=8\/m=9\/m=10:=by omega
 have hf:=ZvS y
 rcases hc with rfl|rfl|rfl|rfl|rfl|rfl|rfl
 ·simp only[loS,hiS]
  omega
 all_goals
  rw[Zn3 _ _ _ (by decide)]
  simp only[loS,hiS,Zbr]
  simp
  omega
theorem DrRule.ev {r:Zab}(h:DrRule r){least i y:Int}{e:Zaf}(hl : -3600<=least/\least<=0)(he:onR least r i y=some e) :
  e.year=y/\e.rule=i/\r.from_<=y/\(r.to<=2149->y<=r.to)/\86400*(mar1 y+loS r.month) - 3600<=e.nominal/\e.nominal<=86400*(mar1 y+hiS r.month):=by
 have hf0:=h.f0
 have hc:=h.clk
 obtain⟨m0,m1⟩:=h.mon12
 obtain⟨b1,b2⟩:=ZCo h.mon y
 unfold onR at he
 split at he
 ·cases he
 rename_i hy
 split at he
 ·cases he
 cases he
 have hyr:¬ y<max r.from_ (-2000000000):=fun hh=>hy (.inl hh)
 have hyl:¬ lastY r<y:=fun hh=>hy (.inr (.inl hh))
 have hl2:lastY r<=2000000000:=by unfold lastY;split <;> omega
 have hyt:r.to<=2149->y<=r.to:=fun hh=>by
  have:lastY r=r.to:=by unfold lastY;rw[if_neg (by omega)];omega
  omega
 have hin:inY y=true:=by
  unfold inY
  simp
  omega
 obtain⟨_,o1,o2⟩:=h.day.on hin m0 m1
 refine⟨rfl,rfl,by omega,hyt,?_⟩
 dsimp only
 have hm : -3600<=(if r.at_.base=1 then max least (-10800) else 0)/\(if r.at_.base=1 then max least (-10800) else 0)<=0:=by split <;> omega
 generalize (if r.at_.base=1 then max least (-10800) else 0)=mx at *
 generalize (onD y r.month r.day).1=D at *
 omega
def Dist (a b:Zab):Prop:=a.to<b.from_\/sea a.month≠sea b.month
theorem ZAN {a b:Int}(ha:(2<=a/\a<=4)\/a=6\/(8<=a/\a<=10))(hb:(2<=b/\b<=4)\/b=6\/(8<=b/\b<=10))(h:sea a≠sea b):hiS a+30<=loS b\/hiS b+30<=loS a:=by
 unfold sea at h
 unfold hiS loS
 split at h <;> split at h <;> (try split at h) <;> (try split at h) <;> omega
theorem Zu5 (m:Int) : -29<=loS m/\hiS m<=245:=by
 unfold loS hiS
 split
 ·omega
 ·split <;> omega
theorem DrRule.far {a b:Zab}(ha:DrRule a)(hb:DrRule b){least i j y z:Int}{e f:Zaf}(hl : -3600<=least/\least<=0)(he:onR least a i y=some e)(hf:onR least b j z=some f)(hd:y=z->Dist a b\/Dist b a) :
  259200<=e.nominal - f.nominal\/259200<=f.nominal - e.nominal:=by
 obtain⟨_,_,a1,a2,a3,a4⟩:=ha.ev hl he
 obtain⟨_,_,b1,b2,b3,b4⟩:=hb.ev hl hf
 have la:=Zu5 a.month
 have lb:=Zu5 b.month
 rcases Int.lt_trichotomy y z with h|h|h
 ·have:=Zhy h
  omega
 ·subst h
  have hs:sea a.month≠sea b.month:=by
   have af:=ha.f1
   have bf:=hb.f1
   rcases hd rfl with(h|h)|(h|h)
   ·have:=a2 (by omega);omega
   ·exact h
   ·have:=b2 (by omega);omega
   ·exact fun hh=>h hh.symm
  have:=ZAN ha.mon hb.mon hs
  omega
 ·have:=Zhy h
  omega
end Go.Wk
namespace Go.Proofs.YtbjomhdhkpgbaaaGreatDoor
open Go Go.RowKit Go.Wk
def atB (l:List Int)(i n:Int):Int:=if l.length=0 then 0 else l.getD (i % (l.length:Int)).toNat 0 % n
theorem Zat (l:List Int)(i n:Int)(hn:0<n):0<=atB l i n/\atB l i n<n:=by
 unfold atB
 split
 ·exact⟨Int.le_refl 0,hn⟩
 ·exact⟨Int.emod_nonneg _ (by omega),Int.emod_lt_of_pos _ hn⟩
def ZeV (l:List Int)(i:Int):Zb9:=⟨atB l i 49*1800,atB l (i+1) 3⟩
def dayB (l:List Int)(i:Int):List DDay:=[⟨2,atB l i 7,0⟩,⟨3,atB l i 7,1+7*atB l (i+1) 4⟩,⟨1,0,1+atB l (i+1) 28⟩]
def Zij (l:List Int)(i:Int):DDay:=(dayB l i).getD (atB l (i+2) 3).toNat ⟨0,0,0⟩
def letA:List ByteArray:=[⟨#[83]⟩,⟨#[68]⟩,⟨#[68,84]⟩]
def letB:List ByteArray:=[⟨#[]⟩,⟨#[83]⟩]
def Zpg (l:List Int)(i a b save:Int):Zab:=⟨ByteArray.empty,a,b,2+atB l i 3,Zij l (i+3),ZeV l (i+6),save,letA.getD (atB l (i+8) 3).toNat ByteArray.empty⟩
def ZsB (l:List Int)(i a b save:Int):Zab:=⟨ByteArray.empty,a,b,8+atB l (i+1) 3,Zij l (i+9),ZeV l (i+12),save,letB.getD (atB l (i+14) 2).toNat ByteArray.empty⟩
def ZgJ (l:List Int)(i a b save:Int):List Zab:=if atB l (i+2) 4=0 then [Zpg l i a b 0,ZsB l i a b save] else [Zpg l i a b save,ZsB l i a b 0]
theorem Zdw (l:List Int)(i a b save:Int):(ZgJ l i a b save).length=2:=by
 unfold ZgJ
 split <;> rfl
def Zhp:List Int:=[3600,3600,1800,7200,-3600]
def Zbx (l:List Int):Int:=Zhp.getD (atB l 0 5).toNat 0
def ZAV (l:List Int)(f:Int):Zab:=⟨⟨#[]⟩,f,f,6,⟨1,0,1+atB l 3 28⟩,ZeV l 4,0,⟨#[83]⟩⟩
def m1 (l:List Int):List Zab × Int:=if atB l 2 3=0 then ([ZAV l (1900+atB l 1 80)],1900+atB l 1 80+1) else ([],1900+atB l 1 80)
def m2 (l:List Int)(o:List Zab)(f:Int):List Zab × Int:=if atB l 5 2=0 then (o++ZgJ l 7 f (f+atB l 6 12) (Zbx l),f+atB l 6 12+1+atB l 8 5) else (o,f)
def to17 (l:List Int)(f:Int):Int:=if 0<atB l 10 3 then 1048576 else f+atB l 9 6
def m3 (l:List Int)(o:List Zab)(f:Int):List Zab:=o++ZgJ l 11 f (to17 l f) (Zbx l)
def Zc7 (x:ByteArray)(r:Zab):Zab:={ r with name:=x }
def Zb3 (l:List Int)(x:ByteArray):List Zab:=(m3 l (m2 l (m1 l).1 (m1 l).2).1 (m2 l (m1 l).1 (m1 l).2).2).map (Zc7 x)
theorem Zi8 (l:List Int):(m1 l).1.length<=1/\1900<=(m1 l).2/\(m1 l).2<=1980:=by
 have h1:=Zat l 1 80 (by decide)
 unfold m1
 split <;> refine⟨by simp,?_,?_⟩ <;> dsimp only <;> omega
theorem Zny (l:List Int)(o:List Zab)(f:Int)(ho:o.length<=1)(h1:1900<=f)(h2:f<=1980):(m2 l o f).1.length<=3/\1900<=(m2 l o f).2/\(m2 l o f).2<=2000:=by
 have h3:=Zat l 6 12 (by decide)
 have h4:=Zat l 8 5 (by decide)
 unfold m2
 split <;> refine⟨?_,?_,?_⟩ <;> dsimp only <;> first|omega|(rw[List.length_append,Zdw];omega)
def ZA1:ZaZ:=⟨false,0,0,⟨0,0,0⟩,⟨0,0⟩⟩
theorem ZsP (l:List Int)(x:ByteArray):(Zb3 l x).length<=5:=by
 obtain⟨q1,q2,q3⟩:=Zi8 l
 obtain⟨q4,q5,q6⟩:=Zny l (m1 l).1 (m1 l).2 q1 q2 q3
 rw[Zb3,List.length_map,m3,List.length_append,Zdw]
 omega
def ZBV (P:Zaf->Prop):Option Zaf->Prop
 | none=>∀ e,¬ P e
 | some e=>P e/\∀ e',P e'->ltE e' e=false
def Zsk (M:List Zaf)(e:Zaf):Prop:=∃ x∈M,ltE x e=true/\e.nominal - x.nominal<259200
theorem Zg3:∀ (M:List Zaf),ZtD M->M.Nodup->ZBV (fun e=>e∈M/\Zsk M e) (Zh9 M)
 | [],_,_=>fun e he=>by simp at he
 | [a],_,_=>fun e he=>by
  obtain⟨h1,x,h2,h3,_⟩:=he
  rw[List.mem_singleton]at h1 h2
  subst h1 h2
  rw[swoE.irrefl]at h3
  cases h3
 | a::b::l,hd,hn=>by
  obtain⟨d1,d2⟩:=List.pairwise_cons.1 hd
  obtain⟨n1,n2⟩:=List.nodup_cons.1 hn
  obtain⟨d3,_⟩:=List.pairwise_cons.1 d2
  have ih:=Zg3 (b::l) d2 n2
  have hlt:∀ x∈b::l,ltE x a=true:=fun x hx=>by
   cases h:ltE x a
   ·have:=totE a x (d1 x hx) h
    subst this
    exact absurd hx n1
   ·rfl
  have hrest:∀ e∈b::l,Zsk (a::b::l) e↔Zsk (b::l) e:=fun e he=>by
   constructor
   ·rintro⟨x,hx,h1,h2⟩
    rcases List.mem_cons.1 hx with rfl|hx
    ·rw[d1 e he]at h1;cases h1
    ·exact⟨x,hx,h1,h2⟩
   ·rintro⟨x,hx,h1,h2⟩
    exact⟨x,List.mem_cons_of_mem _ hx,h1,h2⟩
  have ha:Zsk (a::b::l) a↔a.nominal - b.nominal<259200:=by
   constructor
   ·rintro⟨x,hx,h1,h2⟩
    rcases List.mem_cons.1 hx with rfl|hx
    ·rw[swoE.irrefl]at h1;cases h1
    ·have hxb:x.nominal<=b.nominal:=by
      rcases List.mem_cons.1 hx with rfl|hx
      ·exact Int.le_refl _
      ·have h3:=d3 x hx
       simp only[ltE,Zhv,decide_eq_false_iff_not]at h3
       omega
     omega
   ·intro h
    exact⟨b,List.mem_cons_of_mem _ List.mem_cons_self,hlt b List.mem_cons_self,h⟩
  rw[Zh9]
  cases hc:Zh9 (b::l) with
  | none =>
   rw[hc]at ih
   rw[Option.none_or]
   by_cases hab:a.nominal - b.nominal<259200
   ·rw[if_pos hab]
    refine⟨⟨List.mem_cons_self,ha.2 hab⟩,fun e he=>?_⟩
    rcases List.mem_cons.1 he.1 with rfl|h
    ·exact swoE.irrefl _
    ·exact absurd ⟨h,(hrest e h).1 he.2⟩ (ih e)
   ·rw[if_neg hab]
    intro e he
    rcases List.mem_cons.1 he.1 with rfl|h
    ·exact hab (ha.1 he.2)
    ·exact ih e ⟨h,(hrest e h).1 he.2⟩
  | some c =>
   rw[hc]at ih
   rw[Option.some_or]
   obtain⟨⟨c1,c2⟩,c3⟩:=ih
   refine⟨⟨List.mem_cons_of_mem _ c1,(hrest c c1).2 c2⟩,fun e he=>?_⟩
   rcases List.mem_cons.1 he.1 with rfl|h
   ·exact d1 c c1
   ·exact c3 e ⟨h,(hrest e h).1 he.2⟩
theorem Zee (L y:Int):∀ (l:List Zab) (i:Nat) (e:Zaf),e∈Zel L y l i↔∃ (j:Nat) (r:Zab),l[j]?=some r/\onR L r ((i+j:Nat):Int) y=some e
 | [],i,e=>by simp[Zel]
 | r::l,i,e=>by
  rw[Zel,List.mem_append,Zee L y l (i+1) e,Option.mem_toList]
  constructor
  ·rintro(h|⟨j,r',h1,h2⟩)
   ·exact⟨0,r,rfl,h⟩
   ·exact⟨j+1,r',by simpa using h1,by rw[show i+(j+1)=i+1+j by omega];exact h2⟩
  ·rintro⟨j,r',h1,h2⟩
   cases j with
   | zero=>simp only[List.getElem?_cons_zero,Option.some.injEq]at h1;subst h1;exact .inl h2
   | succ j=>exact .inr ⟨j,r',by simpa using h1,by rw[show i+1+j=i+(j+1) by omega];exact h2⟩
theorem Zi3 (l:List Zab)(L f:Int):∀ (k:Nat) (e:Zaf),e∈allC l L f k↔∃ q:Nat,q<k/\e∈Zel L (f+q) l 0
 | 0,e=>by simp[allC]
 | k+1,e=>by
  rw[allC,List.mem_append,Zi3 l L f k e]
  constructor
  ·rintro(⟨q,h1,h2⟩|h)
   ·exact⟨q,by omega,h2⟩
   ·exact⟨k,by omega,h⟩
  ·rintro⟨q,h1,h2⟩
   by_cases hq:q=k
   ·subst hq;exact .inr h2
   ·exact .inl ⟨q,by omega,h2⟩
theorem ZhV (L y:Int):∀ (l:List Zab) (i:Nat),(Zel L y l i).Nodup
 | [],_=>List.nodup_nil
 | r::l,i=>by
  rw[Zel]
  refine List.nodup_append.2 ⟨?_,ZhV L y l (i+1),?_⟩
  ·cases onR L r i y <;> simp
  ·intro a ha b hb hab
   subst hab
   obtain⟨j,r',_,h2⟩:=(Zee L y l (i+1) a).1 hb
   have e1:=(Zip (Option.mem_toList.1 ha)).2.1
   have e2:=(Zip h2).2.1
   omega
theorem Zj1 (l:List Zab)(L f:Int):∀ k,(allC l L f k).Nodup
 | 0=>List.nodup_nil
 | k+1=>by
  rw[allC]
  refine List.nodup_append.2 ⟨Zj1 l L f k,ZhV _ _ _ _,?_⟩
  intro a ha b hb hab
  subst hab
  obtain⟨q,h1,h2⟩:=(Zi3 l L f k a).1 ha
  obtain⟨j,r,_,h3⟩:=(Zee _ _ _ _ _).1 h2
  obtain⟨j',r',_,h4⟩:=(Zee _ _ _ _ _).1 hb
  have e1:=(Zip h3).1
  have e2:=(Zip h4).1
  omega
theorem ZjB (least nominal:Int)(r:Zab)(i:Int):∀ (k:Nat) (y:Int) (e:Zaf),evIn least nominal r i y k=some e->∃ q:Nat,onR least r i (y+q)=some e/\nominal<e.nominal
 | 0,_,_,h=>by cases h
 | k+1,y,e,h=>by
  rw[evIn]at h
  have ih:=ZjB least nominal r i k (y+1) e
  have lift:(∃ q:Nat,onR least r i (y+1+q)=some e/\nominal<e.nominal)->∃ q:Nat,onR least r i (y+q)=some e/\nominal<e.nominal:=by
   rintro⟨q,hq⟩
   exact⟨q+1,by rw[show y+((q+1:Nat):Int)=y+1+q by omega];exact hq⟩
  cases he:onR least r i y with
  | none=>rw[he]at h;exact lift (ih h)
  | some e' =>
   rw[he]at h
   dsimp only at h
   by_cases hc:nominal<e'.nominal
   ·rw[if_pos hc]at h
    cases h
    exact⟨0,by simpa using he,hc⟩
   ·rw[if_neg hc]at h
    exact lift (ih h)
theorem Zgc (least nominal yr:Int):∀ (l:List Zab) (i:Nat) (b:Option Zaf) (e:Zaf),Zb5 least nominal yr l i b=some e->b=some e\/∃ (j:Nat) (r:Zab),l[j]?=some r/\evIn least nominal r ((i+j:Nat):Int) (max (max r.from_ (-2000000000)) (yr - 2)) 20=some e
 | [],_,_,_,h => .inl h
 | r::l,i,b,e,h=>by
  rw[Zb5]at h
  rcases Zgc least nominal yr l (i+1) _ e h with h1|⟨j,r',h1,h2⟩
  ·cases he:evIn least nominal r i (max (max r.from_ (-2000000000)) (yr - 2)) 20 with
   | none=>rw[he]at h1;exact .inl h1
   | some e' =>
    rw[he]at h1
    have hr:∀ x,e'=x->∃ (j:Nat) (r':Zab),(r::l)[j]?=some r'/\evIn least nominal r' ((i+j:Nat):Int) (max (max r'.from_ (-2000000000)) (yr - 2)) 20=some x:=fun x hx=>⟨0,r,rfl,by rw[<- hx];exact he⟩
    cases b with
    | none=>cases h1;exact .inr (hr _ rfl)
    | some b =>
     dsimp only at h1
     split at h1
     ·cases h1;exact .inr (hr _ rfl)
     ·exact .inl h1
  ·exact .inr ⟨j+1,r',by simpa using h1,by rw[show i+(j+1)=i+1+j by omega];exact h2⟩
theorem Zd0:∀ (l:List Zab)(m:Int),l.foldl (fun m r=>min m r.save) m<=m/\(∀ r∈l,l.foldl (fun m r=>min m r.save) m<=r.save)/\(l.foldl (fun m r=>min m r.save) m=m\/∃ r∈l,l.foldl (fun m r=>min m r.save) m=r.save)
 | [],m=>⟨Int.le_refl _,(fun r h=>by cases h),.inl rfl⟩
 | a::l,m=>by
  obtain⟨h1,h2,h3⟩:=Zd0 l (min m a.save)
  rw[List.foldl_cons]
  refine⟨by omega,fun r hr=>?_,?_⟩
  ·rcases List.mem_cons.1 hr with rfl|hr
   ·omega
   ·exact h2 r hr
  ·rcases h3 with h3|⟨r,h4,h5⟩
   ·by_cases hm:m<=a.save
    ·exact .inl (by omega)
    ·exact .inr ⟨a,List.mem_cons_self,by omega⟩
   ·exact .inr ⟨r,List.mem_cons_of_mem _ h4,h5⟩
theorem ZfE {s:Int}(hs:s≠0):∀ (l:List Zab) (x:Int),(x=0\/x=s)->(∀ r∈l,r.save=0\/r.save=s)->(x=s\/∃ r∈l,r.save=s)->Zc5 l x=(s,true)
 | [],x,_,_,h=>by
  rcases h with rfl|⟨r,hr,_⟩
  ·simp[Zc5,hs]
  ·cases hr
 | a::l,x,hx,ha,h=>by
  have hal:∀ r∈l,r.save=0\/r.save=s:=fun r hr=>ha r (List.mem_cons_of_mem _ hr)
  rw[Zc5]
  rcases ha a List.mem_cons_self with h0|h0
  ·rw[if_pos h0]
   refine ZfE hs l x hx hal ?_
   rcases h with h|⟨r,hr,hh⟩
   ·exact .inl h
   ·rcases List.mem_cons.1 hr with rfl|hr
    ·exact absurd (hh.symm.trans h0) hs
    ·exact .inr ⟨r,hr,hh⟩
  ·rw[if_neg (by clear h;omega),if_neg (by clear h;omega),h0]
   exact ZfE hs l s (.inr rfl) hal (.inl rfl)
structure ZcL (l:List Zab):Prop where
 rule:∀ r∈l,DrRule r
 dist:l.Pairwise Dist
 saves:∃ s,s≠0/\(∀ r∈l,r.save=0\/r.save=s)/\(∃ r∈l,r.save=0)/\∃ r∈l,r.save=s
 last:Zii l=true
theorem ZcL.least {l:List Zab}(h:ZcL l) : -3600<=Zaj l/\Zaj l<=0:=by
 obtain⟨h1,h2,h3⟩:=Zd0 l 0
 unfold Zaj
 refine⟨?_,h1⟩
 rcases h3 with h3|⟨r,h4,h5⟩
 ·omega
 ·have:=(h.rule r h4).save
  omega
theorem ZcL.other {l:List Zab}(h:ZcL l):∃ s,s≠0/\-3600<=s/\s<=7200/\Zbo l=(s,true)/\(Zaj l=0\/Zaj l=s)/\∀ r∈l,r.save=0\/r.save=s:=by
 obtain⟨s,h0,h1,_,r,h3,h4⟩:=h.saves
 have hr:=(h.rule r h3).save
 refine⟨s,h0,by omega,by omega,ZfE h0 l 0 (.inl rfl) h1 (.inr ⟨r,h3,h4⟩),?_,h1⟩
 obtain⟨_,_,h7⟩:=Zd0 l 0
 unfold Zaj
 rcases h7 with h7|⟨q,h8,h9⟩
 ·exact .inl h7
 ·have:=h1 q h8
  omega
theorem _root_.Go.Wk.DrRule.err {r:Zab}(h:DrRule r){least:Int}(hl : -3600<=least/\least<=0):Zcp r least=0:=by
 have h0:=h.f0
 have h1:=h.f1
 have h2:=h.ft
 have h3:=h.t1
 have h4:=h.clk
 have h5:=h.save
 obtain⟨m0,m1⟩:=h.mon12
 have e1:(ZcA r.from_&&(ZcA r.to||decide (r.to=1048576)))=true:=by
  simp[ZcA]
  omega
 have e2:Zgw r.from_ r.to r.month r.day=true:=by
  unfold Zgw
  rw[if_neg (by rw[h.day.chk];simp;omega),if_pos (.inr (by have:=ZlT 1 r.month m0 m1;have:=h.day.le28;omega))]
 have e3:ZeS r.at_ least=true:=by
  unfold ZeS ZaQ
  simp
  split <;> omega
 have e4:(decide (r.letter=ByteArray.empty)||Zjb r.letter)=true:=by
  have hl:=h.letter
  simp only[List.mem_cons,List.not_mem_nil,or_false]at hl
  rcases hl with e|e|e|e <;> rw[e] <;> decide
 unfold Zcp
 rw[if_neg (by rw[e1];decide),if_neg (by omega),if_neg (by rw[e2];decide),if_neg (by rw[e3];decide),if_neg (by simp;omega),if_neg (by rw[e4];decide)]
theorem ZcP {least:Int}:∀ (l:List Zab) (k:Nat),(∀ r∈l,Zcp r least=0)->Zbp least l k=none
 | [],_,_=>rfl
 | a::l,k,h=>by
  rw[Zbp,if_pos (h a List.mem_cons_self)]
  exact ZcP l (k+1) fun r hr=>h r (List.mem_cons_of_mem _ hr)
theorem ZcL.chk {l:List Zab}(h:ZcL l):Zes l=(0,0):=by
 have hl:=h.least
 obtain⟨s,s0,_,_,_,s1,s2⟩:=h.other
 obtain⟨_,_,_,⟨r,h3,h4⟩,_⟩:=h.saves
 unfold Zes
 rw[ZcP l 0 fun r hr=>(h.rule r hr).err hl]
 dsimp only
 have ha:(l.any fun r=>decide (r.save=0))=true:=List.any_eq_true.2 ⟨r,h3,by simp[h4]⟩
 rw[if_neg,if_neg (by rw[h.last];decide)]
 rintro(hh|⟨h5,h6⟩)
 ·rw[ha]at hh;cases hh
 ·obtain⟨q,h7,h8⟩:=List.any_eq_true.1 h6
  have:=s2 q h7
  simp at h8
  omega
theorem ZyH {α:Type}{R:α->α->Prop}{l:List α}(h:l.Pairwise R){j k:Nat}{a b:α}(ha:l[j]?=some a)(hb:l[k]?=some b)(hn:j≠k):R a b\/R b a:=by
 obtain⟨h1,rfl⟩:=List.getElem?_eq_some_iff.1 ha
 obtain⟨h2,rfl⟩:=List.getElem?_eq_some_iff.1 hb
 rcases Nat.lt_or_ge j k with h3|h3
 ·exact .inl (List.pairwise_iff_getElem.1 h _ _ h1 h2 h3)
 ·exact .inr (List.pairwise_iff_getElem.1 h _ _ h2 h1 (by omega))
theorem ZcL.far2 {l:List Zab}(h:ZcL l){j k:Nat}{a b:Zab}{y z:Int}{e f:Zaf}(ha:l[j]?=some a)(hb:l[k]?=some b)(he:onR (Zaj l) a j y=some e)(hf:onR (Zaj l) b k z=some f)(hn:e≠f) :
  259200<=e.nominal - f.nominal\/259200<=f.nominal - e.nominal:=by
 refine(h.rule a (List.mem_of_getElem? ha)).far (h.rule b (List.mem_of_getElem? hb)) h.least he hf fun hyz=>?_
 subst hyz
 refine ZyH h.dist ha hb fun hjk=>hn ?_
 subst hjk
 rw[ha]at hb
 cases hb
 exact Option.some.inj (he.symm.trans hf)
theorem ZcL.apart {l:List Zab}(h:ZcL l):Zgb l=none:=by
 have hc:=Zg3 (ZdR l (Zaj l) 1850 701) (Zgx _ _ _ _) ((ZeL l (Zaj l) 1850 701).nodup_iff.2 (Zj1 l (Zaj l) 1850 701))
 unfold Zgb
 cases he:Zh9 (ZdR l (Zaj l) 1850 701) with
 | none=>rfl
 | some e =>
  rw[he]at hc
  obtain⟨⟨h1,x,h2,h3,h4⟩,_⟩:=hc
  have hm:∀ x,x∈ZdR l (Zaj l) 1850 701->∃ (j:Nat) (r:Zab) (y:Int),l[j]?=some r/\onR (Zaj l) r j y=some x:=fun x hx=>by
   rw[(ZeL l (Zaj l) 1850 701).mem_iff,Zi3]at hx
   obtain⟨q,_,hq⟩:=hx
   obtain⟨j,r,hj,hr⟩:=(Zee _ _ _ _ _).1 hq
   rw[Nat.zero_add]at hr
   exact⟨j,r,_,hj,hr⟩
  obtain⟨j,a,y,ja,ea⟩:=hm e h1
  obtain⟨k,b,z,kb,eb⟩:=hm x h2
  have hne:e≠x:=fun hh=>by
   subst hh
   rw[swoE.irrefl]at h3
   cases h3
  have:=h.far2 ja kb ea eb hne
  simp only[ltE,Zhv,decide_eq_true_eq]at h3
  omega
theorem ZcL.fault {rs:List Zab}{x:ByteArray}(h:ZcL (ofB rs x))(hx:setB x=true):Zco rs x=none:=by
 unfold Zco
 rw[if_neg (by rw[hx];decide),h.chk,if_neg (by simp),h.apart]
theorem ZcL.farD_of {l:List Zab}(h:ZcL l)(n:Int)(hn:∀ (j:Nat) (r:Zab) (y:Int) (e:Zaf),l[j]?=some r->onR (Zaj l) r j y=some e->¬ (n - 259200<e.nominal/\e.nominal<n+259200)):farD l n=true:=by
 unfold farD
 cases ha:Zfv l (n - 259200) with
 | none=>rfl
 | some e =>
  rcases Zgc _ _ _ l 0 none e ha with hh|⟨j,r,hj,hr⟩
  ·cases hh
  ·obtain⟨q,h1,h2⟩:=ZjB _ _ _ _ _ _ _ hr
   rw[Nat.zero_add]at h1
   have:=hn j r _ e hj h1
   simp
   omega
theorem ZrC (l:List Int)(i:Int):Zf1 (Zij l i):=by
 have h1:=Zat l i 7 (by decide)
 have h2:=Zat l (i+1) 4 (by decide)
 have h3:=Zat l (i+1) 28 (by decide)
 have h4:=Zat l (i+2) 3 (by decide)
 have hc:atB l (i+2) 3=0\/atB l (i+2) 3=1\/atB l (i+2) 3=2:=by omega
 unfold Zij dayB Zf1
 rcases hc with e|e|e <;> rw[e]
 ·exact .inl ⟨rfl,h1.1,by show atB l i 7<=6;omega,rfl⟩
 ·refine .inr (.inl ⟨rfl,h1.1,?_,?_,?_,?_⟩)
  ·show atB l i 7<=6;omega
  ·show 1<=1+7*atB l (i+1) 4;omega
  ·show 1+7*atB l (i+1) 4<=22;omega
  ·show(1+7*atB l (i+1) 4).tmod 7=1
   rw[Int.tmod_eq_emod_of_nonneg (by omega)];omega
 ·refine .inr (.inr ⟨rfl,rfl,?_,?_⟩)
  ·show 1<=1+atB l (i+1) 28;omega
  ·show 1+atB l (i+1) 28<=28;omega
theorem ZjS (l:List Int)(i:Int):0<=(ZeV l i).sec/\(ZeV l i).sec<=86400/\0<=(ZeV l i).base/\(ZeV l i).base<=2:=by
 have h1:=Zat l i 49 (by decide)
 have h2:=Zat l (i+1) 3 (by decide)
 unfold ZeV
 dsimp only
 omega
theorem Zq2 {r:Zab}(h:Zf1 r.day):Zcz r=true:=by
 unfold Zf1 at h
 unfold Zcz
 rcases h with⟨h1,_⟩|⟨h1,h2,h3,h4,h5,h6⟩|⟨h1,h2,h3,h4⟩
 ·rw[if_pos h1]
 ·rw[if_neg (by omega),if_pos h1,h6]
  simp
  omega
 ·rw[if_neg (by omega),if_neg (by omega),if_pos h1]
  simp
  omega
theorem Zyn (k:Int)(h0:0<=k)(h1:k<3):letA.getD k.toNat ByteArray.empty∈[ByteArray.empty,⟨#[83]⟩,⟨#[68]⟩,⟨#[68,84]⟩]:=by
 have hc:k=0\/k=1\/k=2:=by omega
 rcases hc with rfl|rfl|rfl
 ·exact .tail _ (.head _)
 ·exact .tail _ (.tail _ (.head _))
 ·exact .tail _ (.tail _ (.tail _ (.head _)))
theorem Zym (k:Int)(h0:0<=k)(h1:k<2):letB.getD k.toNat ByteArray.empty∈[ByteArray.empty,⟨#[83]⟩,⟨#[68]⟩,⟨#[68,84]⟩]:=by
 have hc:k=0\/k=1:=by omega
 rcases hc with rfl|rfl
 ·exact .head _
 ·exact .tail _ (.head _)
theorem ZqX (l:List Int)(i a b s:Int)(h0:1900<=a)(h1:a<=2149)(h2:a<=b)(h3:b<=2149\/b=1048576)(h4 : -3600<=s/\s<=7200):DrRule (Zpg l i a b s):=by
 have r1:=Zat l i 3 (by decide)
 have r2:=Zat l (i+8) 3 (by decide)
 exact⟨h0,h1,h2,h3,.inl (by show 2<=2+atB l i 3/\2+atB l i 3<=4;omega),ZrC l (i+3),ZjS l (i+6),h4,Zyn _ r2.1 r2.2⟩
theorem ZqW (l:List Int)(i a b s:Int)(h0:1900<=a)(h1:a<=2149)(h2:a<=b)(h3:b<=2149\/b=1048576)(h4 : -3600<=s/\s<=7200):DrRule (ZsB l i a b s):=by
 have r1:=Zat l (i+1) 3 (by decide)
 have r2:=Zat l (i+14) 2 (by decide)
 exact⟨h0,h1,h2,h3,.inr (.inr (by show 8<=8+atB l (i+1) 3/\8+atB l (i+1) 3<=10;omega)),ZrC l (i+9),ZjS l (i+12),h4,Zym _ r2.1 r2.2⟩
theorem ZlL (l:List Int)(i a b s:Int)(h0:1900<=a)(h1:a<=2149)(h2:a<=b)(h3:b<=2149\/b=1048576)(h4 : -3600<=s/\s<=7200) :
  ∃ p q,ZgJ l i a b s=[p,q]/\DrRule p/\DrRule q/\p.from_=a/\p.to=b/\q.from_=a/\q.to=b/\sea p.month=0/\sea q.month=2/\((p.save=0/\q.save=s)\/(p.save=s/\q.save=0)):=by
 have r1:=Zat l i 3 (by decide)
 have r2:=Zat l (i+1) 3 (by decide)
 have e1:∀ t,sea (Zpg l i a b t).month=0:=fun t=>by
  show sea (2+atB l i 3)=0
  unfold sea;rw[if_pos (by omega)]
 have e2:∀ t,sea (ZsB l i a b t).month=2:=fun t=>by
  show sea (8+atB l (i+1) 3)=2
  unfold sea;rw[if_neg (by omega),if_neg (by omega)]
 unfold ZgJ
 split
 ·exact⟨_,_,rfl,ZqX l i a b 0 h0 h1 h2 h3 (by decide),ZqW l i a b s h0 h1 h2 h3 h4,rfl,rfl,rfl,rfl,e1 0,e2 s,.inl ⟨rfl,rfl⟩⟩
 ·exact⟨_,_,rfl,ZqX l i a b s h0 h1 h2 h3 h4,ZqW l i a b 0 h0 h1 h2 h3 (by decide),rfl,rfl,rfl,rfl,e1 s,e2 0,.inr ⟨rfl,rfl⟩⟩
structure Zxx (s f:Int)(o:List Zab):Prop where
 rule:∀ r∈o,DrRule r/\r.to<f/\r.to<=2149/\(r.save=0\/r.save=s)
 dist:o.Pairwise Dist
theorem Zxx.two {s f:Int}{o:List Zab}{p q:Zab}(h:Zxx s f o)(hp:p.from_=f)(hq:q.from_=f)(h1:sea p.month=0)(h2:sea q.month=2):(o++[p,q]).Pairwise Dist:=by
 refine List.pairwise_append.2 ⟨h.dist,?_,fun a ha b hb => .inl ?_⟩
 ·refine List.pairwise_cons.2 ⟨fun b hb=>?_,List.pairwise_singleton _ _⟩
  rw[List.mem_singleton]at hb
  subst hb
  exact .inr (by rw[h1,h2];decide)
 ·have:=(h.rule a ha).2.1
  simp only[List.mem_cons,List.not_mem_nil,or_false]at hb
  rcases hb with rfl|rfl
  ·rw[hp];exact this
  ·rw[hq];exact this
theorem Zhq (l:List Int):Zbx l≠0/\-3600<=Zbx l/\Zbx l<=7200:=by
 have h:=Zat l 0 5 (by decide)
 have hc:atB l 0 5=0\/atB l 0 5=1\/atB l 0 5=2\/atB l 0 5=3\/atB l 0 5=4:=by omega
 unfold Zbx
 rcases hc with e|e|e|e|e <;> rw[e] <;> decide
theorem Zzt (l:List Int):Zxx (Zbx l) (m1 l).2 (m1 l).1:=by
 have h1:=Zat l 1 80 (by decide)
 have h3:=Zat l 3 28 (by decide)
 unfold m1
 split
 ·refine⟨fun r hr=>?_,List.pairwise_singleton _ _⟩
  rw[List.mem_singleton]at hr
  subst hr
  refine⟨⟨?_,?_,Int.le_refl _,.inl ?_,.inr (.inl rfl),.inr (.inr ⟨rfl,rfl,?_,?_⟩),ZjS l 4,by show(-3600:Int)<=0/\(0:Int)<=7200;decide,List.Mem.tail _ (.head _)⟩,?_,?_,.inl rfl⟩
  ·show 1900<=1900+atB l 1 80;omega
  ·show 1900+atB l 1 80<=2149;omega
  ·show 1900+atB l 1 80<=2149;omega
  ·show 1<=1+atB l 3 28;omega
  ·show 1+atB l 3 28<=28;omega
  ·show 1900+atB l 1 80<1900+atB l 1 80+1;omega
  ·show 1900+atB l 1 80<=2149;omega
 ·exact⟨fun r hr=>(by cases hr),List.Pairwise.nil⟩
theorem Zzs (l:List Int)(o:List Zab)(f:Int)(h:Zxx (Zbx l) f o)(h1:1900<=f)(h2:f<=1980):Zxx (Zbx l) (m2 l o f).2 (m2 l o f).1:=by
 have h6:=Zat l 6 12 (by decide)
 have h8:=Zat l 8 5 (by decide)
 obtain⟨_,s1,s2⟩:=Zhq l
 unfold m2
 split
 ·obtain⟨p,q,e,hp,hq,p1,p2,q1,q2,sp,sq,hs⟩:=ZlL l 7 f (f+atB l 6 12) (Zbx l) h1 (by omega) (by omega) (.inl (by omega)) ⟨s1,s2⟩
  rw[e]
  refine⟨fun r hr=>?_,h.two p1 q1 sp sq⟩
  dsimp only at hr ⊢
  rw[List.mem_append]at hr
  rcases hr with hr|hr
  ·obtain⟨a,b,c,d⟩:=h.rule r hr
   exact⟨a,by omega,c,d⟩
  ·simp only[List.mem_cons,List.not_mem_nil,or_false]at hr
   rcases hr with rfl|rfl
   ·exact⟨hp,by omega,by omega,by omega⟩
   ·exact⟨hq,by omega,by omega,by omega⟩
 ·exact h
theorem Zvi {o:List Zab}{p q:Zab}(ho:∀ r∈o,r.to<=2149)(hpq:p.to=q.to)(hs:(p.save=0/\q.save≠0)\/(p.save≠0/\q.save=0))(hm:p.month≠q.month)(h1:Zcz p=true)(h2:Zcz q=true):Zii (o++[p,q])=true:=by
 have e:o.filter (fun r=>decide (r.to=1048576))=[]:=List.filter_eq_nil_iff.2 fun r hr=>by
  have:=ho r hr
  simp
  omega
 unfold Zii
 rw[List.filter_append,e,List.nil_append]
 by_cases h:q.to=1048576
 ·rw[List.filter_cons,if_pos (by simp;omega),List.filter_cons,if_pos (by simp;omega),List.filter_nil]
  dsimp only
  rw[h1,h2]
  rcases hs with⟨a,b⟩|⟨a,b⟩ <;> simp[a,b,hm]
 ·rw[List.filter_cons,if_neg (by simp;omega),List.filter_cons,if_neg (by simp;omega),List.filter_nil]
theorem _root_.Go.Wk.DrRule.named (x:ByteArray){r:Zab}(h:DrRule r):DrRule (Zc7 x r):=⟨h.f0,h.f1,h.ft,h.t1,h.mon,h.day,h.clk,h.save,h.letter⟩
theorem ZsO (l:List Int)(x:ByteArray):ZcL (Zb3 l x):=by
 obtain⟨_,a1,a2⟩:=Zi8 l
 have p1:=Zzt l
 obtain⟨_,b1,b2⟩:=Zny l (m1 l).1 (m1 l).2 (by have:=(Zi8 l).1;exact this) a1 a2
 have p2:=Zzs l _ _ p1 a1 a2
 obtain⟨s0,s1,s2⟩:=Zhq l
 have h9:=Zat l 9 6 (by decide)
 unfold Zb3 m3
 generalize (m2 l (m1 l).1 (m1 l).2).2=f at *
 generalize (m2 l (m1 l).1 (m1 l).2).1=o at *
 have ht:f<=to17 l f/\(to17 l f<=2149\/to17 l f=1048576):=by unfold to17;split <;> omega
 obtain⟨p,q,e,hp,hq,e1,e2,e3,e4,sp,sq,hs⟩:=ZlL l 11 f (to17 l f) (Zbx l) b1 (by omega) ht.1 ht.2 ⟨s1,s2⟩
 rw[e]
 have hd:=p2.two e1 e3 sp sq
 have hall:∀ r∈o++[p,q],DrRule r/\(r.save=0\/r.save=Zbx l):=fun r hr=>by
  rw[List.mem_append]at hr
  rcases hr with hr|hr
  ·obtain⟨a,_,_,d⟩:=p2.rule r hr
   exact⟨a,d⟩
  ·simp only[List.mem_cons,List.not_mem_nil,or_false]at hr
   rcases hr with rfl|rfl
   ·exact⟨hp,by omega⟩
   ·exact⟨hq,by omega⟩
 have mp:Zc7 x p∈(o++[p,q]).map (Zc7 x):=List.mem_map.2 ⟨p,by simp,rfl⟩
 have mq:Zc7 x q∈(o++[p,q]).map (Zc7 x):=List.mem_map.2 ⟨q,by simp,rfl⟩
 refine⟨fun r hr=>?_,List.pairwise_map.2 hd,⟨Zbx l,s0,fun r hr=>?_,?_,?_⟩,?_⟩
 ·obtain⟨r',h1,rfl⟩:=List.mem_map.1 hr
  exact(hall r' h1).1.named x
 ·obtain⟨r',h1,rfl⟩:=List.mem_map.1 hr
  exact(hall r' h1).2
 ·rcases hs with⟨h1,_⟩|⟨_,h1⟩
  ·exact⟨_,mp,h1⟩
  ·exact⟨_,mq,h1⟩
 ·rcases hs with⟨_,h1⟩|⟨h1,_⟩
  ·exact⟨_,mq,h1⟩
  ·exact⟨_,mp,h1⟩
 ·rw[List.map_append]
  refine Zvi (p:=Zc7 x p) (q:=Zc7 x q) (fun r hr=>?_) (e2.trans e4.symm) ?_ ?_ (Zq2 (r:=Zc7 x p) hp.day) (Zq2 (r:=Zc7 x q) hq.day)
  ·obtain⟨r',h1,rfl⟩:=List.mem_map.1 hr
   exact(p2.rule r' h1).2.2.1
  ·show(p.save=0/\q.save≠0)\/(p.save≠0/\q.save=0)
   omega
  ·show p.month≠q.month
   intro hh
   rw[hh,sq]at sp
   cases sp
theorem Zfk (l:List Int)(x:ByteArray):∀ r∈Zb3 l x,r.name=x:=fun r hr=>by
 obtain⟨r',_,rfl⟩:=List.mem_map.1 hr
 rfl
def fmtU:List ByteArray:=[⟨#[76,77,84]⟩,⟨#[71,77,84,47,66,83,84]⟩,⟨#[67,69,37,115,84]⟩,⟨#[37,122]⟩,⟨#[67,69,84,47,67,69,83,84]⟩,⟨#[69,69,37,115,84]⟩,⟨#[69,37,115,83,84]⟩,⟨#[87,83,84]⟩]
def ZxA (u:ZaZ)(Y:Int):Prop:=(∃ D S B,u=⟨true,Y,12,⟨1,0,D⟩,⟨S,B⟩⟩/\5<=D/\D<=24/\0<=S/\S<=86400/\0<=B/\B<=2) \/
 (∃ d S B,u=⟨true,Y+1,1,d,⟨S,B⟩⟩/\((d.kind=1/\d.week=0/\1<=d.day/\d.day<=20)\/(d.kind=3/\(0<=d.week/\d.week<=6)/\d.day=8))/\0<=S/\S<=86400/\0<=B/\B<=2)
theorem Zt5 {y m:Int}{d:DDay}{S B least x:Int}(hy:1850<=y/\y<=2149)(h0:onD y m d=(x,0))(h3:0<=S)(h4:S<=86400)(h5:0<=B)(h6:B<=2)(hl : -3600<=least/\least<=0) :
  ZaI ⟨true,y,m,d,⟨S,B⟩⟩ least=0/\ZaF ⟨true,y,m,d,⟨S,B⟩⟩ least=(86400*x+S+(if B=1 then least else 0),0):=by
 have e1:ZaI ⟨true,y,m,d,⟨S,B⟩⟩ least=0:=by
  have hc:ZaQ ⟨S,B⟩=true:=by
   unfold ZaQ
   simp
   omega
  unfold ZaI
  dsimp only
  rw[if_neg (by omega),if_neg (by decide),if_neg (by rw[hc];simp;omega),h0,if_neg]
  rintro(h|h|h)
  ·exact h rfl
  ·split at h <;> omega
  ·split at h <;> omega
 refine⟨e1,?_⟩
 unfold ZaF
 rw[if_neg (by rw[e1];decide),h0]
theorem ZCu {y:Int}{d:DDay}(hy:1850<=y/\y<=2149)(hd:(d.kind=1/\d.week=0/\1<=d.day/\d.day<=20)\/(d.kind=3/\(0<=d.week/\d.week<=6)/\d.day=8)):∃ x,onD y 1 d=(x,0)/\mar1 (y - 1)+306<=x/\x<=mar1 (y - 1)+325:=by
 have hin:inY y=true:=by
  unfold inY
  simp
  omega
 have hL:=ZlT y 1 (by decide) (by decide)
 have hok:Zci y 1 1=true:=by
  unfold Zci
  rw[hin]
  simp
  omega
 have hn:Zb7 y 1 1=mar1 (y - 1)+306:=by
  unfold Zb7
  rw[if_pos (by decide)]
  unfold Zh8 mar1
  rw[show Zbr.getD ((1:Int)+12 - 3).toNat 0=306 by decide]
  omega
 have hdd:Zf1 d:=by
  obtain⟨k,wk,dd⟩:=d
  dsimp only at hd
  rcases hd with⟨rfl,rfl,h1,h2⟩|⟨rfl,h1,rfl⟩
  ·exact .inr (.inr ⟨rfl,rfl,h1,by dsimp only;omega⟩)
  ·exact .inr (.inl ⟨rfl,h1.1,h1.2,by show(1:Int)<=8;decide,by show(8:Int)<=22;decide,by show(8:Int).tmod 7=1;decide⟩)
 unfold onD
 rw[if_neg (by rw[hok];decide),if_neg (by rw[hdd.chk];decide),if_neg (by omega),hn]
 refine⟨_,rfl,?_⟩
 unfold ZfY
 rcases hd with⟨h1,_,h2,h3⟩|⟨h1,_,h2⟩
 ·rw[if_pos h1]
  omega
 ·rw[if_neg (by omega),if_neg (by omega),if_pos h1,h2]
  unfold Zgv
  omega
theorem ZxA.nom {u:ZaZ}{Y least:Int}(h:ZxA u Y)(hY:1850<=Y/\Y<=2148)(hl : -3600<=least/\least<=0) :
  u.is=true/\ZaI u least=0/\∃ n,ZaF u least=(n,0)/\86400*(mar1 Y+279) - 3600<=n/\n<=86400*(mar1 Y+327):=by
 rcases h with⟨D,S,B,rfl,h1,h2,h3,h4,h5,h6⟩|⟨d,S,B,rfl,hd,h3,h4,h5,h6⟩
 ·have hin:inY Y=true:=by
   unfold inY
   simp
   omega
  have hL:=ZlT Y 12 (by decide) (by decide)
  have hdd:Zf1 ⟨1,0,D⟩ := .inr (.inr ⟨rfl,rfl,by show 1<=D;omega,by show D<=28;omega⟩)
  have e0:onD Y 12 ⟨1,0,D⟩=(mar1 Y+275+D - 1,0):=by
   have hok:Zci Y 12 1=true:=by
    unfold Zci
    rw[hin]
    simp
    omega
   unfold onD
   rw[if_neg (by rw[hok];decide),if_neg (by rw[hdd.chk];decide),if_neg (by show ¬ lenM Y 12<D;omega),Zn3 _ _ _ (by decide),show Zbr.getD ((12:Int) - 3).toNat 0=275 by decide]
   unfold ZfY
   rw[if_pos rfl]
   dsimp only
   rw[show mar1 Y+275+1 - 1+D - 1=mar1 Y+275+D - 1 by omega]
  obtain⟨e1,e2⟩:=Zt5 (B:=B) (by omega) e0 h3 h4 h5 h6 hl
  refine⟨rfl,e1,_,e2,?_⟩
  split <;> omega
 ·obtain⟨x,e0,e3,e4⟩:=ZCu (y:=Y+1) (by omega) hd
  rw[show Y+1 - 1=Y by omega]at e3 e4
  obtain⟨e1,e2⟩:=Zt5 (B:=B) (by omega) e0 h3 h4 h5 h6 hl
  refine⟨rfl,e1,_,e2,?_⟩
  split <;> omega
def Zb1 (rs:List Zab)(e:DEra)(first:Bool):Prop :=
 (e.kind=0/\e.save=0/\e.set=ByteArray.empty/\-46800<=e.off/\e.off<=46800/\e.format∈fmtU) \/
 (e.kind=1/\(1800<=e.save/\e.save<=7200)/\e.set=ByteArray.empty/\-46800<=e.off/\e.off<=46800/\e.format∈fmtU) \/
 (e.kind=2/\first=false/\e.save=0/\-43200<=e.off/\e.off<=43200/\e.format∈fmtU/\ZcL (ofB rs e.set)/\(ofB rs e.set).length<=5)
theorem ZgC (x:Int)(h : -86400<x/\x<86400):ZaT x≠[]:=by
 unfold ZaT
 rw[if_neg (by omega)]
 exact fun hh=>by cases hh
theorem Zrk (off:Int):∀ l:List Int,(∀ x∈l,-86400<off+x/\off+x<86400)->∃ r,ZeB off l=some r
 | [],_=>⟨_,rfl⟩
 | x::l,h=>by
  obtain⟨r,hr⟩:=Zrk off l fun y hy=>h y (List.mem_cons_of_mem _ hy)
  have hx:=h x List.mem_cons_self
  refine⟨ZaT (off+x)::r,?_⟩
  rw[ZeB,if_neg (by
   rintro(hh|hh)
   ·unfold ZdD at hh;simp at hh;omega
   ·exact ZgC _ hx hh),hr]
theorem Zju {f:List UInt8}:∀ l:List (List UInt8),(∀ x∈l,(ZbO f 0 0 x).2=0)->ZeC f l=0
 | [],_=>rfl
 | x::l,h=>by
  rw[ZeC,if_pos (h x List.mem_cons_self)]
  exact Zju l fun y hy=>h y (List.mem_cons_of_mem _ hy)
def Zvz:List (List UInt8):=[[76,77,84],[71,77,84,47,66,83,84],[67,69,84,47,67,69,83,84],[87,83,84]]
def Zvy:List (List UInt8):=[[67,69,37,115,84],[69,69,37,115,84],[69,37,115,83,84]]
def ZnD:List (List UInt8):=[[],[83],[68],[68,84]]
theorem Zc1:(∀ f∈Zvz,ZaP f=1\/ZaP f=2)/\(∀ f∈Zvy,ZaP f=3/\∀ x∈ZnD,(ZbO f 0 0 x).2=0)/\ZaP [37,122]=4:=by decide +kernel
theorem Zjl {f:ByteArray}(h:f∈fmtU):f.data.toList∈Zvz\/f.data.toList∈Zvy\/f.data.toList=[37,122]:=by
 have h1:∀ f∈fmtU,f.data.toList∈Zvz\/f.data.toList∈Zvy\/f.data.toList=[37,122]:=by decide
 exact h1 f h
theorem Zre {x:ByteArray}(h:x∈[ByteArray.empty,(⟨#[83]⟩:ByteArray),⟨#[68]⟩,⟨#[68,84]⟩]):x.data.toList∈ZnD:=by
 have:∀ x∈[ByteArray.empty,(⟨#[83]⟩:ByteArray),⟨#[68]⟩,⟨#[68,84]⟩],x.data.toList∈ZnD:=by decide
 exact this x h
theorem ZvA {e:DEra}{l:List Zab}(hf:e.format∈fmtU)(hk:e.kind=0\/e.kind=1\/e.kind=2)(h0 : -86400<e.off/\e.off<86400)(h1:e.kind=1 -> -86400<e.off+e.save/\e.off+e.save<86400)
  (h2:e.kind=2->(∀ r∈l,r.letter.data.toList∈ZnD)/\(Zbo l).2=true/\-86400<e.off+(Zbo l).1/\e.off+(Zbo l).1<86400):ZdF e l=0:=by
 unfold ZdF
 dsimp only
 rcases Zjl hf with h|h|h
 ·rcases Zc1.1 _ h with h|h <;> rw[h] <;> simp
 ·obtain⟨h3,h4⟩:=Zc1.2.1 _ h
  rw[h3,if_neg (by decide),if_pos rfl]
  refine Zju _ fun x hx=>h4 x ?_
  split at hx
  ·rename_i hk2
   obtain⟨r,hr,rfl⟩:=List.mem_map.1 hx
   exact(h2 hk2).1 r hr
  ·rw[List.mem_singleton]at hx
   subst hx
   decide
 ·have he:(Zbi e l).2=0:=by
   have hj:∀ s:List Int,(∀ x∈s,-86400<e.off+x/\e.off+x<86400)->(match ZeB e.off s with|none=>(([],3):List UInt8 × Int)|some r=>(Zcn r,0)).2=0:=fun s hs=>by
    obtain⟨r,hr⟩:=Zrk e.off s hs
    rw[hr]
   unfold Zbi
   dsimp only
   rcases hk with hk|hk|hk
   ·rw[if_pos hk]
    exact hj [0] fun x hx=>by rw[List.mem_singleton]at hx;subst hx;omega
   ·rw[if_neg (by omega),if_pos hk]
    exact hj [e.save] fun x hx=>by rw[List.mem_singleton]at hx;subst hx;exact h1 hk
   ·obtain⟨_,h3,h4⟩:=h2 hk
    rw[if_neg (by omega),if_neg (by omega),if_pos hk,if_pos h3]
    exact hj [0,(Zbo l).1] fun x hx=>by
     simp only[List.mem_cons,List.not_mem_nil,or_false]at hx
     rcases hx with rfl|rfl
     ·omega
     ·exact h4
  rw[h,Zc1.2.2,if_neg (by decide),if_neg (by decide),if_pos (.inl rfl),if_neg]
  rw[he]
  rintro(hh|⟨hh,_⟩)
  ·exact hh rfl
  ·cases hh
theorem Zb1.fmt {rs:List Zab}{e:DEra}{first:Bool}(h:Zb1 rs e first):e.format∈fmtU:=by
 rcases h with⟨_,_,_,_,_,h⟩|⟨_,_,_,_,_,h⟩|⟨_,_,_,_,_,h,_⟩
 ·exact h
 ·exact h
 ·exact h
theorem Zb1.states {rs:List Zab}{e:DEra}{first:Bool}(h:Zb1 rs e first):(ZaE rs e).length<=5/\(∀ x∈ZaE rs e,-54000<=e.off+x.1/\e.off+x.1<=54000)/\-54000<=e.off/\e.off<=54000/\(Zaz rs e=[]\/ZcL (Zaz rs e)):=by
 unfold ZaE Zaz
 rcases h with⟨hk,hs,_,h1,h2,_⟩|⟨hk,hs,_,h1,h2,_⟩|⟨hk,_,_,h1,h2,_,h3,h4⟩
 ·rw[if_neg (by omega),if_neg (by omega),if_neg (by omega)]
  refine⟨by simp,fun x hx=>?_,by omega,by omega,.inl rfl⟩
  rw[List.mem_singleton]at hx
  subst hx
  dsimp only
  omega
 ·rw[if_pos hk,if_neg (by omega)]
  refine⟨by simp,fun x hx=>?_,by omega,by omega,.inl rfl⟩
  rw[List.mem_singleton]at hx
  subst hx
  dsimp only
  omega
 ·rw[if_neg (by omega),if_pos hk,if_pos hk]
  refine⟨by rw[List.length_map];exact h4,fun x hx=>?_,by omega,by omega,.inr h3⟩
  obtain⟨r,hr,rfl⟩:=List.mem_map.1 hx
  have:=(h3.rule r hr).save
  dsimp only
  omega
theorem ZsU:Zaj []=0:=rfl
theorem Zb1.least {rs:List Zab}{e:DEra}{first:Bool}(h:Zb1 rs e first) : -3600<=Zaj (Zaz rs e)/\Zaj (Zaz rs e)<=0:=by
 obtain⟨_,_,_,_,hs⟩:=h.states
 rcases hs with hs|hs
 ·rw[hs,ZsU];decide
 ·exact hs.least
theorem Zb1.chk {rs:List Zab}{e:DEra}{first:Bool}(h:Zb1 rs e first)(hu:e.til.is=true\/e.til=ZA1):Zc2 rs e first=0:=by
 obtain⟨_,s2,s3,s4,_⟩:=h.states
 have hun:Ze7 e=false:=by
  have ht:(!e.til.is&&!decide ({ e.til with is:=false }=dU0))=false:=by
   rcases hu with hu|hu
   ·rw[hu];rfl
   ·rw[hu];decide
  unfold Ze7
  rw[ht]
  rcases h with⟨hk,hs,he,_⟩|⟨hk,hs,he,_⟩|⟨hk,_,hs,_⟩
  ·rw[hk,hs,he];decide
  ·rw[hk,he];simp
  ·rw[hk,hs];simp
 have hf:ZdF e (Zaz rs e)=0:=by
  refine ZvA h.fmt ?_ (by omega) ?_ ?_
  ·rcases h with⟨hk,_⟩|⟨hk,_⟩|⟨hk,_⟩
   ·exact .inl hk
   ·exact .inr (.inl hk)
   ·exact .inr (.inr hk)
  ·intro hk
   have:=s2 (e.save,ByteArray.empty) (by unfold ZaE;rw[if_pos hk];exact List.mem_singleton.2 rfl)
   dsimp only at this
   omega
  ·intro hk
   rcases h with⟨hk2,_⟩|⟨hk2,_⟩|⟨_,_,_,h1,h2,_,h3,h4⟩
   ·omega
   ·omega
   rw[Zaz,if_pos hk]
   obtain⟨s,_,q1,q2,q3,_⟩:=h3.other
   rw[q3]
   exact⟨fun r hr=>Zre (h3.rule r hr).letter,rfl,by dsimp only;omega,by dsimp only;omega⟩
 have hkk:(0<=e.kind/\e.kind<=2)/\(¬ (first=true/\e.kind=2))/\(¬ (e.kind=2/\Zaz rs e=[]))/\¬ (e.kind=1/\(e.save<1\/10800<e.save)):=by
  rcases h with⟨hk,_⟩|⟨hk,hs,_⟩|⟨hk,hf,_,_,_,_,h3,_⟩
  ·exact⟨by omega,by omega,by omega,by omega⟩
  ·exact⟨by omega,by omega,by omega,by omega⟩
  ·refine⟨by omega,by rw[hf];simp,?_,by omega⟩
   rintro⟨_,hn⟩
   rw[Zaz,if_pos hk]at hn
   obtain⟨_,_,_,⟨r,hr,_⟩,_⟩:=h3.saves
   rw[hn]at hr
   cases hr
 unfold Zc2
 rw[if_neg (by omega),if_neg hkk.2.1,if_neg hkk.2.2.1,if_neg hkk.2.2.2,if_neg,if_neg (by rw[hun];decide),hf]
 rintro(hh|hh)
 ·unfold ZbG at hh;simp at hh;omega
 ·obtain⟨x,hx,hh⟩:=List.any_eq_true.1 hh
  have:=s2 x hx
  unfold ZbG at hh
  simp at hh
  omega
structure ZcB (rs:List Zab)(l:List DEra)(Y:Nat->Int):Prop where
 len:1<=l.length/\l.length<=4
 era:∀ k e,l[k]?=some e->Zb1 rs e (decide (k=0))
 yr:∀ k,k+1<l.length->1850<=Y k/\Y k<=2148
 inc:∀ k,k+2<l.length->Y k<Y (k+1)
 til:∀ k e,l[k]?=some e->if k+1<l.length then ZxA e.til (Y k) else e.til=ZA1
theorem Zjg {α:Type}{l:List α}{k:Nat}{d:α}(h:k<l.length):∃ e,l[k]?=some e/\l.getD k d=e:=⟨l[k],List.getElem?_eq_getElem h,by rw[List.getD_eq_getElem?_getD,List.getElem?_eq_getElem h];rfl⟩
theorem ZcL.far_til {l:List Zab}(h:ZcL l){n Y:Int}(h1:86400*(mar1 Y+279) - 3600<=n)(h2:n<=86400*(mar1 Y+327)):farD l n=true:=by
 refine h.farD_of n fun j r y e hj he=>?_
 obtain⟨_,_,_,_,b1,b2⟩:=(h.rule r (List.mem_of_getElem? hj)).ev h.least he
 have hb:=Zu5 r.month
 rcases Int.lt_or_le Y y with hy|hy
 ·have:=Zhy hy
  omega
 ·have:=Zu3 hy
  omega
theorem ZcB.endOk {rs:List Zab}{l:List DEra}{Y:Nat->Int}(h:ZcB rs l Y){k:Nat}(hk:k<l.length):Zga rs l k=0:=by
 obtain⟨e,he,hd⟩:=Zjg (d:=dE0) hk
 have hE:=h.era k e he
 have hT:=h.til k e he
 unfold Zga
 dsimp only
 rw[hd]
 by_cases hl:k+1<l.length
 ·rw[if_pos hl]at hT
  obtain⟨t1,t2,n,t3,t4,t5⟩:=hT.nom (h.yr k hl) hE.least
  rw[if_neg (by rw[t1,decide_eq_true hl];simp),if_neg (by rw[t1];decide),if_neg (by rw[t2];decide),t3,if_neg,if_neg]
  ·rintro⟨hk2,hf⟩
   obtain⟨_,_,_,_,hs⟩:=hE.states
   rcases hs with hs|hs
   ·rcases hE with⟨hk3,_⟩|⟨hk3,_⟩|⟨_,_,_,_,_,_,h3,_⟩
    ·omega
    ·omega
    ·rw[Zaz,if_pos hk2]at hs
     obtain⟨_,_,_,⟨r,hr,_⟩,_⟩:=h3.saves
     rw[hs]at hr
     cases hr
   ·rw[hs.far_til t4 t5]at hf
    cases hf
  ·rintro⟨hk0,hh⟩
   obtain⟨b,hb,hbd⟩:=Zjg (l:=l) (k:=k - 1) (d:=dE0) (by omega)
   rw[hbd]at hh
   have hT2:=h.til (k - 1) b hb
   rw[if_pos (by omega)]at hT2
   obtain⟨_,_,m,m3,m4,m5⟩:=hT2.nom (h.yr (k - 1) (by omega)) (h.era (k - 1) b hb).least
   rw[m3]at hh
   have hy:=h.inc (k - 1) (by omega)
   rw[show k - 1+1=k by omega]at hy
   have:=Zhy hy
   rcases hh with hh|hh
   ·exact hh rfl
   ·dsimp only at hh
    omega
 ·rw[if_neg hl]at hT
  have ht:e.til.is=false:=by rw[hT];rfl
  rw[if_neg (by rw[ht,decide_eq_false hl];simp),if_pos ht]
theorem ZcB.eraOk {rs:List Zab}{l:List DEra}{Y:Nat->Int}(h:ZcB rs l Y){k:Nat}(hk:k<l.length):Zc2 rs (l.getD k dE0) (decide (k=0))=0:=by
 obtain⟨e,he,hd⟩:=Zjg (d:=dE0) hk
 rw[hd]
 refine(h.era k e he).chk ?_
 have hT:=h.til k e he
 split at hT
 ·rcases hT with⟨_,_,_,hh,_⟩|⟨_,_,_,hh,_⟩ <;> exact .inl (by rw[hh])
 ·exact .inr hT
theorem ZcB.go {rs:List Zab}{l:List DEra}{Y:Nat->Int}(h:ZcB rs l Y)(i:Nat):∀ f k,k+f<=l.length->Zcr rs l i f k=none
 | 0,_,_=>rfl
 | f+1,k,hk=>by
  rw[Zcr,if_neg (by rw[h.eraOk (by omega)];decide),if_neg (by rw[h.endOk (by omega)];decide)]
  exact h.go i f (k+1) (by omega)
end Go.Proofs.YtbjomhdhkpgbaaaGreatDoor
