/- Parts of the proof. -/
import Derived.Test.YtdlmhmmhdbbliaaGreatDoorV11
import Derived.Test.YtdlmhmmhdbbliaaGreatDoorV07
import Derived.Test.YtdlmhmmhdbbliaaGreatDoorV05
import Derived.Test.YtdlmhmmhdbbliaaGreatDoorV09
set_option maxHeartbeats 4000000
set_option linter.unusedVariables false
set_option linter.unusedSimpArgs false
namespace Go.Proofs.YtdlmhmmhdbbliaaGreatDoor
open Go Go.RowKit Go.Wk
def fmtU:List ByteArray:=[⟨#[76,77,84]⟩,⟨#[71,77,84,47,66,83,84]⟩,⟨#[67,69,37,115,84]⟩,⟨#[37,122]⟩,⟨#[67,69,84,47,67,69,83,84]⟩,⟨#[69,69,37,115,84]⟩,⟨#[69,37,115,83,84]⟩,⟨#[87,83,84]⟩]
def ZvY (u:ZaY)(Y:Int):Prop:=(∃ D S B,u=⟨true,Y,12,⟨1,0,D⟩,⟨S,B⟩⟩/\5<=D/\D<=24/\0<=S/\S<=86400/\0<=B/\B<=2) \/
 (∃ d S B,u=⟨true,Y+1,1,d,⟨S,B⟩⟩/\((d.kind=1/\d.week=0/\1<=d.day/\d.day<=20)\/(d.kind=3/\(0<=d.week/\d.week<=6)/\d.day=8))/\0<=S/\S<=86400/\0<=B/\B<=2)
theorem Zsw {y m:Int}{d:DDay}{S B least x:Int}(hy:1850<=y/\y<=2149)(h0:onD y m d=(x,0))(h3:0<=S)(h4:S<=86400)(h5:0<=B)(h6:B<=2)(hl : -3600<=least/\least<=0) :
  ZaW ⟨true,y,m,d,⟨S,B⟩⟩ least=0/\ZaH ⟨true,y,m,d,⟨S,B⟩⟩ least=(86400*x+S+(if B=1 then least else 0),0):=by
 have e1:ZaW ⟨true,y,m,d,⟨S,B⟩⟩ least=0:=by
  have hc:ZaP ⟨S,B⟩=true:=by
   unfold ZaP
   simp
   omega
  unfold ZaW
  dsimp only
  rw[if_neg (by omega),if_neg (by decide),if_neg (by rw[hc];simp;omega),h0,if_neg]
  rintro(h|h|h)
  ·exact h rfl
  ·split at h <;> omega
  ·split at h <;> omega
 refine⟨e1,?_⟩
 unfold ZaH
 rw[if_neg (by rw[e1];decide),h0]
theorem ZAz {y:Int}{d:DDay}(hy:1850<=y/\y<=2149)(hd:(d.kind=1/\d.week=0/\1<=d.day/\d.day<=20)\/(d.kind=3/\(0<=d.week/\d.week<=6)/\d.day=8)):∃ x,onD y 1 d=(x,0)/\mar1 (y - 1)+306<=x/\x<=mar1 (y - 1)+325:=by
 have hin:inY y=true:=by
  unfold inY
  simp
  omega
 have hL:=Zf4 y 1 (by decide) (by decide)
 have hok:ZaL y 1 1=true:=by
  unfold ZaL
  rw[hin]
  simp
  omega
 have hn:Zan y 1 1=mar1 (y - 1)+306:=by
  unfold Zan
  rw[if_pos (by decide)]
  unfold Zb3 mar1
  rw[show ZaN.getD ((1:Int)+12 - 3).toNat 0=306 by decide]
  omega
 have hdd:Zes d:=by
  obtain⟨k,wk,dd⟩:=d
  dsimp only at hd
  rcases hd with⟨rfl,rfl,h1,h2⟩|⟨rfl,h1,rfl⟩
  ·exact .inr (.inr ⟨rfl,rfl,h1,by dsimp only;omega⟩)
  ·exact .inr (.inl ⟨rfl,h1.1,h1.2,by show(1:Int)<=8;decide,by show(8:Int)<=22;decide,by show(8:Int).tmod 7=1;decide⟩)
 unfold onD
 rw[if_neg (by rw[hok];decide),if_neg (by rw[hdd.chk];decide),if_neg (by omega),hn]
 refine⟨_,rfl,?_⟩
 unfold Zey
 rcases hd with⟨h1,_,h2,h3⟩|⟨h1,_,h2⟩
 ·rw[if_pos h1]
  omega
 ·rw[if_neg (by omega),if_neg (by omega),if_pos h1,h2]
  unfold ZeX
  omega
theorem ZvY.nom {u:ZaY}{Y least:Int}(h:ZvY u Y)(hY:1850<=Y/\Y<=2148)(hl : -3600<=least/\least<=0) :
  u.is=true/\ZaW u least=0/\∃ n,ZaH u least=(n,0)/\86400*(mar1 Y+279) - 3600<=n/\n<=86400*(mar1 Y+327):=by
 rcases h with⟨D,S,B,rfl,h1,h2,h3,h4,h5,h6⟩|⟨d,S,B,rfl,hd,h3,h4,h5,h6⟩
 ·have hin:inY Y=true:=by
   unfold inY
   simp
   omega
  have hL:=Zf4 Y 12 (by decide) (by decide)
  have hdd:Zes ⟨1,0,D⟩ := .inr (.inr ⟨rfl,rfl,by show 1<=D;omega,by show D<=28;omega⟩)
  have e0:onD Y 12 ⟨1,0,D⟩=(mar1 Y+275+D - 1,0):=by
   have hok:ZaL Y 12 1=true:=by
    unfold ZaL
    rw[hin]
    simp
    omega
   unfold onD
   rw[if_neg (by rw[hok];decide),if_neg (by rw[hdd.chk];decide),if_neg (by show ¬ lenM Y 12<D;omega),Zm9 _ _ _ (by decide),show ZaN.getD ((12:Int) - 3).toNat 0=275 by decide]
   unfold Zey
   rw[if_pos rfl]
   dsimp only
   rw[show mar1 Y+275+1 - 1+D - 1=mar1 Y+275+D - 1 by omega]
  obtain⟨e1,e2⟩:=Zsw (B:=B) (by omega) e0 h3 h4 h5 h6 hl
  refine⟨rfl,e1,_,e2,?_⟩
  split <;> omega
 ·obtain⟨x,e0,e3,e4⟩:=ZAz (y:=Y+1) (by omega) hd
  rw[show Y+1 - 1=Y by omega]at e3 e4
  obtain⟨e1,e2⟩:=Zsw (B:=B) (by omega) e0 h3 h4 h5 h6 hl
  refine⟨rfl,e1,_,e2,?_⟩
  split <;> omega
def Zbm (rs:List Zab)(e:DEra)(first:Bool):Prop :=
 (e.kind=0/\e.save=0/\e.set=ByteArray.empty/\-46800<=e.off/\e.off<=46800/\e.format∈fmtU) \/
 (e.kind=1/\(1800<=e.save/\e.save<=7200)/\e.set=ByteArray.empty/\-46800<=e.off/\e.off<=46800/\e.format∈fmtU) \/
 (e.kind=2/\first=false/\e.save=0/\-43200<=e.off/\e.off<=43200/\e.format∈fmtU/\Zbl (ofB rs e.set)/\(ofB rs e.set).length<=5)
theorem Zif (x:Int)(h : -86400<x/\x<86400):ZbS x≠[]:=by
 unfold ZbS
 rw[if_neg (by omega)]
 exact fun hh=>by cases hh
theorem Zp9 (off:Int):∀ l:List Int,(∀ x∈l,-86400<off+x/\off+x<86400)->∃ r,Zfz off l=some r
 | [],_=>⟨_,rfl⟩
 | x::l,h=>by
  obtain⟨r,hr⟩:=Zp9 off l fun y hy=>h y (List.mem_cons_of_mem _ hy)
  have hx:=h x List.mem_cons_self
  refine⟨ZbS (off+x)::r,?_⟩
  rw[Zfz,if_neg (by
   rintro(hh|hh)
   ·unfold Zdr at hh;simp at hh;omega
   ·exact Zif _ hx hh),hr]
theorem ZiU {f:List UInt8}:∀ l:List (List UInt8),(∀ x∈l,(ZbR f 0 0 x).2=0)->Zee f l=0
 | [],_=>rfl
 | x::l,h=>by
  rw[Zee,if_pos (h x List.mem_cons_self)]
  exact ZiU l fun y hy=>h y (List.mem_cons_of_mem _ hy)
def ZrF:List (List UInt8):=[[76,77,84],[71,77,84,47,66,83,84],[67,69,84,47,67,69,83,84],[87,83,84]]
def ZrC:List (List UInt8):=[[67,69,37,115,84],[69,69,37,115,84],[69,37,115,83,84]]
def Zkk:List (List UInt8):=[[],[83],[68],[68,84]]
theorem Zcb:(∀ f∈ZrF,ZbQ f=1\/ZbQ f=2)/\(∀ f∈ZrC,ZbQ f=3/\∀ x∈Zkk,(ZbR f 0 0 x).2=0)/\ZbQ [37,122]=4:=by decide +kernel
theorem Zgr {f:ByteArray}(h:f∈fmtU):f.data.toList∈ZrF\/f.data.toList∈ZrC\/f.data.toList=[37,122]:=by
 have h1:∀ f∈fmtU,f.data.toList∈ZrF\/f.data.toList∈ZrC\/f.data.toList=[37,122]:=by decide
 exact h1 f h
theorem Zla {x:ByteArray}(h:x∈[ByteArray.empty,(⟨#[83]⟩:ByteArray),⟨#[68]⟩,⟨#[68,84]⟩]):x.data.toList∈Zkk:=by
 have:∀ x∈[ByteArray.empty,(⟨#[83]⟩:ByteArray),⟨#[68]⟩,⟨#[68,84]⟩],x.data.toList∈Zkk:=by decide
 exact this x h
theorem ZtN {e:DEra}{l:List Zab}(hf:e.format∈fmtU)(hk:e.kind=0\/e.kind=1\/e.kind=2)(h0 : -86400<e.off/\e.off<86400)(h1:e.kind=1 -> -86400<e.off+e.save/\e.off+e.save<86400)
  (h2:e.kind=2->(∀ r∈l,r.letter.data.toList∈Zkk)/\(Zdc l).2=true/\-86400<e.off+(Zdc l).1/\e.off+(Zdc l).1<86400):ZiP e l=0:=by
 unfold ZiP
 dsimp only
 rcases Zgr hf with h|h|h
 ·rcases Zcb.1 _ h with h|h <;> rw[h] <;> simp
 ·obtain⟨h3,h4⟩:=Zcb.2.1 _ h
  rw[h3,if_neg (by decide),if_pos rfl]
  refine ZiU _ fun x hx=>h4 x ?_
  split at hx
  ·rename_i hk2
   obtain⟨r,hr,rfl⟩:=List.mem_map.1 hx
   exact(h2 hk2).1 r hr
  ·rw[List.mem_singleton]at hx
   subst hx
   decide
 ·have he:(Zf6 e l).2=0:=by
   have hj:∀ s:List Int,(∀ x∈s,-86400<e.off+x/\e.off+x<86400)->(match Zfz e.off s with|none=>(([],3):List UInt8 × Int)|some r=>(Zc5 r,0)).2=0:=fun s hs=>by
    obtain⟨r,hr⟩:=Zp9 e.off s hs
    rw[hr]
   unfold Zf6
   dsimp only
   rcases hk with hk|hk|hk
   ·rw[if_pos hk]
    exact hj [0] fun x hx=>by rw[List.mem_singleton]at hx;subst hx;omega
   ·rw[if_neg (by omega),if_pos hk]
    exact hj [e.save] fun x hx=>by rw[List.mem_singleton]at hx;subst hx;exact h1 hk
   ·obtain⟨_,h3,h4⟩:=h2 hk
    rw[if_neg (by omega),if_neg (by omega),if_pos hk,if_pos h3]
    exact hj [0,(Zdc l).1] fun x hx=>by
     simp only[List.mem_cons,List.not_mem_nil,or_false]at hx
     rcases hx with rfl|rfl
     ·omega
     ·exact h4
  rw[h,Zcb.2.2,if_neg (by decide),if_neg (by decide),if_pos (.inl rfl),if_neg]
  rw[he]
  rintro(hh|⟨hh,_⟩)
  ·exact hh rfl
  ·cases hh
theorem Zbm.fmt {rs:List Zab}{e:DEra}{first:Bool}(h:Zbm rs e first):e.format∈fmtU:=by
 rcases h with⟨_,_,_,_,_,h⟩|⟨_,_,_,_,_,h⟩|⟨_,_,_,_,_,h,_⟩
 ·exact h
 ·exact h
 ·exact h
theorem Zbm.states {rs:List Zab}{e:DEra}{first:Bool}(h:Zbm rs e first):(ZaR rs e).length<=5/\(∀ x∈ZaR rs e,-54000<=e.off+x.1/\e.off+x.1<=54000)/\-54000<=e.off/\e.off<=54000/\(Zbb rs e=[]\/Zbl (Zbb rs e)):=by
 unfold ZaR Zbb
 rcases h with⟨hk,hs,_,h1,h2,_⟩|⟨hk,hs,_,h1,h2,_⟩|⟨hk,_,_,h1,h2,_,h3,h4⟩
 ·rw[if_neg (by omega),if_neg (by omega),if_neg (by omega)]
  refine⟨by simp,fun x hx=>?_,by omega,by omega,.inl rfl⟩
  rw[List.mem_singleton]at hx
  subst hx
  dsimp only
  omega
 ·rw[if_pos hk,if_neg (by omega)]
  refine⟨by simp,fun x hx=>?_,by omega,by omega,.inl rfl⟩
  rw[List.mem_singleton]at hx
  subst hx
  dsimp only
  omega
 ·rw[if_neg (by omega),if_pos hk,if_pos hk]
  refine⟨by rw[List.length_map];exact h4,fun x hx=>?_,by omega,by omega,.inr h3⟩
  obtain⟨r,hr,rfl⟩:=List.mem_map.1 hx
  have:=(h3.rule r hr).save
  dsimp only
  omega
theorem Zrs:Zah []=0:=rfl
theorem Zbm.least {rs:List Zab}{e:DEra}{first:Bool}(h:Zbm rs e first) : -3600<=Zah (Zbb rs e)/\Zah (Zbb rs e)<=0:=by
 obtain⟨_,_,_,_,hs⟩:=h.states
 rcases hs with hs|hs
 ·rw[hs,Zrs];decide
 ·exact hs.least
theorem Zbm.chk {rs:List Zab}{e:DEra}{first:Bool}(h:Zbm rs e first)(hu:e.til.is=true\/e.til=Zzc):ZeV rs e first=0:=by
 obtain⟨_,s2,s3,s4,_⟩:=h.states
 have hun:ZgY e=false:=by
  have ht:(!e.til.is&&!decide ({ e.til with is:=false }=dU0))=false:=by
   rcases hu with hu|hu
   ·rw[hu];rfl
   ·rw[hu];decide
  unfold ZgY
  rw[ht]
  rcases h with⟨hk,hs,he,_⟩|⟨hk,hs,he,_⟩|⟨hk,_,hs,_⟩
  ·rw[hk,hs,he];decide
  ·rw[hk,he];simp
  ·rw[hk,hs];simp
 have hf:ZiP e (Zbb rs e)=0:=by
  refine ZtN h.fmt ?_ (by omega) ?_ ?_
  ·rcases h with⟨hk,_⟩|⟨hk,_⟩|⟨hk,_⟩
   ·exact .inl hk
   ·exact .inr (.inl hk)
   ·exact .inr (.inr hk)
  ·intro hk
   have:=s2 (e.save,ByteArray.empty) (by unfold ZaR;rw[if_pos hk];exact List.mem_singleton.2 rfl)
   dsimp only at this
   omega
  ·intro hk
   rcases h with⟨hk2,_⟩|⟨hk2,_⟩|⟨_,_,_,h1,h2,_,h3,h4⟩
   ·omega
   ·omega
   rw[Zbb,if_pos hk]
   obtain⟨s,_,q1,q2,q3,_⟩:=h3.other
   rw[q3]
   exact⟨fun r hr=>Zla (h3.rule r hr).letter,rfl,by dsimp only;omega,by dsimp only;omega⟩
 have hkk:(0<=e.kind/\e.kind<=2)/\(¬ (first=true/\e.kind=2))/\(¬ (e.kind=2/\Zbb rs e=[]))/\¬ (e.kind=1/\(e.save<1\/10800<e.save)):=by
  rcases h with⟨hk,_⟩|⟨hk,hs,_⟩|⟨hk,hf,_,_,_,_,h3,_⟩
  ·exact⟨by omega,by omega,by omega,by omega⟩
  ·exact⟨by omega,by omega,by omega,by omega⟩
  ·refine⟨by omega,by rw[hf];simp,?_,by omega⟩
   rintro⟨_,hn⟩
   rw[Zbb,if_pos hk]at hn
   obtain⟨_,_,_,⟨r,hr,_⟩,_⟩:=h3.saves
   rw[hn]at hr
   cases hr
 unfold ZeV
 rw[if_neg (by omega),if_neg hkk.2.1,if_neg hkk.2.2.1,if_neg hkk.2.2.2,if_neg,if_neg (by rw[hun];decide),hf]
 rintro(hh|hh)
 ·unfold Zcl at hh;simp at hh;omega
 ·obtain⟨x,hx,hh⟩:=List.any_eq_true.1 hh
  have:=s2 x hx
  unfold Zcl at hh
  simp at hh
  omega
structure Zbo (rs:List Zab)(l:List DEra)(Y:Nat->Int):Prop where
 len:1<=l.length/\l.length<=4
 era:∀ k e,l[k]?=some e->Zbm rs e (decide (k=0))
 yr:∀ k,k+1<l.length->1850<=Y k/\Y k<=2148
 inc:∀ k,k+2<l.length->Y k<Y (k+1)
 til:∀ k e,l[k]?=some e->if k+1<l.length then ZvY e.til (Y k) else e.til=Zzc
theorem Zdh {α:Type}{l:List α}{k:Nat}{d:α}(h:k<l.length):∃ e,l[k]?=some e/\l.getD k d=e:=⟨l[k],List.getElem?_eq_getElem h,by rw[List.getD_eq_getElem?_getD,List.getElem?_eq_getElem h];rfl⟩
theorem Zbl.far_til {l:List Zab}(h:Zbl l){n Y:Int}(h1:86400*(mar1 Y+279) - 3600<=n)(h2:n<=86400*(mar1 Y+327)):farD l n=true:=by
 refine h.farD_of n fun j r y e hj he=>?_
 obtain⟨_,_,_,_,b1,b2⟩:=(h.rule r (List.mem_of_getElem? hj)).ev h.least he
 have hb:=ZdR r.month
 rcases Int.lt_or_le Y y with hy|hy
 ·have:=ZdC hy
  omega
 ·have:=Zf1 hy
  omega
theorem Zbo.endOk {rs:List Zab}{l:List DEra}{Y:Nat->Int}(h:Zbo rs l Y){k:Nat}(hk:k<l.length):Zi6 rs l k=0:=by
 obtain⟨e,he,hd⟩:=Zdh (d:=dE0) hk
 have hE:=h.era k e he
 have hT:=h.til k e he
 unfold Zi6
 dsimp only
 rw[hd]
 by_cases hl:k+1<l.length
 ·rw[if_pos hl]at hT
  obtain⟨t1,t2,n,t3,t4,t5⟩:=hT.nom (h.yr k hl) hE.least
  rw[if_neg (by rw[t1,decide_eq_true hl];simp),if_neg (by rw[t1];decide),if_neg (by rw[t2];decide),t3,if_neg,if_neg]
  ·rintro⟨hk2,hf⟩
   obtain⟨_,_,_,_,hs⟩:=hE.states
   rcases hs with hs|hs
   ·rcases hE with⟨hk3,_⟩|⟨hk3,_⟩|⟨_,_,_,_,_,_,h3,_⟩
    ·omega
    ·omega
    ·rw[Zbb,if_pos hk2]at hs
     obtain⟨_,_,_,⟨r,hr,_⟩,_⟩:=h3.saves
     rw[hs]at hr
     cases hr
   ·rw[hs.far_til t4 t5]at hf
    cases hf
  ·rintro⟨hk0,hh⟩
   obtain⟨b,hb,hbd⟩:=Zdh (l:=l) (k:=k - 1) (d:=dE0) (by omega)
   rw[hbd]at hh
   have hT2:=h.til (k - 1) b hb
   rw[if_pos (by omega)]at hT2
   obtain⟨_,_,m,m3,m4,m5⟩:=hT2.nom (h.yr (k - 1) (by omega)) (h.era (k - 1) b hb).least
   rw[m3]at hh
   have hy:=h.inc (k - 1) (by omega)
   rw[show k - 1+1=k by omega]at hy
   have:=ZdC hy
   rcases hh with hh|hh
   ·exact hh rfl
   ·dsimp only at hh
    omega
 ·rw[if_neg hl]at hT
  have ht:e.til.is=false:=by rw[hT];rfl
  rw[if_neg (by rw[ht,decide_eq_false hl];simp),if_pos ht]
theorem Zbo.eraOk {rs:List Zab}{l:List DEra}{Y:Nat->Int}(h:Zbo rs l Y){k:Nat}(hk:k<l.length):ZeV rs (l.getD k dE0) (decide (k=0))=0:=by
 obtain⟨e,he,hd⟩:=Zdh (d:=dE0) hk
 rw[hd]
 refine(h.era k e he).chk ?_
 have hT:=h.til k e he
 split at hT
 ·rcases hT with⟨_,_,_,hh,_⟩|⟨_,_,_,hh,_⟩ <;> exact .inl (by rw[hh])
 ·exact .inr hT
theorem Zbo.go {rs:List Zab}{l:List DEra}{Y:Nat->Int}(h:Zbo rs l Y)(i:Nat):∀ f k,k+f<=l.length->ZdU rs l i f k=none
 | 0,_,_=>rfl
 | f+1,k,hk=>by
  rw[ZdU,if_neg (by rw[h.eraOk (by omega)];decide),if_neg (by rw[h.endOk (by omega)];decide)]
  exact h.go i f (k+1) (by omega)
theorem Zt2 (n:Int):(dig2 n).length=2:=rfl
theorem ZqY (x:Int):(ZbS x).length<=7:=by
 unfold ZbS
 split
 ·exact Nat.zero_le _
 ·simp only[List.length_cons,List.length_append,Zt2]
  have h:∀ (c:Prop) [Decidable c] (n:Int),(if c then ([]:List UInt8) else dig2 n).length<=2:=fun c _ n=>by
   split
   ·exact Nat.zero_le _
   ·exact Nat.le_refl _
  have h1:=h
  generalize ha:(if (if x<0 then -x else x) % 3600=0 then ([]:List UInt8) else dig2 ((if x<0 then -x else x) / 60 % 60))=a
  generalize hb:(if (if x<0 then -x else x) % 60=0 then ([]:List UInt8) else dig2 ((if x<0 then -x else x) % 60))=b
  have h2:a.length<=2:=by rw[<- ha];exact h _ _
  have h3:b.length<=2:=by rw[<- hb];exact h _ _
  omega
theorem ZoB:∀ f∈ZrF,(match ZcB f with|none=>decide (ZbQ f=1)&&decide (f.length<=7)|some (a,b)=>decide (a.length<=7)&&decide (b.length<=7))=true:=by decide +kernel
theorem Zco:(∀ f∈ZrC,ZcB f=none)/\ZcB [37,122]=none:=by decide +kernel
theorem Zxa {f:ByteArray}(h:f∈fmtU)(off save:Int)(x:List UInt8):(ZbR f.data.toList off save x).1.length<=7:=by
 rcases Zgr h with h|h|h
 ·have hp:=ZoB _ h
  unfold ZbR
  cases hq:ZcB f.data.toList with
  | none =>
   rw[hq]at hp
   simp at hp
   dsimp only
   rw[hp.1,if_neg (by decide),if_neg (by decide),if_pos (.inl rfl)]
   rw[Array.length_toList]
   exact hp.2
  | some ab =>
   obtain⟨a,b⟩:=ab
   rw[hq]at hp
   simp at hp
   dsimp only
   split
   ·exact hp.1
   ·exact hp.2
 ·obtain⟨hk,_⟩:=Zcb.2.1 _ h
  unfold ZbR
  rw[Zco.1 _ h,hk]
  dsimp only
  rw[if_pos rfl]
  cases Zcc f.data.toList with
  | none=>exact Nat.zero_le _
  | some ab =>
   obtain⟨a,b⟩:=ab
   dsimp only
   split
   ·rename_i hh
    unfold ZcW Zdd at hh
    simp only[Bool.and_eq_true,decide_eq_true_eq]at hh
    dsimp only
    omega
   ·exact Nat.zero_le _
 ·unfold ZbR
  rw[h,Zco.2,Zcb.2.2]
  dsimp only
  rw[if_neg (by decide),if_pos rfl]
  split
  ·exact ZqY _
  ·exact Nat.zero_le _
theorem Zim (x:List UInt8):∀ l,Zc6 (l++[x])=Zc6 l+x.length+1
 | []=>by simp[Zc6]
 | y::l=>by rw[List.cons_append,Zc6,Zim x l,Zc6];omega
theorem Zuz (x:Int × List UInt8)(l:List (Int × List UInt8)):(addP x l).length<=l.length+1:=by
 unfold addP
 split
 ·omega
 ·rw[List.length_append];exact Nat.le_refl _
theorem ZuA (x:List UInt8)(l:List (List UInt8)):Zc6 (addA x l)<=Zc6 l+x.length+1:=by
 unfold addA
 split
 ·omega
 ·rw[Zim];exact Nat.le_refl _
theorem ZpI {e:DEra}(he:e.format∈fmtU):∀ (l:List (Int × ByteArray)) (acc:List (Int × List UInt8) × List (List UInt8)),(stGo e l acc).1.length<=acc.1.length+l.length/\Zc6 (stGo e l acc).2<=Zc6 acc.2+8*l.length
 | [],acc=>by simp[stGo]
 | x::l,acc=>by
  have h1:=Zuz (e.off+x.1,(ZbR e.format.data.toList e.off x.1 x.2.data.toList).1) acc.1
  have h2:=ZuA (ZbR e.format.data.toList e.off x.1 x.2.data.toList).1 acc.2
  have h3:=Zxa he e.off x.1 x.2.data.toList
  have h4:=ZpI he l (addP (e.off+x.1,(ZbR e.format.data.toList e.off x.1 x.2.data.toList).1) acc.1,addA (ZbR e.format.data.toList e.off x.1 x.2.data.toList).1 acc.2)
  rw[stGo]
  dsimp only at h4 ⊢
  rw[List.length_cons]
  omega
theorem Zqf (rs:List Zab):∀ (l:List DEra) (acc:List (Int × List UInt8) × List (List UInt8)),(∀ e∈l,∃ b,Zbm rs e b)->(erGo rs l acc).1.length<=acc.1.length+5*l.length/\Zc6 (erGo rs l acc).2<=Zc6 acc.2+40*l.length
 | [],acc,_=>by simp[erGo]
 | e::l,acc,h=>by
  obtain⟨b,hb⟩:=h e List.mem_cons_self
  have h1:=ZpI hb.fmt (ZaR rs e) acc
  have h2:=Zqf rs l (stGo e (ZaR rs e) acc) fun x hx=>h x (List.mem_cons_of_mem _ hx)
  have h3:=hb.states.1
  rw[erGo,List.length_cons]
  omega
theorem Zbo.few {rs:List Zab}{z:Za5}{Y:Nat->Int}(h:Zbo rs z.eras Y):Zi0 rs z=true:=by
 have h1:=Zqf rs z.eras ([],[]) fun e he=>by
  obtain⟨k,hk,rfl⟩:=List.mem_iff_getElem.1 he
  exact⟨_,h.era k _ (List.getElem?_eq_getElem hk)⟩
 have h2:=h.len
 unfold Zi0
 have e0:Zc6 []=0:=rfl
 rw[e0]at h1
 simp only[List.length_nil]at h1
 rw[decide_eq_true (by omega),decide_eq_true (by omega)]
 rfl
theorem Zhx {rs:List Zab}:∀ (l:List Za5) (i:Nat),(∀ z∈l,∃ Y,Zbo rs z.eras Y)->Zb7 rs l i=none
 | [],_,_=>rfl
 | z::l,i,h=>by
  obtain⟨Y,hz⟩:=h z List.mem_cons_self
  have hn:z.eras≠[]:=fun hh=>by
   have:=hz.len
   rw[hh]at this
   simp at this
  rw[Zb7,if_neg hn,hz.go i z.eras.length 0 (by omega)]
  dsimp only
  rw[if_neg (by rw[hz.few];decide)]
  exact Zhx l (i+1) fun x hx=>h x (List.mem_cons_of_mem _ hx)
def Zlv (z:Za5):Za5:=⟨z.name,[]⟩
def ZhU (s:Zai):Zai:=⟨[],s.zones.map Zlv,s.links,[]⟩
theorem Zdi (x:ByteArray):∀ (l:List Za5) (k:Nat),Zbu x (l.map Zlv) k=Zbu x l k
 | [],_=>rfl
 | z::l,k=>by rw[List.map_cons,Zbu,Zbu,Zdi x l (k+1)];rfl
theorem ZfC (s:Zai):∀ (l:List Za5) (i:Nat),ZaU (ZhU s) (l.map Zlv) i=ZaU s l i
 | [],_=>rfl
 | z::l,i=>by
  rw[List.map_cons,ZaU,ZaU,ZfC s l (i+1),show(ZhU s).zones=s.zones.map Zlv from rfl,Zdi]
  rfl
theorem ZfH (s:Zai):∀ (l:List Zcj) (i:Nat),Zbj (ZhU s) l i=Zbj s l i
 | [],_=>rfl
 | z::l,i=>by
  rw[Zbj,Zbj,ZfH s l (i+1),show(ZhU s).zones=s.zones.map Zlv from rfl,Zdi,Zdi]
  rfl
theorem ZhK (s:Zai):∀ (f:Nat) (seen:List ByteArray) (x:ByteArray),Zbd (ZhU s) f seen x=Zbd s f seen x
 | 0,_,_=>rfl
 | f+1,seen,x=>by
  rw[Zbd,Zbd,show(ZhU s).zones=s.zones.map Zlv from rfl,Zdi,show(ZhU s).links=s.links from rfl]
  simp only[ZhK s f]
theorem ZfF (s:Zai):∀ (l:List Zcj) (i:Nat),Zbi (ZhU s) l i=Zbi s l i
 | [],_=>rfl
 | z::l,i=>by
  rw[Zbi,Zbi,ZfF s l (i+1),ZhK]
  rfl
theorem Zot (s:Zai):ZcD s=ZcD (ZhU s):=by
 unfold ZcD
 rw[show(ZhU s).zones=s.zones.map Zlv from rfl,show(ZhU s).links=s.links from rfl,ZfC,ZfH,ZfF]
theorem Zy8 (a b:List Zab)(x:ByteArray):ofB (a++b) x=ofB a x++ofB b x:=List.filter_append _ _
theorem Zy9 {l:List Zab}{x:ByteArray}(h:∀ r∈l,r.name=x):ofB l x=l:=List.filter_eq_self.2 fun r hr=>decide_eq_true (h r hr)
theorem ZAn {l:List Zab}{x y:ByteArray}(h:∀ r∈l,r.name=y)(hxy:y≠x):ofB l x=[]:=List.filter_eq_nil_iff.2 fun r hr=>by
 rw[h r hr]
 simp[hxy]
theorem ZfZ:∀ (l:List Zab) (acc:List ByteArray),∀ x∈Zb8 l acc,x∈acc\/∃ r∈l,r.name=x
 | [],acc,x,h => .inl h
 | a::l,acc,x,h=>by
  rw[Zb8]at h
  split at h
  ·rcases ZfZ l acc x h with h|⟨r,h1,h2⟩
   ·exact .inl h
   ·exact .inr ⟨r,List.mem_cons_of_mem _ h1,h2⟩
  ·rcases ZfZ l (acc++[a.name]) x h with h|⟨r,h1,h2⟩
   ·rw[List.mem_append,List.mem_singleton]at h
    rcases h with h|rfl
    ·exact .inl h
    ·exact .inr ⟨a,List.mem_cons_self,rfl⟩
   ·exact .inr ⟨r,List.mem_cons_of_mem _ h1,h2⟩
theorem ZhA {rs:List Zab}:∀ l:List ByteArray,(∀ x∈l,ZcS rs x=none)->ZdI rs l=none
 | [],_=>rfl
 | x::l,h=>by
  rw[ZdI,h x List.mem_cons_self]
  exact ZhA l fun y hy=>h y (List.mem_cons_of_mem _ hy)
attribute [local irreducible] W RL Does Zau Zak retQ Calls Pu Stp RD Qy Ay
theorem ZoM (A:Option Addr)(c:Nat)(x:List Zab)(w:World)(hA:RdSl w A c Zab.enc 11 x)(hn:x.length<=1000000) :
  Does Tryz.prog 211 [.slice A x.length c] w (Zr7 82 11 Zab.enc x):=by
 refine Zaa Tryz.func211 rfl rfl rfl rfl ?_
 repeat (first|(refine js ?_;(refine bx ?_;intro bk))|refine walk ?_)
 refine Zaf rfl (fun h1=>?_) (fun h1=>?_)
 ·obtain rfl:=hA.none h1
  refine ZfA 82 11 ?_
  repeat (first|(refine js ?_;(refine bx ?_;intro bk))|refine walk ?_)
  exact ret_1 _ [.row (.slice none 0 0) 82 11 0 []] (.tmp rfl) SOA ⟨none,0,rfl,rfl⟩
 repeat (first|(refine js ?_;(first|(apply Zo3;rfl;rfl;(intro A' c';(focus repeat' constructor));(intro w' hw _;exact(hA.up hw).rd.raw Zab.len (by decide));exact Zbf Zab.len x;exact Zfp oneR x;(simp only[maxLen];omega);omega;intro A' c' hc1 hc2 hc3)|(refine bx ?_;intro bk)))|refine walk ?_)
 exact ret_1 _ _ (.tmp rfl) (.refl _) ⟨A',c',rfl,rfl⟩
theorem ZeM (k:ByteArray)(v:Value)(x:ByteArray):∀ m:List (ByteArray × Value),mget (mset m k v) x=if x=k then some v else mget m x
 | []=>by simp[mset,mget]
 | (y,u)::r=>by
  simp only[mset]
  split
  ·rename_i h;subst h;simp only[mget];split <;> simp_all
  ·rename_i h
   simp only[mget,ZeM k v x r]
   split
   ·rename_i h2;subst h2;rw[if_neg (fun e=>h e.symm)]
   ·rfl
def MpB (m:List (ByteArray × Value))(l:List ByteArray):Prop:=∀ x,(mget m x).getD (.bool false) = .bool (memB x l)
theorem MpB.set {m:List (ByteArray × Value)}{l:List ByteArray}(h:MpB m l)(y:ByteArray):MpB (mset m y (.bool true)) (l++[y]):=fun x=>by
 rw[ZeM,Zmu]
 by_cases e:x=y
 ·subst e;simp
 ·rw[if_neg e,h x];simp[show ¬ y=x from fun h=>e h.symm]
theorem MpB.nil:MpB [] []:=fun _=>rfl
structure MG (α:Type) where
 k:Nat
 A:Option Addr
 c:Nat
 m:Nat
 xs:List Value
 acc:List α
 mp:List (ByteArray × Value)
theorem Zrh (Ar Az Al As:Option Addr)(cr cz cl cs:Nat)(a:Zai)(w:World)(hA:Zav w Ar Az Al As cr cz cl cs a)(hn:a.rules.length<=1000000) :
  Does Tryz.prog 132 [srcV Ar Az Al As cr cz cl cs a] w (Zr7 9 1 Za2 (Zb8 a.rules [])):=by
 generalize hres:Zb8 a.rules []=res
 refine Zaa Tryz.func132 rfl rfl rfl rfl ?_
 repeat (first|(refine js ?_;(refine bx ?_;intro bk))|refine walk ?_)
 refine ZfA 9 1 ?_
 refine Zao [(3,_),(9,_),(10,_)] [] (fun g:MG ByteArray=>[(4,.slice g.A g.m g.c),(11,.int .i64 g.k)]) (fun g=>[.row (.slice g.A g.m g.c) 9 1 g.m g.xs,.mp _ g.mp]) (fun g=>g.k<=a.rules.length/\g.m=g.acc.length/\g.xs=g.acc.flatMap Za2/\g.m<=g.k/\MpB g.mp g.acc/\Zb8 (a.rules.drop g.k) g.acc=res) (fun g=>a.rules.length - g.k) ⟨0,none,0,0,[],[],[]⟩ ⟨rfl,rfl,rfl,rfl,rfl,trivial⟩ SOA ⟨by simp,rfl,rfl,Nat.le_refl _,.nil,by simpa using hres⟩ ?_
 rintro⟨k,A,c,m,xs,acc,mp⟩ ⟨hk,hm,hx,hmk,hp,hi⟩
 dsimp only at hk hm hx hmk hp hi ⊢
 repeat (first|(refine js ?_;(refine bx ?_;intro bk))|refine walk ?_)
 refine Zaf rfl (fun hc=>?_) (fun hc=>?_)
 ·simp only[decide_eq_true_eq,Int.ofNat_lt]at hc
  obtain⟨hna,hca⟩:=hA.r.rd k _ (List.getElem?_eq_getElem hc)
  have hnb:=hna
  have hcb:=hca
  rw[Zap hc,Zb8]at hi
  generalize a.rules[k]=r at *
  repeat (first|(apply RL_pu;rfl;(first|exact PuI|(apply Zht;rfl;rfl;(focus repeat' constructor);exact hp _)))|(refine js ?_;(refine bx ?_;intro bk))|refine walk1 ?_)
  refine Zaf rfl (fun h3=>?_) (fun h3=>?_)
  ·simp only[Bool.not_eq_true']at h3
   rw[h3]at hi
   repeat (first|(apply RL_pu;rfl;exact PuI)|(refine js ?_;(first|(apply ZaE;rfl;rfl;(intro A' c';(focus repeat' constructor));(intro w' _ hO;exact ZbP (hO.of (by repeat' constructor)));rfl;rfl;(simp only[maxLen];omega);omega;intro A' c' hc1 hc2 hc3)|(refine bx ?_;intro bk)))|refine walk1 ?_)
   exact⟨⟨k+1,A',c',m+1,xs++Za2 r.name,acc++[r.name],mset mp r.name (.bool true)⟩,OA,⟨OA,by simp[hm],by rw[hx];exact Zgs acc r.name,OA,hp.set _,by rw[<- hi];simp⟩,SFA,SOA⟩
  simp only[Bool.not_eq_false']at h3
  rw[h3]at hi
  repeat (first|(refine js ?_;(refine bx ?_;intro bk))|refine walk ?_)
  exact⟨⟨k+1,A,c,m,xs,acc,mp⟩,OA,⟨OA,hm,hx,OA,hp,by rw[<- hi];simp⟩,SFA,SOA⟩
 simp only[decide_eq_false_iff_not,Int.ofNat_lt]at hc
 rw[List.drop_eq_nil_of_le (by omega),Zb8]at hi
 subst hi
 repeat (first|(refine js ?_;(refine bx ?_;intro bk))|refine walk ?_)
 exact ret_1 _ [.row (.slice A acc.length c) 9 1 acc.length (acc.flatMap Za2)] (.tmp rfl) (by subst hm hx;exact SOA) ⟨A,c,by rw[hm],rfl⟩
structure Zqx where
 name:ByteArray
 rs:List Zab
 A:Option Addr
 c:Nat
 m:Nat
 xs:List Value
def Zqx.v (g:Zqx):Value := .slice g.A g.m g.c
def Zqx.row (g:Zqx):It := .row (.slice g.A g.m g.c) 82 11 g.m g.xs
structure ZE where
 z:Za5
 A:Option Addr
 c:Nat
def ZE.enc (q:ZE):List Value:=[.string q.z.name,.slice q.A q.z.eras.length q.c]
theorem ZE.len (x:ZE):x.enc.length=2:=rfl
def ZjJ (Zs:List ZE)(w:World):Prop:=∀ q∈Zs,RdSl w q.A q.c DEra.enc 13 q.z.eras
theorem Zpy {w:World}{A:Option Addr}{c:Nat}{Zs:List ZE}(h:RdSl w A c ZE.enc 2 Zs)(he:ZjJ Zs w):RdZ w A (Zs.map ZE.z):=fun k z hz=>by
 rw[List.getElem?_map]at hz
 cases hq:Zs[k]? with
 | none=>rw[hq]at hz;cases hz
 | some q =>
  rw[hq]at hz
  injection hz with hz
  subst hz
  exact⟨(h.rd k q hq).1,q.enc,⟨q.A,q.c,he q (List.mem_of_getElem? hq),rfl⟩,(h.rd k q hq).2⟩
abbrev rowR (A:Option Addr)(c:Nat)(l:List Zab):It := .row (.slice A l.length c) 82 11 l.length (l.flatMap Zab.enc)
abbrev rowZ (A:Option Addr)(c:Nat)(l:List ZE):It := .row (.slice A l.length c) 50 2 l.length (l.flatMap ZE.enc)
abbrev rowL (A:Option Addr)(c:Nat)(l:List Zcj):It := .row (.slice A l.length c) 78 2 l.length (l.flatMap Zcj.enc)
abbrev rowS (A:Option Addr)(c:Nat)(l:List ByteArray):It := .row (.slice A l.length c) 9 1 l.length (l.flatMap Za2)
def ZBc (s:Zai)(v:Value)(O:List It):Prop :=
 ∃ Ar cr Az cz Al cl As cs Zs S,v=srcV Ar Az Al As cr cz cl cs s/\Zs.map ZE.z=s.zones/\O=[rowR Ar cr s.rules,rowZ Az cz Zs,rowL Al cl s.links,rowS As cs s.shifts,.fact S (ZjJ Zs)]
theorem ZsA {w:World}{Ar Az Al As:Option Addr}{cr cz cl cs:Nat}{Zs:List ZE}{S:Nat->Prop}{s:Zai}(hz:Zs.map ZE.z=s.zones)(h1:(rowR Ar cr s.rules).sat w)(h2:(rowZ Az cz Zs).sat w)(h3:(rowL Al cl s.links).sat w)(h4:(rowS As cs s.shifts).sat w)(h5:(It.fact S (ZjJ Zs)).sat w) :
  Zav w Ar Az Al As cr cz cl cs s:=by
 have h:=Zbn ZE.len h2
 have hl:s.zones.length=Zs.length:=by rw[<- hz,List.length_map]
 exact⟨Zbn Zab.len h1,by rw[hl];exact h.le,h.cap,hz▸Zpy h (Zef h5),Zbn Zcj.len h3,Zbn Za2.len h4⟩
end Go.Proofs.YtdlmhmmhdbbliaaGreatDoor
namespace Go.Proofs.YtdlmhmmhdbbliaaGreatDoor
open Go Go.RowKit Go.Wk
abbrev ZfK (q:ZE):It := .row (.slice q.A q.z.eras.length q.c) 75 13 q.z.eras.length (q.z.eras.flatMap DEra.enc)
def ZvW (s:Zai)(v:Value)(O:List It):Prop :=
 ∃ Ar cr Az cz Al cl As cs Zs,v=srcV Ar Az Al As cr cz cl cs s/\Zs.map ZE.z=s.zones/\O=rowR Ar cr s.rules::rowZ Az cz Zs::rowL Al cl s.links::rowS As cs s.shifts::Zs.map ZfK
theorem Ztf {s:Zai}{v:Value}{O:List It}(h:ZvW s v O):∃ O',ZBc s v O'/\∀ base w',Zay base O w'->Zay base O' w':=by
 obtain⟨Ar,cr,Az,cz,Al,cl,As,cs,Zs,rfl,hz,rfl⟩:=h
 refine⟨_,⟨Ar,cr,Az,cz,Al,cl,As,cs,Zs,foot (Zs.map ZfK),rfl,hz,rfl⟩,fun base w' hH=>?_⟩
 have h1:Zay base (Zs.map ZfK++[rowR Ar cr s.rules,rowZ Az cz Zs,rowL Al cl s.links,rowS As cs s.shifts]) w':=hH.perm (List.perm_append_comm (l₁:=[rowR Ar cr s.rules,rowZ Az cz Zs,rowL Al cl s.links,rowS As cs s.shifts]))
 have h2:=h1.fact (p:=ZjJ Zs) (fun w2 hi q hq=>Zbn DEra.len (hi (ZfK q) (List.mem_map.2 ⟨q,hq,rfl⟩)))
 exact h2.perm (List.perm_append_comm (l₁:=[_]) (l₂:=[rowR Ar cr s.rules,rowZ Az cz Zs,rowL Al cl s.links,rowS As cs s.shifts]))
theorem SubO.permT {l A B O:List It}(h:SubO (l++A) O)(hp:A.Perm B):SubO (l++B) O:=by
 obtain⟨R,hR⟩:=h.perm
 exact SubO.ofPerm (R:=R) (hR.trans ((hp.append_left l).append_right R))
section
variable {P:Program}{n:Nat}{wr:World}{fr:Fr}{O:List It}{ops:Array Oper}{K:Fr->List It->Prop}
end
attribute [local irreducible] W RL Does Zau Zak retQ Calls Pu Stp RD Qy Ay
attribute [local irreducible] Zaj
def Zez (n:Int):List Value:=[.int .u8 n]
theorem Zbk (A:Option Addr)(c:Nat)(l:List Int)(i n:Int)(w:World)(hA:RdSl w A c Zez 1 l)(hr:∀ x∈l,inR .u8 x)(hi:0<=i)(hn:0<n) :
  Does Tryz.prog 48 [.slice A l.length c,.int .i64 i,.int .i64 n] w (fun v O=>v = .int .i64 (atB l i n)/\O=[]):=by
 have hs1:=hA.le
 have hs2:=hA.cap
 unfold maxLen at hs2
 refine Zaa Tryz.func48 rfl rfl rfl rfl ?_
 repeat (first|refine walk ?_)
 refine Zaf rfl (fun h=>?_) (fun h=>?_)
 ·repeat (first|refine walk ?_)
  exact ret_1 _ [] (.tmp rfl) .nil ⟨by simp at h;simp[atB,h],rfl⟩
 have h0:l.length≠0:=by simpa using h
 have hp:(0:Int)<l.length:=by omega
 have hm0:=Int.emod_nonneg i (b:=(l.length:Int)) (by omega)
 have hm1:=Int.emod_lt_of_pos i hp
 have hk:(i % (l.length:Int)).toNat<l.length:=by omega
 obtain⟨hna,hca⟩:=hA.rd _ _ (List.getElem?_eq_getElem hk)
 have hv:=hr _ (List.getElem_mem hk)
 have e:atB l i n=l[(i % (l.length:Int)).toNat] % n:=by
  rw[atB,if_neg h0,List.getD_eq_getElem?_getD,List.getElem?_eq_getElem hk]
  rfl
 rw[e]
 generalize l[(i % (l.length:Int)).toNat]=r at *
 rw[Zkn]at hv
 repeat (first|(apply RL_pu;rfl;exact PuI)|refine walk1 ?_)
 exact rtA
theorem Zhk (A:Option Addr)(c:Nat)(l:List Int)(i:Int)(w:World)(hA:RdSl w A c Zez 1 l)(hr:∀ x∈l,inR .u8 x)(hi:0<=i)(hi2:i<=1000) :
  Does Tryz.prog 49 [.slice A l.length c,.int .i64 i] w (fun v O=>v = .agg #[.int .i64 (Zev l i).sec,.int .i64 (Zev l i).base]/\O=[]):=by
 have h1:=Zaq l i 49 (by decide)
 have h2:=Zaq l (i+1) 3 (by decide)
 refine Zaa Tryz.func49 rfl rfl rfl rfl ?_
 repeat (first|(apply RL_pu;rfl;(apply ZcQ;rfl;rfl;omega))|(refine js ?_;(first|(refine Zac (fun w' hw=>Zbk A c l (i) 49 w' (hA.up hw) hr (by omega) (by omega)) ?_)|(refine Zac (fun w' hw=>Zbk A c l (i+1) 3 w' (hA.up hw) hr (by omega) (by omega)) ?_)|(refine bx ?_;intro bk)))|refine walk1 ?_)
 exact ret_1 _ [] (.cellB rfl (by repeat' constructor) rfl rfl) .nil ⟨rfl,rfl⟩
theorem DDay.len3 (d:DDay):d.enc.length=3:=rfl
theorem Zhv {G:Prop}(h:G:=by(first|(apply Pu_loadO1;rfl;exact hp 0 _ rfl)|(apply ZcQ;rfl;rfl;omega))):G:=h
theorem ZkK {G:Prop}(h:G:=by first|(apply Qy_y;rfl;exact Zhv)|exact QyA):G:=h
theorem ZkL {G:Prop}(h:G:=by repeat (first|exact QF.nil|(apply QF.mk;rfl;rfl;decide +kernel;exact ZkK))):G:=h
theorem Zhu {G:Prop}(h:G:=by(apply ZgP (cs:=(ZhT l i).enc);rfl;rfl;(intro w' _ hO;exact((Zk9 (c:=3) (l:=dayB l i) (t:=69) DDay.len3 (Nat.le_refl 3) (by decide) (hO.of (A := .blk bk ((dayB l i).flatMap DDay.enc) _) (by repeat' constructor))).rd _ _ hget).2))):G:=h
theorem ZkJ {G:Prop}(h:G:=by first|(apply Qy_y;rfl;exact Zhu)|exact QyA):G:=h
theorem Zr3 {G:Prop}(h:G:=by repeat (first|exact QF.nil|(apply QF.mk;rfl;rfl;decide +kernel;exact ZkJ))):G:=h
theorem Zkw (A:Option Addr)(c:Nat)(l:List Int)(i:Int)(ad:Addr)(w:World)(hA:RdSl w A c Zez 1 l)(hr:∀ x∈l,inR .u8 x)(hi:0<=i)(hi2:i<=1000)(hp:Zal w ad [.slice A l.length c]) :
  Does Tryz.prog 85 [.int .i64 i,.pointer (some ad)] w (fun v O=>v = .agg #[.int .i64 (ZhT l i).kind,.int .i64 (ZhT l i).week,.int .i64 (ZhT l i).day]/\O=[]):=by
 have h1:=Zaq l i 7 (by decide)
 have h2:=Zaq l (i+1) 4 (by decide)
 have h3:=Zaq l (i+1) 28 (by decide)
 have h4:=Zaq l (i+2) 3 (by decide)
 refine Zaa Tryz.func85 rfl rfl rfl rfl ?_
 repeat (first|(apply RL_pu;rfl;exact Zhv)|(apply RD_Q;rfl;rfl;decide +kernel;rfl;rfl;exact ZkK)|refine walk1 ?_|(refine jg ?_;(try intro F);(first|(refine Zac (fun w' hw=>Zbk A c l (i) 7 w' (hA.up hw) hr (by omega) (by omega)) ?_)|(refine Zac (fun w' hw=>Zbk A c l (i+1) 4 w' (hA.up hw) hr (by omega) (by omega)) ?_)|(refine Zac (fun w' hw=>Zbk A c l (i+1) 28 w' (hA.up hw) hr (by omega) (by omega)) ?_)|(refine Zac (fun w' hw=>Zbk A c l (i+2) 3 w' (hA.up hw) hr (by omega) (by omega)) ?_)|(refine bx ?_;intro bk)|(refine stA ?_));first|refine⟨_,EndsA,ZkL,?_⟩|refine fin ?_)|(refine jn ?_;(try intro F);(first|(refine bx ?_;intro bk)|(refine stA ?_)|(apply Zae;first|exact Zhv|exact PuA));first|refine⟨_,EndsA,ZkL,?_⟩|refine fin ?_)|(apply RD_W;rfl;intro bk))
 have hget:(dayB l i)[(atB l (i+2) 3).toNat]?=some (ZhT l i):=by
  have hk:(atB l (i+2) 3).toNat<(dayB l i).length:=by simp only[dayB,List.length_cons,List.length_nil];omega
  rw[ZhT,List.getD_eq_getElem?_getD,List.getElem?_eq_getElem hk]
  rfl
 repeat (first|(apply RL_pu;rfl;exact Zhu)|(apply RD_Q;rfl;rfl;decide +kernel;rfl;rfl;exact ZkJ)|refine walk1 ?_|(refine jn ?_;(try intro F);(first|(refine bx ?_;intro bk)|(refine stA ?_)|(apply Zae;first|exact Zhu|exact PuA));first|refine⟨_,EndsA,Zr3,?_⟩|refine fin ?_)|(apply RD_W;rfl;intro bk))
 exact ret_1 _ [] (.cellB rfl (by repeat' constructor) rfl rfl) .nil ⟨rfl,rfl⟩
end Go.Proofs.YtdlmhmmhdbbliaaGreatDoor
