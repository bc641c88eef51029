/- Parts of the proof. -/
import Derived.Sort.LotA
import Derived.Test.YtdlmhmmhdbbliaaGreatDoorV07
import Derived.Test.YtdlmhmmhdbbliaaGreatDoorV09
set_option maxHeartbeats 4000000
set_option linter.unusedVariables false
set_option linter.unusedSimpArgs false
namespace Go.Proofs.YtdlmhmmhdbbliaaGreatDoor
open Go Go.RowKit Go.Wk
theorem Zg4 (a b:Zad):ordE a b<0↔a.nominal<b.nominal\/(a.nominal=b.nominal/\(a.rule<b.rule\/(a.rule=b.rule/\a.year<b.year))):=by
 unfold ordE
 repeat' split
 all_goals omega
def ltE (x y:Zad):Bool:=decide (ordE x y<0)
theorem swoE:Go.Sort.SWO ltE where
 irrefl x:=by simp only[ltE,Zg4,decide_eq_false_iff_not];omega
 trans x y z h1 h2:=by simp only[ltE,Zg4,decide_eq_true_eq]at *;omega
 ntrans x y z h1 h2:=by simp only[ltE,Zg4,decide_eq_false_iff_not]at *;omega
theorem totE (x y:Zad)(h1:ltE x y=false)(h2:ltE y x=false):x=y:=by
 simp only[ltE,Zg4,decide_eq_false_iff_not]at h1 h2
 obtain⟨a,b,c⟩:=x
 obtain⟨d,e,f⟩:=y
 simp only[Zad.mk.injEq]
 simp only at h1 h2
 omega
def ZdY (least y:Int):List Zab->Nat->List Zad
 | [],_=>[]
 | r::l,i=>(onR least r i y).toList++ZdY least y l (i+1)
def allC (l:List Zab)(least from_:Int):Nat->List Zad
 | 0=>[]
 | k+1=>allC l least from_ k++ZdY least (from_+k) l 0
def insF (a:List Zad)(e:Zad):List Zad:=insE e a
theorem ZgX (least y:Int):∀ (l:List Zab) (i:Nat) (acc:List Zad),ZkW least y l i acc=(ZdY least y l i).foldl insF acc
 | [],_,_=>rfl
 | r::l,i,acc=>by
  rw[ZkW,ZdY,ZgX least y l]
  cases onR least r i y with
  | none=>rfl
  | some e=>rfl
theorem ZiK (e:Zad):∀ l,(insE e l).Perm (e::l)
 | [] => .refl _
 | x::l=>by
  rw[insE]
  split
  ·exact .refl _
  ·exact((ZiK e l).cons x).trans (.swap _ _ _)
theorem ZmN:∀ (xs acc:List Zad),(xs.foldl insF acc).Perm (xs++acc)
 | [],_ => .refl _
 | x::xs,acc=>by
  rw[List.foldl_cons]
  refine(ZmN xs _).trans ?_
  refine((ZiK x acc).append_left xs).trans ?_
  exact List.perm_middle
theorem Zen (l:List Zab)(least from_:Int):∀ k,(ZfM l least from_ k).Perm (allC l least from_ k)
 | 0 => .refl _
 | k+1=>by
  rw[ZfM,allC,ZgX]
  refine(ZmN _ _).trans ?_
  refine List.perm_append_comm.trans ?_
  exact(Zen l least from_ k).append_right _
def Zsa (l:List Zad):Prop:=l.Pairwise fun a b=>ltE a b=false
theorem ZmP (e:Zad):∀ l,Zsa l->Zsa (insE e l)
 | [],_=>List.pairwise_singleton _ _
 | x::l,h=>by
  obtain⟨h1,h2⟩:=List.pairwise_cons.1 h
  rw[insE]
  split
  ·rename_i hlt
   have hx:ltE x e=true:=decide_eq_true hlt
   have hex:ltE e x=false:=by
    cases h3:ltE e x
    ·rfl
    ·have:=swoE.trans x e x hx h3
     rw[swoE.irrefl]at this
     cases this
   refine List.pairwise_cons.2 ⟨fun b hb=>?_,h⟩
   rcases List.mem_cons.1 hb with rfl|hb
   ·exact hex
   ·exact swoE.ntrans e x b hex (h1 b hb)
  ·rename_i hlt
   have hx:ltE x e=false:=decide_eq_false hlt
   refine List.pairwise_cons.2 ⟨fun b hb=>?_,ZmP e l h2⟩
   rcases List.mem_cons.1 ((ZiK e l).mem_iff.1 hb) with rfl|hb
   ·exact hx
   ·exact h1 b hb
theorem ZmO:∀ (xs acc:List Zad),Zsa acc->Zsa (xs.foldl insF acc)
 | [],_,h=>h
 | x::xs,acc,h=>ZmO xs _ (ZmP x acc h)
theorem Zf8 (l:List Zab)(least from_:Int):∀ k,Zsa (ZfM l least from_ k)
 | 0=>List.Pairwise.nil
 | k+1=>by
  rw[ZfM,ZgX]
  exact ZmO _ _ (Zf8 l least from_ k)
theorem Zwa (l:List Zab)(least from_:Int)(k:Nat):(allC l least from_ k).mergeSort (fun x y => !ltE y x)=(ZfM l least from_ k).reverse:=by
 refine List.Perm.eq_of_pairwise (le:=fun x y=>(!ltE y x)=true) ?_ ?_ ?_ ?_
 ·intro a b _ _ h1 h2
  simp only[Bool.not_eq_true']at h1 h2
  exact totE a b h2 h1
 ·refine List.pairwise_mergeSort ?_ ?_ _
  ·intro a b c h1 h2
   simp only[Bool.not_eq_true']at h1 h2 ⊢
   exact swoE.ntrans c b a h2 h1
  ·intro a b
   cases h:ltE b a with
   | false=>simp
   | true =>
    have:ltE a b=false:=by
     cases h3:ltE a b
     ·rfl
     ·have:=swoE.trans a b a h3 h
      rw[swoE.irrefl]at this
      cases this
    simp[this]
 ·rw[List.pairwise_reverse]
  exact(Zf8 l least from_ k).imp fun h=>by rw[h];rfl
 ·exact(List.mergeSort_perm _ _).trans ((Zen l least from_ k).symm.trans (List.reverse_perm _).symm)
def ZcP:List Zad->Option Zad
 | a::b::l=>if b.nominal - a.nominal<259200 then some b else ZcP (b::l)
 | _=>none
theorem Zjd (x y:Zad):∀ l:List Zad,ZcP (l++[x,y])=(ZcP (l++[x])).or (if y.nominal - x.nominal<259200 then some y else none)
 | []=>by simp[ZcP]
 | [a]=>by
  simp only[List.cons_append,List.nil_append,ZcP]
  by_cases h:x.nominal - a.nominal<259200 <;> simp[h]
 | a::b::l=>by
  have ih:=Zjd x y (b::l)
  simp only[List.cons_append,ZcP]at ih ⊢
  by_cases h:b.nominal - a.nominal<259200
  ·simp[h]
  ·simp only[if_neg h]
   exact ih
theorem ZkA:∀ l:List Zad,ZcP l.reverse=ZhM l
 | []=>rfl
 | [_]=>rfl
 | a::b::l=>by
  have ih:=ZkA (b::l)
  rw[List.reverse_cons]at ih
  rw[ZhM,<- ih,List.reverse_cons,List.reverse_cons,List.append_assoc]
  exact Zjd b a l.reverse
theorem Znp (l:List Zab):ZcP ((allC l (Zah l) 1850 701).mergeSort fun x y => !ltE y x)=Zjk l:=by
 rw[Zwa,ZkA];rfl
def Zz3 (P:Zad->Prop):Option Zad->Prop
 | none=>∀ e,¬ P e
 | some e=>P e/\∀ e',P e'->ltE e' e=false
def ZqO (M:List Zad)(e:Zad):Prop:=∃ x∈M,ltE x e=true/\e.nominal - x.nominal<259200
theorem ZgB:∀ (M:List Zad),Zsa M->M.Nodup->Zz3 (fun e=>e∈M/\ZqO M e) (ZhM M)
 | [],_,_=>fun e he=>by simp at he
 | [a],_,_=>fun e he=>by
  obtain⟨h1,x,h2,h3,_⟩:=he
  rw[List.mem_singleton]at h1 h2
  subst h1 h2
  rw[swoE.irrefl]at h3
  cases h3
 | a::b::l,hd,hn=>by
  obtain⟨d1,d2⟩:=List.pairwise_cons.1 hd
  obtain⟨n1,n2⟩:=List.nodup_cons.1 hn
  obtain⟨d3,_⟩:=List.pairwise_cons.1 d2
  have ih:=ZgB (b::l) d2 n2
  have hlt:∀ x∈b::l,ltE x a=true:=fun x hx=>by
   cases h:ltE x a
   ·have:=totE a x (d1 x hx) h
    subst this
    exact absurd hx n1
   ·rfl
  have hrest:∀ e∈b::l,ZqO (a::b::l) e↔ZqO (b::l) e:=fun e he=>by
   constructor
   ·rintro⟨x,hx,h1,h2⟩
    rcases List.mem_cons.1 hx with rfl|hx
    ·rw[d1 e he]at h1;cases h1
    ·exact⟨x,hx,h1,h2⟩
   ·rintro⟨x,hx,h1,h2⟩
    exact⟨x,List.mem_cons_of_mem _ hx,h1,h2⟩
  have ha:ZqO (a::b::l) a↔a.nominal - b.nominal<259200:=by
   constructor
   ·rintro⟨x,hx,h1,h2⟩
    rcases List.mem_cons.1 hx with rfl|hx
    ·rw[swoE.irrefl]at h1;cases h1
    ·have hxb:x.nominal<=b.nominal:=by
      rcases List.mem_cons.1 hx with rfl|hx
      ·exact Int.le_refl _
      ·have h3:=d3 x hx
       simp only[ltE,Zg4,decide_eq_false_iff_not]at h3
       omega
     omega
   ·intro h
    exact⟨b,List.mem_cons_of_mem _ List.mem_cons_self,hlt b List.mem_cons_self,h⟩
  rw[ZhM]
  cases hc:ZhM (b::l) with
  | none =>
   rw[hc]at ih
   rw[Option.none_or]
   by_cases hab:a.nominal - b.nominal<259200
   ·rw[if_pos hab]
    refine⟨⟨List.mem_cons_self,ha.2 hab⟩,fun e he=>?_⟩
    rcases List.mem_cons.1 he.1 with rfl|h
    ·exact swoE.irrefl _
    ·exact absurd ⟨h,(hrest e h).1 he.2⟩ (ih e)
   ·rw[if_neg hab]
    intro e he
    rcases List.mem_cons.1 he.1 with rfl|h
    ·exact hab (ha.1 he.2)
    ·exact ih e ⟨h,(hrest e h).1 he.2⟩
  | some c =>
   rw[hc]at ih
   rw[Option.some_or]
   obtain⟨⟨c1,c2⟩,c3⟩:=ih
   refine⟨⟨List.mem_cons_of_mem _ c1,(hrest c c1).2 c2⟩,fun e he=>?_⟩
   rcases List.mem_cons.1 he.1 with rfl|h
   ·exact d1 c c1
   ·exact c3 e ⟨h,(hrest e h).1 he.2⟩
theorem ZdQ (L y:Int):∀ (l:List Zab) (i:Nat) (e:Zad),e∈ZdY L y l i↔∃ (j:Nat) (r:Zab),l[j]?=some r/\onR L r ((i+j:Nat):Int) y=some e
 | [],i,e=>by simp[ZdY]
 | r::l,i,e=>by
  rw[ZdY,List.mem_append,ZdQ L y l (i+1) e,Option.mem_toList]
  constructor
  ·rintro(h|⟨j,r',h1,h2⟩)
   ·exact⟨0,r,rfl,h⟩
   ·exact⟨j+1,r',by simpa using h1,by rw[show i+(j+1)=i+1+j by omega];exact h2⟩
  ·rintro⟨j,r',h1,h2⟩
   cases j with
   | zero=>simp only[List.getElem?_cons_zero,Option.some.injEq]at h1;subst h1;exact .inl h2
   | succ j=>exact .inr ⟨j,r',by simpa using h1,by rw[show i+1+j=i+(j+1) by omega];exact h2⟩
theorem Ziy (l:List Zab)(L f:Int):∀ (k:Nat) (e:Zad),e∈allC l L f k↔∃ q:Nat,q<k/\e∈ZdY L (f+q) l 0
 | 0,e=>by simp[allC]
 | k+1,e=>by
  rw[allC,List.mem_append,Ziy l L f k e]
  constructor
  ·rintro(⟨q,h1,h2⟩|h)
   ·exact⟨q,by omega,h2⟩
   ·exact⟨k,by omega,h⟩
  ·rintro⟨q,h1,h2⟩
   by_cases hq:q=k
   ·subst hq;exact .inr h2
   ·exact .inl ⟨q,by omega,h2⟩
theorem Zhz (L y:Int):∀ (l:List Zab) (i:Nat),(ZdY L y l i).Nodup
 | [],_=>List.nodup_nil
 | r::l,i=>by
  rw[ZdY]
  refine List.nodup_append.2 ⟨?_,Zhz L y l (i+1),?_⟩
  ·cases onR L r i y <;> simp
  ·intro a ha b hb hab
   subst hab
   obtain⟨j,r',_,h2⟩:=(ZdQ L y l (i+1) a).1 hb
   have e1:=(Zbr (Option.mem_toList.1 ha)).2.1
   have e2:=(Zbr h2).2.1
   omega
theorem Zjm (l:List Zab)(L f:Int):∀ k,(allC l L f k).Nodup
 | 0=>List.nodup_nil
 | k+1=>by
  rw[allC]
  refine List.nodup_append.2 ⟨Zjm l L f k,Zhz _ _ _ _,?_⟩
  intro a ha b hb hab
  subst hab
  obtain⟨q,h1,h2⟩:=(Ziy l L f k a).1 ha
  obtain⟨j,r,_,h3⟩:=(ZdQ _ _ _ _ _).1 h2
  obtain⟨j',r',_,h4⟩:=(ZdQ _ _ _ _ _).1 hb
  have e1:=(Zbr h3).1
  have e2:=(Zbr h4).1
  omega
theorem Zi2 (least nominal:Int)(r:Zab)(i:Int):∀ (k:Nat) (y:Int) (e:Zad),evIn least nominal r i y k=some e->∃ q:Nat,onR least r i (y+q)=some e/\nominal<e.nominal
 | 0,_,_,h=>by cases h
 | k+1,y,e,h=>by
  rw[evIn]at h
  have ih:=Zi2 least nominal r i k (y+1) e
  have lift:(∃ q:Nat,onR least r i (y+1+q)=some e/\nominal<e.nominal)->∃ q:Nat,onR least r i (y+q)=some e/\nominal<e.nominal:=by
   rintro⟨q,hq⟩
   exact⟨q+1,by rw[show y+((q+1:Nat):Int)=y+1+q by omega];exact hq⟩
  cases he:onR least r i y with
  | none=>rw[he]at h;exact lift (ih h)
  | some e' =>
   rw[he]at h
   dsimp only at h
   by_cases hc:nominal<e'.nominal
   ·rw[if_pos hc]at h
    cases h
    exact⟨0,by simpa using he,hc⟩
   ·rw[if_neg hc]at h
    exact lift (ih h)
theorem ZfN (least nominal yr:Int):∀ (l:List Zab) (i:Nat) (b:Option Zad) (e:Zad),ZcN least nominal yr l i b=some e->b=some e\/∃ (j:Nat) (r:Zab),l[j]?=some r/\evIn least nominal r ((i+j:Nat):Int) (max (max r.from_ (-2000000000)) (yr - 2)) 20=some e
 | [],_,_,_,h => .inl h
 | r::l,i,b,e,h=>by
  rw[ZcN]at h
  rcases ZfN least nominal yr l (i+1) _ e h with h1|⟨j,r',h1,h2⟩
  ·cases he:evIn least nominal r i (max (max r.from_ (-2000000000)) (yr - 2)) 20 with
   | none=>rw[he]at h1;exact .inl h1
   | some e' =>
    rw[he]at h1
    have hr:∀ x,e'=x->∃ (j:Nat) (r':Zab),(r::l)[j]?=some r'/\evIn least nominal r' ((i+j:Nat):Int) (max (max r'.from_ (-2000000000)) (yr - 2)) 20=some x:=fun x hx=>⟨0,r,rfl,by rw[<- hx];exact he⟩
    cases b with
    | none=>cases h1;exact .inr (hr _ rfl)
    | some b =>
     dsimp only at h1
     split at h1
     ·cases h1;exact .inr (hr _ rfl)
     ·exact .inl h1
  ·exact .inr ⟨j+1,r',by simpa using h1,by rw[show i+(j+1)=i+1+j by omega];exact h2⟩
theorem Zli:∀ (l:List Zab) (m:Int),l.foldl (fun m r=>min m r.save) m<=m/\(∀ r∈l,l.foldl (fun m r=>min m r.save) m<=r.save)/\(l.foldl (fun m r=>min m r.save) m=m\/∃ r∈l,l.foldl (fun m r=>min m r.save) m=r.save)
 | [],m=>⟨Int.le_refl _,(fun r h=>by cases h),.inl rfl⟩
 | a::l,m=>by
  obtain⟨h1,h2,h3⟩:=Zli l (min m a.save)
  rw[List.foldl_cons]
  refine⟨by omega,fun r hr=>?_,?_⟩
  ·rcases List.mem_cons.1 hr with rfl|hr
   ·omega
   ·exact h2 r hr
  ·rcases h3 with h3|⟨r,h4,h5⟩
   ·by_cases hm:m<=a.save
    ·exact .inl (by omega)
    ·exact .inr ⟨a,List.mem_cons_self,by omega⟩
   ·exact .inr ⟨r,List.mem_cons_of_mem _ h4,h5⟩
theorem Zg3 {s:Int}(hs:s≠0):∀ (l:List Zab) (x:Int),(x=0\/x=s)->(∀ r∈l,r.save=0\/r.save=s)->(x=s\/∃ r∈l,r.save=s)->ZcJ l x=(s,true)
 | [],x,_,_,h=>by
  rcases h with rfl|⟨r,hr,_⟩
  ·simp[ZcJ,hs]
  ·cases hr
 | a::l,x,hx,ha,h=>by
  have hal:∀ r∈l,r.save=0\/r.save=s:=fun r hr=>ha r (List.mem_cons_of_mem _ hr)
  rw[ZcJ]
  rcases ha a List.mem_cons_self with h0|h0
  ·rw[if_pos h0]
   refine Zg3 hs l x hx hal ?_
   rcases h with h|⟨r,hr,hh⟩
   ·exact .inl h
   ·rcases List.mem_cons.1 hr with rfl|hr
    ·exact absurd (hh.symm.trans h0) hs
    ·exact .inr ⟨r,hr,hh⟩
  ·rw[if_neg (by clear h;omega),if_neg (by clear h;omega),h0]
   exact Zg3 hs l s (.inr rfl) hal (.inl rfl)
structure Zbl (l:List Zab):Prop where
 rule:∀ r∈l,DrRule r
 dist:l.Pairwise Dist
 saves:∃ s,s≠0/\(∀ r∈l,r.save=0\/r.save=s)/\(∃ r∈l,r.save=0)/\∃ r∈l,r.save=s
 last:ZiF l=true
theorem Zbl.least {l:List Zab}(h:Zbl l) : -3600<=Zah l/\Zah l<=0:=by
 obtain⟨h1,h2,h3⟩:=Zli l 0
 unfold Zah
 refine⟨?_,h1⟩
 rcases h3 with h3|⟨r,h4,h5⟩
 ·omega
 ·have:=(h.rule r h4).save
  omega
theorem Zbl.other {l:List Zab}(h:Zbl l):∃ s,s≠0/\-3600<=s/\s<=7200/\Zdc l=(s,true)/\(Zah l=0\/Zah l=s)/\∀ r∈l,r.save=0\/r.save=s:=by
 obtain⟨s,h0,h1,_,r,h3,h4⟩:=h.saves
 have hr:=(h.rule r h3).save
 refine⟨s,h0,by omega,by omega,Zg3 h0 l 0 (.inl rfl) h1 (.inr ⟨r,h3,h4⟩),?_,h1⟩
 obtain⟨_,_,h7⟩:=Zli l 0
 unfold Zah
 rcases h7 with h7|⟨q,h8,h9⟩
 ·exact .inl h7
 ·have:=h1 q h8
  omega
theorem _root_.Go.Wk.DrRule.err {r:Zab}(h:DrRule r){least:Int}(hl : -3600<=least/\least<=0):Zcn r least=0:=by
 have h0:=h.f0
 have h1:=h.f1
 have h2:=h.ft
 have h3:=h.t1
 have h4:=h.clk
 have h5:=h.save
 obtain⟨m0,m1⟩:=h.mon12
 have e1:(Zck r.from_&&(Zck r.to||decide (r.to=1048576)))=true:=by
  simp[Zck]
  omega
 have e2:Zf7 r.from_ r.to r.month r.day=true:=by
  unfold Zf7
  rw[if_neg (by rw[h.day.chk];simp;omega),if_pos (.inr (by have:=Zf4 1 r.month m0 m1;have:=h.day.le28;omega))]
 have e3:Zgd r.at_ least=true:=by
  unfold Zgd ZaP
  simp
  split <;> omega
 have e4:(decide (r.letter=ByteArray.empty)||ZiE r.letter)=true:=by
  have hl:=h.letter
  simp only[List.mem_cons,List.not_mem_nil,or_false]at hl
  rcases hl with e|e|e|e <;> rw[e] <;> decide
 unfold Zcn
 rw[if_neg (by rw[e1];decide),if_neg (by omega),if_neg (by rw[e2];decide),if_neg (by rw[e3];decide),if_neg (by simp;omega),if_neg (by rw[e4];decide)]
theorem ZfJ {least:Int}:∀ (l:List Zab) (k:Nat),(∀ r∈l,Zcn r least=0)->Zbg least l k=none
 | [],_,_=>rfl
 | a::l,k,h=>by
  rw[Zbg,if_pos (h a List.mem_cons_self)]
  exact ZfJ l (k+1) fun r hr=>h r (List.mem_cons_of_mem _ hr)
theorem Zbl.chk {l:List Zab}(h:Zbl l):Zfx l=(0,0):=by
 have hl:=h.least
 obtain⟨s,s0,_,_,_,s1,s2⟩:=h.other
 obtain⟨_,_,_,⟨r,h3,h4⟩,_⟩:=h.saves
 unfold Zfx
 rw[ZfJ l 0 fun r hr=>(h.rule r hr).err hl]
 dsimp only
 have ha:(l.any fun r=>decide (r.save=0))=true:=List.any_eq_true.2 ⟨r,h3,by simp[h4]⟩
 rw[if_neg,if_neg (by rw[h.last];decide)]
 rintro(hh|⟨h5,h6⟩)
 ·rw[ha]at hh;cases hh
 ·obtain⟨q,h7,h8⟩:=List.any_eq_true.1 h6
  have:=s2 q h7
  simp at h8
  omega
theorem Zlg {α:Type}{R:α->α->Prop}{l:List α}(h:l.Pairwise R){j k:Nat}{a b:α}(ha:l[j]?=some a)(hb:l[k]?=some b)(hn:j≠k):R a b\/R b a:=by
 obtain⟨h1,rfl⟩:=List.getElem?_eq_some_iff.1 ha
 obtain⟨h2,rfl⟩:=List.getElem?_eq_some_iff.1 hb
 rcases Nat.lt_or_ge j k with h3|h3
 ·exact .inl (List.pairwise_iff_getElem.1 h _ _ h1 h2 h3)
 ·exact .inr (List.pairwise_iff_getElem.1 h _ _ h2 h1 (by omega))
theorem Zbl.far2 {l:List Zab}(h:Zbl l){j k:Nat}{a b:Zab}{y z:Int}{e f:Zad}(ha:l[j]?=some a)(hb:l[k]?=some b)(he:onR (Zah l) a j y=some e)(hf:onR (Zah l) b k z=some f)(hn:e≠f) :
  259200<=e.nominal - f.nominal\/259200<=f.nominal - e.nominal:=by
 refine(h.rule a (List.mem_of_getElem? ha)).far (h.rule b (List.mem_of_getElem? hb)) h.least he hf fun hyz=>?_
 subst hyz
 refine Zlg h.dist ha hb fun hjk=>hn ?_
 subst hjk
 rw[ha]at hb
 cases hb
 exact Option.some.inj (he.symm.trans hf)
theorem Zbl.apart {l:List Zab}(h:Zbl l):Zjk l=none:=by
 have hc:=ZgB (ZfM l (Zah l) 1850 701) (Zf8 _ _ _ _) ((Zen l (Zah l) 1850 701).nodup_iff.2 (Zjm l (Zah l) 1850 701))
 unfold Zjk
 cases he:ZhM (ZfM l (Zah l) 1850 701) with
 | none=>rfl
 | some e =>
  rw[he]at hc
  obtain⟨⟨h1,x,h2,h3,h4⟩,_⟩:=hc
  have hm:∀ x,x∈ZfM l (Zah l) 1850 701->∃ (j:Nat) (r:Zab) (y:Int),l[j]?=some r/\onR (Zah l) r j y=some x:=fun x hx=>by
   rw[(Zen l (Zah l) 1850 701).mem_iff,Ziy]at hx
   obtain⟨q,_,hq⟩:=hx
   obtain⟨j,r,hj,hr⟩:=(ZdQ _ _ _ _ _).1 hq
   rw[Nat.zero_add]at hr
   exact⟨j,r,_,hj,hr⟩
  obtain⟨j,a,y,ja,ea⟩:=hm e h1
  obtain⟨k,b,z,kb,eb⟩:=hm x h2
  have hne:e≠x:=fun hh=>by
   subst hh
   rw[swoE.irrefl]at h3
   cases h3
  have:=h.far2 ja kb ea eb hne
  simp only[ltE,Zg4,decide_eq_true_eq]at h3
  omega
theorem Zbl.fault {rs:List Zab}{x:ByteArray}(h:Zbl (ofB rs x))(hx:setB x=true):ZcS rs x=none:=by
 unfold ZcS
 rw[if_neg (by rw[hx];decide),h.chk,if_neg (by simp),h.apart]
theorem Zbl.farD_of {l:List Zab}(h:Zbl l)(n:Int)(hn:∀ (j:Nat) (r:Zab) (y:Int) (e:Zad),l[j]?=some r->onR (Zah l) r j y=some e->¬ (n - 259200<e.nominal/\e.nominal<n+259200)):farD l n=true:=by
 unfold farD
 cases ha:ZgH l (n - 259200) with
 | none=>rfl
 | some e =>
  rcases ZfN _ _ _ l 0 none e ha with hh|⟨j,r,hj,hr⟩
  ·cases hh
  ·obtain⟨q,h1,h2⟩:=Zi2 _ _ _ _ _ _ _ hr
   rw[Nat.zero_add]at h1
   have:=hn j r _ e hj h1
   simp
   omega
theorem Zqi (l:List Int)(i:Int):Zes (ZhT l i):=by
 have h1:=Zaq l i 7 (by decide)
 have h2:=Zaq l (i+1) 4 (by decide)
 have h3:=Zaq l (i+1) 28 (by decide)
 have h4:=Zaq l (i+2) 3 (by decide)
 have hc:atB l (i+2) 3=0\/atB l (i+2) 3=1\/atB l (i+2) 3=2:=by omega
 unfold ZhT dayB Zes
 rcases hc with e|e|e <;> rw[e]
 ·exact .inl ⟨rfl,h1.1,by show atB l i 7<=6;omega,rfl⟩
 ·refine .inr (.inl ⟨rfl,h1.1,?_,?_,?_,?_⟩)
  ·show atB l i 7<=6;omega
  ·show 1<=1+7*atB l (i+1) 4;omega
  ·show 1+7*atB l (i+1) 4<=22;omega
  ·show(1+7*atB l (i+1) 4).tmod 7=1
   rw[Int.tmod_eq_emod_of_nonneg (by omega)];omega
 ·refine .inr (.inr ⟨rfl,rfl,?_,?_⟩)
  ·show 1<=1+atB l (i+1) 28;omega
  ·show 1+atB l (i+1) 28<=28;omega
theorem Zje (l:List Int)(i:Int):0<=(Zev l i).sec/\(Zev l i).sec<=86400/\0<=(Zev l i).base/\(Zev l i).base<=2:=by
 have h1:=Zaq l i 49 (by decide)
 have h2:=Zaq l (i+1) 3 (by decide)
 unfold Zev
 dsimp only
 omega
theorem ZpV {r:Zab}(h:Zes r.day):Zeu r=true:=by
 unfold Zes at h
 unfold Zeu
 rcases h with⟨h1,_⟩|⟨h1,h2,h3,h4,h5,h6⟩|⟨h1,h2,h3,h4⟩
 ·rw[if_pos h1]
 ·rw[if_neg (by omega),if_pos h1,h6]
  simp
  omega
 ·rw[if_neg (by omega),if_neg (by omega),if_pos h1]
  simp
  omega
theorem ZwE (k:Int)(h0:0<=k)(h1:k<3):letA.getD k.toNat ByteArray.empty∈[ByteArray.empty,⟨#[83]⟩,⟨#[68]⟩,⟨#[68,84]⟩]:=by
 have hc:k=0\/k=1\/k=2:=by omega
 rcases hc with rfl|rfl|rfl
 ·exact .tail _ (.head _)
 ·exact .tail _ (.tail _ (.head _))
 ·exact .tail _ (.tail _ (.tail _ (.head _)))
theorem ZwD (k:Int)(h0:0<=k)(h1:k<2):letB.getD k.toNat ByteArray.empty∈[ByteArray.empty,⟨#[83]⟩,⟨#[68]⟩,⟨#[68,84]⟩]:=by
 have hc:k=0\/k=1:=by omega
 rcases hc with rfl|rfl
 ·exact .head _
 ·exact .tail _ (.head _)
theorem ZpO (l:List Int)(i a b s:Int)(h0:1900<=a)(h1:a<=2149)(h2:a<=b)(h3:b<=2149\/b=1048576)(h4 : -3600<=s/\s<=7200):DrRule (Zoe l i a b s):=by
 have r1:=Zaq l i 3 (by decide)
 have r2:=Zaq l (i+8) 3 (by decide)
 exact⟨h0,h1,h2,h3,.inl (by show 2<=2+atB l i 3/\2+atB l i 3<=4;omega),Zqi l (i+3),Zje l (i+6),h4,ZwE _ r2.1 r2.2⟩
theorem ZpN (l:List Int)(i a b s:Int)(h0:1900<=a)(h1:a<=2149)(h2:a<=b)(h3:b<=2149\/b=1048576)(h4 : -3600<=s/\s<=7200):DrRule (Zq6 l i a b s):=by
 have r1:=Zaq l (i+1) 3 (by decide)
 have r2:=Zaq l (i+14) 2 (by decide)
 exact⟨h0,h1,h2,h3,.inr (.inr (by show 8<=8+atB l (i+1) 3/\8+atB l (i+1) 3<=10;omega)),Zqi l (i+9),Zje l (i+12),h4,ZwD _ r2.1 r2.2⟩
theorem ZpW (l:List Int)(i a b s:Int)(h0:1900<=a)(h1:a<=2149)(h2:a<=b)(h3:b<=2149\/b=1048576)(h4 : -3600<=s/\s<=7200) :
  ∃ p q,Zgj l i a b s=[p,q]/\DrRule p/\DrRule q/\p.from_=a/\p.to=b/\q.from_=a/\q.to=b/\sea p.month=0/\sea q.month=2/\((p.save=0/\q.save=s)\/(p.save=s/\q.save=0)):=by
 have r1:=Zaq l i 3 (by decide)
 have r2:=Zaq l (i+1) 3 (by decide)
 have e1:∀ t,sea (Zoe l i a b t).month=0:=fun t=>by
  show sea (2+atB l i 3)=0
  unfold sea;rw[if_pos (by omega)]
 have e2:∀ t,sea (Zq6 l i a b t).month=2:=fun t=>by
  show sea (8+atB l (i+1) 3)=2
  unfold sea;rw[if_neg (by omega),if_neg (by omega)]
 unfold Zgj
 split
 ·exact⟨_,_,rfl,ZpO l i a b 0 h0 h1 h2 h3 (by decide),ZpN l i a b s h0 h1 h2 h3 h4,rfl,rfl,rfl,rfl,e1 0,e2 s,.inl ⟨rfl,rfl⟩⟩
 ·exact⟨_,_,rfl,ZpO l i a b s h0 h1 h2 h3 h4,ZpN l i a b 0 h0 h1 h2 h3 (by decide),rfl,rfl,rfl,rfl,e1 s,e2 0,.inr ⟨rfl,rfl⟩⟩
structure ZvV (s f:Int)(o:List Zab):Prop where
 rule:∀ r∈o,DrRule r/\r.to<f/\r.to<=2149/\(r.save=0\/r.save=s)
 dist:o.Pairwise Dist
theorem ZvV.two {s f:Int}{o:List Zab}{p q:Zab}(h:ZvV s f o)(hp:p.from_=f)(hq:q.from_=f)(h1:sea p.month=0)(h2:sea q.month=2):(o++[p,q]).Pairwise Dist:=by
 refine List.pairwise_append.2 ⟨h.dist,?_,fun a ha b hb => .inl ?_⟩
 ·refine List.pairwise_cons.2 ⟨fun b hb=>?_,List.pairwise_singleton _ _⟩
  rw[List.mem_singleton]at hb
  subst hb
  exact .inr (by rw[h1,h2];decide)
 ·have:=(h.rule a ha).2.1
  simp only[List.mem_cons,List.not_mem_nil,or_false]at hb
  rcases hb with rfl|rfl
  ·rw[hp];exact this
  ·rw[hq];exact this
theorem Zj1 (l:List Int):ZbC l≠0/\-3600<=ZbC l/\ZbC l<=7200:=by
 have h:=Zaq l 0 5 (by decide)
 have hc:atB l 0 5=0\/atB l 0 5=1\/atB l 0 5=2\/atB l 0 5=3\/atB l 0 5=4:=by omega
 unfold ZbC
 rcases hc with e|e|e|e|e <;> rw[e] <;> decide
theorem ZAt (l:List Int):ZvV (ZbC l) (m1 l).2 (m1 l).1:=by
 have h1:=Zaq l 1 80 (by decide)
 have h3:=Zaq l 3 28 (by decide)
 unfold m1
 split
 ·refine⟨fun r hr=>?_,List.pairwise_singleton _ _⟩
  rw[List.mem_singleton]at hr
  subst hr
  refine⟨⟨?_,?_,Int.le_refl _,.inl ?_,.inr (.inl rfl),.inr (.inr ⟨rfl,rfl,?_,?_⟩),Zje l 4,by show(-3600:Int)<=0/\(0:Int)<=7200;decide,List.Mem.tail _ (.head _)⟩,?_,?_,.inl rfl⟩
  ·show 1900<=1900+atB l 1 80;omega
  ·show 1900+atB l 1 80<=2149;omega
  ·show 1900+atB l 1 80<=2149;omega
  ·show 1<=1+atB l 3 28;omega
  ·show 1+atB l 3 28<=28;omega
  ·show 1900+atB l 1 80<1900+atB l 1 80+1;omega
  ·show 1900+atB l 1 80<=2149;omega
 ·exact⟨fun r hr=>(by cases hr),List.Pairwise.nil⟩
theorem ZAs (l:List Int)(o:List Zab)(f:Int)(h:ZvV (ZbC l) f o)(h1:1900<=f)(h2:f<=1980):ZvV (ZbC l) (m2 l o f).2 (m2 l o f).1:=by
 have h6:=Zaq l 6 12 (by decide)
 have h8:=Zaq l 8 5 (by decide)
 obtain⟨_,s1,s2⟩:=Zj1 l
 unfold m2
 split
 ·obtain⟨p,q,e,hp,hq,p1,p2,q1,q2,sp,sq,hs⟩:=ZpW l 7 f (f+atB l 6 12) (ZbC l) h1 (by omega) (by omega) (.inl (by omega)) ⟨s1,s2⟩
  rw[e]
  refine⟨fun r hr=>?_,h.two p1 q1 sp sq⟩
  dsimp only at hr ⊢
  rw[List.mem_append]at hr
  rcases hr with hr|hr
  ·obtain⟨a,b,c,d⟩:=h.rule r hr
   exact⟨a,by omega,c,d⟩
  ·simp only[List.mem_cons,List.not_mem_nil,or_false]at hr
   rcases hr with rfl|rfl
   ·exact⟨hp,by omega,by omega,by omega⟩
   ·exact⟨hq,by omega,by omega,by omega⟩
 ·exact h
theorem Ztz {o:List Zab}{p q:Zab}(ho:∀ r∈o,r.to<=2149)(hpq:p.to=q.to)(hs:(p.save=0/\q.save≠0)\/(p.save≠0/\q.save=0))(hm:p.month≠q.month)(h1:Zeu p=true)(h2:Zeu q=true):ZiF (o++[p,q])=true:=by
 have e:o.filter (fun r=>decide (r.to=1048576))=[]:=List.filter_eq_nil_iff.2 fun r hr=>by
  have:=ho r hr
  simp
  omega
 unfold ZiF
 rw[List.filter_append,e,List.nil_append]
 by_cases h:q.to=1048576
 ·rw[List.filter_cons,if_pos (by simp;omega),List.filter_cons,if_pos (by simp;omega),List.filter_nil]
  dsimp only
  rw[h1,h2]
  rcases hs with⟨a,b⟩|⟨a,b⟩ <;> simp[a,b,hm]
 ·rw[List.filter_cons,if_neg (by simp;omega),List.filter_cons,if_neg (by simp;omega),List.filter_nil]
theorem _root_.Go.Wk.DrRule.named (x:ByteArray){r:Zab}(h:DrRule r):DrRule (ZcL x r):=⟨h.f0,h.f1,h.ft,h.t1,h.mon,h.day,h.clk,h.save,h.letter⟩
theorem Zrl (l:List Int)(x:ByteArray):Zbl (Zca l x):=by
 obtain⟨_,a1,a2⟩:=ZmC l
 have p1:=ZAt l
 obtain⟨_,b1,b2⟩:=Zp5 l (m1 l).1 (m1 l).2 (by have:=(ZmC l).1;exact this) a1 a2
 have p2:=ZAs l _ _ p1 a1 a2
 obtain⟨s0,s1,s2⟩:=Zj1 l
 have h9:=Zaq l 9 6 (by decide)
 unfold Zca m3
 generalize (m2 l (m1 l).1 (m1 l).2).2=f at *
 generalize (m2 l (m1 l).1 (m1 l).2).1=o at *
 have ht:f<=to17 l f/\(to17 l f<=2149\/to17 l f=1048576):=by unfold to17;split <;> omega
 obtain⟨p,q,e,hp,hq,e1,e2,e3,e4,sp,sq,hs⟩:=ZpW l 11 f (to17 l f) (ZbC l) b1 (by omega) ht.1 ht.2 ⟨s1,s2⟩
 rw[e]
 have hd:=p2.two e1 e3 sp sq
 have hall:∀ r∈o++[p,q],DrRule r/\(r.save=0\/r.save=ZbC l):=fun r hr=>by
  rw[List.mem_append]at hr
  rcases hr with hr|hr
  ·obtain⟨a,_,_,d⟩:=p2.rule r hr
   exact⟨a,d⟩
  ·simp only[List.mem_cons,List.not_mem_nil,or_false]at hr
   rcases hr with rfl|rfl
   ·exact⟨hp,by omega⟩
   ·exact⟨hq,by omega⟩
 have mp:ZcL x p∈(o++[p,q]).map (ZcL x):=List.mem_map.2 ⟨p,by simp,rfl⟩
 have mq:ZcL x q∈(o++[p,q]).map (ZcL x):=List.mem_map.2 ⟨q,by simp,rfl⟩
 refine⟨fun r hr=>?_,List.pairwise_map.2 hd,⟨ZbC l,s0,fun r hr=>?_,?_,?_⟩,?_⟩
 ·obtain⟨r',h1,rfl⟩:=List.mem_map.1 hr
  exact(hall r' h1).1.named x
 ·obtain⟨r',h1,rfl⟩:=List.mem_map.1 hr
  exact(hall r' h1).2
 ·rcases hs with⟨h1,_⟩|⟨_,h1⟩
  ·exact⟨_,mp,h1⟩
  ·exact⟨_,mq,h1⟩
 ·rcases hs with⟨_,h1⟩|⟨h1,_⟩
  ·exact⟨_,mq,h1⟩
  ·exact⟨_,mp,h1⟩
 ·rw[List.map_append]
  refine Ztz (p:=ZcL x p) (q:=ZcL x q) (fun r hr=>?_) (e2.trans e4.symm) ?_ ?_ (ZpV (r:=ZcL x p) hp.day) (ZpV (r:=ZcL x q) hq.day)
  ·obtain⟨r',h1,rfl⟩:=List.mem_map.1 hr
   exact(p2.rule r' h1).2.2.1
  ·show(p.save=0/\q.save≠0)\/(p.save≠0/\q.save=0)
   omega
  ·show p.month≠q.month
   intro hh
   rw[hh,sq]at sp
   cases sp
theorem ZeP (l:List Int)(x:ByteArray):∀ r∈Zca l x,r.name=x:=fun r hr=>by
 obtain⟨r',_,rfl⟩:=List.mem_map.1 hr
 rfl
end Go.Proofs.YtdlmhmmhdbbliaaGreatDoor
