/- Parts of the proof. -/
import Derived.Test.YtdlmhmmhdbbliaaGreatDoorV34
import Derived.Test.YtdlmhmmhdbbliaaGreatDoorV12
import Derived.Test.YtdlmhmmhdbbliaaGreatDoorV11
import Derived.Test.YtdlmhmmhdbbliaaGreatDoorV09
set_option maxHeartbeats 4000000
set_option linter.unusedVariables false
set_option linter.unusedSimpArgs false
namespace Go.Proofs.YtdlmhmmhdbbliaaGreatDoor
open Go Go.RowKit Go.Wk
theorem ZAd (rs:List Zab)(t:Int)(ht:t<9223372036854775807):∀ (l:List DEra) (st:Int) (i:Nat) (r:List ZbH),spGo rs l st i=some r->l≠[]->st<=t ->
  ∃ k x,k<l.length/\r[k]?=some x/\x.era=(i:Int)+(k:Nat)/\Zew t r i=(i:Int)+(k:Nat)/\x.start<=t/\t<x.fin
 | [],_,_,_,_,h,_=>absurd rfl h
 | [e],st,i,r,h,_,hs=>by
  simp only[spGo,Option.some.injEq]at h
  subst h
  refine⟨0,_,Nat.zero_lt_one,rfl,by simp,?_,hs,ht⟩
  rw[Zew,if_pos (by unfold spIn;rw[decide_eq_true hs,decide_eq_true ht];rfl)]
  simp
 | e::f::l,st,i,r,h,_,hs=>by
  rw[spGo]at h
  by_cases hT:endT e (ruEr rs e)<=st
  ·rw[if_pos hT]at h;cases h
  rw[if_neg hT]at h
  obtain⟨r2,h2,rfl⟩:=Option.map_eq_some_iff.1 h
  by_cases h3:t<endT e (ruEr rs e)
  ·refine⟨0,_,by simp,rfl,by simp,?_,hs,h3⟩
   rw[Zew,if_pos (by unfold spIn;rw[decide_eq_true hs,decide_eq_true h3];rfl)]
   simp
  ·obtain⟨k,x,a1,a2,a3,a4,a5,a6⟩:=ZAd rs t ht (f::l) _ (i+1) r2 h2 (by simp) (Int.not_lt.1 h3)
   refine⟨k+1,x,by rw[List.length_cons];omega,a2,by omega,?_,a5,a6⟩
   rw[Zew,if_neg (by unfold spIn;dsimp only;rw[decide_eq_false h3,Bool.and_false];decide),a4]
   omega
theorem Zl6 (rs:List Zab):∀ (l:List DEra) (st:Int) (i:Nat),(∀ e,l[0]?=some e->1<l.length->st<endT e (ruEr rs e)) ->
  (∀ k e f,l[k]?=some e->l[k+1]?=some f->k+2<l.length->endT e (ruEr rs e)<endT f (ruEr rs f))->∃ r,spGo rs l st i=some r
 | [],_,_,_,_=>⟨_,rfl⟩
 | [e],_,_,_,_=>⟨_,rfl⟩
 | e::f::l,st,i,h1,h2=>by
  have h3:=h1 e rfl (by simp)
  obtain⟨r,hr⟩:=Zl6 rs (f::l) (endT e (ruEr rs e)) (i+1) (fun g hg hl=>by
   cases hg
   exact h2 0 e f rfl rfl (by simp only[List.length_cons]at hl ⊢;omega)) (fun k g u hg hu hl=>h2 (k+1) g u hg hu (by simp only[List.length_cons]at hl ⊢;omega))
  exact⟨_,by rw[spGo,if_neg (by omega),hr];rfl⟩
def Zgw (rs:List Zab)(l:List DEra)(t:Int):Nat:=match Zn7 rs l with
 | some r=>(Zew t r 0).toNat
 | none=>0
theorem Zn5 {rs:List Zab}{l:List DEra}{r:List ZbH}(h:Zn7 rs l=some r)(hl:l≠[]){t:Int}(h0 : -9223372036854775808<=t)(h1:t<9223372036854775807) :
  ∃ x,Zgw rs l t<l.length/\r[Zgw rs l t]?=some x/\Zj0 r t=(x,true)/\x.era=(Zgw rs l t:Nat)/\x.start<=t/\t<x.fin:=by
 obtain⟨k,x,a1,a2,a3,a4,a5,a6⟩:=ZAd rs t h1 l _ 0 r h hl h0
 have hk:Zgw rs l t=k:=by
  unfold Zgw
  rw[h]
  dsimp only
  rw[a4]
  simp
 refine⟨x,by rw[hk];exact a1,by rw[hk];exact a2,?_,by rw[hk,a3];simp,a5,a6⟩
 unfold Zj0
 rw[a4,if_neg (by omega),List.getD_eq_getElem?_getD,show(((0:Nat):Int)+(k:Nat)).toNat=k by omega,a2]
 rfl
def Zro (rs:List Zab)(l:List DEra)(t:Int):Zdq:=ZfG (l.getD (Zgw rs l t) dE0) (ZbN rs (l.getD (Zgw rs l t) dE0) t)
section
variable {P:Int × ByteArray->Prop}{l:List Zab}
theorem Zqs (h0:P (0,ByteArray.empty))(hr:∀ r∈l,P (r.save,r.letter))(e:Zad):P (behS l e):=by
 unfold behS ruE
 rw[List.getD_eq_getElem?_getD]
 cases hx:l[e.rule.toNat]? with
 | none=>exact h0
 | some r=>exact hr r (List.mem_of_getElem? hx)
theorem ZxB (h0:P (0,ByteArray.empty))(hr:∀ r∈l,P (r.save,r.letter)):P (iniS l):=by
 unfold iniS
 cases fstD l true 0 with
 | none=>exact h0
 | some e =>
  dsimp only
  cases fstD l false (ruE l e).save with
  | none=>exact Zqs h0 hr e
  | some o=>exact Zqs h0 hr o
theorem Zup (h0:P (0,ByteArray.empty))(hr:∀ r∈l,P (r.save,r.letter))(n:Int):P (befS l n):=by
 unfold befS
 cases befD l n with
 | none=>exact ZxB h0 hr
 | some e=>exact Zqs h0 hr e
theorem ZxJ (h0:P (0,ByteArray.empty))(hr:∀ r∈l,P (r.save,r.letter))(off t:Int):∀ (k:Nat) (n:Int),P (atGo l off t k n)
 | 0,n=>Zup h0 hr n
 | k+1,n=>by
  rw[atGo]
  cases befD l n with
  | none=>exact ZxB h0 hr
  | some e =>
   dsimp only
   split
   ·exact Zqs h0 hr e
   ·exact ZxJ h0 hr off t k _
end
theorem Zv8 {P:Int × ByteArray->Prop}{rs:List Zab}{e:DEra}(h0:P (0,ByteArray.empty))(h1:e.kind=1->P (e.save,ByteArray.empty))(hr:e.kind≠0->e.kind≠1->∀ r∈ofB rs e.set,P (r.save,r.letter))(t:Int):P (ZbN rs e t):=by
 unfold ZbN
 split
 ·exact h0
 ·split
  ·exact h1 ‹_›
  ·exact ZxJ h0 (hr ‹_› ‹_›) _ _ _ _
def DrSt (e:DEra)(x:Int × ByteArray):Prop:=(-54000<=e.off+x.1/\e.off+x.1<=54000)/\(-10800<=x.1/\x.1<=10800)/\x.2∈[ByteArray.empty,⟨#[83]⟩,⟨#[68]⟩,⟨#[68,84]⟩]
theorem Zbm.st0 {rs:List Zab}{e:DEra}{b:Bool}(h:Zbm rs e b):DrSt e (0,ByteArray.empty):=by
 refine⟨?_,by decide,.head _⟩
 rcases h with⟨_,_,_,h1,h2,_⟩|⟨_,_,_,h1,h2,_⟩|⟨_,_,_,h1,h2,_⟩ <;> dsimp only <;> omega
theorem Zbm.st1 {rs:List Zab}{e:DEra}{b:Bool}(h:Zbm rs e b)(hk:e.kind=1):DrSt e (e.save,ByteArray.empty):=by
 rcases h with⟨h0,_⟩|⟨_,⟨h3,h4⟩,_,h1,h2,_⟩|⟨h0,_⟩
 ·omega
 ·exact⟨by dsimp only;omega,by dsimp only;omega,.head _⟩
 ·omega
theorem Zbm.st2 {rs:List Zab}{e:DEra}{b:Bool}(h:Zbm rs e b)(hk0:e.kind≠0)(hk1:e.kind≠1):∀ r∈ofB rs e.set,DrSt e (r.save,r.letter):=fun r hr=>by
 rcases h with⟨h0,_⟩|⟨h0,_⟩|⟨_,_,_,h1,h2,_,h3,_⟩
 ·exact absurd h0 hk0
 ·exact absurd h0 hk1
 ·have hd:=h3.rule r hr
  have hs:=hd.save
  exact⟨by dsimp only;omega,by dsimp only;omega,hd.letter⟩
theorem Zbm.state {rs:List Zab}{e:DEra}{b:Bool}(h:Zbm rs e b)(t:Int):DrSt e (ZbN rs e t):=Zv8 h.st0 h.st1 h.st2 t
theorem Zbm.befS {rs:List Zab}{e:DEra}{b:Bool}(h:Zbm rs e b)(hk:e.kind=2)(n:Int):DrSt e (Go.Wk.befS (ofB rs e.set) n):=Zup h.st0 (h.st2 (by omega) (by omega)) n
def pOk (f:List UInt8):Option (List UInt8 × List UInt8)->Bool
 | some (a,b)=>decide (a≠[])&&decide (b≠[])
 | none=>decide (ZbQ f=1)&&decide (f≠[])
theorem ZrE:∀ f∈ZrF,pOk f (ZcB f)=true:=by decide +kernel
theorem ZrB:∀ f∈ZrC,∀ x∈Zkk,(ZbR f 0 0 x).2=0/\(ZbR f 0 0 x).1≠[]:=by decide +kernel
theorem Zo2 {e:DEra}(hf:e.format∈fmtU){x:Int × ByteArray}(hx:DrSt e x):abE e x=0/\ZcX e x.1 x.2≠ByteArray.empty:=by
 obtain⟨⟨h1,h2⟩,_,h3⟩:=hx
 have key:(ZbR e.format.data.toList e.off x.1 x.2.data.toList).2=0/\(ZbR e.format.data.toList e.off x.1 x.2.data.toList).1≠[]:=by
  rcases Zgr hf with h|h|h
  ·have:=ZrE _ h
   unfold ZbR
   cases hp:ZcB e.format.data.toList with
   | none =>
    rw[hp]at this
    simp only[pOk,Bool.and_eq_true,decide_eq_true_eq]at this
    dsimp only
    rw[this.1,if_neg (by decide),if_neg (by decide),if_pos (.inl rfl)]
    exact⟨rfl,this.2⟩
   | some ab =>
    obtain⟨a,b⟩:=ab
    rw[hp]at this
    simp only[pOk,Bool.and_eq_true,decide_eq_true_eq]at this
    dsimp only
    refine⟨rfl,?_⟩
    split
    ·exact this.1
    ·exact this.2
  ·have h4:=ZrB _ h _ (Zla h3)
   have h5:=Zco.1 _ h
   have h6:=(Zcb.2.1 _ h).1
   unfold ZbR at h4 ⊢
   rw[h5]at h4 ⊢
   dsimp only at h4 ⊢
   rw[if_pos h6]at h4 ⊢
   exact h4
  ·rw[h]
   unfold ZbR
   rw[Zco.2]
   dsimp only
   have ht:=Zif (e.off+x.1) (by omega)
   rw[Zcb.2.2,if_neg (by decide),if_pos rfl,if_pos ⟨by unfold Zdr;simp;omega,ht⟩]
   exact⟨rfl,ht⟩
 refine⟨key.1,fun h=>key.2 ?_⟩
 unfold ZcX at h
 have:=congrArg (fun b=>b.data.toList) h
 simpa using this
theorem ZyR {u:ZaY}{least n:Int}(h:ZaH u least=(n,0))(hc:ZaW u least=0)(hl : -3600<=least/\least<=0):n<=86400*(onD u.year u.month u.day).1+u.at_.sec/\86400*(onD u.year u.month u.day).1+u.at_.sec<=n+3600:=by
 unfold ZaH at h
 rw[if_neg (by rw[hc];decide)]at h
 have h1:86400*(onD u.year u.month u.day).1+u.at_.sec+(if u.at_.base=1 then least else 0)=n:=congrArg Prod.fst h
 split at h1 <;> omega
theorem Zbm.rs {rs:List Zab}{e:DEra}{b:Bool}(h:Zbm rs e b):RsSm (ruEr rs e):=by
 have hd:∀ r∈ruEr rs e,DrRule r/\(ruEr rs e).length<=5:=by
  rcases h with⟨h0,_⟩|⟨h0,_⟩|⟨h0,_,_,h1,h2,_,h3,h4⟩
  ·unfold ruEr;rw[if_neg (by omega)];exact fun r hr=>by cases hr
  ·unfold ruEr;rw[if_neg (by omega)];exact fun r hr=>by cases hr
  ·unfold ruEr;rw[if_pos h0];exact fun r hr=>⟨h3.rule r hr,h4⟩
 refine⟨?_,fun r hr=>?_,fun r hr=>?_,fun r hr=>?_⟩
 ·cases hl:ruEr rs e with
  | nil=>decide
  | cons r l=>have:=(hd r (by rw[hl];exact List.mem_cons_self)).2;rw[hl]at this;omega
 ·have:=(hd r hr).1.save;omega
 ·have:=(hd r hr).1.f1;omega
 ·have:=(hd r hr).1.ft;have:=(hd r hr).1.f0;omega
theorem Zec {n:Int}(h : -604799<=n/\n<=604799):Zbv n=true:=by unfold Zbv;simp;exact h
theorem Zbm.bs {rs:List Zab}{e:DEra}{b:Bool}(h:Zbm rs e b) : -3600<=Go.Wk.bsE e (ruEr rs e)/\Go.Wk.bsE e (ruEr rs e)<=0:=by
 have:=h.least
 unfold Zbb at this
 unfold Go.Wk.bsE ruEr
 split
 ·rw[if_pos ‹_›]at this
  omega
 ·decide
theorem Zbm.bf {rs:List Zab}{e:DEra}{b:Bool}(h:Zbm rs e b)(n:Int) : -10800<=bfE e (ruEr rs e) n/\bfE e (ruEr rs e) n<=10800:=by
 unfold bfE
 split
 ·have:=(h.st1 ‹_›).2.1
  exact this
 ·split
  ·unfold ruEr
   rw[if_pos ‹_›]
   exact(h.befS ‹_› n).2.1
  ·decide
theorem Zbm.un {rs:List Zab}{e:DEra}{b:Bool}(h:Zbm rs e b){Y:Int}(hT:ZvY e.til Y)(hY:1850<=Y/\Y<=2148) :
  UnOk e (ruEr rs e)/\86400*(mar1 Y+279) - 70000<=endT e (ruEr rs e)/\endT e (ruEr rs e)<=86400*(mar1 Y+327)+70000:=by
 obtain⟨t1,t2,n,t3,t4,t5⟩:=hT.nom hY h.bs
 have h0:=h.st0.1
 have hb:=h.bf (ZaH e.til (Go.Wk.bsE e (ruEr rs e))).1
 have hsc:=ZyR t3 t2 h.bs
 dsimp only at h0
 have hk:0<=e.kind/\e.kind<=2:=by rcases h with⟨h0,_⟩|⟨h0,_⟩|⟨h0,_⟩ <;> omega
 have hs : -10800<=e.save/\e.save<=10800:=by
  rcases h with⟨_,h0,_⟩|⟨_,h0,_⟩|⟨_,_,h0,_⟩ <;> omega
 refine⟨⟨hk,Zec (by omega),Zec (by omega),t2,Zec (by unfold endB;omega)⟩,?_⟩
 unfold endT
 unfold endB
 split
 ·omega
 ·split <;> omega
theorem Zbo.un {rs:List Zab}{l:List DEra}{Y:Nat->Int}(h:Zbo rs l Y)(k:Nat)(e:DEra)(he:l[k]?=some e)(hk:k+1<l.length):RsSm (ruEr rs e)/\UnOk e (ruEr rs e):=by
 have hT:=h.til k e he
 rw[if_pos hk]at hT
 exact⟨(h.era k e he).rs,((h.era k e he).un hT (h.yr k hk)).1⟩
theorem Zbo.sp {rs:List Zab}{l:List DEra}{Y:Nat->Int}(h:Zbo rs l Y):∃ r,Zn7 rs l=some r:=by
 refine Zl6 rs l _ 0 (fun e he hl=>?_) (fun k e f he hf hl=>?_)
 ·have hT:=h.til 0 e he
  rw[if_pos hl]at hT
  have hy:=h.yr 0 hl
  obtain⟨_,h1,_⟩:=(h.era 0 e he).un hT hy
  have hm:mar1 1850<=mar1 (Y 0):=Zf1 hy.1
  have h5 : -50000<=mar1 1850:=by decide
  omega
 ·have hT:=h.til k e he
  rw[if_pos (by omega)]at hT
  have hT2:=h.til (k+1) f hf
  rw[if_pos (by omega)]at hT2
  obtain⟨_,_,h1⟩:=(h.era k e he).un hT (h.yr k (by omega))
  obtain⟨_,h2,_⟩:=(h.era (k+1) f hf).un hT2 (h.yr (k+1) (by omega))
  have:=ZdC (h.inc k (by omega))
  omega
theorem Zho (least nominal:Int)(r:Zab)(i:Int):∀ (k:Nat) (y:Int) (e:Zad),beIn least nominal r i y k=some e->∃ y',onR least r i y'=some e/\e.nominal<nominal
 | 0,_,_,h=>by cases h
 | k+1,y,e,h=>by
  rw[beIn]at h
  cases he:onR least r i y with
  | none=>rw[he]at h;exact Zho least nominal r i k (y - 1) e h
  | some e' =>
   rw[he]at h
   dsimp only at h
   by_cases hc:e'.nominal<nominal
   ·rw[if_pos hc]at h
    cases h
    exact⟨y,he,hc⟩
   ·rw[if_neg hc]at h
    exact Zho least nominal r i k (y - 1) e h
theorem ZgG (least nominal:Int)(r:Zab)(i:Int):∀ (k:Nat) (y:Int) (q:Nat) (e:Zad),q<k->onR least r i (y - q)=some e->e.nominal<nominal->∃ e',beIn least nominal r i y k=some e'/\e.nominal<=e'.nominal
 | 0,_,_,_,h,_,_=>absurd h (by omega)
 | k+1,y,q,e,h,h1,h2=>by
  rw[beIn]
  cases he:onR least r i y with
  | none =>
   cases q with
   | zero=>rw[show y - ((0:Nat):Int)=y by omega,he]at h1;cases h1
   | succ q=>exact ZgG least nominal r i k (y - 1) q e (by omega) (by rw[show y - 1 - (q:Int)=y - ((q+1:Nat):Int) by omega];exact h1) h2
  | some e' =>
   dsimp only
   by_cases hc:e'.nominal<nominal
   ·rw[if_pos hc]
    refine⟨e',rfl,?_⟩
    cases q with
    | zero=>rw[show y - ((0:Nat):Int)=y by omega,he]at h1;cases h1;exact Int.le_refl _
    | succ q=>exact Int.le_of_lt (Zd9 h1 he (by omega))
   ·rw[if_neg hc]
    cases q with
    | zero=>rw[show y - ((0:Nat):Int)=y by omega,he]at h1;cases h1;exact absurd h2 hc
    | succ q=>exact ZgG least nominal r i k (y - 1) q e (by omega) (by rw[show y - 1 - (q:Int)=y - ((q+1:Nat):Int) by omega];exact h1) h2
theorem Zjh (least nominal yr:Int):∀ (l:List Zab) (i:Nat) (b:Option Zad) (e:Zad),Zem least nominal yr l i b=some e->b=some e\/∃ (j:Nat) (r:Zab),l[j]?=some r/\beIn least nominal r ((i+j:Nat):Int) (min (lastY r) (yr+2)) 20=some e
 | [],_,_,_,h => .inl h
 | r::l,i,b,e,h=>by
  rw[Zem]at h
  rcases Zjh least nominal yr l (i+1) _ e h with h1|⟨j,r',h1,h2⟩
  ·cases he:beIn least nominal r i (min (lastY r) (yr+2)) 20 with
   | none=>rw[he]at h1;exact .inl h1
   | some e' =>
    rw[he]at h1
    have hr:∀ x,e'=x->∃ (j:Nat) (r':Zab),(r::l)[j]?=some r'/\beIn least nominal r' ((i+j:Nat):Int) (min (lastY r') (yr+2)) 20=some x:=fun x hx=>⟨0,r,rfl,by rw[<- hx];exact he⟩
    cases b with
    | none=>cases h1;exact .inr (hr _ rfl)
    | some b =>
     dsimp only at h1
     split at h1
     ·cases h1;exact .inr (hr _ rfl)
     ·exact .inl h1
  ·exact .inr ⟨j+1,r',by simpa using h1,by rw[show i+(j+1)=i+1+j by omega];exact h2⟩
theorem Zfo (least nominal yr:Int):∀ (l:List Zab) (i:Nat) (b:Zad),∃ e,Zem least nominal yr l i (some b)=some e/\b.nominal<=e.nominal
 | [],_,b=>⟨b,rfl,Int.le_refl _⟩
 | r::l,i,b=>by
  rw[Zem]
  cases he:beIn least nominal r i (min (lastY r) (yr+2)) 20 with
  | none=>exact Zfo least nominal yr l (i+1) b
  | some e' =>
   dsimp only
   split
   ·rename_i hlt
    obtain⟨e,h1,h2⟩:=Zfo least nominal yr l (i+1) e'
    have:b.nominal<=e'.nominal:=by
     unfold ordE at hlt
     split at hlt
     ·omega
     ·split at hlt
      ·omega
      ·omega
    exact⟨e,h1,by omega⟩
   ·exact Zfo least nominal yr l (i+1) b
theorem Zhm (least nominal yr:Int):∀ (l:List Zab) (i:Nat) (b:Option Zad) (j:Nat) (r:Zab) (e':Zad),l[j]?=some r->beIn least nominal r ((i+j:Nat):Int) (min (lastY r) (yr+2)) 20=some e'->∃ e,Zem least nominal yr l i b=some e/\e'.nominal<=e.nominal
 | [],_,_,_,_,_,h,_=>by simp at h
 | r0::l,i,b,0,r,e',h,h2=>by
  simp only[List.getElem?_cons_zero,Option.some.injEq]at h
  subst h
  rw[Zem,show beIn least nominal r0 (i:Int) (min (lastY r0) (yr+2)) 20=some e' from h2]
  cases b with
  | none=>exact Zfo least nominal yr l (i+1) e'
  | some b =>
   dsimp only
   split
   ·exact Zfo least nominal yr l (i+1) e'
   ·rename_i hlt
    obtain⟨e,g1,g2⟩:=Zfo least nominal yr l (i+1) b
    refine⟨e,g1,?_⟩
    unfold ordE at hlt
    split at hlt
    ·omega
    ·split at hlt <;> omega
 | r0::l,i,b,j+1,r,e',h,h2=>by
  rw[Zem]
  exact Zhm least nominal yr l (i+1) _ j r e' (by simpa using h) (by rw[show i+1+j=i+(j+1) by omega];exact h2)
def EvOf (l:List Zab)(e:Zad):Prop:=∃ (j:Nat) (r:Zab) (y:Int),l[j]?=some r/\onR (Zah l) r (j:Int) y=some e
theorem _root_.Go.Wk.DrRule.lastYr {r:Zab}(h:DrRule r):r.from_<=Go.Wk.lastY r/\Go.Wk.lastY r<=2000000000:=by
 have h0:=h.f0
 have h1:=h.f1
 have h2:=h.ft
 unfold Go.Wk.lastY
 split <;> omega
theorem _root_.Go.Wk.DrRule.onY {r:Zab}(h:DrRule r)(least i:Int){y:Int}(h0:r.from_<=y)(h1:y<=Go.Wk.lastY r):∃ e,onR least r i y=some e:=by
 have hf0:=h.f0
 have hl:=h.lastYr
 have hck:ZaP r.at_=true:=by
  have:=h.clk
  unfold ZaP
  simp
  omega
 have hin:inY y=true:=by
  unfold inY
  simp
  omega
 obtain⟨m0,m1⟩:=h.mon12
 have ho:=(h.day.on hin m0 m1).1
 unfold onR
 rw[if_neg (by rw[hck];rintro(q|q|q);omega;omega;cases q),if_neg (by rw[ho];decide)]
 exact⟨_,rfl⟩
theorem ZpY {least:Int}{r:Zab}{i y:Int}{e:Zad}(h:onR least r i y=some e):y<=Go.Wk.lastY r:=by
 unfold onR at h
 split at h
 ·cases h
 ·rename_i h1
  exact Int.not_lt.1 fun hh=>h1 (.inr (.inl hh))
section
variable {l:List Zab}(h:Zbl l)
include h
omit h in
theorem Zhn {n:Int}{e:Zad}(he:befD l n=some e):EvOf l e/\e.nominal<n:=by
 rcases Zjh _ _ _ l 0 none e he with h1|⟨j,r,h1,h2⟩
 ·cases h1
 ·obtain⟨y,h3,h4⟩:=Zho _ _ _ _ _ _ _ h2
  rw[Nat.zero_add]at h3
  exact⟨⟨j,r,y,h1,h3⟩,h4⟩
theorem Zbl.befD_full {n:Int}(h0 : -40000000000000000<=n)(h1:n<=40000000000000000){f:Zad}(hf:EvOf l f)(hn:f.nominal<n):∃ e,befD l n=some e/\f.nominal<=e.nominal:=by
 obtain⟨j,r,y,hj,hy⟩:=hf
 have hr:=h.rule r (List.mem_of_getElem? hj)
 obtain⟨b1,b2⟩:=ZqS h0 h1
 have hle:=h.least.2
 obtain⟨c1,c2⟩:=Zxu hle hy
 have hyy:y<=ZaA n+1:=ZlT (by omega)
 have hyl:=ZpY hy
 obtain⟨_,_,hyf,_⟩:=hr.ev h.least hy
 have key:∃ (q:Nat) (g:Zad),q<20/\onR (Zah l) r (j:Int) (min (Go.Wk.lastY r) (ZaA n+2) - q)=some g/\g.nominal<n/\f.nominal<=g.nominal:=by
  by_cases hq:min (Go.Wk.lastY r) (ZaA n+2) - y<20
  ·refine⟨(min (Go.Wk.lastY r) (ZaA n+2) - y).toNat,f,by omega,?_,hn,Int.le_refl _⟩
   rw[show min (Go.Wk.lastY r) (ZaA n+2) - ((min (Go.Wk.lastY r) (ZaA n+2) - y).toNat:Int)=y by omega]
   exact hy
  ·obtain⟨g,hg⟩:=hr.onY (Zah l) (j:Int) (y:=min (Go.Wk.lastY r) (ZaA n+2) - 10) (by omega) (by omega)
   refine⟨10,g,by omega,hg,?_,Int.le_of_lt (Zd9 hy hg (by omega))⟩
   refine Int.not_le.1 fun hh=>?_
   obtain⟨d1,d2⟩:=Zxu hle hg
   have:ZaA n<=min (Go.Wk.lastY r) (ZaA n+2) - 10+1:=ZlT (by omega)
   omega
 obtain⟨q,g,g1,g2,g3,g4⟩:=key
 obtain⟨e',k1,k2⟩:=ZgG (Zah l) n r (j:Int) 20 _ q g g1 g2 g3
 obtain⟨e,k3,k4⟩:=Zhm (Zah l) n (ZaA n) l 0 none j r e' hj (by rw[Nat.zero_add];exact k1)
 exact⟨e,k3,by omega⟩
theorem Zbl.uniq {e f:Zad}(he:EvOf l e)(hf:EvOf l f)(hn:e≠f):259200<=e.nominal - f.nominal\/259200<=f.nominal - e.nominal:=by
 obtain⟨j,r,y,h1,h2⟩:=he
 obtain⟨k,s,z,h3,h4⟩:=hf
 exact h.far2 h1 h3 h2 h4 hn
theorem Zbl.eq {e f:Zad}(he:EvOf l e)(hf:EvOf l f)(hn:e.nominal - f.nominal<259200/\f.nominal - e.nominal<259200):e=f:=by
 by_cases hne:e=f
 ·exact hne
 ·have:=h.uniq he hf hne
  omega
theorem Zbl.save0:∀ r∈l,-10800<=r.save/\r.save<=10800:=fun r hr=>by
 have:=(h.rule r hr).save
 omega
theorem Zbl.bef_bd (n:Int) : -10800<=(befS l n).1/\(befS l n).1<=10800:=Zup (P:=fun x => -10800<=x.1/\x.1<=10800) (by decide) (fun r hr=>h.save0 r hr) n
theorem Zbl.inst_near {off:Int}(ho : -43200<=off/\off<=43200)(e:Zad):e.nominal - 54000<=ZcF l e off/\ZcF l e off<=e.nominal+54000:=by
 have hb:=h.bef_bd e.nominal
 have hl:=h.least
 unfold ZcF
 split
 ·omega
 ·split <;> omega
theorem Zbl.low {e:Zad}(he:EvOf l e) : -4000000000<=e.nominal:=by
 obtain⟨j,r,y,h1,h2⟩:=he
 have hr:=h.rule r (List.mem_of_getElem? h1)
 obtain⟨_,_,hyf,_,hlo,_⟩:=hr.ev h.least h2
 have hm:mar1 1900<=mar1 y:=Zf1 (by have:=hr.f0;omega)
 have h5 : -30000<=mar1 1900:=by decide
 have hs:=ZdR r.month
 have hll : -29<=loS r.month:=hs.1
 omega
end
def ZvX (l:List Zab)(off t:Int):Option Zad->Prop
 | some e=>EvOf l e/\ZcF l e off<=t/\∀ f,EvOf l f->ZcF l f off<=t->f.nominal<=e.nominal
 | none=>∀ f,EvOf l f->t<ZcF l f off
def stOf (l:List Zab):Option Zad->Int × ByteArray
 | some e=>behS l e
 | none=>iniS l
section
variable {l:List Zab}(h:Zbl l){off t:Int}(ho : -43200<=off/\off<=43200)
include h
theorem Zbl.round {n:Int}(h0 : -40000000000000000<=n)(h1:n<=40000000000000000)(hI:∀ f,EvOf l f->ZcF l f off<=t->f.nominal<n) :
  (befD l n=none/\ZvX l off t none)\/∃ e,befD l n=some e/\EvOf l e/\e.nominal<n/\((ZcF l e off<=t/\ZvX l off t (some e))\/(t<ZcF l e off/\∀ f,EvOf l f->ZcF l f off<=t->f.nominal<e.nominal)):=by
 cases hb:befD l n with
 | none =>
  refine .inl ⟨rfl,fun f hf=>Int.not_le.1 fun hh=>?_⟩
  obtain⟨e,he,_⟩:=h.befD_full h0 h1 hf (hI f hf hh)
  rw[hb]at he
  cases he
 | some e =>
  obtain⟨h2,h3⟩:=Zhn hb
  have hmax:∀ f,EvOf l f->ZcF l f off<=t->f.nominal<=e.nominal:=fun f hf hh=>by
   obtain⟨e',he,hle⟩:=h.befD_full h0 h1 hf (hI f hf hh)
   rw[hb]at he
   cases he
   exact hle
  refine .inr ⟨e,rfl,h2,h3,?_⟩
  by_cases ht:ZcF l e off<=t
  ·exact .inl ⟨ht,h2,ht,hmax⟩
  ·refine .inr ⟨by omega,fun f hf hh=>?_⟩
   have h4:=hmax f hf hh
   by_cases hfe:f=e
   ·subst hfe
    exact absurd hh ht
   ·have:=h.uniq hf h2 hfe
    omega
include ho
theorem Zbl.atS_last (h0 : -3000000000000<=t)(h1:t<=39000000000000000):∃ o,ZvX l off t o/\atS l off t=stOf l o:=by
 have near:=h.inst_near ho
 have I1:∀ f,EvOf l f->ZcF l f off<=t->f.nominal<t+259200:=fun f _ hh=>by have:=near f;omega
 unfold atS
 rcases h.round (t:=t) (off:=off) (n:=t+259200) (by omega) (by omega) I1 with⟨a1,a2⟩|⟨e1,a1,a2,a3,⟨a4,a5⟩|⟨a4,a5⟩⟩
 ·exact⟨none,a2,by rw[atGo,a1];rfl⟩
 ·exact⟨some e1,a5,by rw[atGo,a1];dsimp only;rw[if_pos a4];rfl⟩
 have l1:=h.low a2
 rw[atGo,a1]
 dsimp only
 rw[if_neg (by omega)]
 rcases h.round (t:=t) (off:=off) (n:=e1.nominal) (by omega) (by omega) a5 with⟨b1,b2⟩|⟨e2,b1,b2,b3,⟨b4,b5⟩|⟨b4,b5⟩⟩
 ·exact⟨none,b2,by rw[atGo,b1];rfl⟩
 ·exact⟨some e2,b5,by rw[atGo,b1];dsimp only;rw[if_pos b4];rfl⟩
 have l2:=h.low b2
 have d2:=h.uniq b2 a2 (fun hh=>by rw[hh]at b3;omega)
 rw[atGo,b1]
 dsimp only
 rw[if_neg (by omega)]
 rcases h.round (t:=t) (off:=off) (n:=e2.nominal) (by omega) (by omega) b5 with⟨c1,c2⟩|⟨e3,c1,c2,c3,⟨c4,c5⟩|⟨c4,c5⟩⟩
 ·exact⟨none,c2,by rw[atGo,c1];rfl⟩
 ·exact⟨some e3,c5,by rw[atGo,c1];dsimp only;rw[if_pos c4];rfl⟩
 exfalso
 have d3:=h.uniq c2 b2 (fun hh=>by rw[hh]at c3;omega)
 have:=near e3
 omega
end
theorem ZpK (rs:List Zab):∀ (l:List DEra) (st:Int) (i:Nat) (r:List ZbH),spGo rs l st i=some r->∀ (k:Nat) (x:ZbH),r[k]?=some x ->
  (k=0->x.start=st)/\(∀ j,k=j+1->∃ e p,l[j]?=some e/\r[j]?=some p/\x.start=endT e (ruEr rs e)/\p.fin=x.start/\p.start<p.fin/\j+1<l.length) /\
  ((k+1=l.length/\x.fin=9223372036854775807)\/(k+1<l.length/\x.start<x.fin/\∃ e,l[k]?=some e/\x.fin=endT e (ruEr rs e)))
 | [],_,_,_,h,k,x,hx=>by
  simp only[spGo,Option.some.injEq]at h
  subst h
  simp at hx
 | [e],st,i,r,h,k,x,hx=>by
  simp only[spGo,Option.some.injEq]at h
  subst h
  rcases k with _|k
  ·simp only[List.getElem?_cons_zero,Option.some.injEq]at hx
   subst hx
   exact⟨fun _=>rfl,fun j hj=>by omega,.inl ⟨rfl,rfl⟩⟩
  ·simp at hx
 | e::f::l,st,i,r,h,k,x,hx=>by
  rw[spGo]at h
  by_cases hT:endT e (ruEr rs e)<=st
  ·rw[if_pos hT]at h;cases h
  rw[if_neg hT]at h
  obtain⟨r2,h2,rfl⟩:=Option.map_eq_some_iff.1 h
  rcases k with _|k
  ·simp only[List.getElem?_cons_zero,Option.some.injEq]at hx
   subst hx
   exact⟨fun _=>rfl,fun j hj=>by omega,.inr ⟨by simp,by dsimp only;omega,e,rfl,rfl⟩⟩
  ·simp only[List.getElem?_cons_succ]at hx
   obtain⟨a1,a2,a3⟩:=ZpK rs (f::l) _ (i+1) r2 h2 k x hx
   refine⟨fun hh=>by omega,fun j hj=>?_,?_⟩
   ·obtain rfl:k=j:=by omega
    rcases k with _|k
    ·exact⟨e,_,rfl,rfl,a1 rfl,(a1 rfl).symm,by dsimp only;omega,by simp⟩
    ·obtain⟨g,p,b1,b2,b3,b4,b5,b6⟩:=a2 k rfl
     exact⟨g,p,by simpa using b1,by simpa using b2,b3,b4,b5,by simp only[List.length_cons]at b6 ⊢;omega⟩
   ·rcases a3 with⟨a3,a4⟩|⟨a3,a4,g,a5,a6⟩
    ·exact .inl ⟨by simp only[List.length_cons]at a3 ⊢;omega,a4⟩
    ·exact .inr ⟨by simp only[List.length_cons]at a3 ⊢;omega,a4,g,by simpa using a5,a6⟩
section
variable {rs:List Zab}{l:List DEra}{Y:Nat->Int}(h:Zbo rs l Y){r:List ZbH}(hr:Zn7 rs l=some r)
include h
omit h in
theorem Ztr {k:Nat}{e:DEra}(he:l[k]?=some e){t:Int}(hk:Zgw rs l t=k):Zro rs l t=ZfG e (ZbN rs e t):=by
 unfold Zro
 rw[hk,List.getD_eq_getElem?_getD,he]
 rfl
end
theorem Zbm.st_flat {rs:List Zab}{e:DEra}{b:Bool}(h:Zbm rs e b)(hk:e.kind≠2)(t:Int):ZbN rs e t=(e.save,ByteArray.empty):=by
 unfold ZbN
 rcases h with⟨h0,h1,_⟩|⟨h0,_⟩|⟨h0,_⟩
 ·rw[if_pos h0,h1]
 ·rw[if_neg (by omega),if_pos h0]
 ·exact absurd h0 hk
theorem Zbm.st_set {rs:List Zab}{e:DEra}(hk:e.kind=2)(t:Int):ZbN rs e t=atS (ofB rs e.set) e.off t:=by
 unfold ZbN
 rw[if_neg (by omega),if_neg (by omega)]
theorem Zbm.set2 {rs:List Zab}{e:DEra}{b:Bool}(h:Zbm rs e b)(hk:e.kind=2):b=false/\(-43200<=e.off/\e.off<=43200)/\Zbl (ofB rs e.set)/\0<(ofB rs e.set).length/\(ofB rs e.set).length<=5:=by
 rcases h with⟨h0,_⟩|⟨h0,_⟩|⟨_,h1,_,h2,h3,_,h4,h5⟩
 ·omega
 ·omega
 ·obtain⟨s,_,_,⟨r,hr,_⟩,_⟩:=h4.saves
  exact⟨h1,⟨h2,h3⟩,h4,List.length_pos_of_mem hr,h5⟩
theorem _root_.Go.Wk.DrRule.far30 {a b:Zab}(ha:DrRule a)(hb:DrRule b){least i j y z:Int}{e f:Zad}(hl : -3600<=least/\least<=0)(he:onR least a i y=some e)(hf:onR least b j z=some f)(hd:y=z->Dist a b\/Dist b a) :
  2588400<=e.nominal - f.nominal\/2588400<=f.nominal - e.nominal:=by
 obtain⟨_,_,a1,a2,a3,a4⟩:=ha.ev hl he
 obtain⟨_,_,b1,b2,b3,b4⟩:=hb.ev hl hf
 have la:=ZdR a.month
 have lb:=ZdR b.month
 rcases Int.lt_trichotomy y z with h|h|h
 ·have:=ZdC h
  omega
 ·subst h
  have hs:sea a.month≠sea b.month:=by
   have af:=ha.f1
   have bf:=hb.f1
   rcases hd rfl with(h|h)|(h|h)
   ·have:=a2 (by omega);omega
   ·exact h
   ·have:=b2 (by omega);omega
   ·exact fun hh=>h hh.symm
  have:=Zoc ha.mon hb.mon hs
  omega
 ·have:=ZdC h
  omega
section
variable {l:List Zab}(h:Zbl l)
include h
theorem Zbl.gap {e f:Zad}(he:EvOf l e)(hf:EvOf l f)(hn:e≠f):2588400<=e.nominal - f.nominal\/2588400<=f.nominal - e.nominal:=by
 obtain⟨j,a,y,ha,h2⟩:=he
 obtain⟨k,b,z,hb,h4⟩:=hf
 refine(h.rule a (List.mem_of_getElem? ha)).far30 (h.rule b (List.mem_of_getElem? hb)) h.least h2 h4 fun hyz=>?_
 subst hyz
 refine Zlg h.dist ha hb fun hjk=>hn ?_
 subst hjk
 rw[ha]at hb
 cases hb
 exact Option.some.inj (h2.symm.trans h4)
end
theorem Zlc (z:Int):jan1 (z+1)=mar1 z+306:=by unfold jan1 mar1;omega
theorem ZiJ {y z:Int}(h:y<=z):jan1 y<=jan1 z:=by
 have:=ZcE y (z - y).toNat
 rw[show y+((z - y).toNat:Int)=z by omega]at this
 omega
theorem Zfh {z:Int}(h:0<=z):365*z - 719529<=jan1 z:=by unfold jan1;omega
structure Alt (l:List Zab)(y:Int)(ip iq:Nat)(p q:Zab):Prop where
 set:Zbl l
 y0:y<=3000
 p1:l[ip]?=some p
 q1:l[iq]?=some q
 pt:p.to=1048576
 qt:q.to=1048576
 pf:p.from_<y
 qf:q.from_<y
 lt:hiS p.month+30<=loS q.month
 uni:∀ k r,l[k]?=some r->r.to=1048576->k=ip\/k=iq
 old:∀ r∈l,r.to=1048576\/r.to<y
section
variable {l:List Zab}{y:Int}{ip iq:Nat}{p q:Zab}(h:Alt l y ip iq p q)
include h
theorem Alt.rp:DrRule p:=h.set.rule p (List.mem_of_getElem? h.p1)
theorem Alt.rq:DrRule q:=h.set.rule q (List.mem_of_getElem? h.q1)
theorem Alt.evp {z:Int}(h0:y - 1<=z)(h1:z<=2000000000):∃ e,onR (Zah l) p (ip:Int) z=some e:=h.rp.onY _ _ (by have:=h.pf;omega) (by unfold lastY;rw[if_pos h.pt];exact h1)
theorem Alt.evq {z:Int}(h0:y - 1<=z)(h1:z<=2000000000):∃ e,onR (Zah l) q (iq:Int) z=some e:=h.rq.onY _ _ (by have:=h.qf;omega) (by unfold lastY;rw[if_pos h.qt];exact h1)
theorem Alt.plo {z:Int}{e:Zad}(he:onR (Zah l) p (ip:Int) z=some e):86400*(mar1 z - 29) - 3600<=e.nominal/\e.nominal<=86400*(mar1 z+hiS p.month)/\EvOf l e/\e.rule=(ip:Nat):=by
 obtain⟨_,e2,_,_,e5,e6⟩:=h.rp.ev h.set.least he
 have:=ZdR p.month
 exact⟨by omega,e6,⟨ip,p,z,h.p1,he⟩,e2⟩
theorem Alt.qlo {z:Int}{e:Zad}(he:onR (Zah l) q (iq:Int) z=some e):86400*(mar1 z+loS q.month) - 3600<=e.nominal/\e.nominal<=86400*(mar1 z+245)/\EvOf l e/\e.rule=(iq:Nat):=by
 obtain⟨_,e2,_,_,e5,e6⟩:=h.rq.ev h.set.least he
 have:=ZdR q.month
 exact⟨e5,by omega,⟨iq,q,z,h.q1,he⟩,e2⟩
theorem Alt.cls {f:Zad}(hf:EvOf l f)(hn:86400*(mar1 y - 30)<=f.nominal):∃ z,y<=z/\(onR (Zah l) p (ip:Int) z=some f\/onR (Zah l) q (iq:Int) z=some f):=by
 obtain⟨k,r,z,hk,hz⟩:=hf
 have hm:=List.mem_of_getElem? hk
 obtain⟨_,_,_,e4,_,e6⟩:=(h.set.rule r hm).ev h.set.least hz
 have hb:=ZdR r.month
 have hyz:y<=z:=Int.not_lt.1 fun hh=>by
  have:=ZdC hh
  omega
 refine⟨z,hyz,?_⟩
 rcases h.old r hm with h2|h2
 ·rcases h.uni k r hk h2 with rfl|rfl
  ·have e:=h.p1
   rw[hk]at e
   cases e
   exact .inl hz
  ·have e:=h.q1
   rw[hk]at e
   cases e
   exact .inr hz
 ·have h3:=(h.set.rule r hm).t1
  have h4:=h.y0
  have:=e4 (by omega)
  omega
theorem Alt.pq {z z':Int}{e e':Zad}(he:onR (Zah l) p (ip:Int) z=some e)(he':onR (Zah l) q (iq:Int) z'=some e')(hz:z<=z'):e.nominal<e'.nominal:=by
 have a:=h.plo he
 have b:=h.qlo he'
 have:=h.lt
 have:=Zf1 hz
 omega
theorem Alt.qp {z z':Int}{e e':Zad}(he:onR (Zah l) q (iq:Int) z=some e)(he':onR (Zah l) p (ip:Int) z'=some e')(hz:z<z'):e.nominal<e'.nominal:=by
 have a:=h.qlo he
 have b:=h.plo he'
 have:=ZdC hz
 omega
theorem Alt.low {z:Int}{e:Zad}(he:onR (Zah l) p (ip:Int) z=some e\/onR (Zah l) q (iq:Int) z=some e)(hz:y<=z):86400*(mar1 y - 30)<=e.nominal:=by
 have hm:=Zf1 hz
 rcases he with he|he
 ·have:=h.plo he
  omega
 ·have:=h.qlo he
  have:=ZdR q.month
  omega
theorem Alt.befQ {z:Int}{e:Zad}(he:onR (Zah l) q (iq:Int) z=some e)(hz:y<=z)(hN:e.nominal<=40000000000000000):befS l e.nominal=(p.save,p.letter):=by
 obtain⟨_,_,_,hq4,_⟩:=Zbr he
 obtain⟨g,hg⟩:=h.evp (z:=z) (by omega) hq4
 have hge:=h.pq hg he (Int.le_refl _)
 have hgl:=h.low (.inl hg) hz
 have hlo:=h.set.low (h.qlo he).2.2.1
 obtain⟨e',h1,h2⟩:=h.set.befD_full (n:=e.nominal) (by omega) hN (h.plo hg).2.2.1 hge
 obtain⟨h3,h4⟩:=Zhn h1
 obtain⟨z',hz',hc⟩:=h.cls h3 (by omega)
 unfold befS
 rw[h1]
 dsimp only
 rcases hc with hc|hc
 ·unfold behS ruE
  rw[(h.plo hc).2.2.2,List.getD_eq_getElem?_getD,Int.toNat_natCast,h.p1]
  rfl
 ·exfalso
  rcases Int.lt_or_le z' z with hlt|hle
  ·have:=h.qp hc hg hlt
   omega
  ·rcases Int.lt_or_eq_of_le hle with hlt|rfl
   ·have:=Zd9 he hc hlt
    omega
   ·rw[he]at hc
    cases hc
    omega
theorem Alt.befP {z:Int}{e:Zad}(he:onR (Zah l) p (ip:Int) z=some e)(hz:y+1<=z)(hN:e.nominal<=40000000000000000):befS l e.nominal=(q.save,q.letter):=by
 obtain⟨_,_,_,hq4,_⟩:=Zbr he
 obtain⟨g,hg⟩:=h.evq (z:=z - 1) (by omega) (by omega)
 have hge:=h.qp hg he (by omega)
 have hgl:=h.low (.inr hg) (by omega)
 have hlo:=h.set.low (h.plo he).2.2.1
 obtain⟨e',h1,h2⟩:=h.set.befD_full (n:=e.nominal) (by omega) hN (h.qlo hg).2.2.1 hge
 obtain⟨h3,h4⟩:=Zhn h1
 obtain⟨z',hz',hc⟩:=h.cls h3 (by omega)
 unfold befS
 rw[h1]
 dsimp only
 rcases hc with hc|hc
 ·exfalso
  rcases Int.lt_or_le z' z with hlt|hle
  ·have:=h.pq hc hg (by omega)
   omega
  ·rcases Int.lt_or_eq_of_le hle with hlt|rfl
   ·have:=Zd9 he hc hlt
    omega
   ·rw[he]at hc
    cases hc
    omega
 ·unfold behS ruE
  rw[(h.qlo hc).2.2.2,List.getD_eq_getElem?_getD,Int.toNat_natCast,h.q1]
  rfl
def Zxl (l:List Zab)(r:Zab)(i:Nat)(off s:Int)(bg:Int->Int):Prop:=∀ z,r.from_<=z->z<=2000000000->∃ e,onR (Zah l) r (i:Int) z=some e/\(e.nominal - 100000<=bg z/\bg z<=e.nominal+100000)/\((befS l e.nominal).1=s->bg z=ZcF l e off)
theorem Alt.main {off t:Int}(ho : -43200<=off/\off<=43200){bp bq:Int->Int}(hbp:Zxl l p ip off q.save bp)(hbq:Zxl l q iq off p.save bq){kp kq:Bool}
  (ht0:86400*jan1 (y+1)<=t) (ht1:t<=38000000000000000) {r:Int × Bool} (hr:r=(-4611686018427387904,false)\/(r.1<=t/\∃ j:Nat,j<5/\(r=(bp (ZaA t - 2+(j:Nat)),kp)\/r=(bq (ZaA t - 2+(j:Nat)),kq))))
  (hmax:∀ j:Nat,j<5->(bp (ZaA t - 2+(j:Nat))<=t->bp (ZaA t - 2+(j:Nat))<=r.1)/\(bq (ZaA t - 2+(j:Nat))<=t->bq (ZaA t - 2+(j:Nat))<=r.1)) :
  ∃ e,ZvX l off t (some e)/\((behS l e=(p.save,p.letter)/\r.2=kp)\/(behS l e=(q.save,q.letter)/\r.2=kq)):=by
 have hyl:1900<=y:=by have:=h.pf;have:=h.rp.f0;omega
 have hj0:=Zfh (z:=y+1) (by omega)
 obtain⟨t0,t1⟩:=ZgW (t:=t) (by omega) (by omega)
 obtain⟨Y,hY⟩:∃ Y,ZaA t=Y:=⟨_,rfl⟩
 rw[hY]at t0 t1 hr hmax
 have hYy:y+1<=Y:=Int.not_lt.1 fun hh=>by
  have:=ZiJ (show Y+1<=y+1 by omega)
  omega
 have hYh:Y<=1900000000:=by
  have:=Zfh (z:=Y) (by omega)
  omega
 have jm1:=Zlc (Y - 1)
 rw[show Y - 1+1=Y by omega]at jm1
 have near:=h.set.inst_near ho
 -- the event of the second rule in the year before
 obtain⟨v,hv⟩:=h.evq (z:=Y - 1) (by omega) (by omega)
 obtain⟨v1,v2,v3,v4⟩:=h.qlo hv
 have nv:=near v
 have hvt:ZcF l v off<=t:=by omega
 have hvlo:=h.low (.inr hv) (show y<=Y - 1 by omega)
 obtain⟨o,ho1,_⟩:=h.set.atS_last ho (t:=t) (by omega) (by omega)
 cases o with
 | none=>exact absurd (ho1 v v3) (by omega)
 | some e =>
 obtain⟨e1,e2,e3⟩:=ho1
 have hev:=e3 v v3 hvt
 have ne:=near e
 -- an event behind that one is exact
 have exact_:∀ (z:Int) (f:Zad),v.nominal<=f.nominal->f.nominal<=40000000000000000->(onR (Zah l) p (ip:Int) z=some f->bp z=ZcF l f off)/\(onR (Zah l) q (iq:Int) z=some f->bq z=ZcF l f off):=fun z f hvf hfN=>by
  refine⟨fun hf=>?_,fun hf=>?_⟩
  ·have hz:y+1<=z:=Int.not_lt.1 fun hh=>by
    have:=h.pq hf hv (by omega)
    omega
   obtain⟨_,_,_,z4,_⟩:=Zbr hf
   obtain⟨f',g1,_,g3⟩:=hbp z (by have:=h.pf;omega) z4
   rw[hf]at g1
   cases g1
   exact g3 (by rw[h.befP hf hz hfN])
  ·have hz:y<=z:=Int.not_lt.1 fun hh=>by
    have:=Zd9 hf hv (by omega)
    omega
   obtain⟨_,_,_,z4,_⟩:=Zbr hf
   obtain⟨f',g1,_,g3⟩:=hbq z (by have:=h.qf;omega) z4
   rw[hf]at g1
   cases g1
   exact g3 (by rw[h.befQ hf hz hfN])
 have heN:e.nominal<=40000000000000000:=by omega
 -- the beginning of the last event is among those that are looked at
 obtain⟨z0,hz0,hc⟩:=h.cls e1 (by omega)
 have hz1:Y - 1<=z0:=Int.not_lt.1 fun hh=>by
  rcases hc with hc|hc
  ·have:=h.pq hc hv (by omega)
   omega
  ·have:=Zd9 hc hv (by omega)
   omega
 have hz2:z0<=Y+2:=Int.not_lt.1 fun hh=>by
  have jz:=Zlc z0
  have:=ZcE (Y+1) 2
  have hle:jan1 (Y+1+((2:Nat):Int))<=jan1 (z0+1):=ZiJ (by omega)
  rcases hc with hc|hc
  ·have:=h.plo hc
   omega
  ·have:=h.qlo hc
   have:=ZdR q.month
   omega
 have hjz:Y - 2+((z0 - (Y - 2)).toNat:Nat)=z0:=by omega
 have hm:=hmax (z0 - (Y - 2)).toNat (by omega)
 rw[hjz]at hm
 have hx:=exact_ z0 e hev heN
 have hge:ZcF l e off<=r.1:=by
  rcases hc with hc|hc
  ·have:=hx.1 hc
   have:=hm.1 (by omega)
   omega
  ·have:=hx.2 hc
   have:=hm.2 (by omega)
   omega
 have hstP:∀ {z f},onR (Zah l) p (ip:Int) z=some f->behS l f=(p.save,p.letter):=fun hf=>by
  unfold behS ruE
  rw[(h.plo hf).2.2.2,List.getD_eq_getElem?_getD,Int.toNat_natCast,h.p1]
  rfl
 have hstQ:∀ {z f},onR (Zah l) q (iq:Int) z=some f->behS l f=(q.save,q.letter):=fun hf=>by
  unfold behS ruE
  rw[(h.qlo hf).2.2.2,List.getD_eq_getElem?_getD,Int.toNat_natCast,h.q1]
  rfl
 have hlo:=h.set.low v3
 rcases hr with hr|⟨hrt,j,hj,hr⟩
 ·rw[hr]at hge
  dsimp only at hge
  omega
 ·have hz:y - 1<=Y - 2+(j:Nat)/\Y - 2+(j:Nat)<=2000000000:=by omega
  have fin_:∀ f,EvOf l f->(f.nominal - 100000<=r.1/\r.1<=f.nominal+100000)->(v.nominal<=f.nominal->f.nominal<=40000000000000000->r.1=ZcF l f off)->f=e:=fun f hf hn hx=>by
   by_cases hfe:f=e
   ·exact hfe
   ·have hg:=h.set.gap hf e1 hfe
    have hgt:e.nominal+2588400<=f.nominal:=by omega
    have hfi:=hx (by omega) (by omega)
    have:=e3 f hf (by omega)
    omega
  refine⟨e,⟨e1,e2,e3⟩,?_⟩
  rcases hr with hr|hr
  ·obtain⟨f,f1,f2,f3⟩:=hbp _ (by have:=h.pf;omega) hz.2
   obtain rfl:=fin_ f (h.plo f1).2.2.1 (by rw[hr];exact f2) (fun a b=>by rw[hr];exact(exact_ _ f a b).1 f1)
   exact .inl ⟨hstP f1,by rw[hr]⟩
  ·obtain⟨f,f1,f2,f3⟩:=hbq _ (by have:=h.qf;omega) hz.2
   obtain rfl:=fin_ f (h.qlo f1).2.2.1 (by rw[hr];exact f2) (fun a b=>by rw[hr];exact(exact_ _ f a b).2 f1)
   exact .inr ⟨hstQ f1,by rw[hr]⟩
end
end Go.Proofs.YtdlmhmmhdbbliaaGreatDoor
