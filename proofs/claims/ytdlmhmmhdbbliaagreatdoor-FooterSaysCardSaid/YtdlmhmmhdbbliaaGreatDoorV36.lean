/- Parts of the proof. -/
import Derived.Test.YtdlmhmmhdbbliaaGreatDoorV35
import Derived.Test.YtdlmhmmhdbbliaaGreatDoorV14
import Derived.Test.YtdlmhmmhdbbliaaGreatDoorV15
import Derived.Test.YtdlmhmmhdbbliaaGreatDoorV34
set_option maxHeartbeats 4000000
set_option linter.unusedVariables false
set_option linter.unusedSimpArgs false
namespace Go.Proofs.YtdlmhmmhdbbliaaGreatDoor
open Go Go.RowKit Go.Wk
def seU (a:Option Nat × Option Nat)(r:Zab)(i:Nat):Option Nat × Option Nat:=if r.save=0 then (a.1,some i) else (some i,a.2)
theorem ZtW:∀ (l:List Zab) (i:Nat) (a:Option Nat × Option Nat),(l.filter fun r=>decide (r.to=1048576))=[]->seF l i a=a/\∀ (k:Nat) r,l[k]?=some r->r.to≠1048576
 | [],_,_,_=>⟨rfl,fun k r h=>by simp at h⟩
 | x::l,i,a,h=>by
  rw[List.filter_cons]at h
  by_cases hx:x.to=1048576
  ·rw[if_pos (decide_eq_true hx)]at h;cases h
  rw[if_neg (by simp[hx])]at h
  obtain⟨h1,h2⟩:=ZtW l (i+1) a h
  rw[seF,if_neg hx]
  refine⟨h1,fun k r hk=>?_⟩
  rcases k with _|k
  ·simp only[List.getElem?_cons_zero,Option.some.injEq]at hk
   subst hk
   exact hx
  ·exact h2 k r (by simpa using hk)
theorem ZxF {b:Zab}:∀ (l:List Zab) (i:Nat) (a:Option Nat × Option Nat),(l.filter fun r=>decide (r.to=1048576))=[b]->∃ k,l[k]?=some b/\b.to=1048576/\seF l i a=seU a b (i+k)/\∀ (j:Nat) r,l[j]?=some r->r.to=1048576->j=k
 | [],_,_,h=>by cases h
 | x::l,i,a,h=>by
  rw[List.filter_cons]at h
  by_cases hx:x.to=1048576
  ·rw[if_pos (decide_eq_true hx)]at h
   obtain⟨h9,h8⟩:=List.cons.inj h
   subst h9
   obtain⟨h1,h2⟩:=ZtW l (i+1) (seU a x i) h8
   refine⟨0,rfl,hx,?_,fun j r hj hr=>?_⟩
   ·rw[seF,if_pos hx]
    exact h1
   ·rcases j with _|j
    ·rfl
    ·exact absurd hr (h2 j r (by simpa using hj))
  ·rw[if_neg (by simp[hx])]at h
   obtain⟨k,h1,h2,h3,h4⟩:=ZxF l (i+1) a h
   refine⟨k+1,by simpa using h1,h2,?_,fun j r hj hr=>?_⟩
   ·rw[seF,if_neg hx,h3,show i+(k+1)=i+1+k by omega]
   ·rcases j with _|j
    ·simp only[List.getElem?_cons_zero,Option.some.injEq]at hj
     subst hj
     exact absurd hr hx
    ·rw[h4 j r (by simpa using hj) hr]
theorem ZxE {b c:Zab}:∀ (l:List Zab) (i:Nat) (a:Option Nat × Option Nat),(l.filter fun r=>decide (r.to=1048576))=[b,c]->∃ k m,k≠m/\l[k]?=some b/\l[m]?=some c/\b.to=1048576/\c.to=1048576/\seF l i a=seU (seU a b (i+k)) c (i+m)/\∀ (j:Nat) r,l[j]?=some r->r.to=1048576->j=k\/j=m
 | [],_,_,h=>by cases h
 | x::l,i,a,h=>by
  rw[List.filter_cons]at h
  by_cases hx:x.to=1048576
  ·rw[if_pos (decide_eq_true hx)]at h
   obtain⟨h9,h8⟩:=List.cons.inj h
   subst h9
   obtain⟨m,h1,h2,h3,h4⟩:=ZxF l (i+1) (seU a x i) h8
   refine⟨0,m+1,by omega,rfl,by simpa using h1,hx,h2,?_,fun j r hj hr=>?_⟩
   ·rw[seF,if_pos hx]
    show seF l (i+1) (seU a x i)=_
    rw[h3,show i+(m+1)=i+1+m by omega]
    rfl
   ·rcases j with _|j
    ·exact .inl rfl
    ·exact .inr (by rw[h4 j r (by simpa using hj) hr])
  ·rw[if_neg (by simp[hx])]at h
   obtain⟨k,m,h0,h1,h2,h3,h4,h5,h6⟩:=ZxE l (i+1) a h
   refine⟨k+1,m+1,by omega,by simpa using h1,by simpa using h2,h3,h4,?_,fun j r hj hr=>?_⟩
   ·rw[seF,if_neg hx,h5,show i+(k+1)=i+1+k by omega,show i+(m+1)=i+1+m by omega]
   ·rcases j with _|j
    ·simp only[List.getElem?_cons_zero,Option.some.injEq]at hj
     subst hj
     exact absurd hr hx
    ·rcases h6 j r (by simpa using hj) hr with h|h
     ·exact .inl (by rw[h])
     ·exact .inr (by rw[h])
theorem Zfg {l:List Zab}(h:ZiF l=true):(seF l 0 (none,none)=(none,none)/\∀ (k:Nat) r,l[k]?=some r->r.to≠1048576) \/
  ∃ i j a b,i≠j/\l[i]?=some a/\l[j]?=some b/\a.to=1048576/\b.to=1048576/\a.save≠0/\b.save=0/\seF l 0 (none,none)=(some i,some j)/\∀ (k:Nat) r,l[k]?=some r->r.to=1048576->k=i\/k=j:=by
 unfold ZiF at h
 split at h
 ·rename_i he
  exact .inl (ZtW l 0 _ he)
 ·rename_i b c he
  obtain⟨k,m,h0,h1,h2,h3,h4,h5,h6⟩:=ZxE l 0 (none,none) he
  rw[Nat.zero_add,Nat.zero_add]at h5
  have hbc:(decide (b.save=0) != decide (c.save=0))=true:=by
   simp only[Bool.and_eq_true]at h
   exact h.1.1.1
  by_cases hb:b.save=0
  ·have hc:c.save≠0:=fun hc=>by rw[decide_eq_true hb,decide_eq_true hc]at hbc;cases hbc
   refine .inr ⟨m,k,c,b,fun hh=>h0 hh.symm,h2,h1,h4,h3,hc,hb,?_,fun j r hj hr=>(h6 j r hj hr).symm⟩
   rw[h5]
   unfold seU
   rw[if_neg hc,if_pos hb]
  ·have hc:c.save=0:=by
    by_cases hc:c.save=0
    ·exact hc
    ·rw[decide_eq_false hb,decide_eq_false hc]at hbc;cases hbc
   refine .inr ⟨k,m,b,c,h0,h1,h2,h3,h4,hb,hc,?_,h6⟩
   rw[h5]
   unfold seU
   rw[if_pos hc,if_neg hb]
 ·cases h
theorem Ztg:2000000000<=ZaA 1152921504606846976:=by decide +kernel
theorem Zbl.never {l:List Zab}(h:Zbl l){y:Int}(hy:y<=3000)(hold:∀ r∈l,r.to<y){off t:Int}(ho : -43200<=off/\off<=43200)(h0:86400*jan1 y<=t)(h1:t<=38000000000000000) :
  ∃ x,befD l 1152921504606846976=some x/\EvOf l x/\atS l off t=behS l x:=by
 have full:∀ f,EvOf l f->∃ e,befD l 1152921504606846976=some e/\f.nominal<=e.nominal:=fun f hf=>by
  obtain⟨j,r,z,hj,hz⟩:=hf
  have hm:=List.mem_of_getElem? hj
  have hr:=h.rule r hm
  have hl:=hr.lastYr
  have ho:=hold r hm
  have ht:=hr.t1
  have hly:lastY r=r.to/\r.to<=2149:=by unfold lastY;rw[if_neg (by omega)];omega
  obtain⟨g,hg⟩:=hr.onY (Zah l) (j:Int) (y:=lastY r) hl.1 (Int.le_refl _)
  have hzl:=ZpY hz
  have hfg:f.nominal<=g.nominal:=by
   rcases Int.lt_or_eq_of_le hzl with hlt|rfl
   ·exact Int.le_of_lt (Zd9 hz hg hlt)
   ·rw[hz]at hg
    cases hg
    exact Int.le_refl _
  have hgn:g.nominal<1152921504606846976:=by
   have:=(hr.ev h.least hg).2.2.2.2.2
   have hb:=ZdR r.month
   have hm2:mar1 (lastY r)<=mar1 2149:=Zf1 (by omega)
   have h6:mar1 2149<=70000:=by decide
   omega
  have hnf:=Ztg
  obtain⟨e',k1,k2⟩:=ZgG (Zah l) 1152921504606846976 r (j:Int) 20 (min (lastY r) (ZaA 1152921504606846976+2)) 0 g (by decide) (by
   rw[show min (lastY r) (ZaA 1152921504606846976+2) - ((0:Nat):Int)=lastY r by omega];exact hg) hgn
  obtain⟨e,k3,k4⟩:=Zhm (Zah l) 1152921504606846976 (ZaA 1152921504606846976) l 0 none j r e' hj (by rw[Nat.zero_add];exact k1)
  exact⟨e,k3,by omega⟩
 have near:=h.inst_near ho
 have early:∀ f,EvOf l f->ZcF l f off<=t:=fun f hf=>by
  have nf:=near f
  obtain⟨j,r,z,hj,hz⟩:=hf
  have hm:=List.mem_of_getElem? hj
  obtain⟨_,_,_,e4,_,e6⟩:=(h.rule r hm).ev h.least hz
  have ho:=hold r hm
  have ht:=(h.rule r hm).t1
  have:=e4 (by omega)
  have hb:=ZdR r.month
  have hmm:mar1 z<=mar1 (y - 1):=Zf1 (by omega)
  have:=Zlc (y - 1)
  rw[show y - 1+1=y by omega]at this
  omega
 obtain⟨s,_,_,⟨r,hr,_⟩,_⟩:=h.saves
 obtain⟨j,hj⟩:=List.mem_iff_getElem?.1 hr
 have hrr:=h.rule r hr
 obtain⟨g,hg⟩:=hrr.onY (Zah l) (j:Int) (y:=r.from_) (Int.le_refl _) hrr.lastYr.1
 have hgE:EvOf l g:=⟨j,r,_,hj,hg⟩
 obtain⟨x,hx,_⟩:=full g hgE
 obtain⟨hxE,_⟩:=Zhn hx
 have hge:=early g hgE
 have hlo:=h.low hgE
 have ng:=near g
 obtain⟨o,o1,o2⟩:=h.atS_last ho (t:=t) (by omega) (by omega)
 refine⟨x,hx,hxE,?_⟩
 rw[o2]
 cases o with
 | none=>exact absurd (o1 g hgE) (by omega)
 | some e =>
  obtain⟨e1,_,e3⟩:=o1
  have q1:=e3 x hxE (early x hxE)
  obtain⟨x',hx',q2⟩:=full e e1
  rw[hx]at hx'
  cases hx'
  rw[h.eq e1 hxE (by omega)]
  rfl
def ofF (s:Zai)(l:List DEra):ZaQ :=
 if (ZdD l).kind=2 then
  match seF (ofB s.rules (ZdD l).set) 0 (none,none) with
  | (some i,some j)=>Zga (ZdD l) ((ofB s.rules (ZdD l).set).getD i dR0) ((ofB s.rules (ZdD l).set).getD j dR0)
  | _=>match befD (ofB s.rules (ZdD l).set) 1152921504606846976 with
   | some x=>Za4 (ZdD l) (ruE (ofB s.rules (ZdD l).set) x).save (ruE (ofB s.rules (ZdD l).set) x).letter
   | none=>Za4 (ZdD l) 0 ByteArray.empty
 else Za4 (ZdD l) (ZdD l).save ByteArray.empty
theorem Zit {e:DEra}{x:Int × ByteArray}(hf:e.format∈fmtU)(hx:DrSt e x){t:Int}(ht : -40000000000000000<=t/\t<=40000000000000000):pxAt (Za4 e x.1 x.2) t=ZfG e x:=by
 obtain⟨_,hab⟩:=Zo2 hf hx
 obtain⟨h1,h2,_⟩:=hx
 unfold Za4 pxAt ZfG
 by_cases h0:x.1=0
 ·rw[if_pos h0]
  dsimp only
  rw[if_neg (by rintro⟨hh,_⟩;exact hh rfl),h0,Int.add_zero]
  rfl
 ·rw[if_neg h0]
  have hp:=ZsT (p:=⟨xxxB,e.off,ZcX e x.1 x.2,e.off+x.1,⟨2,0,0,0,0⟩,⟨1,365,0,0,86400+x.1⟩⟩) (save:=x.1) (t:=t) rfl rfl rfl (by dsimp only;omega) ht
  rw[if_pos ⟨hab,hp⟩,decide_eq_false h0]
  rfl
theorem Zbm.off_bd {rs:List Zab}{e:DEra}{b:Bool}(h:Zbm rs e b) : -46800<=e.off/\e.off<=46800:=by
 rcases h with⟨_,_,_,h1,h2,_⟩|⟨_,_,_,h1,h2,_⟩|⟨_,_,_,h1,h2,_⟩ <;> omega
theorem Zra {R:List Zab}{e:DEra}(hS:Zbl R)(ho : -43200<=e.off/\e.off<=43200)(hf:e.format∈fmtU)(hst:∀ r∈R,DrSt e (r.save,r.letter)){y:Int}(hy:y<=3000)(hold:∀ r∈R,r.from_<y/\(r.to=1048576\/r.to<y))
  {i j:Nat} {a b:Zab} (hij:i≠j) (hi:R[i]?=some a) (hj:R[j]?=some b) (ha:a.to=1048576) (hb:b.to=1048576) (hsa:a.save≠0) (hsb:b.save=0) (hu:∀ (k:Nat) r,R[k]?=some r->r.to=1048576->k=i\/k=j)
  {t:Int} (h0:86400*jan1 (y+1)<=t) (h1:t<=38000000000000000):pxAt (Zga e a b) t=ZfG e (atS R e.off t):=by
 have hma:=List.mem_of_getElem? hi
 have hmb:=List.mem_of_getElem? hj
 have hra:=hS.rule a hma
 have hrb:=hS.rule b hmb
 have hva:=hS.save0 a hma
 obtain⟨xa,da,ba⟩:=ZtT hra hi ha (n:=e.off) (b:=0) (by omega) (by omega)
 obtain⟨xb,db,bb⟩:=ZtT hrb hj hb (n:=e.off) (b:=a.save) (by omega) (by omega)
 have hin:∀ z,1900<=z->z<=2000000000->inY z=true:=fun z z0 z1=>by unfold inY;rw[decide_eq_true (by omega),decide_eq_true (by omega)];rfl
 have hfa:=hra.f0
 have hfb:=hrb.f0
 have hba:Zxl R a i e.off b.save (fun z=>86400*Zby xa z+xa.sec - e.off):=fun z z0 z1=>by
  obtain⟨v,v1,v2,v3⟩:=ba z (hin z (by omega) z1) z0 z1
  refine⟨v,v1,by dsimp only;omega,fun hs=>?_⟩
  have:=v3 (by omega)
  dsimp only
  omega
 have hbb:Zxl R b j e.off a.save (fun z=>86400*Zby xb z+xb.sec - (e.off+a.save)):=fun z z0 z1=>by
  obtain⟨v,v1,v2,v3⟩:=bb z (hin z (by omega) z1) z0 z1
  refine⟨v,v1,by dsimp only;omega,fun hs=>?_⟩
  have:=v3 hs
  dsimp only
  omega
 have hp:Zga e a b=⟨ZcX e b.save b.letter,e.off,ZcX e a.save a.letter,e.off+a.save,xa,xb⟩:=by
  unfold Zga
  rw[da,db]
 rw[hp]
 have hdst:ZcX e a.save a.letter≠ByteArray.empty:=(Zo2 hf (hst a hma)).2
 generalize hP:(⟨ZcX e b.save b.letter,e.off,ZcX e a.save a.letter,e.off+a.save,xa,xb⟩:ZaQ)=P
 have hbeg:∀ z,Zq9 P z=[(86400*Zby xa z+xa.sec - e.off,true),(86400*Zby xb z+xb.sec - (e.off+a.save),false)]:=fun z=>by rw[<- hP];rfl
 obtain⟨m1,_,m3⟩:=ZsS t (Zgi P (ZaA t - 2) 5) (-4611686018427387904,false)
 have hL:ZcO P t=List.foldl (ZaX t) (-4611686018427387904,false) (Zgi P (ZaA t - 2) 5):=rfl
 have hno:∀ {x r:Int × Bool},pxNo x r->x.1<=r.1:=fun hh=>by
  rcases hh with hh|⟨hh,_⟩ <;> omega
 have hmx:∀ j:Nat,j<5->(86400*Zby xa (ZaA t - 2+(j:Nat))+xa.sec - e.off<=t->86400*Zby xa (ZaA t - 2+(j:Nat))+xa.sec - e.off<=(ZcO P t).1) /\
   (86400*Zby xb (ZaA t - 2+(j:Nat))+xb.sec - (e.off+a.save)<=t->86400*Zby xb (ZaA t - 2+(j:Nat))+xb.sec - (e.off+a.save)<=(ZcO P t).1):=fun j hj=>by
  refine⟨fun hh=>?_,fun hh=>?_⟩
  ·have:=hno (m3 (86400*Zby xa (ZaA t - 2+(j:Nat))+xa.sec - e.off,true) ((ZdM 5 _).2 ⟨j,hj,by rw[hbeg];exact List.mem_cons_self⟩) hh)
   rw[hL]
   exact this
  ·have:=hno (m3 (86400*Zby xb (ZaA t - 2+(j:Nat))+xb.sec - (e.off+a.save),false) ((ZdM 5 _).2 ⟨j,hj,by rw[hbeg];exact List.mem_cons_of_mem _ List.mem_cons_self⟩) hh)
   rw[hL]
   exact this
 have hin5:ZcO P t=(-4611686018427387904,false)\/((ZcO P t).1<=t/\∃ j:Nat,j<5/\(ZcO P t=(86400*Zby xa (ZaA t - 2+(j:Nat))+xa.sec - e.off,true)\/ZcO P t=(86400*Zby xb (ZaA t - 2+(j:Nat))+xb.sec - (e.off+a.save),false))):=by
  rw[hL]
  rcases m1 with m1|⟨m1,m2⟩
  ·exact .inl m1
  ·obtain⟨j,hj,hin⟩:=(ZdM 5 _).1 m1
   rw[hbeg]at hin
   refine .inr ⟨m2,j,hj,?_⟩
   rcases List.mem_cons.1 hin with hin|hin
   ·exact .inl hin
   ·exact .inr (List.mem_singleton.1 hin)
 have hres:∃ v,ZvX R e.off t (some v)/\((behS R v=(a.save,a.letter)/\(ZcO P t).2=true)\/(behS R v=(b.save,b.letter)/\(ZcO P t).2=false)):=by
  have hsea:sea a.month≠sea b.month:=by
   have:=hra.f1
   have:=hrb.f1
   rcases Zlg hS.dist hi hj hij with(hh|hh)|(hh|hh)
   ·omega
   ·exact hh
   ·omega
   ·exact fun h=>hh h.symm
  have hA:=hold a hma
  have hB:=hold b hmb
  rcases Zoc hra.mon hrb.mon hsea with hlt|hlt
  ·have hAlt:Alt R y i j a b:=⟨hS,hy,hi,hj,ha,hb,hA.1,hB.1,hlt,hu,fun r hr=>(hold r hr).2⟩
   exact hAlt.main ho hba hbb h0 h1 hin5 hmx
  ·have hAlt:Alt R y j i b a:=⟨hS,hy,hj,hi,hb,ha,hB.1,hA.1,hlt,fun k r hk hr=>(hu k r hk hr).symm,fun r hr=>(hold r hr).2⟩
   obtain⟨v,v1,v2⟩:=hAlt.main ho hbb hba h0 h1 (kp:=false) (kq:=true) (r:=ZcO P t)
    (by rcases hin5 with h|⟨h,j,hj,h2⟩
        ·exact .inl h
        ·exact .inr ⟨h,j,hj,h2.symm⟩)
    (fun j hj=>⟨(hmx j hj).2,(hmx j hj).1⟩)
   exact⟨v,v1,v2.symm⟩
 obtain⟨v,v1,v2⟩:=hres
 have hyl:=hold a hma
 have hj0:=Zfh (z:=y+1) (by omega)
 obtain⟨o,o1,o2⟩:=hS.atS_last ho (t:=t) (by omega) (by omega)
 have hov:atS R e.off t=behS R v:=by
  rw[o2]
  obtain⟨w1,w2,w3⟩:=v1
  cases o with
  | none=>exact absurd (o1 v w1) (by omega)
  | some u =>
   obtain⟨u1,u2,u3⟩:=o1
   have q1:=u3 v w1 w2
   have q2:=w3 u u1 u2
   rw[hS.eq u1 w1 (by omega)]
   rfl
 rw[hov]
 unfold pxAt
 rcases v2 with⟨v2,v3⟩|⟨v2,v3⟩
 ·rw[v2,if_pos ⟨by rw[<- hP];exact hdst,v3⟩,<- hP]
  unfold ZfG
  dsimp only
  rw[decide_eq_false hsa]
  rfl
 ·rw[v2,if_neg (by rintro⟨_,hh⟩;rw[v3]at hh;cases hh),<- hP]
  unfold ZfG
  dsimp only
  rw[hsb,Int.add_zero]
  rfl
theorem Zbo.last_at {s:Zai}{l:List DEra}{Y:Nat->Int}(h:Zbo s.rules l Y){t:Int}(h0:86400*jan1 (Zch s l+1)<=t)(h1:t<=38000000000000000):Zgw s.rules l t=l.length - 1:=by
 obtain⟨r,hr⟩:=h.sp
 have hlen:=h.len
 obtain⟨y0,_,y2,_⟩:=ZkV h
 have hj0:=Zfh (z:=Zch s l+1) (by omega)
 obtain⟨x,a1,a2,_,_,a5,a6⟩:=Zn5 hr (List.length_pos_iff.1 (by omega)) (t:=t) (by omega) (by omega)
 obtain⟨_,_,b3⟩:=ZpK s.rules l _ 0 r hr _ x a2
 rcases b3 with⟨b3,_⟩|⟨b3,_,e,b5,b6⟩
 ·omega
 ·exfalso
  have hT:=h.til _ e b5
  rw[if_pos b3]at hT
  have hy:=h.yr _ b3
  obtain⟨_,_,c2⟩:=(h.era _ e b5).un hT hy
  have hey:=y2 _ e b3 b5
  have hyr:Y (Zgw s.rules l t)+1<=Zch s l:=by
   rcases hT with⟨_,_,_,q,_⟩|⟨_,_,_,q,_⟩ <;> rw[q]at hey <;> dsimp only at hey <;> omega
  have:=Zlc (Y (Zgw s.rules l t))
  have:=ZiJ (show Y (Zgw s.rules l t)+1<=Zch s l from hyr)
  have:=ZcE (Zch s l) 1
  have e1:Zch s l+((1:Nat):Int)=Zch s l+1:=by omega
  rw[e1]at this
  omega
theorem Zzl {s:Zai}{l:List DEra}{Y:Nat->Int}(h:Zbo s.rules l Y){t:Int}(h0:86400*jan1 (Zch s l+1)<=t)(h1:t<=38000000000000000):pxAt (ofF s l) t=Zro s.rules l t:=by
 have hlen:=h.len
 obtain⟨e,he,e2⟩:=Zdh (l:=l) (k:=l.length - 1) (d:=dE0) (by omega)
 have hE:=h.era _ e he
 obtain⟨y0,y1,_,y3⟩:=ZkV h
 rw[Ztr he (h.last_at h0 h1)]
 have hle:ZdD l=e:=e2
 unfold ofF
 unfold Za9 at y3
 rw[hle]at y3 ⊢
 have hj0:=Zfh (z:=Zch s l+1) (by omega)
 have ht : -40000000000000000<=t/\t<=40000000000000000:=by omega
 by_cases h2:e.kind=2
 ·rw[if_pos h2]at y3
  rw[if_pos h2,Zbm.st_set h2]
  obtain⟨_,ho,hS,_⟩:=hE.set2 h2
  generalize hR:ofB s.rules e.set=R at *
  have hst:=hE.st2 (by omega) (by omega)
  rw[hR]at hst
  rcases Zfg hS.last with⟨c1,c2⟩|⟨i,j,a,b,c1,c2,c3,c4,c5,c6,c7,c8,c9⟩
  ·rw[c1]
   dsimp only
   have hj1:=ZcE (Zch s l) 1
   have e1:Zch s l+((1:Nat):Int)=Zch s l+1:=by omega
   rw[e1]at hj1
   obtain⟨x,x1,x2,x3⟩:=hS.never (y:=Zch s l) (by omega) (fun r hr=>by
    obtain⟨k,hk⟩:=List.mem_iff_getElem?.1 hr
    rcases(y3 r hr).2.2 with hh|hh
    ·exact absurd hh (c2 k r hk)
    ·exact hh) ho (t:=t) (by omega) h1
   rw[x1,x3]
   dsimp only
   obtain⟨k,r,z,hk,hz⟩:=x2
   have hru:ruE R x=r:=by
    unfold ruE
    rw[(Zbr hz).2.1,List.getD_eq_getElem?_getD,Int.toNat_natCast,hk]
    rfl
   unfold behS
   rw[hru]
   exact Zit (x:=(r.save,r.letter)) hE.fmt (hst r (List.mem_of_getElem? hk)) ht
  ·rw[c8]
   dsimp only
   rw[List.getD_eq_getElem?_getD,List.getD_eq_getElem?_getD,c2,c3]
   exact Zra hS ho hE.fmt hst (y:=Zch s l) (by omega) (fun r hr=>(y3 r hr).2) c1 c2 c3 c4 c5 c6 c7 c9 h0 h1
 ·rw[if_neg h2,hE.st_flat h2]
  refine Zit (x:=(e.save,ByteArray.empty)) hE.fmt ?_ ht
  have:=hE.state 0
  rw[hE.st_flat h2]at this
  exact this
end Go.Proofs.YtdlmhmmhdbbliaaGreatDoor
set_option maxHeartbeats 4000000
namespace Go.Proofs.YtdlmhmmhdbbliaaGreatDoor
open Go Go.RowKit Go.Wk
attribute [local irreducible] W RL Does Zau Zak retQ Calls Pu Stp RD Qy Ay Zaj RLI WI
theorem Zrr (Ar Az Al As:Option Addr)(cr cz cl cs:Nat)(a:Zai)(name:ByteArray)(w:World)(hA:Zav w Ar Az Al As cr cz cl cs a)(hn:a.zones.length+a.links.length<=1000000) :
  Does Tryz.prog 96 [srcV Ar Az Al As cr cz cl cs a,.string name] w (fun v O=>v = .tuple #[.int .i64 (Zbd a (a.links.length+1) [] name).1,.int .i64 (Zbd a (a.links.length+1) [] name).2]/\O=[]):=by
 obtain⟨res,hres⟩:∃ res,Zbd a (a.links.length+1) [] name=res:=⟨_,rfl⟩
 rw[hres]
 refine Zaa Tryz.func96 rfl rfl rfl rfl ?_
 repeat (first|refine walk ?_|(refine jg ?_;(try intro F);(first|(apply Zag (h:=fun w' hw _=>ZiB Ar Az Al As cr cz cl cs a w' (hA.up hw) (by omega));rfl;rintro v O' ⟨b1,m1,rfl,rfl,i1,d1,n1⟩)|(apply Zag (h:=fun w' hw _=>Zgn Ar Az Al As cr cz cl cs a w' (hA.up hw) (by omega));rfl;rintro v O' ⟨b2,m2,rfl,rfl,i2,d2,n2⟩)|(refine Za1 (fun w' hw hO=>ZiO Ar Az Al As cr cz cl cs a b1 b2 m1 m2 name w' (hA.up hw) (hO.of (A := .mp b1 m1) (by repeat' constructor)) (hO.of (A := .mp b2 m2) (by repeat' constructor)) i1 i2 d2 n2) ?_)|(refine bx ?_;intro bk));refine fin ?_)|(refine jn ?_;(try intro F);(first|(refine bx ?_;intro bk)|(apply Zae;exact PuA));refine fin ?_))
 rw[hres]
 exact rtB
end Go.Proofs.YtdlmhmmhdbbliaaGreatDoor
namespace Go.Proofs.YtdlmhmmhdbbliaaGreatDoor
open Go Go.RowKit Go.Wk
attribute [local irreducible] W RL Does Zau Zak retQ Calls Pu Stp RD Qy Ay Zaj
theorem ZqQ (Ar Az Al As:Option Addr)(cr cz cl cs:Nat)(a:Zai)(name:ByteArray)(p:ZaB)(e:Int)(w:World)(h:ZdG w Ar Az Al As cr cz cl cs a)(hf:accD a=some (p,e)) :
  Does Tryz.prog 64 [srcV Ar Az Al As cr cz cl cs a,.string name] w (fun v O=>v = .tuple #[.int .i64 0,.int .i64 e]/\O=[]):=by
 have ha:=fun w' (hw:Bel w.heap.size w w')=>ZBC Ar Az Al As cr cz cl cs a p e w' (h.up hw) hf
 have hb:(!decide (e=0))=true:=by rw[decide_eq_false (ZzH hf)];rfl
 refine Zaa Tryz.func64 rfl rfl rfl rfl ?_
 repeat (first|(apply RL_pu;rfl;(apply Zaz;rfl;rfl;exact hb))|(refine js ?_;(first|(apply Zag (h:=fun w' hw _=>ha w' hw);rfl;rintro v O' ⟨⟨p1,p2,p3,rfl⟩,rfl⟩)|(refine bx ?_;intro bk)))|refine walk1 ?_)
 exact rtB
theorem Zsb (Ar Az Al As:Option Addr)(cr cz cl cs:Nat)(a:Zai)(name:ByteArray)(w:World)(h:ZdG w Ar Az Al As cr cz cl cs a)(hf:accD a=none)(hn:a.zones.length+a.links.length<=1000000) :
  Does Tryz.prog 64 [srcV Ar Az Al As cr cz cl cs a,.string name] w (fun v O=>v = .tuple #[.int .i64 (Zbd a (a.links.length+1) [] name).1,.int .i64 (Zbd a (a.links.length+1) [] name).2]/\O=[]):=by
 have ha:=fun w' (hw:Bel w.heap.size w w')=>ZAR Ar Az Al As cr cz cl cs a w' (h.up hw) hf
 have hl:=fun w' (hw:Bel w.heap.size w w')=>Zrr Ar Az Al As cr cz cl cs a name w' (h.A.up hw) hn
 generalize Zbd a (a.links.length+1) [] name=x at *
 refine Zaa Tryz.func64 rfl rfl rfl rfl ?_
 repeat (first|(refine js ?_;(first|(refine Zac ha ?_)|(refine Zac hl ?_)|(refine bx ?_;intro bk)))|refine walk ?_)
 exact rtB
def tOk (t:Int):Bool:=decide (-36028797018963968<=t)&&decide (t<=36028797018963968)
theorem Zih {t:Int}:tOk t=true↔-36028797018963968<=t/\t<=36028797018963968:=by unfold tOk;simp
theorem ZA8 {G:Prop}(h:G:=by(apply ZaS;rfl;rfl;exact b1)):G:=h
theorem ZA7 {G:Prop}(h:G:=by(first|exact ZA8|(apply ZaC;rfl;rfl;exact b2))):G:=h
theorem Zvr {G:Prop}(h:G:=by(first|exact ZA7|(apply Pu_indexAddr;rfl;rfl;omega;omega;exact hnz)|(apply Pu_loadON;rfl;exact hcz;rfl))):G:=h
theorem ZxT {G:Prop}(h:G:=by first|(apply Qy_y;rfl;exact Zvr)|exact QyA):G:=h
theorem Zx5 {G:Prop}(h:G:=by repeat (first|exact QF.nil|(apply QF.mk;rfl;rfl;decide +kernel;exact ZxT))):G:=h
theorem ZtQ (Ar Az Al As:Option Addr)(cr cz cl cs:Nat)(a:Zai)(name:ByteArray)(t:Int)(i:Nat)(z:Za5)(l:List ZbH)(x:ZbH)(Ae:Option Addr)(ce:Nat)(w:World)(h:ZdG w Ar Az Al As cr cz cl cs a)(ht:tOk t=true)
  (hz:∀ w',Bel w.heap.size w w'->Does Tryz.prog 64 [srcV Ar Az Al As cr cz cl cs a,.string name] w' (fun v O=>v = .tuple #[.int .i64 i,.int .i64 0]/\O=[]))
  (hi:a.zones[i]?=some z) (hnz:Az≠none) (hcz:Zal w ((adr Az).add (i*2)) [.string z.name,.slice Ae z.eras.length ce])
  (hE:∀ k e,z.eras[k]?=some e->k+1<z.eras.length->RsSm (ruEr a.rules e)/\UnOk e (ruEr a.rules e)) (hl:Zn7 a.rules z.eras=some l) (hx:Zj0 l t=(x,true)) :
  Does Tryz.prog 25 [srcV Ar Az Al As cr cz cl cs a,.string name,.int .i64 t] w (fun v O=>v = .tuple #[.agg #[.string z.name,.slice Ae z.eras.length ce],.int .i64 x.era,.int .i64 0]/\O=[]):=by
 have h2:=Zih.1 ht
 have b1:decide (t < -36028797018963968)=false:=decide_eq_false (by omega)
 have b2:decide (36028797018963968<t)=false:=decide_eq_false (by omega)
 have hil:i<a.zones.length:=(List.getElem?_eq_some_iff.1 hi).1
 have hlz:=h.A.zle
 have hlc:=h.A.zcap
 simp only[maxLen]at hlc
 have hsp:=fun w' (hw:Bel w.heap.size w w')=>Zq0 Ar Az Al As cr cz cl cs a i z l w' (h.G.up hw) (h.A.up hw) h.S.nr (h.S.zs z (List.mem_of_getElem? hi)).2.1 hi hE hl
 have hfi:=fun(A:Option Addr) (c:Nat) w' (hR:RdSl w' A c ZbH.enc 3 l)=>Zn6 A c l t w' hR
 rw[hx]at hfi
 clear hx hl hE hi
 obtain⟨x1,x2,x3⟩:=x
 simp only[ZbH.enc]at hfi
 refine Zaa Tryz.func25 rfl rfl rfl rfl ?_
 repeat (first|refine und ?_|(apply RL_pu;rfl;exact Zvr)|(apply RD_Q;rfl;rfl;decide +kernel;rfl;rfl;exact ZxT)|refine walk1 ?_|(refine jg ?_;(try intro F);(first|(refine Zac hz ?_)|(apply Zag (h:=fun w' hw _=>hsp w' hw);rfl;rintro v O' ⟨A3,c3,rfl,rfl⟩)|(refine Za1 (fun w' hw hO=>hfi A3 c3 w' (Zbn ZbH.len (hO.of (by repeat' constructor)))) ?_)|(refine bx ?_;intro bk)|(refine stA ?_));first|refine⟨_,EndsA,Zx5,?_⟩|refine fin ?_)|(refine jn ?_;(try intro F);(first|(refine bx ?_;intro bk)|(refine stA ?_)|(apply Zae;first|exact Zvr|exact PuA));first|refine⟨_,EndsA,Zx5,?_⟩|refine fin ?_)|(apply RD_W;rfl;intro bk))
 exact ZhR _ _ _ [] (.cellB rfl (by repeat' constructor) rfl rfl) (.tmp rfl) (.tmp rfl) .nil ⟨rfl,rfl⟩
theorem Zzz (Ar Az Al As:Option Addr)(cr cz cl cs:Nat)(a:Zai)(name:ByteArray)(t:Int)(zn:ByteArray)(Ae:Option Addr)(ce:Nat)(l:List DEra)(k:Nat)(x:DEra)(y:Zdq)(w:World)
  (hf:∀ w',Bel w.heap.size w w'->Does Tryz.prog 25 [srcV Ar Az Al As cr cz cl cs a,.string name,.int .i64 t] w' (fun v O=>v = .tuple #[.agg #[.string zn,.slice Ae l.length ce],.int .i64 k,.int .i64 0]/\O=[]))
  (hE:RdSl w Ae ce DEra.enc 13 l) (hx:l[k]?=some x)
  (hl:∀ w',Bel w.heap.size w w'->Does Tryz.prog 26 [srcV Ar Az Al As cr cz cl cs a,.agg x.enc.toArray,.int .i64 t] w' (fun v O=>v = .tuple #[.agg y.enc.toArray,.int .i64 0]/\O=[])) :
  Does Tryz.prog 9 [srcV Ar Az Al As cr cz cl cs a,.string name,.int .i64 t] w (fun v O=>v = .tuple #[.agg y.enc.toArray,.int .i64 0]/\O=[]):=by
 have hel:=hE.le
 have hec:=hE.cap
 simp only[maxLen]at hec
 have hkl:k<l.length:=(List.getElem?_eq_some_iff.1 hx).1
 obtain⟨hna,hca⟩:=hE.rd k _ hx
 obtain⟨off,kd,esv,sset,fm,⟨ui,uy,um,⟨ud1,ud2,ud3⟩,⟨uc1,uc2⟩⟩⟩:=x
 obtain⟨y1,y2,y3⟩:=y
 simp only[DEra.enc,Zdq.enc]at hca hl ⊢
 refine Zaa Tryz.func9 rfl rfl rfl rfl ?_
 repeat (first|(apply RL_pu;rfl;exact PuI)|(apply RD_Q;rfl;rfl;decide +kernel;rfl;rfl;exact QyI)|refine walk1 ?_|(refine jg ?_;(try intro F);(first|(refine Zac hf ?_)|(refine Zac hl ?_)|(refine bx ?_;intro bk)|(refine stA ?_));first|refine⟨_,EndsA,QFI,?_⟩|refine fin ?_)|(refine jn ?_;(try intro F);(first|(refine bx ?_;intro bk)|(refine stA ?_)|(apply Zae;first|exact PuI|exact PuA));first|refine⟨_,EndsA,QFI,?_⟩|refine fin ?_)|(apply RD_W;rfl;intro bk))
 exact rtC
def ZkS (a:Zai)(name:ByteArray):Int × Int:=match accD a with
 | some (_,e)=>(0,e)
 | none=>(((Zbd a (a.links.length+1) [] name).1:Nat),(Zbd a (a.links.length+1) [] name).2)
structure MnOk (a:Zai):Prop where
 acc:accD a=none
 un:∀ z∈a.zones,∀ k e,z.eras[k]?=some e->k+1<z.eras.length->RsSm (ruEr a.rules e)/\UnOk e (ruEr a.rules e)
 ne:∀ z∈a.zones,z.eras≠[]
 sp:∀ z∈a.zones,∃ r,Zn7 a.rules z.eras=some r
 lc:∀ z∈a.zones,∀ e∈z.eras,LcOk a.rules e
 st:∀ z∈a.zones,∀ e∈z.eras,∀ t,(-1000000000<=(ZbN a.rules e t).1/\(ZbN a.rules e t).1<=1000000000)/\(ZbN a.rules e t).2.size<=1000000000/\abE e (ZbN a.rules e t)=0
section
variable (Ar Az Al As:Option Addr)(cr cz cl cs:Nat)(a:Zai)(name:ByteArray)(t:Int)(w:World)
theorem ZnS (h:ZdG w Ar Az Al As cr cz cl cs a)(hn:a.zones.length+a.links.length<=1000000) :
  Does Tryz.prog 64 [srcV Ar Az Al As cr cz cl cs a,.string name] w (fun v O=>v = .tuple #[.int .i64 (ZkS a name).1,.int .i64 (ZkS a name).2]/\O=[]):=by
 unfold ZkS
 cases ha:accD a with
 | some x =>
  obtain⟨p,e⟩:=x
  exact ZqQ Ar Az Al As cr cz cl cs a name p e w h ha
 | none=>exact Zsb Ar Az Al As cr cz cl cs a name w h ha hn
theorem Zsc (h:ZdG w Ar Az Al As cr cz cl cs a)(hn:a.zones.length+a.links.length<=1000000){i:Nat}(hz:ZkS a name=(((i:Nat):Int),0)) :
  Does Tryz.prog 64 [srcV Ar Az Al As cr cz cl cs a,.string name] w (fun v O=>v = .tuple #[.int .i64 i,.int .i64 0]/\O=[]):=by
 have:=ZnS Ar Az Al As cr cz cl cs a name w h hn
 rwa[hz]at this
theorem Ztl (h:ZdG w Ar Az Al As cr cz cl cs a)(hM:MeG w)(m:MnOk a){z:Za5}(hz:z∈a.zones){e:DEra}(he:e∈z.eras)(ht : -1000000000000000000<=t/\t<=1000000000000000000) :
  Does Tryz.prog 26 [srcV Ar Az Al As cr cz cl cs a,.agg e.enc.toArray,.int .i64 t] w (fun v O=>v = .tuple #[.agg (ZfG e (ZbN a.rules e t)).enc.toArray,.int .i64 0]/\O=[]):=by
 obtain⟨h1,h2,h3⟩:=m.st z hz e he t
 exact ZmE Ar Az Al As cr cz cl cs a e t w h.L h.G hM h.A h.S.nr (m.lc z hz e he) ht h1 h2 h3
theorem ZBr (h:ZdG w Ar Az Al As cr cz cl cs a)(hn:a.zones.length+a.links.length<=1000000)(m:MnOk a)(ht:tOk t=true){i:Nat}{z:Za5}(hz:ZkS a name=(((i:Nat):Int),0))(hi:a.zones[i]?=some z)(Ae:Option Addr)(ce:Nat)(hnz:Az≠none)(hcz:Zal w ((adr Az).add (i*2)) [.string z.name,.slice Ae z.eras.length ce]) :
  Does Tryz.prog 25 [srcV Ar Az Al As cr cz cl cs a,.string name,.int .i64 t] w (fun v O=>v = .tuple #[.agg #[.string z.name,.slice Ae z.eras.length ce],.int .i64 (Zgw a.rules z.eras t),.int .i64 0]/\O=[]):=by
 have hmem:=List.mem_of_getElem? hi
 have h2:=Zih.1 ht
 obtain⟨r,hr⟩:=m.sp z hmem
 obtain⟨x,_,_,hf,hx,_⟩:=Zn5 hr (m.ne z hmem) (t:=t) (by omega) (by omega)
 have:=ZtQ Ar Az Al As cr cz cl cs a name t i z r x Ae ce w h ht (fun w' hw=>Zsc Ar Az Al As cr cz cl cs a name w' (h.up hw) hn hz) hi hnz hcz (m.un z hmem) hr hf
 rwa[hx]at this
theorem mAt (h:ZdG w Ar Az Al As cr cz cl cs a)(hM:MeG w)(hn:a.zones.length+a.links.length<=1000000)(m:MnOk a)(ht:tOk t=true){i:Nat}{z:Za5}(hz:ZkS a name=(((i:Nat):Int),0))(hi:a.zones[i]?=some z) :
  Does Tryz.prog 9 [srcV Ar Az Al As cr cz cl cs a,.string name,.int .i64 t] w (fun v O=>v = .tuple #[.agg (Zro a.rules z.eras t).enc.toArray,.int .i64 0]/\O=[]):=by
 have hmem:=List.mem_of_getElem? hi
 have h2:=Zih.1 ht
 obtain⟨hnz,cs1,⟨Ae,ce,hEz,rfl⟩,hcz⟩:=h.A.z i _ hi
 obtain⟨r,hr⟩:=m.sp z hmem
 obtain⟨x,hk,_⟩:=Zn5 hr (m.ne z hmem) (t:=t) (by omega) (by omega)
 obtain⟨e,he,hd⟩:=Zdh (d:=dE0) hk
 unfold Zro
 rw[hd]
 exact Zzz Ar Az Al As cr cz cl cs a name t z.name Ae ce z.eras (Zgw a.rules z.eras t) e _ w (fun w' hw=>ZBr Ar Az Al As cr cz cl cs a name t w' (h.up hw) hn m ht hz hi Ae ce hnz (hcz.up hw (Nat.le_refl _))) hEz he fun w' hw=>Ztl Ar Az Al As cr cz cl cs a t w' (h.up hw) (hM.up hw) m hmem (List.mem_of_getElem? he) (by omega)
end
theorem ZmG {x:ByteArray}(h:x∈[ByteArray.empty,(⟨#[83]⟩:ByteArray),⟨#[68]⟩,⟨#[68,84]⟩]):x.size<=1000000000:=by
 have:∀ x∈[ByteArray.empty,(⟨#[83]⟩:ByteArray),⟨#[68]⟩,⟨#[68,84]⟩],x.size<=1000000000:=by decide
 exact this x h
theorem ZtM {x:ByteArray}(h:x∈fmtU):x.size<=1000000000:=by
 have:∀ x∈fmtU,x.size<=1000000000:=by decide
 exact this x h
theorem Zze {a:Zai}(hacc:accD a=none)(h:∀ z∈a.zones,∃ Y,Zbo a.rules z.eras Y):MnOk a:=by
 have hd:∀ z∈a.zones,∀ e∈z.eras,∃ b,Zbm a.rules e b:=fun z hz e he=>by
  obtain⟨Y,hY⟩:=h z hz
  obtain⟨k,hk⟩:=List.mem_iff_getElem?.1 he
  exact⟨_,hY.era k e hk⟩
 refine⟨hacc,fun z hz k e he hk=>?_,fun z hz hn=>?_,fun z hz=>?_,fun z hz e he=>?_,fun z hz e he t=>?_⟩
 ·obtain⟨Y,hY⟩:=h z hz
  exact hY.un k e he hk
 ·obtain⟨Y,hY⟩:=h z hz
  have:=hY.len.1
  rw[hn]at this
  simp at this
 ·obtain⟨Y,hY⟩:=h z hz
  exact hY.sp
 ·obtain⟨b,hb⟩:=hd z hz e he
  have h0:=hb.st0.1
  dsimp only at h0
  have hk:0<=e.kind/\e.kind<=2:=by rcases hb with⟨h0,_⟩|⟨h0,_⟩|⟨h0,_⟩ <;> omega
  have hs : -10800<=e.save/\e.save<=10800:=by
   rcases hb with⟨_,h0,_⟩|⟨_,h0,_⟩|⟨_,_,h0,_⟩ <;> omega
  refine⟨hk,by omega,by omega,fun h2=>?_,ZtM hb.fmt⟩
  have:=hb.rs
  unfold ruEr at this
  rwa[if_pos h2]at this
 ·obtain⟨b,hb⟩:=hd z hz e he
  obtain⟨h1,h2,h3⟩:=hb.state t
  exact⟨by omega,ZmG h3,(Zo2 hb.fmt (hb.state t)).1⟩
end Go.Proofs.YtdlmhmmhdbbliaaGreatDoor
