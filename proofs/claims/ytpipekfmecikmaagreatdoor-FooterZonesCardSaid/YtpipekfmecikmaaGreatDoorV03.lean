/- Parts of the proof. -/
import Derived.Test.YtpipekfmecikmaaGreatDoorV02
set_option maxHeartbeats 4000000
set_option linter.unusedVariables false
set_option linter.unusedSimpArgs false
namespace Go.Wk
open Go Go.RowKit
inductive Pk:Nat × Oper->List (Nat × Oper)->List (Nat × Oper)->Prop
 | here {p:Nat × Oper} {r:List (Nat × Oper)}:Pk p (p::r) r
 | there {p x:Nat × Oper} {l r:List (Nat × Oper)}:Pk p l r->Pk p (x::l) (x::r)
theorem Pk.perm {p:Nat × Oper}{l r:List (Nat × Oper)}(h:Pk p l r):l.Perm (p::r):=by
 induction h with
 | here=>exact List.Perm.refl _
 | there _ ih=>exact(List.Perm.cons _ ih).trans (List.Perm.swap _ _ _)
inductive Ends:List It->List It->List It->Prop
 | nil {F:List It}:Ends F F []
 | cons {x:It} {O F O'':List It}:Ends O F O''->Ends (x::O) F (x::O'')
theorem Ends.eq {O F O'':List It}(h:Ends O F O''):O=O''++F:=by
 induction h with
 | nil=>rfl
 | cons _ ih=>rw[ih];rfl
def enum:Nat->List Oper->List (Nat × Oper)
 | _,[]=>[]
 | i,o::l=>(i,o)::enum (i+1) l
theorem Zkw:∀ (l:List Oper) (i:Nat) (p:Nat × Oper),p∈enum i l->i<=p.1/\l[p.1 - i]?=some p.2
 | [],_,_,h=>by cases h
 | o::l,i,p,h=>by
  rcases List.mem_cons.1 h with rfl|h
  ·simp
  ·have:=Zkw l (i+1) p h
   refine⟨by omega,?_⟩
   rw[show p.1 - i=(p.1 - (i+1))+1 from by omega]
   simpa using this.2
theorem Zg3:∀ (l:List Oper) (i:Nat),(enum i l).map (·.1)=List.range' i l.length
 | [],_=>rfl
 | o::l,i=>by simp[enum,Zg3 l (i+1),List.range'_succ]
theorem Zo8:∀ (l:List Oper) (i:Nat),(enum i l).length=l.length
 | [],_=>rfl
 | _::l,i=>by simp[enum,Zo8 l (i+1)]
def Zkh:Op->Bool | .select .. => false|_=>true
theorem ZeI {op:Op}(h:Zkh op=true)(cs:Array SelectCase)(b:Bool):op ≠ .select cs b:=by rintro rfl;cases h
section
variable {P:Program}{n:Nat}{wr:World}{ops:Array Oper}{todo todo':List (Nat × Oper)}{V:List Qp}{Al:List Ap}{K:Fr->List It->Prop}{fr:Fr}{O:List It}
theorem SubO.weak (x:It){O' O:List It}(h:SubO O' O):SubO O' (x::O):=by
 induction h generalizing x with
 | nil=>exact .nil
 | cons hp _ ih=>exact .cons (.there hp) (ih x)
theorem St.drawn {a:Act}{w:World}{m:Nat}(h:St n wr fr O a w)(_hm:w.drawn<=m):St n wr fr O a { w with drawn:=m } :=
 ⟨h.sim,⟨⟨h.old.os,h.old.tape,h.old.output,h.old.size,h.old.block⟩⟩,h.own.congr (w':={ w with drawn:=m }) (Nat.le_refl _) fun _ _=>rfl⟩
theorem W_draw {Q:Exit->Fr->List It->Prop}{id:Nat}{l:List Oper}(hm:P.follows .mixedOrders=true)(hac:acyc l.toArray=true)(h:RD P n wr l.toArray (enum 0 l) [] [] (Q .normal) fr O):W P n wr (.region id l.toArray true) Q fr O:=by
 intro a w hs
 have h1:=h ⟨by simp[Zg3,List.nodup_range'],by simp,trivial,trivial,fun p hp=>by simpa using(Zkw l 0 p hp).2⟩ l.length [] [] [] [] a { w with drawn:=w.drawn+1 } (List.Sublist.refl _) (by simp)
  (by have h:=hs.drawn (m:=w.drawn+1) (Nat.le_succ _);rw[show O++(ZeY []++[])=O from by simp[ZeY]];exact h) (by simp[Zo8]) (fun k o hk hn=>absurd (by
   have hlt:k<l.length:=by have:=(Array.getElem?_eq_some_iff.1 hk).1;simpa using this
   have:k∈(enum 0 l).map (·.1):=by rw[Zg3];simp;exact hlt
   obtain⟨p,hp,rfl⟩:=List.mem_map.1 this
   exact .inl ⟨p,hp,rfl⟩) hn)
 refine wp_mono (wp_region_any (Q:=Zkb n wr [] (Q .normal)) hm ?_) ?_
 ·refine Zp3 hac _ _ _ _ _ (by simp) ?_ (by simpa using h1)
  intro j
  unfold Tof
  constructor
  ·rintro(⟨p,hp,rfl⟩|⟨_,hh,_⟩|⟨_,hh,_⟩)
   ·have:=(List.getElem?_eq_some_iff.1 (Zkw l 0 p hp).2).1
    have h2:p.1<l.length:=by omega
    simp[Array.getD_eq_getD_getElem?,h2]
   ·cases hh
   ·cases hh
  ·intro hj
   have hlt:j<l.length:=by
    rcases Nat.lt_or_ge j l.length with h0|h0
    ·exact h0
    ·rw[Array.getD_eq_getD_getElem?,Array.getElem?_eq_none (by simpa using h0)]at hj
     simp at hj
   have:j∈(enum 0 l).map (·.1):=by rw[Zg3];simp;exact hlt
   obtain⟨p,hp,rfl⟩:=List.mem_map.1 this
   exact .inl ⟨p,hp,rfl⟩
 ·rintro e a' w' ⟨rfl,fr',O',hs',hq⟩
  exact⟨fr',O',by simpa using hs',hq⟩
theorem RD_done (h:K fr O):RD P n wr ops [] V [] K fr O:=ZfQ (fun _=>⟨h,rfl⟩) (fun _ _ _ _ _ _ _ _ _ _ _ _ _ _ hp=>by cases hp)
theorem ZfA {d:Nat}{v:Value}{fr:Fr}:∀ {Z:Fr},(∀ p∈Z,p.1≠d)->LSub (Z++(d,v)::fr) ((d,v)::(Z++fr))
 | [],_=>fun _ _ h=>h
 | (e,u)::Z,h=>fun t x hx=>by
  have he:=h (e,u) List.mem_cons_self
  have ih:=ZfA (v:=v) (fr:=fr) (fun p hp=>h p (List.mem_cons_of_mem _ hp)) t x
  simp only[List.cons_append,look]at hx ih ⊢
  cases hb:Nat.beq e t with
  | true =>
   have e1:=Nat.eq_of_beq_eq_true hb
   subst e1
   rw[hb]at hx
   have hne:Nat.beq d e=false:=by
    cases hd:Nat.beq d e with
    | false=>rfl
    | true=>exact absurd (Nat.eq_of_beq_eq_true hd).symm he
   rw[hne]
   simpa using hx
  | false =>
   rw[hb]at hx
   simp only[cond_false]at hx ⊢
   exact ih hx
theorem AF.mono {fr fr':Fr}(hf:LSub fr fr'):∀ {Al:List Ap},(∀ k∈Al,look fr' k.d=none)->AF P n wr ops fr Al->AF P n wr ops fr' Al
 | [],_,_=>trivial
 | y::r,hl,h=>by
  obtain⟨⟨o,h1,h2,h3,h4,h5,h6,h7⟩,h8⟩:=h
  exact⟨⟨o,h1,h2,h3,h4,h5,hl y List.mem_cons_self,⟨h7.1,fun a w hs=>h7.2 a w (hs.lsub hf)⟩⟩,AF.mono hf (fun k hk=>hl k (List.mem_cons_of_mem _ hk)) h8⟩
def ZnJ (d:Nat)(V:List Qp)(Al:List Ap):Bool:=(V.all fun x => !(Nat.beq x.d d))&&Al.all fun x => !(Nat.beq x.d d)
theorem Zjp {d:Nat}{V:List Qp}{Al:List Ap}(h:ZnJ d V Al=true):(∀ x∈V,x.d≠d)/\∀ x∈Al,x.d≠d:=by
 simp only[ZnJ,Bool.and_eq_true,List.all_eq_true,Bool.not_eq_true']at h
 exact⟨fun x hx=>Nat.ne_of_beq_eq_false (h.1 x hx),fun x hx=>Nat.ne_of_beq_eq_false (h.2 x hx)⟩
theorem ZhQ {d t:Nat}{v:Value}{fr:Fr}(h:t≠d):look ((d,v)::fr) t=look fr t:=by
 have:Nat.beq d t=false:=by
  cases hd:Nat.beq d t with
  | false=>rfl
  | true=>exact absurd (Nat.eq_of_beq_eq_true hd).symm h
 simp[look,this]
theorem ZAw {i:Nat}{o:Oper}{X:List Qp}{N:List Ap}{d:Nat}{v:Value}(hp:Pk (i,o) todo todo'):Tof todo X N=Tof todo' (⟨i,d,v⟩::X) N:=by
 funext j
 apply propext
 unfold Tof
 constructor
 ·rintro(⟨p,hpm,rfl⟩|⟨x,hx,rfl⟩|h)
  ·rcases List.mem_cons.1 (hp.perm.mem_iff.1 hpm) with rfl|hpm
   ·exact .inr (.inl ⟨_,List.mem_cons_self,rfl⟩)
   ·exact .inl ⟨p,hpm,rfl⟩
  ·exact .inr (.inl ⟨x,List.mem_cons_of_mem _ hx,rfl⟩)
  ·exact .inr (.inr h)
 ·rintro(⟨p,hpm,rfl⟩|⟨x,hx,rfl⟩|h)
  ·exact .inl ⟨p,hp.perm.mem_iff.2 (List.mem_cons_of_mem _ hpm),rfl⟩
  ·rcases List.mem_cons.1 hx with rfl|hx
   ·exact .inl ⟨(i,o),hp.perm.mem_iff.2 List.mem_cons_self,rfl⟩
   ·exact .inr (.inl ⟨x,hx,rfl⟩)
  ·exact .inr (.inr h)
theorem ZAx {i:Nat}{o:Oper}{X:List Qp}{N:List Ap}{k:Ap}(hk:k.i=i)(hp:Pk (i,o) todo todo'):Tof todo X N=Tof todo' X (k::N):=by
 funext j
 apply propext
 unfold Tof
 constructor
 ·rintro(⟨p,hpm,rfl⟩|h|⟨x,hx,rfl⟩)
  ·rcases List.mem_cons.1 (hp.perm.mem_iff.1 hpm) with rfl|hpm
   ·exact .inr (.inr ⟨_,List.mem_cons_self,hk⟩)
   ·exact .inl ⟨p,hpm,rfl⟩
  ·exact .inr (.inl h)
  ·exact .inr (.inr ⟨x,List.mem_cons_of_mem _ hx,rfl⟩)
 ·rintro(⟨p,hpm,rfl⟩|h|⟨x,hx,rfl⟩)
  ·exact .inl ⟨p,hp.perm.mem_iff.2 (List.mem_cons_of_mem _ hpm),rfl⟩
  ·exact .inr (.inl h)
  ·rcases List.mem_cons.1 hx with rfl|hx
   ·exact .inl ⟨(i,o),hp.perm.mem_iff.2 List.mem_cons_self,hk.symm⟩
   ·exact .inr (.inr ⟨x,hx,rfl⟩)
theorem RD_q {i d:Nat}{o:Oper}{v:Value}(hp:Pk (i,o) todo todo')(hd:o.dst=some d)(hf:Zej ops i d=true)(hn:Nat.ble (d+1) n=true)(hs:Zkh o.op=true)(hl:look fr d=none)(hfree:ZnJ d V Al=true)
  (hq:Qy P n wr ops fr O o v) (k:RD P n wr ops todo' (⟨i,d,v⟩::V) Al K ((d,v)::fr) O):RD P n wr ops todo V Al K fr O:=by
 intro hR m F X Y N a w hX hA hst hm hcl
 obtain⟨hfV,hfA⟩:=Zjp hfree
 have hok:=hR.ok _ (hp.perm.mem_iff.2 List.mem_cons_self)
 rw[ZAw (d:=d) (v:=v) hp]at hcl ⊢
 refine k ⟨?_,?_,?_,?_,?_⟩ m F (⟨i,d,v⟩::X) Y N a w (hX.cons_cons _) hA ?_ ?_ hcl
 ·have:=(hp.perm.map (·.1)).append_right (V.map (·.i)++Al.map (·.i)) |>.nodup_iff.1 hR.idx
  refine(List.Perm.nodup_iff ?_).1 this
  simp only[List.map_cons,List.cons_append]
  exact List.perm_middle.symm
 ·simp only[List.map_cons,List.cons_append,List.nodup_cons]
  refine⟨fun h=>?_,hR.dst⟩
  rcases List.mem_append.1 h with h|h <;> obtain⟨x,hx,e⟩:=List.mem_map.1 h
  ·exact hfV x hx e
  ·exact hfA x hx e
 ·exact⟨⟨o,hok,hd,hf,hn,ZeI hs,fun a w h=>hq a w ⟨h.sim.lsub (LSub.cons hl),h.old,h.own⟩⟩,hR.qf.mono (LSub.cons hl) (SubO.refl _)⟩
 ·refine AF.mono (LSub.cons hl) (fun k hk=>?_) hR.af
  obtain⟨_,_,_,_,_,_,h,_⟩:=hR.af.mem k hk
  rw[ZhQ (hfA k hk)]
  exact h
 ·exact fun p hpm=>hR.ok p (hp.perm.mem_iff.2 (List.mem_cons_of_mem _ hpm))
 ·refine⟨?_,hst.old,hst.own⟩
  have e:putX a (⟨i,d,v⟩::X)=(putX a X).put (some d) v:=ZgX X a (some d) v fun y hy e=>hfV y (hX.subset hy) (by injection e with e;exact e.symm)
  rw[e]
  refine(hst.sim.put hn v).lsub (ZfA fun p hpm=>?_)
  obtain⟨y,hy,rfl⟩:=List.mem_map.1 hpm
  exact hfA y.1 (hA.mem_iff.2 (List.mem_append_left _ (List.mem_map.2 ⟨y,hy,rfl⟩)))
 ·have:=hp.perm.length_eq
  simp only[List.length_cons]at this ⊢
  omega
theorem ZzR {i d:Nat}{o:Oper}{val:Nat->Value}{z:List Value}{t:TypeId}{it:Nat->It}(hp:Pk (i,o) todo todo')(hd:o.dst=some d)(hf:Zej ops i d=true)(hn:Nat.ble (d+1) n=true)(hs:Zkh o.op=true)(hl:look fr d=none)(hfree:ZnJ d V Al=true)
  (hq:Ay P n wr ops fr o ⟨i,d,val,z,t,it⟩) (k:RD P n wr ops todo' V (⟨i,d,val,z,t,it⟩::Al) K fr O):RD P n wr ops todo V Al K fr O:=by
 intro hR m F X Y N a w hX hA hst hm hcl
 obtain⟨hfV,hfA⟩:=Zjp hfree
 have hok:=hR.ok _ (hp.perm.mem_iff.2 List.mem_cons_self)
 rw[ZAx (k:=⟨i,d,val,z,t,it⟩) rfl hp]at hcl ⊢
 refine k ⟨?_,?_,hR.qf,?_,?_⟩ m F X Y (⟨i,d,val,z,t,it⟩::N) a w hX ?_ hst ?_ hcl
 ·have:=(hp.perm.map (·.1)).append_right (V.map (·.i)++Al.map (·.i)) |>.nodup_iff.1 hR.idx
  refine(List.Perm.nodup_iff ?_).1 this
  simp only[List.map_cons,List.cons_append]
  exact(List.perm_middle.symm).trans ((List.perm_middle.symm).append_left _)
 ·refine(List.Perm.nodup_iff (l₁:=d::(V.map (·.d)++Al.map (·.d))) ?_).1 ?_
  ·simp only[List.map_cons]
   exact List.perm_middle.symm
  ·rw[List.nodup_cons]
   refine⟨fun h=>?_,hR.dst⟩
   rcases List.mem_append.1 h with h|h <;> obtain⟨x,hx,e⟩:=List.mem_map.1 h
   ·exact hfV x hx e
   ·exact hfA x hx e
 ·exact⟨⟨o,hok,hd,hf,hn,ZeI hs,hl,hq⟩,hR.af⟩
 ·exact fun p hpm=>hR.ok p (hp.perm.mem_iff.2 (List.mem_cons_of_mem _ hpm))
 ·exact(hA.cons _).trans List.perm_middle.symm
 ·have:=hp.perm.length_eq
  simp only[List.length_cons]at this ⊢
  omega
def ZsS (ops:Array Oper)(l todo:List (Nat × Oper)):Bool:=l.all fun p=>todo.any fun q=>Zbc ops q.1 p.1
def Zds (ops:Array Oper)(i:Nat)(todo:List (Nat × Oper)):Bool:=todo.all fun p=>Zbc ops i p.1||todo.any fun q=>Zbc ops q.1 p.1
theorem Ziu {k:Ap}(kk:∀ b,RD P n wr ops todo V Al K ((k.d,k.val b)::fr) (k.it b::O))(hR:Rg P n wr ops todo V (k::Al) fr O)(m:Nat)(F:List It)(X:List Qp)(Y:List (Ap × Nat))(N:List Ap)(a:Act)(w:World)(hX:X.Sublist V)(hA:(k::Al).Perm (Y.map (·.1)++N))
  (hst:St n wr (Zbr Y++fr) (O++(ZeY Y++F)) (putX a X) w) (hm:todo.length+X.length+N.length<=m+1) (hcl:ZgR ops (Tof todo X N)) (p:Nat × Oper) (hp:p∈todo) (hr:∃ o,ops[p.1]?=some o/\∀ e∈o.after,Region.binds .any e=true->¬ Tof todo X N e.on) (hkN:k ∉ N) :
  wpOp P ops (Zkb n wr F K) p.1 (AnyT P ops (Zkb n wr F K) m (fun j=>Tof todo X N j/\j≠p.1)) a w:=by
 have hkY:k∈Y.map (·.1):=by
  rcases List.mem_append.1 (hA.mem_iff.1 List.mem_cons_self) with h|h
  ·exact h
  ·exact absurd h hkN
 obtain⟨⟨k',b⟩,hy,rfl⟩:=List.mem_map.1 hkY
 obtain⟨Y1,Y2,rfl⟩:=List.append_of_mem hy
 obtain⟨⟨o,h1,h2,h3,h4,h5,h6,h7⟩,hAF⟩:=hR.af
 have hdst:∀ x∈Al,x.d≠k'.d:=fun x hx e=>by
  have:=(List.nodup_append.1 hR.dst).2.1
  rw[List.map_cons,List.nodup_cons]at this
  exact this.1 (List.mem_map.2 ⟨x,hx,e⟩)
 have hA':Al.Perm ((Y1++Y2).map (·.1)++N):=by
  have e1:((Y1++(k',b)::Y2).map (·.1)++N).Perm (k'::((Y1++Y2).map (·.1)++N)):=by
   simp only[List.map_append,List.map_cons,List.append_assoc,List.cons_append]
   exact List.perm_middle
  exact(List.perm_cons k').1 (hA.trans e1)
 have hres:=kk b ⟨?_,?_,hR.qf.mono (LSub.cons h6) (SubO.weak _ (SubO.refl _)),AF.mono (LSub.cons h6) (fun x hx=>?_) hAF,hR.ok⟩ (m+1) F X (Y1++Y2) N a w hX hA' ⟨?_,hst.old,?_⟩ hm hcl
 ·exact hres.2 p.1 (.inl ⟨p,hp,rfl⟩) hr
 ·refine hR.idx.sublist ?_
  simp only[List.map_cons]
  exact(List.Sublist.refl _).append ((List.Sublist.refl _).append (List.sublist_cons_self _ _))
 ·refine hR.dst.sublist ?_
  simp only[List.map_cons]
  exact(List.Sublist.refl _).append (List.sublist_cons_self _ _)
 ·obtain⟨_,_,_,_,_,_,h,_⟩:=hAF.mem x hx
  rw[ZhQ (hdst x hx)]
  exact h
 ·refine hst.sim.lsub ?_
  have hnY1:∀ p∈Zbr Y1,p.1≠k'.d:=fun p hp e=>by
   obtain⟨y,hy,rfl⟩:=List.mem_map.1 hp
   have hm1:y.1∈Al:=hA'.mem_iff.2 (List.mem_append_left _ (List.mem_map.2 ⟨y,List.mem_append_left _ hy,rfl⟩))
   exact hdst y.1 hm1 e
  have hnY2:∀ p∈Zbr Y2,p.1≠k'.d:=fun p hp e=>by
   obtain⟨y,hy,rfl⟩:=List.mem_map.1 hp
   have hm1:y.1∈Al:=hA'.mem_iff.2 (List.mem_append_left _ (List.mem_map.2 ⟨y,List.mem_append_right _ hy,rfl⟩))
   exact hdst y.1 hm1 e
  intro t v hv
  have e1:=ZfA (v:=k'.val b) (fr:=fr) (Z:=Zbr (Y1++Y2)) (fun p hp=>by
   rw[Zbr,List.map_append]at hp
   rcases List.mem_append.1 hp with hp|hp
   ·exact hnY1 p hp
   ·exact hnY2 p hp) t v hv
  have e2:Zbr (Y1++(k',b)::Y2)++fr=Zbr Y1++(k'.d,k'.val b)::(Zbr Y2++fr):=by simp[Zbr]
  have e3:Zbr (Y1++Y2)++fr=Zbr Y1++(Zbr Y2++fr):=by simp[Zbr]
  rw[e2]
  rw[e3]at e1
  clear e2 e3 hv
  revert e1 hnY1
  generalize Zbr Y1=Z
  intro hZ
  induction Z with
  | nil=>exact fun h=>h
  | cons z Z ih =>
   intro h
   have hz:=hZ z List.mem_cons_self
   simp only[List.cons_append,look]at h ⊢
   cases hb1:Nat.beq k'.d t with
   | true =>
    have e:=Nat.eq_of_beq_eq_true hb1
    subst e
    rw[hb1]at h
    have:Nat.beq z.1 k'.d=false:=by
     cases hc:Nat.beq z.1 k'.d with
     | false=>rfl
     | true=>exact absurd (Nat.eq_of_beq_eq_true hc) hz
    rw[this]
    refine ih (fun p hp=>hZ p (List.mem_cons_of_mem _ hp)) ?_
    simp only[look,hb1]
    exact h
   | false =>
    rw[hb1]at h
    cases hb2:Nat.beq z.1 t with
    | true=>rw[hb2]at h;simpa using h
    | false =>
     rw[hb2]at h
     refine ih (fun p hp=>hZ p (List.mem_cons_of_mem _ hp)) ?_
     simp only[look,hb1]
     simpa using h
 ·refine hst.own.perm ?_
  simp only[ZeY,List.map_append,List.map_cons,List.append_assoc,List.cons_append]
  have h:=List.perm_middle (a:=k'.it b) (l₁:=O++List.map (fun y:Ap × Nat=>y.1.it y.2) Y1) (l₂:=List.map (fun y:Ap × Nat=>y.1.it y.2) Y2++F)
  simpa using h
theorem ZyS {k:Ap}(hne:todo≠[])(hb:Zds ops k.i todo=true)(kk:∀ b,RD P n wr ops todo V Al K ((k.d,k.val b)::fr) (k.it b::O)):RD P n wr ops todo V (k::Al) K fr O:=by
 refine ZfQ (fun h=>absurd h hne) ?_
 intro hR m F X Y N a w hX hA hst hm hcl p hp hr
 have hkN:k ∉ N:=fun hk=>by
  have hh:=List.all_eq_true.1 hb p hp
  simp only[Bool.or_eq_true,List.any_eq_true]at hh
  rcases hh with hh|⟨q,hq,hh⟩
  ·rw[Zca hr (.inr (.inr ⟨k,hk,rfl⟩))]at hh;cases hh
  ·rw[Zca hr (.inl ⟨q,hq,rfl⟩)]at hh;cases hh
 exact Ziu kk hR m F X Y N a w hX hA hst hm hcl p hp hr hkN
theorem ZmM {o:Oper}{a b:Act}{w:World}{Kn Kn':Act->World->Prop}{Q:Exit->Act->World->Prop}(he:execOp b.eval o=execOp a.eval o)(h:∀ v w',Kn (b.put o.dst v) w'->Kn' (a.put o.dst v) w')
  (hd:∀ d w',¬ Kn ({ b with defers:=d::b.defers }.put o.dst undef) w') (hw:o.wp P b w Kn (fun _ _ _=>False)):o.wp P a w Kn' Q:=by
 unfold Oper.wp at hw ⊢
 rw[he]at hw
 generalize (execOp a.eval o).run P w=r at hw ⊢
 cases r with
 | ok nx w' =>
  cases nx with
  | value v=>exact h v w' hw
  | skip=>exact h undef w' hw
  | defer d=>exact absurd hw (hd d w')
  | enter f args =>
   refine Calls.mono hw fun e w'' he=>?_
   cases e with
   | returned v=>exact h v w'' he
   | panicked chain=>exact he.elim
   | outgrown =>
    obtain⟨_,_,hh⟩:=he
    exact hh.elim
  | row row args=>exact Rows.mono hw fun v w'' he=>h v w'' he
  | _=>exact hw.elim
 | halt x w'=>cases x <;> exact hw.elim
def updF (fr:Fr)(dst:Option Tmp)(v:Value):Fr:=match dst with|some d=>(d,v)::fr|none=>fr
def ZqN (dst:Option Tmp)(n:Nat)(Al:List Ap):Bool:=match dst with|some d=>Nat.ble (d+1) n&&Al.all fun x => !(Nat.beq x.d d)|none=>true
theorem Zqr {a:Act}{dst:Option Tmp}{v:Value}:(a.put dst v).defers=a.defers:=by cases dst <;> rfl
theorem Zx6 {a:Act}{dst:Option Tmp}{v u:Value}(hd:∀ d,dst=some d->d<a.tmps.size)(h:a.put dst v=a.put dst u)(b:Act):b.put dst v=b.put dst u:=by
 cases dst with
 | none=>rfl
 | some d =>
  have:=congrArg (fun x:Act=>x.tmps[d]?) h
  have hlt:=hd d rfl
  simp[Act.put,hlt]at this
  rw[this]
theorem AF.of_mem {fr:Fr}:∀ {V:List Ap},(∀ x∈V,∃ o,ops[x.i]?=some o/\o.dst=some x.d/\Zej ops x.i x.d=true/\Nat.ble (x.d+1) n=true/\(∀ cs b,o.op ≠ .select cs b)/\look fr x.d=none/\Ay P n wr ops fr o x)->AF P n wr ops fr V
 | [],_=>trivial
 | y::_,h=>⟨h y List.mem_cons_self,AF.of_mem fun x hx=>h x (List.mem_cons_of_mem _ hx)⟩
theorem Rg.perm {Al':List Ap}(hR:Rg P n wr ops todo V Al fr O)(hp:Al.Perm Al'):Rg P n wr ops todo V Al' fr O:=by
 refine⟨?_,?_,hR.qf,AF.of_mem fun x hx=>hR.af.mem x (hp.mem_iff.2 hx),hR.ok⟩
 ·exact(List.Perm.nodup_iff (((hp.map _).append_left _).append_left _)).1 hR.idx
 ·exact(List.Perm.nodup_iff ((hp.map _).append_left _)).1 hR.dst
def gone (ops:Array Oper)(i:Nat)(x:Qp):Bool:=Zbc ops x.i i||Zll ops x.i i
theorem ZzQ {i:Nat}{o:Oper}{V':List Qp}(hp:Pk (i,o) todo todo')(hblk:∀ p∈todo',(todo.any fun q=>Zbc ops q.1 p.1)=true\/∃ k Al',Al.Perm (k::Al')/\Zbc ops k.i p.1=true/\∀ b,RD P n wr ops todo V Al' K ((k.d,k.val b)::fr) (k.it b::O))(hsel:Zkh o.op=true)(hg:∀ a,Sim n fr a->Region.wanted o (yielded ops a.tmps)=true)(hdst:ZqN o.dst n Al=true)(hV':V'.Sublist V)(hV'':∀ X:List Qp,X.Sublist V->(∀ x∈X,gone ops i x=false)->X.Sublist V')
  (hstep:∀ F,Stp P n wr fr (O++F) o fun v O'=>∃ O'',Ends O' F O''/\QF P n wr ops (updF fr o.dst v) O'' V'/\AF P n wr ops (updF fr o.dst v) Al/\RD P n wr ops todo' V' Al K (updF fr o.dst v) O'') :
  RD P n wr ops todo V Al K fr O:=by
 refine ZfQ (fun h=>?_) ?_
 ·have:=hp.perm.length_eq
  rw[h]at this
  simp at this
 intro hR m F X Y N a w hX hA hst hm hcl p hpm hr
 rcases List.mem_cons.1 (hp.perm.mem_iff.1 hpm) with hpe|hin
 case inr =>
  rcases hblk p hin with hh|⟨k,Al',hperm,he,kk⟩
  ·rw[List.any_eq_true]at hh
   obtain⟨q,hq,hh⟩:=hh
   rw[Zca hr (.inl ⟨q,hq,rfl⟩)]at hh
   cases hh
  ·have hkN:k ∉ N:=fun hk=>by
    rw[Zca hr (.inr (.inr ⟨k,hk,rfl⟩))]at he
    cases he
   exact Ziu kk (hR.perm hperm) m F X Y N a w hX (hperm.symm.trans hA) hst hm hcl p hpm hr hkN
 subst hpe
 simp only at hr ⊢
 have hok:=hR.ok _ hpm
 simp only at hok
 have hsl:∀ p∈Zbr Y,look fr p.1=none:=fun p hp=>by
  obtain⟨y,hy,rfl⟩:=List.mem_map.1 hp
  obtain⟨_,_,_,_,_,_,h,_⟩:=hR.af.mem y.1 (hA.mem_iff.2 (List.mem_append_left _ (List.mem_map.2 ⟨y,hy,rfl⟩)))
  exact h
 have hlooks:∀ y∈X,y.d ∉ o.looksAt ops:=fun y hy=>by
  obtain⟨oy,_,_,h3,_⟩:=hR.qf.mem y (hX.subset hy)
  exact ZhZ h3 hok (Zca hr (.inr (.inl ⟨y,hy,rfl⟩)))
 have hXi:∀ y∈X,i≠y.i:=fun y hy=>(List.nodup_append.1 hR.idx).2.2 _ (List.mem_map.2 ⟨_,hpm,rfl⟩) _ (List.mem_append_left _ (List.mem_map.2 ⟨y,hX.subset hy,rfl⟩))
 have hXd:∀ y∈X,o.dst≠some y.d:=fun y hy=>by
  obtain⟨oy,_,_,h3,_⟩:=hR.qf.mem y (hX.subset hy)
  exact ZqK h3 hok (hXi y hy) (Zca hr (.inr (.inl ⟨y,hy,rfl⟩)))
 have hXV:X.Sublist V':=hV'' X hX fun y hy=>by
  have hTy:Tof todo X N y.i := .inr (.inl ⟨y,hy,rfl⟩)
  have h1:=Zca hr hTy
  have h2:Zll ops y.i i=false:=by
   cases hh:Zll ops y.i i with
   | false=>rfl
   | true=>exact absurd ⟨hTy,fun e=>hXi y hy e.symm⟩ (Zne (hcl.step hr) hh fun h=>h.2 rfl)
  rw[gone,h1,h2]
  rfl
 have hsim:Sim n fr (putX a X):=hst.sim.lsub (ZdC hsl fun _ _ h=>h)
 have hex:=ZfE (ops:=ops) (ZeI hsel) X a hlooks
 have hwant:=hg _ hsim
 rw[hex.2]at hwant
 have hidx:=(hp.perm.map (·.1)).append_right (V.map (·.i)++Al.map (·.i)) |>.nodup_iff.1 hR.idx
 rw[List.map_cons,List.cons_append,List.nodup_cons]at hidx
 have hT:(fun j=>Tof todo X N j/\j≠i)=Tof todo' X N:=by
  funext j
  apply propext
  constructor
  ·rintro⟨⟨q,hq,rfl⟩|h|h,hne⟩
   ·rcases List.mem_cons.1 (hp.perm.mem_iff.1 hq) with rfl|hq
    ·exact absurd rfl hne
    ·exact .inl ⟨q,hq,rfl⟩
   ·exact .inr (.inl h)
   ·exact .inr (.inr h)
  ·rintro(⟨q,hq,rfl⟩|⟨x,hx,rfl⟩|⟨k,hk,rfl⟩)
   ·exact⟨.inl ⟨q,hp.perm.mem_iff.2 (List.mem_cons_of_mem _ hq),rfl⟩,fun e=>hidx.1 (List.mem_append_left _ (List.mem_map.2 ⟨q,hq,e⟩))⟩
   ·exact⟨.inr (.inl ⟨x,hx,rfl⟩),fun e=>hXi x hx e.symm⟩
   ·have hkA:k∈Al:=hA.mem_iff.2 (List.mem_append_right _ hk)
    exact⟨.inr (.inr ⟨k,hk,rfl⟩),fun e=>hidx.1 (List.mem_append_right _ (List.mem_append_right _ (List.mem_map.2 ⟨k,hkA,e⟩)))⟩
 unfold Go.wpOp
 simp only[hok,hwant,if_true]
 refine .inl ?_
 rw[hT]
 have hsize:∀ d,o.dst=some d->d<(putX a X).tmps.size:=fun d hd=>by
  rw[hd]at hdst
  simp only[ZqN,Bool.and_eq_true]at hdst
  rw[hst.sim.size]
  exact Nat.le_of_ble_eq_true hdst.1
 refine ZmM (Kn:=fun b w'=>(∃ v,b=(putX a X).put o.dst v)/\∀ v,b=(putX a X).put o.dst v->AnyT P ops (Zkb n wr F K) m (Tof todo' X N) (a.put o.dst v) w') hex.1 (fun v w' h=>h.2 v rfl) ?_ ?_
 ·rintro d w' ⟨⟨v,h⟩,_⟩
  have:=congrArg (fun x:Act=>x.defers.length) h
  simp[Zqr]at this
 ·refine hstep (ZeY Y++F) _ w ⟨hsim,hst.old,hst.own⟩ _ _ ?_
  rintro v O' w' hB hH ⟨O'',hE,hQF,hAF,hRD⟩
  refine⟨⟨v,rfl⟩,fun u hu=>?_⟩
  rw[<- Zx6 hsize hu a]
  rw[hE.eq]at hH
  refine hRD ⟨?_,?_,hQF,hAF,fun q hq=>hR.ok q (hp.perm.mem_iff.2 (List.mem_cons_of_mem _ hq))⟩ m F X Y N _ w' hXV hA ⟨?_,hB,hH⟩ ?_ (hT▸hcl.step hr)
  ·refine hidx.2.sublist ?_
   exact(List.Sublist.refl _).append ((hV'.map _).append (List.Sublist.refl _))
  ·exact hR.dst.sublist ((hV'.map _).append (List.Sublist.refl _))
  ·rw[ZgX X a _ _ hXd]
   cases hd:o.dst with
   | none=>exact hst.sim
   | some d =>
    rw[hd]at hdst
    simp only[ZqN,Bool.and_eq_true,List.all_eq_true,Bool.not_eq_true']at hdst
    refine(hst.sim.put hdst.1 v).lsub (ZfA fun q hq=>?_)
    obtain⟨y,hy,rfl⟩:=List.mem_map.1 hq
    exact Nat.ne_of_beq_eq_false (hdst.2 y.1 (hA.mem_iff.2 (List.mem_append_left _ (List.mem_map.2 ⟨y,hy,rfl⟩))))
  ·have:=hp.perm.length_eq
   simp only[List.length_cons]at this
   omega
inductive Filt (ops:Array Oper) (i:Nat):List Qp->List Qp->Prop
 | nil:Filt ops i [] []
 | drop {x:Qp} {V V':List Qp} (h:Zbc ops x.i i=true):Filt ops i V V'->Filt ops i (x::V) V'
 | dropT {x:Qp} {V V':List Qp} (h:Zll ops x.i i=true):Filt ops i V V'->Filt ops i (x::V) V'
 | keep {x:Qp} {V V':List Qp} (h:Zbc ops x.i i=false):Filt ops i V V'->Filt ops i (x::V) (x::V')
theorem Filt.le {i:Nat}{V V':List Qp}(h:Filt ops i V V'):V'.Sublist V:=by
 induction h with
 | nil=>exact List.Sublist.refl _
 | drop h _ ih=>exact ih.cons _
 | dropT h _ ih=>exact ih.cons _
 | keep h _ ih=>exact ih.cons_cons _
theorem Filt.ge {i:Nat}{V V':List Qp}(h:Filt ops i V V'):∀ X:List Qp,X.Sublist V->(∀ x∈X,gone ops i x=false)->X.Sublist V':=by
 induction h with
 | nil=>exact fun X hX _=>hX
 | @drop x V V' h _ ih =>
  intro X hX hg
  cases hX with
  | cons _ hX=>exact ih X hX hg
  | cons_cons _ hX =>
   have:=hg x List.mem_cons_self
   rw[gone,h]at this
   cases this
 | @dropT x V V' h _ ih =>
  intro X hX hg
  cases hX with
  | cons _ hX=>exact ih X hX hg
  | cons_cons _ hX =>
   have:=hg x List.mem_cons_self
   rw[gone,h,Bool.or_true]at this
   cases this
 | @keep x V V' h _ ih =>
  intro X hX hg
  cases hX with
  | cons _ hX=>exact(ih X hX hg).cons _
  | cons_cons _ hX=>exact(ih _ hX fun y hy=>hg y (List.mem_cons_of_mem _ hy)).cons_cons _
theorem QF.sublist {V':List Qp}(h:V'.Sublist V)(hq:QF P n wr ops fr O V):QF P n wr ops fr O V':=by
 induction h with
 | slnil=>exact trivial
 | cons _ _ ih=>exact ih hq.2
 | cons_cons _ _ ih=>exact⟨hq.1,ih hq.2⟩
theorem RD_l {i:Nat}{o:Oper}{V':List Qp}(hp:Pk (i,o) todo todo')(hblk:ZsS ops todo' todo=true)(hsel:Zkh o.op=true)(hg:∀ a,Sim n fr a->Region.wanted o (yielded ops a.tmps)=true)(hdst:ZqN o.dst n Al=true)(hV:Filt ops i V V')
  (hstep:∀ F,Stp P n wr fr (O++F) o fun v O'=>∃ O'',Ends O' F O''/\QF P n wr ops (updF fr o.dst v) O'' V'/\AF P n wr ops (updF fr o.dst v) Al/\RD P n wr ops todo' V' Al K (updF fr o.dst v) O'') :
  RD P n wr ops todo V Al K fr O:=ZzQ hp (fun p hp => .inl (List.all_eq_true.1 hblk p hp)) hsel hg hdst hV.le hV.ge hstep
theorem ItOk.blk {i d:Nat}{val:Nat->Value}{z:List Value}{t:TypeId}:ItOk ⟨i,d,val,z,t,fun b => .blk b z t⟩:=fun _=>⟨fun _=>Iff.rfl,fun _ h=>h⟩
theorem Ay_alloc {t:TypeId}{z:List Value}{d i dd:Nat}{ty:TypeId}{pos:String}{af:Array Edge}[hz:ZeroT P t z]:Ay P n wr ops fr ⟨some d,.alloc t,ty,pos,af,none⟩ ⟨i,dd,fun b => .pointer (some ⟨b,0,none⟩),z,t,fun b => .blk b z t⟩:=⟨ItOk.blk,fun a w _=>by
 refine⟨rfl,?_⟩
 have h:=hz.h
 unfold Ze8 at h
 split at h
 ·rename_i i hi
  split at h
  ·rename_i zv hzv
   simp only[Option.some.injEq]at h
   subst h
   simp[execOp,Instr.alloc,zeroValue,ZaK hi,hzv,newVar,newRow,newObj,Sem.run]
  ·cases h
 ·cases h⟩
inductive PkA:Ap->List Ap->List Ap->Prop
 | here {p:Ap} {r:List Ap}:PkA p (p::r) r
 | there {p x:Ap} {l r:List Ap}:PkA p l r->PkA p (x::l) (x::r)
theorem PkA.perm {p:Ap}{l r:List Ap}(h:PkA p l r):l.Perm (p::r):=by
 induction h with
 | here=>exact List.Perm.refl _
 | there _ ih=>exact(List.Perm.cons _ ih).trans (List.Perm.swap _ _ _)
theorem ZyR {Al':List Ap}(hp:Al.Perm Al')(k:RD P n wr ops todo V Al' K fr O):RD P n wr ops todo V Al K fr O:=by
 intro hR m F X Y N a w hX hA hst hm hcl
 refine k ⟨?_,?_,hR.qf,AF.of_mem fun x hx=>hR.af.mem x (hp.mem_iff.2 hx),hR.ok⟩ m F X Y N a w hX (hp.symm.trans hA) hst hm hcl
 ·exact(List.Perm.nodup_iff (((hp.map _).append_left _).append_left _)).1 hR.idx
 ·exact(List.Perm.nodup_iff ((hp.map _).append_left _)).1 hR.dst
theorem ZvK {k:Ap}{Al':List Ap}(hp:PkA k Al Al')(hne:todo≠[])(hb:Zds ops k.i todo=true)(kk:∀ b,RD P n wr ops todo V Al' K ((k.d,k.val b)::fr) (k.it b::O)):RD P n wr ops todo V Al K fr O :=
 ZyR hp.perm (ZyS hne hb kk)
theorem QF.cons {i d:Nat}{v:Value}{o:Oper}(hi:ops[i]?=some o)(hd:o.dst=some d)(hf:Zej ops i d=true)(hn:Nat.ble (d+1) n=true)(hs:Zkh o.op=true)(hq:Qy P n wr ops fr O o v)(r:QF P n wr ops fr O V):QF P n wr ops fr O (⟨i,d,v⟩::V) :=
 ⟨⟨o,hi,hd,hf,hn,ZeI hs,hq⟩,r⟩
theorem QF.nil:QF P n wr ops fr O []:=trivial
theorem Zac {dst:Option Tmp}{op:Op}{ty:TypeId}{pos:String}{af:Array Edge}{g:Option (Nat × Bool)}{v:Value}{Kp:Value->List It->Prop}(h:Pu P n wr fr O op ty v)(k:Kp v O):Stp P n wr fr O ⟨dst,op,ty,pos,af,g⟩ Kp :=
 ZbG fun a w hs=>⟨v,w,O,h a w hs _ _ _ _,hs.old,hs.own,k⟩
theorem LSub.over {d:Nat}{v:Value}(h:look fr d=some v):LSub fr ((d,v)::fr):=fun t u hu=>by
 simp only[look]
 cases hb:Nat.beq d t with
 | false=>simpa using hu
 | true =>
  have e:=Nat.eq_of_beq_eq_true hb
  subst e
  rw[h]at hu
  simpa using hu
theorem Zs9 {d:Nat}{v:Value}(hv:look fr d=some v)(k:RD P n wr ops todo V Al K ((d,v)::fr) O):RD P n wr ops todo V Al K fr O:=by
 intro hR m F X Y N a w hX hA hst hm hcl
 have hne:∀ y∈Al,y.d≠d:=fun y hy e=>by
  obtain⟨_,_,_,_,_,_,h,_⟩:=hR.af.mem y hy
  rw[e,hv]at h
  cases h
 have hY:∀ p∈Zbr Y,p.1≠d:=fun p hp=>by
  obtain⟨y,hy,rfl⟩:=List.mem_map.1 hp
  exact hne y.1 (hA.mem_iff.2 (List.mem_append_left _ (List.mem_map.2 ⟨y,hy,rfl⟩)))
 refine k ⟨hR.idx,hR.dst,hR.qf.mono (LSub.over hv) (SubO.refl _),AF.mono (LSub.over hv) (fun y hy=>?_) hR.af,hR.ok⟩ m F X Y N a w hX hA ⟨?_,hst.old,hst.own⟩ hm hcl
 ·obtain⟨_,_,_,_,_,_,h,_⟩:=hR.af.mem y hy
  rw[ZhQ (hne y hy)]
  exact h
 ·have hd:look (Zbr Y++fr) d=some v:=by
   revert hY
   generalize Zbr Y=Z
   intro hZ
   induction Z with
   | nil=>exact hv
   | cons z Z ih =>
    have:Nat.beq z.1 d=false:=by
     cases hc:Nat.beq z.1 d with
     | false=>rfl
     | true=>exact absurd (Nat.eq_of_beq_eq_true hc) (hZ z List.mem_cons_self)
    simp only[List.cons_append,look,this]
    exact ih fun p hp=>hZ p (List.mem_cons_of_mem _ hp)
  exact(hst.sim.over hd).lsub (ZfA hY)
theorem Zpo (d:Nat){c:Bool}(hv:look fr d=some (.bool c))(ht:c=true->RD P n wr ops todo V Al K ((d,.bool true)::fr) O)(hf:c=false->RD P n wr ops todo V Al K ((d,.bool false)::fr) O):RD P n wr ops todo V Al K fr O:=by
 cases c with
 | true=>exact Zs9 hv (ht rfl)
 | false=>exact Zs9 hv (hf rfl)
theorem Zas {i:Nat}{dst:Option Tmp}{op:Op}{ty:TypeId}{pos:String}{af:Array Edge}{j:Nat}{b c:Bool}{oj:Oper}{d:Nat}(_hj:ops[j]?=some oj)(_hd:oj.dst=some d)(hv:look fr d=some (.bool c))
  (ht:c=true->RD P n wr ops ((i,⟨dst,op,ty,pos,af,some (j,b)⟩)::todo) V Al K ((d,.bool true)::fr) O) (hf:c=false->RD P n wr ops ((i,⟨dst,op,ty,pos,af,some (j,b)⟩)::todo) V Al K ((d,.bool false)::fr) O) :
  RD P n wr ops ((i,⟨dst,op,ty,pos,af,some (j,b)⟩)::todo) V Al K fr O:=Zpo d hv ht hf
def ZrS:Op->Bool
 | .move _ | .pick .. | .build .. | .load .. | .nilCheck _ | .binOp .. | .unOp .. | .convert .. | .fieldAddr .. | .field .. | .indexAddr .. | .index .. | .lookup .. | .extract .. | .makeFunc .. | .makeInterface .. | .slice .. => true
 | .call c=>match c.callee with | .builtin .len=>true | .builtin .cap=>true | .builtin .min=>true | .builtin .max=>true|_=>false
 | _=>false
def Zea (ops:Array Oper)(todo:List (Nat × Oper))(i:Nat):Bool := !(todo.any fun q=>Zbc ops q.1 i)
def Zu1 (ops:Array Oper)(todo:List (Nat × Oper))(Al:List Ap):List (Nat × Oper)->Option ((Nat × Oper) × List (Nat × Oper))
 | []=>none
 | p::l=>bif ZrS p.2.op&&(Zea ops todo p.1&&!(Al.any fun k=>Zbc ops k.i p.1)) then some (p,l) else match Zu1 ops todo Al l with|some (q,r)=>some (q,p::r)|none=>none
theorem Zjc:∀ {l r:List (Nat × Oper)} {p:Nat × Oper},Zu1 ops todo Al l=some (p,r)->Pk p l r
 | [],_,_,h=>by cases h
 | x::l,r,p,h=>by
  simp only[Zu1]at h
  cases hb:(ZrS x.2.op&&(Zea ops todo x.1&&!(Al.any fun k=>Zbc ops k.i x.1))) with
  | true =>
   rw[hb]at h
   simp only[cond_true,Option.some.injEq,Prod.mk.injEq]at h
   obtain⟨rfl,rfl⟩:=h
   exact .here
  | false =>
   rw[hb]at h
   simp only[cond_false]at h
   split at h
   ·rename_i q r' hq
    simp only[Option.some.injEq,Prod.mk.injEq]at h
    obtain⟨rfl,rfl⟩:=h
    exact .there (Zjc hq)
   ·cases h
def ZsX:Op->Bool | .alloc _=>true | .buildSlice .. => true|_=>false
def Zu3 (ops:Array Oper)(todo:List (Nat × Oper)):List (Nat × Oper)->Option ((Nat × Oper) × List (Nat × Oper))
 | []=>none
 | p::l=>bif ZsX p.2.op&&Zea ops todo p.1 then some (p,l) else match Zu3 ops todo l with|some (q,r)=>some (q,p::r)|none=>none
theorem Zje:∀ {l r:List (Nat × Oper)} {p:Nat × Oper},Zu3 ops todo l=some (p,r)->Pk p l r
 | [],_,_,h=>by cases h
 | x::l,r,p,h=>by
  simp only[Zu3]at h
  cases hb:(ZsX x.2.op&&Zea ops todo x.1) with
  | true =>
   rw[hb]at h
   simp only[cond_true,Option.some.injEq,Prod.mk.injEq]at h
   obtain⟨rfl,rfl⟩:=h
   exact .here
  | false =>
   rw[hb]at h
   simp only[cond_false]at h
   split at h
   ·rename_i q r' hq
    simp only[Option.some.injEq,Prod.mk.injEq]at h
    obtain⟨rfl,rfl⟩:=h
    exact .there (Zje hq)
   ·cases h
def Zu0 (ops:Array Oper)(todo:List (Nat × Oper)):List Ap->Option (Ap × List Ap)
 | []=>none
 | k::l=>bif Zds ops k.i todo then some (k,l) else match Zu0 ops todo l with|some (q,r)=>some (q,k::r)|none=>none
theorem ZeG:∀ {l r:List Ap} {p:Ap},Zu0 ops todo l=some (p,r)->PkA p l r/\Zds ops p.i todo=true
 | [],_,_,h=>by cases h
 | x::l,r,p,h=>by
  simp only[Zu0]at h
  cases hb:Zds ops x.i todo with
  | true =>
   rw[hb]at h
   simp only[cond_true,Option.some.injEq,Prod.mk.injEq]at h
   obtain⟨rfl,rfl⟩:=h
   exact⟨.here,hb⟩
  | false =>
   rw[hb]at h
   simp only[cond_false]at h
   split at h
   ·rename_i q r' hq
    simp only[Option.some.injEq,Prod.mk.injEq]at h
    obtain⟨rfl,rfl⟩:=h
    exact⟨.there (ZeG hq).1,(ZeG hq).2⟩
   ·cases h
def gst (ops:Array Oper)(fr:Fr):Option (Nat × Bool)->Option Bool
 | none=>some true
 | some (j,b)=>match ops[j]? with|some o=>(match o.dst with|some d=>(match look fr d with|some v=>(match v with | .bool c=>some (c==b)|_=>some false)|none=>none)|none=>none)|none=>none
theorem Zg1 {a:Act}{o:Oper}{c:Bool}(h:gst ops fr o.guard=some c)(hs:Sim n fr a):Region.wanted o (yielded ops a.tmps)=c:=by
 cases hg:o.guard with
 | none =>
  rw[hg]at h
  simp only[gst,Option.some.injEq]at h
  simp[Region.wanted,hg,<- h]
 | some p =>
  obtain⟨j,b⟩:=p
  rw[hg]at h
  simp only[gst]at h
  split at h
  ·rename_i oj hj
   split at h
   ·rename_i d hd
    split at h
    ·rename_i v hc
     have ha:=hs.at_ d _ hc
     cases v with
     | bool c' =>
      simp only[Option.some.injEq]at h
      have hy:yielded ops a.tmps j=some c':=by simp[yielded,hj,hd,ha]
      simp only[Region.wanted,hg,hy]
      rw[<- h]
      cases c' <;> cases b <;> rfl
     | _ =>
      simp only[Option.some.injEq]at h
      have hy:yielded ops a.tmps j=none:=by simp[yielded,hj,hd,ha]
      simp only[Region.wanted,hg,hy]
      rw[<- h]
      cases b <;> rfl
    ·cases h
   ·cases h
  ·cases h
theorem Qy_y {dst:Option Tmp}{op:Op}{ty:TypeId}{pos:String}{af:Array Edge}{g:Option (Nat × Bool)}{v:Value}(hg:gst ops fr g=some true)(h:Pu P n wr fr O op ty v):Qy P n wr ops fr O ⟨dst,op,ty,pos,af,g⟩ v :=
 fun a w hs => .inl ⟨Zg1 (o:=⟨dst,op,ty,pos,af,g⟩) hg hs.sim,h a w hs _ _ _ _⟩
theorem Qy_n {dst:Option Tmp}{op:Op}{ty:TypeId}{pos:String}{af:Array Edge}{g:Option (Nat × Bool)}(hg:gst ops fr g=some false):Qy P n wr ops fr O ⟨dst,op,ty,pos,af,g⟩ undef :=
 fun a w hs => .inr ⟨Zg1 (o:=⟨dst,op,ty,pos,af,g⟩) hg hs.sim,rfl⟩
def Zu2 (ops:Array Oper)(fr:Fr)(todo:List (Nat × Oper)):List (Nat × Oper)->Option ((Nat × Oper) × List (Nat × Oper))
 | []=>none
 | p::l=>bif (match gst ops fr p.2.guard with|some b => !b|none=>false)&&Zea ops todo p.1 then some (p,l) else match Zu2 ops fr todo l with|some (q,r)=>some (q,p::r)|none=>none
theorem Zjd:∀ {l r:List (Nat × Oper)} {p:Nat × Oper},Zu2 ops fr todo l=some (p,r)->Pk p l r
 | [],_,_,h=>by cases h
 | x::l,r,p,h=>by
  simp only[Zu2]at h
  cases hb:((match gst ops fr x.2.guard with|some b => !b|none=>false)&&Zea ops todo x.1) with
  | true =>
   rw[hb]at h
   simp only[cond_true,Option.some.injEq,Prod.mk.injEq]at h
   obtain⟨rfl,rfl⟩:=h
   exact .here
  | false =>
   rw[hb]at h
   simp only[cond_false]at h
   split at h
   ·rename_i q r' hq
    simp only[Option.some.injEq,Prod.mk.injEq]at h
    obtain⟨rfl,rfl⟩:=h
    exact .there (Zjd hq)
   ·cases h
def okQ (n:Nat)(ops:Array Oper)(i d:Nat)(o:Oper):Bool:=Zej ops i d&&Nat.ble (d+1) n&&Zkh o.op
theorem RD_Q {i d:Nat}{o:Oper}{v:Value}(hp:Zu1 ops todo Al todo=some ((i,o),todo'))(hd:o.dst=some d)(hok:okQ n ops i d o=true)(hl:look fr d=none)(hfree:ZnJ d V Al=true)
  (hq:Qy P n wr ops fr O o v) (k:RD P n wr ops todo' (⟨i,d,v⟩::V) Al K ((d,v)::fr) O):RD P n wr ops todo V Al K fr O:=by
 simp only[okQ,Bool.and_eq_true]at hok
 exact RD_q (Zjc hp) hd hok.1.1 hok.1.2 hok.2 hl hfree hq k
theorem RD_N {i d:Nat}{o:Oper}(hp:Zu2 ops fr todo todo=some ((i,o),todo'))(hd:o.dst=some d)(hok:okQ n ops i d o=true)(hl:look fr d=none)(hfree:ZnJ d V Al=true)
  (hg:gst ops fr o.guard=some false) (k:RD P n wr ops todo' (⟨i,d,undef⟩::V) Al K ((d,undef)::fr) O):RD P n wr ops todo V Al K fr O:=by
 simp only[okQ,Bool.and_eq_true]at hok
 obtain⟨dst,op,ty,pos,af,g⟩:=o
 exact RD_q (Zjd hp) hd hok.1.1 hok.1.2 hok.2 hl hfree (Qy_n hg) k
theorem RD_A {i d:Nat}{o:Oper}{val:Nat->Value}{z:List Value}{t:TypeId}{it:Nat->It}(hp:Zu3 ops todo todo=some ((i,o),todo'))(hd:o.dst=some d)(hok:okQ n ops i d o=true)(hl:look fr d=none)(hfree:ZnJ d V Al=true)
  (hq:Ay P n wr ops fr o ⟨i,d,val,z,t,it⟩) (k:RD P n wr ops todo' V (⟨i,d,val,z,t,it⟩::Al) K fr O):RD P n wr ops todo V Al K fr O:=by
 simp only[okQ,Bool.and_eq_true]at hok
 exact ZzR (Zje hp) hd hok.1.1 hok.1.2 hok.2 hl hfree hq k
theorem RD_W {k:Ap}{Al':List Ap}{p:Nat × Oper}(hp:Zu0 ops (p::todo) Al=some (k,Al'))(kk:∀ b,RD P n wr ops (p::todo) V Al' K ((k.d,k.val b)::fr) (k.it b::O)):RD P n wr ops (p::todo) V Al K fr O :=
 ZvK (ZeG hp).1 (by simp) (ZeG hp).2 kk
def alOk (n:Nat)(fr:Fr)(dst:Option Tmp)(Al:List Ap):Bool:=match dst with|none=>true|some d=>Nat.ble (d+1) n&&(Al.all fun x => !(Nat.beq x.d d))&&(Al.isEmpty||(look fr d).isNone)
def okL (n:Nat)(ops:Array Oper)(fr:Fr)(todo todo':List (Nat × Oper))(o:Oper):Bool:=ZsS ops todo' todo&&Zkh o.op&&(match gst ops fr o.guard with|some b=>b|none=>false)
theorem RD_L {i:Nat}{o:Oper}{V':List Qp}(hok:okL n ops fr ((i,o)::todo) todo o=true)(hal:alOk n fr o.dst Al=true)(hV:Filt ops i V V')
  (hstep:∀ F,Stp P n wr fr (O++F) o fun v O'=>∃ O'',Ends O' F O''/\QF P n wr ops (updF fr o.dst v) O'' V'/\RD P n wr ops todo V' Al K (updF fr o.dst v) O'') :
  RD P n wr ops ((i,o)::todo) V Al K fr O:=by
 simp only[okL,Bool.and_eq_true]at hok
 obtain⟨⟨h1,h2⟩,h3⟩:=hok
 have hg:gst ops fr o.guard=some true:=by
  split at h3
  ·rename_i b hb
   rw[hb,h3]
  ·cases h3
 intro hR
 refine RD_l .here h1 h2 (fun a hs=>Zg1 hg hs) ?_ hV (fun F a w hs Kn Q hk=>hstep F a w hs Kn Q fun v O' w' h1 h2 ⟨O'',h3,h4,h5⟩=>hk v O' w' h1 h2 ⟨O'',h3,h4,?_,h5⟩) hR
 ·unfold alOk at hal
  cases hd:o.dst with
  | none=>rfl
  | some d =>
   rw[hd]at hal
   simp only[Bool.and_eq_true]at hal
   simp only[ZqN,Bool.and_eq_true]
   exact hal.1
 ·cases hd:o.dst with
  | none=>exact hR.af
  | some d =>
   unfold alOk at hal
   rw[hd]at hal
   simp only[Bool.and_eq_true,Bool.or_eq_true,List.all_eq_true,Bool.not_eq_true']at hal
   rcases hal.2 with he|hl
   ·have:Al=[]:=by simpa using he
    subst this
    exact trivial
   ·have hl':look fr d=none:=by simpa using hl
    refine AF.mono (LSub.cons hl') (fun k hk=>?_) hR.af
    obtain⟨_,_,_,_,_,_,h,_⟩:=hR.af.mem k hk
    show look ((d,v)::fr) k.d=none
    rw[ZhQ (Nat.ne_of_beq_eq_false (hal.1.2 k hk))]
    exact h
def ZdI (ops:Array Oper)(todo:List (Nat × Oper)):List Ap->List Ap->List (Ap × List Ap)
 | _,[]=>[]
 | pre,k::l=>bif todo.any (fun p=>Zbc ops k.i p.1&&!(todo.any fun q=>Zbc ops q.1 p.1)) then (k,pre.reverse++l)::ZdI ops todo (k::pre) l else ZdI ops todo (k::pre) l
def okK (n:Nat)(ops:Array Oper)(fr:Fr)(todo todo':List (Nat × Oper))(o:Oper)(ks:List Nat):Bool:=(todo'.all fun p=>(todo.any fun q=>Zbc ops q.1 p.1)||ks.any fun k=>Zbc ops k p.1)&&Zkh o.op&&(match gst ops fr o.guard with|some b=>b|none=>false)
theorem Zge:∀ (l pre:List Ap) (x:Ap × List Ap),x∈ZdI ops todo pre l->(pre.reverse++l).Perm (x.1::x.2)
 | [],_,_,h=>by cases h
 | k::l,pre,x,h=>by
  have ih:=Zge l (k::pre) x
  simp only[List.reverse_cons,List.append_assoc,List.cons_append,List.nil_append]at ih
  simp only[ZdI]at h
  cases hb:todo.any (fun p=>Zbc ops k.i p.1&&!(todo.any fun q=>Zbc ops q.1 p.1)) with
  | true =>
   rw[hb]at h
   simp only[cond_true]at h
   rcases List.mem_cons.1 h with rfl|h
   ·exact List.perm_middle
   ·exact ih h
  | false =>
   rw[hb]at h
   exact ih h
def ZeU (ops:Array Oper)(todo:List (Nat × Oper))(Al:List Ap):List (Nat × Oper)->Option ((Nat × Oper) × List (Nat × Oper))
 | []=>none
 | p::l=>bif Zea ops todo p.1&&!(Al.any fun k=>Zbc ops k.i p.1) then some (p,l) else match ZeU ops todo Al l with|some (q,r)=>some (q,p::r)|none=>none
theorem Zjb {todo:List (Nat × Oper)}{Al:List Ap}:∀ {l r:List (Nat × Oper)} {p:Nat × Oper},ZeU ops todo Al l=some (p,r)->Pk p l r
 | [],_,_,h=>by cases h
 | x::l,r,p,h=>by
  simp only[ZeU]at h
  cases hb:(Zea ops todo x.1&&!(Al.any fun k=>Zbc ops k.i x.1)) with
  | true =>
   rw[hb]at h
   simp only[cond_true,Option.some.injEq,Prod.mk.injEq]at h
   obtain⟨rfl,rfl⟩:=h
   exact .here
  | false =>
   rw[hb]at h
   simp only[cond_false]at h
   split at h
   ·rename_i q r' hq
    simp only[Option.some.injEq,Prod.mk.injEq]at h
    obtain⟨rfl,rfl⟩:=h
    exact .there (Zjb hq)
   ·cases h
theorem RD_K {i:Nat}{o:Oper}{V':List Qp}{ks:List (Ap × List Ap)}(hp:ZeU ops todo Al todo=some ((i,o),todo'))(hks:ZdI ops todo [] Al=ks)(hok:okK n ops fr todo todo' o (ks.map (·.1.i))=true)(hal:alOk n fr o.dst Al=true)(hV:Filt ops i V V')
  (kk:∀ x∈ks,∀ b,RD P n wr ops todo V x.2 K ((x.1.d,x.1.val b)::fr) (x.1.it b::O))
  (hstep:∀ F,Stp P n wr fr (O++F) o fun v O'=>∃ O'',Ends O' F O''/\QF P n wr ops (updF fr o.dst v) O'' V'/\RD P n wr ops todo' V' Al K (updF fr o.dst v) O'') :
  RD P n wr ops todo V Al K fr O:=by
 simp only[okK,Bool.and_eq_true]at hok
 obtain⟨⟨h1,h2⟩,h3⟩:=hok
 have hg:gst ops fr o.guard=some true:=by
  split at h3
  ·rename_i b hb
   rw[hb,h3]
  ·cases h3
 intro hR
 refine ZzQ (Zjb hp) (fun p hp=>?_) h2 (fun a hs=>Zg1 hg hs) ?_ hV.le hV.ge (fun F a w hs Kn Q hk=>hstep F a w hs Kn Q fun v O' w' h1 h2 ⟨O'',h3,h4,h5⟩=>hk v O' w' h1 h2 ⟨O'',h3,h4,?_,h5⟩) hR
 ·have:=List.all_eq_true.1 h1 p hp
  rw[Bool.or_eq_true]at this
  rcases this with h|h
  ·exact .inl h
  ·rw[List.any_eq_true]at h
   obtain⟨j,hj,he⟩:=h
   obtain⟨x,hx,rfl⟩:=List.mem_map.1 hj
   rw[<- hks]at hx
   exact .inr ⟨x.1,x.2,Zge Al [] x hx,he,kk x (hks▸hx)⟩
 ·unfold alOk at hal
  cases hd:o.dst with
  | none=>rfl
  | some d =>
   rw[hd]at hal
   simp only[Bool.and_eq_true]at hal
   simp only[ZqN,Bool.and_eq_true]
   exact hal.1
 ·cases hd:o.dst with
  | none=>exact hR.af
  | some d =>
   unfold alOk at hal
   rw[hd]at hal
   simp only[Bool.and_eq_true,Bool.or_eq_true,List.all_eq_true,Bool.not_eq_true']at hal
   rcases hal.2 with he|hl
   ·have:Al=[]:=by simpa using he
    subst this
    exact trivial
   ·have hl':look fr d=none:=by simpa using hl
    refine AF.mono (LSub.cons hl') (fun k hk=>?_) hR.af
    obtain⟨_,_,_,_,_,_,h,_⟩:=hR.af.mem k hk
    show look ((d,v)::fr) k.d=none
    rw[ZhQ (Nat.ne_of_beq_eq_false (hal.1.2 k hk))]
    exact h
theorem ZAC {i:Nat}{o:Oper}{V':List Qp}{k:Ap}{A1:List Ap}(hp:ZeU ops todo Al todo=some ((i,o),todo'))(hks:ZdI ops todo [] Al=[(k,A1)])(hok:okK n ops fr todo todo' o [k.i]=true)(hal:alOk n fr o.dst Al=true)(hV:Filt ops i V V')
  (kk:∀ b,RD P n wr ops todo V A1 K ((k.d,k.val b)::fr) (k.it b::O))
  (hstep:∀ F,Stp P n wr fr (O++F) o fun v O'=>∃ O'',Ends O' F O''/\QF P n wr ops (updF fr o.dst v) O'' V'/\RD P n wr ops todo' V' Al K (updF fr o.dst v) O'') :
  RD P n wr ops todo V Al K fr O   := RD_K hp hks hok hal hV (fun x hx=>by rw[List.mem_singleton.1 hx];exact kk) hstep
theorem ZAB {i:Nat}{o:Oper}{V':List Qp}{k k2:Ap}{A1 A2:List Ap}(hp:ZeU ops todo Al todo=some ((i,o),todo'))(hks:ZdI ops todo [] Al=[(k,A1),(k2,A2)])(hok:okK n ops fr todo todo' o [k.i,k2.i]=true)(hal:alOk n fr o.dst Al=true)(hV:Filt ops i V V')
  (kk:∀ b,RD P n wr ops todo V A1 K ((k.d,k.val b)::fr) (k.it b::O)) (kk2:∀ b,RD P n wr ops todo V A2 K ((k2.d,k2.val b)::fr) (k2.it b::O))
  (hstep:∀ F,Stp P n wr fr (O++F) o fun v O'=>∃ O'',Ends O' F O''/\QF P n wr ops (updF fr o.dst v) O'' V'/\RD P n wr ops todo' V' Al K (updF fr o.dst v) O'') :
  RD P n wr ops todo V Al K fr O   := RD_K hp hks hok hal hV (fun x hx=>by
   rcases List.mem_cons.1 hx with rfl|hx
   ·exact kk
   ·rw[List.mem_singleton.1 hx];exact kk2) hstep
theorem RD_J {ks:List (Ap × List Ap)}(hks:ZdI ops todo [] Al=ks)(hne:todo.isEmpty=false)(hok:(todo.all fun p=>(todo.any fun q=>Zbc ops q.1 p.1)||(ks.map (·.1.i)).any fun k=>Zbc ops k p.1)=true)
  (kk:∀ x∈ks,∀ b,RD P n wr ops todo V x.2 K ((x.1.d,x.1.val b)::fr) (x.1.it b::O)):RD P n wr ops todo V Al K fr O:=by
 refine ZfQ (fun h=>by rw[h]at hne;cases hne) ?_
 intro hR m F X Y N a w hX hA hst hm hcl p hp hr
 have:=List.all_eq_true.1 hok p hp
 rw[Bool.or_eq_true]at this
 rcases this with h|h
 ·rw[List.any_eq_true]at h
  obtain⟨q,hq,hh⟩:=h
  rw[Zca hr (.inl ⟨q,hq,rfl⟩)]at hh
  cases hh
 ·rw[List.any_eq_true]at h
  obtain⟨j,hj,he⟩:=h
  obtain⟨x,hx,rfl⟩:=List.mem_map.1 hj
  have hx':=hx
  rw[<- hks]at hx'
  have hperm:=Zge Al [] x hx'
  have hkN:x.1 ∉ N:=fun hk=>by
   rw[Zca hr (.inr (.inr ⟨x.1,hk,rfl⟩))]at he
   cases he
  exact Ziu (kk x hx) (hR.perm hperm) m F X Y N a w hX (hperm.symm.trans hA) hst hm hcl p hp hr hkN
theorem ZAD {k k2:Ap}{A1 A2:List Ap}(hks:ZdI ops todo [] Al=[(k,A1),(k2,A2)])(hne:todo.isEmpty=false)(hok:(todo.all fun p=>(todo.any fun q=>Zbc ops q.1 p.1)||[k.i,k2.i].any fun k=>Zbc ops k p.1)=true)
  (kk:∀ b,RD P n wr ops todo V A1 K ((k.d,k.val b)::fr) (k.it b::O)) (kk2:∀ b,RD P n wr ops todo V A2 K ((k2.d,k2.val b)::fr) (k2.it b::O)):RD P n wr ops todo V Al K fr O :=
 RD_J hks hne hok fun x hx=>by
  rcases List.mem_cons.1 hx with rfl|hx
  ·exact kk
  ·rw[List.mem_singleton.1 hx];exact kk2
def okG (n:Nat)(ops:Array Oper)(fr:Fr)(todo todo':List (Nat × Oper))(o:Oper)(d:Nat)(Al:List Ap)(ks:List Nat):Bool:=okK n ops fr todo todo' o ks&&(Nat.ble (d+1) n&&(Al.all fun x => !(Nat.beq x.d d))&&(look fr d).isNone)
theorem RD_G {i d:Nat}{o:Oper}{V':List Qp}{ks:List (Ap × List Ap)}(hp:ZeU ops todo Al todo=some ((i,o),todo'))(hd:o.dst=some d)(hks:ZdI ops todo [] Al=ks)(hok:okG n ops fr todo todo' o d Al (ks.map (·.1.i))=true)(hV:Filt ops i V V')
  (kk:∀ x∈ks,∀ b,RD P n wr ops todo V x.2 K ((x.1.d,x.1.val b)::fr) (x.1.it b::O))
  (hstep:∀ F,Stp P n wr fr (O++F) o fun v O'=>∃ O'',Ends O' F O''/\SubO O O''/\RD P n wr ops todo' V' Al K ((d,v)::fr) O'') :
  RD P n wr ops todo V Al K fr O:=by
 simp only[okG,Bool.and_eq_true]at hok
 obtain⟨h0,⟨h1,h2⟩,h3⟩:=hok
 have hl:look fr d=none:=by simpa using h3
 intro hR
 refine RD_K hp hks h0 ?_ hV kk (fun F a w hs Kn Q hk=>hstep F a w hs Kn Q fun v O' w' g1 g2 ⟨O'',g3,g4,g5⟩=>hk v O' w' g1 g2 ⟨O'',g3,?_,?_⟩) hR
 ·unfold alOk
  rw[hd]
  simp only[Bool.and_eq_true,Bool.or_eq_true]
  exact⟨⟨h1,h2⟩,.inr h3⟩
 ·rw[hd]
  exact(hR.qf.sublist hV.le).mono (LSub.cons hl) g4
 ·rw[hd]
  exact g5
theorem ZzW {i d:Nat}{o:Oper}{V':List Qp}(hp:ZeU ops todo Al todo=some ((i,o),todo'))(hd:o.dst=some d)(hks:ZdI ops todo [] Al=[])(hok:okG n ops fr todo todo' o d Al []=true)(hV:Filt ops i V V')
  (hstep:∀ F,Stp P n wr fr (O++F) o fun v O'=>∃ O'',Ends O' F O''/\SubO O O''/\RD P n wr ops todo' V' Al K ((d,v)::fr) O'') :
  RD P n wr ops todo V Al K fr O:=RD_G hp hd hks hok hV (fun x hx=>by cases hx) hstep
theorem ZAF {i d:Nat}{o:Oper}{V':List Qp}{k:Ap}{A1:List Ap}(hp:ZeU ops todo Al todo=some ((i,o),todo'))(hd:o.dst=some d)(hks:ZdI ops todo [] Al=[(k,A1)])(hok:okG n ops fr todo todo' o d Al [k.i]=true)(hV:Filt ops i V V')
  (kk:∀ b,RD P n wr ops todo V A1 K ((k.d,k.val b)::fr) (k.it b::O))
  (hstep:∀ F,Stp P n wr fr (O++F) o fun v O'=>∃ O'',Ends O' F O''/\SubO O O''/\RD P n wr ops todo' V' Al K ((d,v)::fr) O'') :
  RD P n wr ops todo V Al K fr O:=RD_G hp hd hks hok hV (fun x hx=>by rw[List.mem_singleton.1 hx];exact kk) hstep
theorem ZAE {i d:Nat}{o:Oper}{V':List Qp}{k k2:Ap}{A1 A2:List Ap}(hp:ZeU ops todo Al todo=some ((i,o),todo'))(hd:o.dst=some d)(hks:ZdI ops todo [] Al=[(k,A1),(k2,A2)])(hok:okG n ops fr todo todo' o d Al [k.i,k2.i]=true)(hV:Filt ops i V V')
  (kk:∀ b,RD P n wr ops todo V A1 K ((k.d,k.val b)::fr) (k.it b::O)) (kk2:∀ b,RD P n wr ops todo V A2 K ((k2.d,k2.val b)::fr) (k2.it b::O))
  (hstep:∀ F,Stp P n wr fr (O++F) o fun v O'=>∃ O'',Ends O' F O''/\SubO O O''/\RD P n wr ops todo' V' Al K ((d,v)::fr) O'') :
  RD P n wr ops todo V Al K fr O:=RD_G hp hd hks hok hV (fun x hx=>by
   rcases List.mem_cons.1 hx with rfl|hx
   ·exact kk
   ·rw[List.mem_singleton.1 hx];exact kk2) hstep
theorem QF.mk {i d:Nat}{v:Value}{o:Oper}(hi:ops[i]?=some o)(hd:o.dst=some d)(hok:okQ n ops i d o=true)(hq:Qy P n wr ops fr O o v)(r:QF P n wr ops fr O V):QF P n wr ops fr O (⟨i,d,v⟩::V):=by
 simp only[okQ,Bool.and_eq_true]at hok
 exact QF.cons hi hd hok.1.1 hok.1.2 hok.2 hq r
end
end Go.Wk
