/- Parts of the proof. -/
import Derived.Test.YtpipekfmecikmaaGreatDoorA02
set_option maxHeartbeats 0
set_option linter.all false
namespace Go.Wk
open Go Go.RowKit
inductive Pk:Nat × Oper->List (Nat × Oper)->List (Nat × Oper)->Prop
 | here {p:Nat × Oper} {r:List (Nat × Oper)}:Pk p (p::r) r
 | there {p x:Nat × Oper} {l r:List (Nat × Oper)}:Pk p l r->Pk p (x::l) (x::r)
theorem Pk.perm {p:Nat × Oper}{l r:List (Nat × Oper)}(h:Pk p l r):l.Perm (p::r):=by
 induction h with
 | here=>exact List.Perm.refl _
 | there _ ih=>exact(List.Perm.cons _ ih).trans (List.Perm.swap _ _ _)
inductive Ends:List It->List It->List It->Prop
 | nil {F:List It}:Ends F F []
 | cons {x:It} {O F O'':List It}:Ends O F O''->Ends (x::O) F (x::O'')
theorem Ends.eq {O F O'':List It}(h:Ends O F O''):O=O''++F:=by
 induction h with
 | nil=>rfl
 | cons _ ih=>rw[ih];rfl
def enum:Nat->List Oper->List (Nat × Oper)
 | _,[]=>[]
 | i,o::l=>(i,o)::enum (i+1) l
theorem Zgk:∀ (l:List Oper) (i:Nat) (p:Nat × Oper),p∈enum i l->i<=p.1/\l[p.1 - i]?=some p.2
 | [],_,_,h=>by cases h
 | o::l,i,p,h=>by
  rcases List.mem_cons.1 h with rfl|h
  ·simp
  ·have:=Zgk l (i+1) p h
   refine⟨by omega,?_⟩
   rw[show p.1 - i=(p.1 - (i+1))+1 from by omega]
   simpa using this.2
theorem Zea:∀ (l:List Oper) (i:Nat),(enum i l).map (·.1)=List.range' i l.length
 | [],_=>rfl
 | o::l,i=>by simp[enum,Zea l (i+1),List.range'_succ]
theorem Zlj:∀ (l:List Oper) (i:Nat),(enum i l).length=l.length
 | [],_=>rfl
 | _::l,i=>by simp[enum,Zlj l (i+1)]
def ZgO:Op->Bool | .select .. => false|_=>true
theorem ZdK {a:Op}(h:ZgO a=true)(cs:Array SelectCase)(b:Bool):a ≠ .select cs b:=by rintro rfl;cases h
section
variable {P:Program}{n:Nat}{wr:World}{ops:Array Oper}{todo todo':List (Nat × Oper)}{V:List Qp}{Al:List Ap}{K:Fr->List It->Prop}{fr:Fr}{O:List It}
theorem SubO.weak (x:It){O' O:List It}(h:SubO O' O):SubO O' (x::O):=by
 induction h generalizing x with
 | nil=>exact .nil
 | cons hp _ ih=>exact .cons (.there hp) (ih x)
theorem St.drawn {a:Act}{w:World}{m:Nat}(h:St n wr fr O a w)(b:w.drawn<=m):St n wr fr O a { w with drawn:=m } :=
 ⟨h.sim,⟨⟨h.old.os,h.old.tape,h.old.output,h.old.size,h.old.block⟩⟩,h.own.congr (w':={ w with drawn:=m }) (Nat.le_refl _) fun _ _=>rfl⟩
theorem W_draw {Q:Exit->Fr->List It->Prop}{x:Nat}{l:List Oper}(s:P.follows .mixedOrders=true)(d:acyc l.toArray=true)(h:RD P n wr l.toArray (enum 0 l) [] [] (Q .normal) fr O):W P n wr (.region x l.toArray true) Q fr O:=by
 intro a w v
 have i:=h ⟨by simp[Zea,List.nodup_range'],by simp,trivial,trivial,fun p c=>by simpa using(Zgk l 0 p c).2⟩ l.length [] [] [] [] a { w with drawn:=w.drawn+1 } (List.Sublist.refl _) (by simp)
  (by have h:=v.drawn (m:=w.drawn+1) (Nat.le_succ _);rw[show O++(ZcI []++[])=O from by simp[ZcI]];exact h) (by simp[Zlj]) (fun k o r t=>absurd (by
   have b:k<l.length:=by have:=(Array.getElem?_eq_some_iff.1 r).1;simpa using this
   have:k∈(enum 0 l).map (·.1):=by rw[Zea];simp;exact b
   obtain⟨p,c,rfl⟩:=List.mem_map.1 this
   exact .inl ⟨p,c,rfl⟩) t)
 refine wp_mono (wp_region_any (Q:=ZfI n wr [] (Q .normal)) s ?_) ?_
 ·refine Zju d _ _ _ _ _ (by simp) ?_ (by simpa using i)
  intro j
  unfold Tof
  constructor
  ·rintro(⟨p,c,rfl⟩|⟨_,hh,_⟩|⟨_,hh,_⟩)
   ·have:=(List.getElem?_eq_some_iff.1 (Zgk l 0 p c).2).1
    have q:p.1<l.length:=by omega
    simp[Array.getD_eq_getD_getElem?,q]
   ·cases hh
   ·cases hh
  ·intro g
   have b:j<l.length:=by
    rcases Nat.lt_or_ge j l.length with h0|h0
    ·exact h0
    ·rw[Array.getD_eq_getD_getElem?,Array.getElem?_eq_none (by simpa using h0)]at g
     simp at g
   have:j∈(enum 0 l).map (·.1):=by rw[Zea];simp;exact b
   obtain⟨p,c,rfl⟩:=List.mem_map.1 this
   exact .inl ⟨p,c,rfl⟩
 ·rintro e y w' ⟨rfl,fr',O',f,u⟩
  exact⟨fr',O',by simpa using f,u⟩
theorem RD_done (h:K fr O):RD P n wr ops [] V [] K fr O:=Ze2 (fun _=>⟨h,rfl⟩) (fun _ _ _ _ _ _ _ _ _ _ _ _ _ _ a=>by cases a)
theorem Zd4 {d:Nat}{v:Value}{fr:Fr}:∀ {Z:Fr},(∀ p∈Z,p.1≠d)->LSub (Z++(d,v)::fr) ((d,v)::(Z++fr))
 | [],_=>fun _ _ h=>h
 | (e,u)::Z,h=>fun t x a=>by
  have g:=h (e,u) List.mem_cons_self
  have c:=Zd4 (v:=v) (fr:=fr) (fun p i=>h p (List.mem_cons_of_mem _ i)) t x
  simp only[List.cons_append,look]at a c ⊢
  cases hb:Nat.beq e t with
  | true =>
   have f:=Nat.eq_of_beq_eq_true hb
   subst f
   rw[hb]at a
   have b:Nat.beq d e=false:=by
    cases hd:Nat.beq d e with
    | false=>rfl
    | true=>exact absurd (Nat.eq_of_beq_eq_true hd).symm g
   rw[b]
   simpa using a
  | false =>
   rw[hb]at a
   simp only[cond_false]at a ⊢
   exact c a
theorem AF.mono {fr fr':Fr}(c:LSub fr fr'):∀ {Al:List Ap},(∀ k∈Al,look fr' k.d=none)->AF P n wr ops fr Al->AF P n wr ops fr' Al
 | [],_,_=>trivial
 | y::r,hl,h=>by
  obtain⟨⟨o,e,f,g,i,j,q,b⟩,l⟩:=h
  exact⟨⟨o,e,f,g,i,j,hl y List.mem_cons_self,⟨b.1,fun a w p=>b.2 a w (p.lsub c)⟩⟩,AF.mono c (fun k m=>hl k (List.mem_cons_of_mem _ m)) l⟩
def ZoJ (d:Nat)(V:List Qp)(Al:List Ap):Bool:=(V.all fun x => !(Nat.beq x.d d))&&Al.all fun x => !(Nat.beq x.d d)
theorem Zj4 {d:Nat}{V:List Qp}{Al:List Ap}(h:ZoJ d V Al=true):(∀ x∈V,x.d≠d)/\∀ x∈Al,x.d≠d:=by
 simp only[ZoJ,Bool.and_eq_true,List.all_eq_true,Bool.not_eq_true']at h
 exact⟨fun x a=>Nat.ne_of_beq_eq_false (h.1 x a),fun x a=>Nat.ne_of_beq_eq_false (h.2 x a)⟩
theorem ZfK {d t:Nat}{v:Value}{fr:Fr}(h:t≠d):look ((d,v)::fr) t=look fr t:=by
 have:Nat.beq d t=false:=by
  cases hd:Nat.beq d t with
  | false=>rfl
  | true=>exact absurd (Nat.eq_of_beq_eq_true hd).symm h
 simp[look,this]
theorem ZD3 {i:Nat}{o:Oper}{X:List Qp}{N:List Ap}{d:Nat}{v:Value}(a:Pk (i,o) todo todo'):Tof todo X N=Tof todo' (⟨i,d,v⟩::X) N:=by
 funext j
 apply propext
 unfold Tof
 constructor
 ·rintro(⟨p,hpm,rfl⟩|⟨x,hx,rfl⟩|h)
  ·rcases List.mem_cons.1 (a.perm.mem_iff.1 hpm) with rfl|hpm
   ·exact .inr (.inl ⟨_,List.mem_cons_self,rfl⟩)
   ·exact .inl ⟨p,hpm,rfl⟩
  ·exact .inr (.inl ⟨x,List.mem_cons_of_mem _ hx,rfl⟩)
  ·exact .inr (.inr h)
 ·rintro(⟨p,hpm,rfl⟩|⟨x,hx,rfl⟩|h)
  ·exact .inl ⟨p,a.perm.mem_iff.2 (List.mem_cons_of_mem _ hpm),rfl⟩
  ·rcases List.mem_cons.1 hx with rfl|hx
   ·exact .inl ⟨(i,o),a.perm.mem_iff.2 List.mem_cons_self,rfl⟩
   ·exact .inr (.inl ⟨x,hx,rfl⟩)
  ·exact .inr (.inr h)
theorem ZD4 {i:Nat}{o:Oper}{X:List Qp}{N:List Ap}{k:Ap}(b:k.i=i)(a:Pk (i,o) todo todo'):Tof todo X N=Tof todo' X (k::N):=by
 funext j
 apply propext
 unfold Tof
 constructor
 ·rintro(⟨p,hpm,rfl⟩|h|⟨x,hx,rfl⟩)
  ·rcases List.mem_cons.1 (a.perm.mem_iff.1 hpm) with rfl|hpm
   ·exact .inr (.inr ⟨_,List.mem_cons_self,b⟩)
   ·exact .inl ⟨p,hpm,rfl⟩
  ·exact .inr (.inl h)
  ·exact .inr (.inr ⟨x,List.mem_cons_of_mem _ hx,rfl⟩)
 ·rintro(⟨p,hpm,rfl⟩|h|⟨x,hx,rfl⟩)
  ·exact .inl ⟨p,a.perm.mem_iff.2 (List.mem_cons_of_mem _ hpm),rfl⟩
  ·exact .inr (.inl h)
  ·rcases List.mem_cons.1 hx with rfl|hx
   ·exact .inl ⟨(i,o),a.perm.mem_iff.2 List.mem_cons_self,b.symm⟩
   ·exact .inr (.inr ⟨x,hx,rfl⟩)
theorem RD_q {i d:Nat}{o:Oper}{v:Value}(r:Pk (i,o) todo todo')(E:o.dst=some d)(G:ZeR ops i d=true)(C:Nat.ble (d+1) n=true)(I:ZgO o.op=true)(s:look fr d=none)(f:ZoJ d V Al=true)
  (H:Qy P n wr ops fr O o v) (k:RD P n wr ops todo' (⟨i,d,v⟩::V) Al K ((d,v)::fr) O):RD P n wr ops todo V Al K fr O:=by
 intro b m F X Y N a w A z j J l
 obtain⟨q,c⟩:=Zj4 f
 have t:=b.ok _ (r.perm.mem_iff.2 List.mem_cons_self)
 rw[ZD3 (d:=d) (v:=v) r]at l ⊢
 refine k ⟨?_,?_,?_,?_,?_⟩ m F (⟨i,d,v⟩::X) Y N a w (A.cons_cons _) z ?_ ?_ l
 ·have:=(r.perm.map (·.1)).append_right (V.map (·.i)++Al.map (·.i)) |>.nodup_iff.1 b.idx
  refine(List.Perm.nodup_iff ?_).1 this
  simp only[List.map_cons,List.cons_append]
  exact List.perm_middle.symm
 ·simp only[List.map_cons,List.cons_append,List.nodup_cons]
  refine⟨fun h=>?_,b.dst⟩
  rcases List.mem_append.1 h with h|h <;> obtain⟨x,D,e⟩:=List.mem_map.1 h
  ·exact q x D e
  ·exact c x D e
 ·exact⟨⟨o,t,E,G,C,ZdK I,fun a w h=>H a w ⟨h.sim.lsub (LSub.cons s),h.old,h.own⟩⟩,b.qf.mono (LSub.cons s) (SubO.refl _)⟩
 ·refine AF.mono (LSub.cons s) (fun k B=>?_) b.af
  obtain⟨_,_,_,_,_,_,h,_⟩:=b.af.mem k B
  rw[ZfK (c k B)]
  exact h
 ·exact fun p g=>b.ok p (r.perm.mem_iff.2 (List.mem_cons_of_mem _ g))
 ·refine⟨?_,j.old,j.own⟩
  have e:putX a (⟨i,d,v⟩::X)=(putX a X).put (some d) v:=Zf7 X a (some d) v fun y u e=>q y (A.subset u) (by injection e with e;exact e.symm)
  rw[e]
  refine(j.sim.put C v).lsub (Zd4 fun p g=>?_)
  obtain⟨y,u,rfl⟩:=List.mem_map.1 g
  exact c y.1 (z.mem_iff.2 (List.mem_append_left _ (List.mem_map.2 ⟨y,u,rfl⟩)))
 ·have:=r.perm.length_eq
  simp only[List.length_cons]at this ⊢
  omega
theorem ZCp {i d:Nat}{o:Oper}{val:Nat->Value}{z:List Value}{t:TypeId}{j:Nat->It}(g:Pk (i,o) todo todo')(B:o.dst=some d)(C:ZeR ops i d=true)(E:Nat.ble (d+1) n=true)(H:ZgO o.op=true)(D:look fr d=none)(b:ZoJ d V Al=true)
  (G:Ay P n wr ops fr o ⟨i,d,val,z,t,j⟩) (k:RD P n wr ops todo' V (⟨i,d,val,z,t,j⟩::Al) K fr O):RD P n wr ops todo V Al K fr O:=by
 intro c m F X Y N a w A y u I f
 obtain⟨q,l⟩:=Zj4 b
 have r:=c.ok _ (g.perm.mem_iff.2 List.mem_cons_self)
 rw[ZD4 (k:=⟨i,d,val,z,t,j⟩) rfl g]at f ⊢
 refine k ⟨?_,?_,c.qf,?_,?_⟩ m F X Y (⟨i,d,val,z,t,j⟩::N) a w A ?_ u ?_ f
 ·have:=(g.perm.map (·.1)).append_right (V.map (·.i)++Al.map (·.i)) |>.nodup_iff.1 c.idx
  refine(List.Perm.nodup_iff ?_).1 this
  simp only[List.map_cons,List.cons_append]
  exact(List.perm_middle.symm).trans ((List.perm_middle.symm).append_left _)
 ·refine(List.Perm.nodup_iff (l₁:=d::(V.map (·.d)++Al.map (·.d))) ?_).1 ?_
  ·simp only[List.map_cons]
   exact List.perm_middle.symm
  ·rw[List.nodup_cons]
   refine⟨fun h=>?_,c.dst⟩
   rcases List.mem_append.1 h with h|h <;> obtain⟨x,v,e⟩:=List.mem_map.1 h
   ·exact q x v e
   ·exact l x v e
 ·exact⟨⟨o,r,B,C,E,ZdK H,D,G⟩,c.af⟩
 ·exact fun p s=>c.ok p (g.perm.mem_iff.2 (List.mem_cons_of_mem _ s))
 ·exact(y.cons _).trans List.perm_middle.symm
 ·have:=g.perm.length_eq
  simp only[List.length_cons]at this ⊢
  omega
def Zun (ops:Array Oper)(l todo:List (Nat × Oper)):Bool:=l.all fun p=>todo.any fun q=>Zbm ops q.1 p.1
def ZdB (ops:Array Oper)(i:Nat)(todo:List (Nat × Oper)):Bool:=todo.all fun p=>Zbm ops i p.1||todo.any fun q=>Zbm ops q.1 p.1
theorem Zi8 {k:Ap}(kk:∀ b,RD P n wr ops todo V Al K ((k.d,k.val b)::fr) (k.it b::O))(s:Rg P n wr ops todo V (k::Al) fr O)(m:Nat)(F:List It)(X:List Qp)(Y:List (Ap × Nat))(N:List Ap)(a:Act)(w:World)(T:X.Sublist V)(R:(k::Al).Perm (Y.map (·.1)++N))
  (r:St n wr (ZaQ Y++fr) (O++(ZcI Y++F)) (putX a X) w) (U:todo.length+X.length+N.length<=m+1) (H:Zfy ops (Tof todo X N)) (p:Nat × Oper) (c:p∈todo) (W:∃ o,ops[p.1]?=some o/\∀ e∈o.after,Region.binds .any e=true->¬ Tof todo X N e.on) (I:k ∉ N) :
  wpOp P ops (ZfI n wr F K) p.1 (AnyT P ops (ZfI n wr F K) m (fun j=>Tof todo X N j/\j≠p.1)) a w:=by
 have J:k∈Y.map (·.1):=by
  rcases List.mem_append.1 (R.mem_iff.1 List.mem_cons_self) with h|h
  ·exact h
  ·exact absurd h I
 obtain⟨⟨f,b⟩,C,rfl⟩:=List.mem_map.1 J
 obtain⟨Y1,Y2,rfl⟩:=List.append_of_mem C
 obtain⟨⟨o,h1,h2,h3,h4,h5,Q,h7⟩,u⟩:=s.af
 have g:∀ x∈Al,x.d≠f.d:=fun x E e=>by
  have:=(List.nodup_append.1 s.dst).2.1
  rw[List.map_cons,List.nodup_cons]at this
  exact this.1 (List.mem_map.2 ⟨x,E,e⟩)
 have l:Al.Perm ((Y1++Y2).map (·.1)++N):=by
  have D:((Y1++(f,b)::Y2).map (·.1)++N).Perm (f::((Y1++Y2).map (·.1)++N)):=by
   simp only[List.map_append,List.map_cons,List.append_assoc,List.cons_append]
   exact List.perm_middle
  exact(List.perm_cons f).1 (R.trans D)
 have B:=kk b ⟨?_,?_,s.qf.mono (LSub.cons Q) (SubO.weak _ (SubO.refl _)),AF.mono (LSub.cons Q) (fun x E=>?_) u,s.ok⟩ (m+1) F X (Y1++Y2) N a w T l ⟨?_,r.old,?_⟩ U H
 ·exact B.2 p.1 (.inl ⟨p,c,rfl⟩) W
 ·refine s.idx.sublist ?_
  simp only[List.map_cons]
  exact(List.Sublist.refl _).append ((List.Sublist.refl _).append (List.sublist_cons_self _ _))
 ·refine s.dst.sublist ?_
  simp only[List.map_cons]
  exact(List.Sublist.refl _).append (List.sublist_cons_self _ _)
 ·obtain⟨_,_,_,_,_,_,h,_⟩:=u.mem x E
  rw[ZfK (g x E)]
  exact h
 ·refine r.sim.lsub ?_
  have i:∀ p∈ZaQ Y1,p.1≠f.d:=fun p c e=>by
   obtain⟨y,C,rfl⟩:=List.mem_map.1 c
   have q:y.1∈Al:=l.mem_iff.2 (List.mem_append_left _ (List.mem_map.2 ⟨y,List.mem_append_left _ C,rfl⟩))
   exact g y.1 q e
  have A:∀ p∈ZaQ Y2,p.1≠f.d:=fun p c e=>by
   obtain⟨y,C,rfl⟩:=List.mem_map.1 c
   have q:y.1∈Al:=l.mem_iff.2 (List.mem_append_left _ (List.mem_map.2 ⟨y,List.mem_append_right _ C,rfl⟩))
   exact g y.1 q e
  intro t v S
  have D:=Zd4 (v:=f.val b) (fr:=fr) (Z:=ZaQ (Y1++Y2)) (fun p c=>by
   rw[ZaQ,List.map_append]at c
   rcases List.mem_append.1 c with c|c
   ·exact i p c
   ·exact A p c) t v S
  have L:ZaQ (Y1++(f,b)::Y2)++fr=ZaQ Y1++(f.d,f.val b)::(ZaQ Y2++fr):=by simp[ZaQ]
  have M:ZaQ (Y1++Y2)++fr=ZaQ Y1++(ZaQ Y2++fr):=by simp[ZaQ]
  rw[L]
  rw[M]at D
  clear L M S
  revert D i
  generalize ZaQ Y1=Z
  intro G
  induction Z with
  | nil=>exact fun h=>h
  | cons z Z ih =>
   intro h
   have hz:=G z List.mem_cons_self
   simp only[List.cons_append,look]at h ⊢
   cases hb1:Nat.beq f.d t with
   | true =>
    have e:=Nat.eq_of_beq_eq_true hb1
    subst e
    rw[hb1]at h
    have:Nat.beq z.1 f.d=false:=by
     cases hc:Nat.beq z.1 f.d with
     | false=>rfl
     | true=>exact absurd (Nat.eq_of_beq_eq_true hc) hz
    rw[this]
    refine ih (fun p c=>G p (List.mem_cons_of_mem _ c)) ?_
    simp only[look,hb1]
    exact h
   | false =>
    rw[hb1]at h
    cases hb2:Nat.beq z.1 t with
    | true=>rw[hb2]at h;simpa using h
    | false =>
     rw[hb2]at h
     refine ih (fun p c=>G p (List.mem_cons_of_mem _ c)) ?_
     simp only[look,hb1]
     simpa using h
 ·refine r.own.perm ?_
  simp only[ZcI,List.map_append,List.map_cons,List.append_assoc,List.cons_append]
  have h:=List.perm_middle (a:=f.it b) (l₁:=O++List.map (fun y:Ap × Nat=>y.1.it y.2) Y1) (l₂:=List.map (fun y:Ap × Nat=>y.1.it y.2) Y2++F)
  simpa using h
theorem ZBc {k:Ap}(g:todo≠[])(u:ZdB ops k.i todo=true)(y:∀ b,RD P n wr ops todo V Al K ((k.d,k.val b)::fr) (k.it b::O)):RD P n wr ops todo V (k::Al) K fr O:=by
 refine Ze2 (fun h=>absurd h g) ?_
 intro s m F X Y N a w t r l x e p o j
 have f:k ∉ N:=fun v=>by
  have c:=List.all_eq_true.1 u p o
  simp only[Bool.or_eq_true,List.any_eq_true]at c
  rcases c with c|⟨q,hq,c⟩
  ·rw[Zbv j (.inr (.inr ⟨k,v,rfl⟩))]at c;cases c
  ·rw[Zbv j (.inl ⟨q,hq,rfl⟩)]at c;cases c
 exact Zi8 y s m F X Y N a w t r l x e p o j f
theorem ZhL {o:Oper}{a b:Act}{w:World}{Kn Kn':Act->World->Prop}{Q:Exit->Act->World->Prop}(g:execOp b.eval o=execOp a.eval o)(h:∀ v w',Kn (b.put o.dst v) w'->Kn' (a.put o.dst v) w')
  (j:∀ d w',¬ Kn ({ b with defers:=d::b.defers }.put o.dst undef) w') (c:o.wp P b w Kn (fun _ _ _=>False)):o.wp P a w Kn' Q:=by
 unfold Oper.wp at c ⊢
 rw[g]at c
 generalize (execOp a.eval o).run P w=r at c ⊢
 cases r with
 | ok nx w' =>
  cases nx with
  | value v=>exact h v w' c
  | skip=>exact h undef w' c
  | defer d=>exact absurd c (j d w')
  | enter f args =>
   refine Calls.mono c fun e i g=>?_
   cases e with
   | returned v=>exact h v i g
   | panicked chain=>exact g.elim
   | outgrown =>
    obtain⟨_,_,k⟩:=g
    exact k.elim
  | row row args=>exact Rows.mono c fun v i g=>h v i g
  | _=>exact c.elim
 | halt x w'=>cases x <;> exact c.elim
def updF (fr:Fr)(dst:Option Tmp)(v:Value):Fr:=match dst with|some d=>(d,v)::fr|none=>fr
def ZiR (dst:Option Tmp)(n:Nat)(Al:List Ap):Bool:=match dst with|some d=>Nat.ble (d+1) n&&Al.all fun x => !(Nat.beq x.d d)|none=>true
theorem ZjN {a:Act}{b:Option Tmp}{v:Value}:(a.put b v).defers=a.defers:=by cases b <;> rfl
theorem Zs8 {a:Act}{c:Option Tmp}{v u:Value}(f:∀ d,c=some d->d<a.tmps.size)(h:a.put c v=a.put c u)(b:Act):b.put c v=b.put c u:=by
 cases c with
 | none=>rfl
 | some d =>
  have:=congrArg (fun x:Act=>x.tmps[d]?) h
  have e:=f d rfl
  simp[Act.put,e]at this
  rw[this]
theorem AF.of_mem {fr:Fr}:∀ {V:List Ap},(∀ x∈V,∃ o,ops[x.i]?=some o/\o.dst=some x.d/\ZeR ops x.i x.d=true/\Nat.ble (x.d+1) n=true/\(∀ cs b,o.op ≠ .select cs b)/\look fr x.d=none/\Ay P n wr ops fr o x)->AF P n wr ops fr V
 | [],_=>trivial
 | y::_,h=>⟨h y List.mem_cons_self,AF.of_mem fun x a=>h x (List.mem_cons_of_mem _ a)⟩
theorem Rg.perm {Al':List Ap}(a:Rg P n wr ops todo V Al fr O)(b:Al.Perm Al'):Rg P n wr ops todo V Al' fr O:=by
 refine⟨?_,?_,a.qf,AF.of_mem fun x c=>a.af.mem x (b.mem_iff.2 c),a.ok⟩
 ·exact(List.Perm.nodup_iff (((b.map _).append_left _).append_left _)).1 a.idx
 ·exact(List.Perm.nodup_iff ((b.map _).append_left _)).1 a.dst
def gone (ops:Array Oper)(i:Nat)(x:Qp):Bool:=Zbm ops x.i i||Zh8 ops x.i i
theorem ZCo {i:Nat}{o:Oper}{V':List Qp}(B:Pk (i,o) todo todo')(U:∀ p∈todo',(todo.any fun q=>Zbm ops q.1 p.1)=true\/∃ k Al',Al.Perm (k::Al')/\Zbm ops k.i p.1=true/\∀ b,RD P n wr ops todo V Al' K ((k.d,k.val b)::fr) (k.it b::O))(Z:ZgO o.op=true)(hg:∀ a,Sim n fr a->Region.wanted o (yielded ops a.tmps)=true)(c:ZiR o.dst n Al=true)(R:V'.Sublist V)(S:∀ X:List Qp,X.Sublist V->(∀ x∈X,gone ops i x=false)->X.Sublist V')
  (L:∀ F,Stp P n wr fr (O++F) o fun v O'=>∃ O'',Ends O' F O''/\QF P n wr ops (updF fr o.dst v) O'' V'/\AF P n wr ops (updF fr o.dst v) Al/\RD P n wr ops todo' V' Al K (updF fr o.dst v) O'') :
  RD P n wr ops todo V Al K fr O:=by
 refine Ze2 (fun h=>?_) ?_
 ·have:=B.perm.length_eq
  rw[h]at this
  simp at this
 intro t m F X Y N a w T M f hm H p C D
 rcases List.mem_cons.1 (B.perm.mem_iff.1 C) with hpe|hin
 case inr =>
  rcases U p hin with I|⟨k,Al',hperm,he,kk⟩
  ·rw[List.any_eq_true]at I
   obtain⟨q,r,I⟩:=I
   rw[Zbv D (.inl ⟨q,r,rfl⟩)]at I
   cases I
  ·have ah:k ∉ N:=fun hk=>by
    rw[Zbv D (.inr (.inr ⟨k,hk,rfl⟩))]at he
    cases he
   exact Zi8 kk (t.perm hperm) m F X Y N a w T (hperm.symm.trans M) f hm H p C D ah
 subst hpe
 simp only at D ⊢
 have A:=t.ok _ C
 simp only at A
 have ai:∀ p∈ZaQ Y,look fr p.1=none:=fun p B=>by
  obtain⟨y,g,rfl⟩:=List.mem_map.1 B
  obtain⟨_,_,_,_,_,_,h,_⟩:=t.af.mem y.1 (M.mem_iff.2 (List.mem_append_left _ (List.mem_map.2 ⟨y,g,rfl⟩)))
  exact h
 have z:∀ y∈X,y.d ∉ o.looksAt ops:=fun y g=>by
  obtain⟨oy,_,_,h3,_⟩:=t.qf.mem y (T.subset g)
  exact ZfL h3 A (Zbv D (.inr (.inl ⟨y,g,rfl⟩)))
 have G:∀ y∈X,i≠y.i:=fun y g=>(List.nodup_append.1 t.idx).2.2 _ (List.mem_map.2 ⟨_,C,rfl⟩) _ (List.mem_append_left _ (List.mem_map.2 ⟨y,T.subset g,rfl⟩))
 have ae:∀ y∈X,o.dst≠some y.d:=fun y g=>by
  obtain⟨oy,_,_,h3,_⟩:=t.qf.mem y (T.subset g)
  exact Zj3 h3 A (G y g) (Zbv D (.inr (.inl ⟨y,g,rfl⟩)))
 have ad:X.Sublist V':=S X T fun y g=>by
  have Q:Tof todo X N y.i := .inr (.inl ⟨y,g,rfl⟩)
  have h1:=Zbv D Q
  have h2:Zh8 ops y.i i=false:=by
   cases I:Zh8 ops y.i i with
   | false=>rfl
   | true=>exact absurd ⟨Q,fun e=>G y g e.symm⟩ (Zh7 (H.step D) I fun h=>h.2 rfl)
  rw[gone,h1,h2]
  rfl
 have E:Sim n fr (putX a X):=f.sim.lsub (Zc8 ai fun _ _ h=>h)
 have W:=ZeV (ops:=ops) (ZdK Z) X a z
 have s:=hg _ E
 rw[W.2]at s
 have l:=(B.perm.map (·.1)).append_right (V.map (·.i)++Al.map (·.i)) |>.nodup_iff.1 t.idx
 rw[List.map_cons,List.cons_append,List.nodup_cons]at l
 have hT:(fun j=>Tof todo X N j/\j≠i)=Tof todo' X N:=by
  funext j
  apply propext
  constructor
  ·rintro⟨⟨q,r,rfl⟩|h|h,hne⟩
   ·rcases List.mem_cons.1 (B.perm.mem_iff.1 r) with rfl|r
    ·exact absurd rfl hne
    ·exact .inl ⟨q,r,rfl⟩
   ·exact .inr (.inl h)
   ·exact .inr (.inr h)
  ·rintro(⟨q,r,rfl⟩|⟨x,hx,rfl⟩|⟨k,hk,rfl⟩)
   ·exact⟨.inl ⟨q,B.perm.mem_iff.2 (List.mem_cons_of_mem _ r),rfl⟩,fun e=>l.1 (List.mem_append_left _ (List.mem_map.2 ⟨q,r,e⟩))⟩
   ·exact⟨.inr (.inl ⟨x,hx,rfl⟩),fun e=>G x hx e.symm⟩
   ·have ag:k∈Al:=M.mem_iff.2 (List.mem_append_right _ hk)
    exact⟨.inr (.inr ⟨k,hk,rfl⟩),fun e=>l.1 (List.mem_append_right _ (List.mem_append_right _ (List.mem_map.2 ⟨k,ag,e⟩)))⟩
 unfold Go.wpOp
 simp only[A,s,if_true]
 refine .inl ?_
 rw[hT]
 have J:∀ d,o.dst=some d->d<(putX a X).tmps.size:=fun d hd=>by
  rw[hd]at c
  simp only[ZiR,Bool.and_eq_true]at c
  rw[f.sim.size]
  exact Nat.le_of_ble_eq_true c.1
 refine ZhL (Kn:=fun b w'=>(∃ v,b=(putX a X).put o.dst v)/\∀ v,b=(putX a X).put o.dst v->AnyT P ops (ZfI n wr F K) m (Tof todo' X N) (a.put o.dst v) w') W.1 (fun v w' h=>h.2 v rfl) ?_ ?_
 ·rintro d w' ⟨⟨v,h⟩,_⟩
  have:=congrArg (fun x:Act=>x.defers.length) h
  simp[ZjN]at this
 ·refine L (ZcI Y++F) _ w ⟨E,f.old,f.own⟩ _ _ ?_
  rintro v O' w' hB hH ⟨O'',hE,ab,aa,ac⟩
  refine⟨⟨v,rfl⟩,fun u hu=>?_⟩
  rw[<- Zs8 J hu a]
  rw[hE.eq]at hH
  refine ac ⟨?_,?_,ab,aa,fun q r=>t.ok q (B.perm.mem_iff.2 (List.mem_cons_of_mem _ r))⟩ m F X Y N _ w' ad M ⟨?_,hB,hH⟩ ?_ (hT▸H.step D)
  ·refine l.2.sublist ?_
   exact(List.Sublist.refl _).append ((R.map _).append (List.Sublist.refl _))
  ·exact t.dst.sublist ((R.map _).append (List.Sublist.refl _))
  ·rw[Zf7 X a _ _ ae]
   cases hd:o.dst with
   | none=>exact f.sim
   | some d =>
    rw[hd]at c
    simp only[ZiR,Bool.and_eq_true,List.all_eq_true,Bool.not_eq_true']at c
    refine(f.sim.put c.1 v).lsub (Zd4 fun q r=>?_)
    obtain⟨y,g,rfl⟩:=List.mem_map.1 r
    exact Nat.ne_of_beq_eq_false (c.2 y.1 (M.mem_iff.2 (List.mem_append_left _ (List.mem_map.2 ⟨y,g,rfl⟩))))
  ·have:=B.perm.length_eq
   simp only[List.length_cons]at this
   omega
inductive Filt (ops:Array Oper) (i:Nat):List Qp->List Qp->Prop
 | nil:Filt ops i [] []
 | drop {x:Qp} {V V':List Qp} (h:Zbm ops x.i i=true):Filt ops i V V'->Filt ops i (x::V) V'
 | dropT {x:Qp} {V V':List Qp} (h:Zh8 ops x.i i=true):Filt ops i V V'->Filt ops i (x::V) V'
 | keep {x:Qp} {V V':List Qp} (h:Zbm ops x.i i=false):Filt ops i V V'->Filt ops i (x::V) (x::V')
theorem Filt.le {i:Nat}{V V':List Qp}(h:Filt ops i V V'):V'.Sublist V:=by
 induction h with
 | nil=>exact List.Sublist.refl _
 | drop h _ ih=>exact ih.cons _
 | dropT h _ ih=>exact ih.cons _
 | keep h _ ih=>exact ih.cons_cons _
theorem Filt.ge {i:Nat}{V V':List Qp}(h:Filt ops i V V'):∀ X:List Qp,X.Sublist V->(∀ x∈X,gone ops i x=false)->X.Sublist V':=by
 induction h with
 | nil=>exact fun X a _=>a
 | @drop x V V' h _ ih =>
  intro X a b
  cases a with
  | cons _ a=>exact ih X a b
  | cons_cons _ a =>
   have:=b x List.mem_cons_self
   rw[gone,h]at this
   cases this
 | @dropT x V V' h _ ih =>
  intro X a b
  cases a with
  | cons _ a=>exact ih X a b
  | cons_cons _ a =>
   have:=b x List.mem_cons_self
   rw[gone,h,Bool.or_true]at this
   cases this
 | @keep x V V' h _ ih =>
  intro X a b
  cases a with
  | cons _ a=>exact(ih X a b).cons _
  | cons_cons _ a=>exact(ih _ a fun y c=>b y (List.mem_cons_of_mem _ c)).cons_cons _
theorem RD_l {i:Nat}{o:Oper}{V':List Qp}(f:Pk (i,o) todo todo')(c:Zun ops todo' todo=true)(e:ZgO o.op=true)(h:∀ a,Sim n fr a->Region.wanted o (yielded ops a.tmps)=true)(d:ZiR o.dst n Al=true)(g:Filt ops i V V')
  (b:∀ F,Stp P n wr fr (O++F) o fun v O'=>∃ O'',Ends O' F O''/\QF P n wr ops (updF fr o.dst v) O'' V'/\AF P n wr ops (updF fr o.dst v) Al/\RD P n wr ops todo' V' Al K (updF fr o.dst v) O'') :
  RD P n wr ops todo V Al K fr O:=ZCo f (fun p f => .inl (List.all_eq_true.1 c p f)) e h d g.le g.ge b
theorem ItOk.blk {i d:Nat}{val:Nat->Value}{z:List Value}{t:TypeId}:ItOk ⟨i,d,val,z,t,fun b => .blk b z t⟩:=fun _=>⟨fun _=>Iff.rfl,fun _ h=>h⟩
theorem Ay_alloc {t:TypeId}{z:List Value}{d i dd:Nat}{ty:TypeId}{pos:String}{af:Array Edge}[hz:ZeroT P t z]:Ay P n wr ops fr ⟨some d,.alloc t,ty,pos,af,none⟩ ⟨i,dd,fun b => .pointer (some ⟨b,0,none⟩),z,t,fun b => .blk b z t⟩:=⟨ItOk.blk,fun a w _=>by
 refine⟨rfl,?_⟩
 have h:=hz.h
 unfold ZfA at h
 split at h
 ·rename_i i e
  split at h
  ·rename_i f c
   simp only[Option.some.injEq]at h
   subst h
   simp[execOp,Instr.alloc,zeroValue,ZaN e,c,newVar,newRow,newObj,Sem.run]
  ·cases h
 ·cases h⟩
inductive PkA:Ap->List Ap->List Ap->Prop
 | here {p:Ap} {r:List Ap}:PkA p (p::r) r
 | there {p x:Ap} {l r:List Ap}:PkA p l r->PkA p (x::l) (x::r)
theorem PkA.perm {p:Ap}{l r:List Ap}(h:PkA p l r):l.Perm (p::r):=by
 induction h with
 | here=>exact List.Perm.refl _
 | there _ ih=>exact(List.Perm.cons _ ih).trans (List.Perm.swap _ _ _)
theorem ZBb {Al':List Ap}(c:Al.Perm Al')(k:RD P n wr ops todo V Al' K fr O):RD P n wr ops todo V Al K fr O:=by
 intro b m F X Y N a w g f e h d
 refine k ⟨?_,?_,b.qf,AF.of_mem fun x i=>b.af.mem x (c.mem_iff.2 i),b.ok⟩ m F X Y N a w g (c.symm.trans f) e h d
 ·exact(List.Perm.nodup_iff (((c.map _).append_left _).append_left _)).1 b.idx
 ·exact(List.Perm.nodup_iff ((c.map _).append_left _)).1 b.dst
theorem Zxp {k:Ap}{Al':List Ap}(e:PkA k Al Al')(a:todo≠[])(c:ZdB ops k.i todo=true)(f:∀ b,RD P n wr ops todo V Al' K ((k.d,k.val b)::fr) (k.it b::O)):RD P n wr ops todo V Al K fr O :=
 ZBb e.perm (ZBc a c f)
theorem QF.cons {i d:Nat}{v:Value}{o:Oper}(c:ops[i]?=some o)(a:o.dst=some d)(b:ZeR ops i d=true)(e:Nat.ble (d+1) n=true)(g:ZgO o.op=true)(f:Qy P n wr ops fr O o v)(r:QF P n wr ops fr O V):QF P n wr ops fr O (⟨i,d,v⟩::V) :=
 ⟨⟨o,c,a,b,e,ZdK g,f⟩,r⟩
theorem QF.nil:QF P n wr ops fr O []:=trivial
theorem Zan {b:Option Tmp}{d:Op}{ty:TypeId}{pos:String}{af:Array Edge}{g:Option (Nat × Bool)}{v:Value}{Kp:Value->List It->Prop}(h:Pu P n wr fr O d ty v)(k:Kp v O):Stp P n wr fr O ⟨b,d,ty,pos,af,g⟩ Kp :=
 ZbZ fun a w c=>⟨v,w,O,h a w c _ _ _ _,c.old,c.own,k⟩
theorem LSub.over {d:Nat}{v:Value}(h:look fr d=some v):LSub fr ((d,v)::fr):=fun t u a=>by
 simp only[look]
 cases hb:Nat.beq d t with
 | false=>simpa using a
 | true =>
  have e:=Nat.eq_of_beq_eq_true hb
  subst e
  rw[h]at a
  simpa using a
theorem ZuL {d:Nat}{v:Value}(i:look fr d=some v)(k:RD P n wr ops todo V Al K ((d,v)::fr) O):RD P n wr ops todo V Al K fr O:=by
 intro b m F X Y N a w s o c u j
 have g:∀ y∈Al,y.d≠d:=fun y f e=>by
  obtain⟨_,_,_,_,_,_,h,_⟩:=b.af.mem y f
  rw[e,i]at h
  cases h
 have q:∀ p∈ZaQ Y,p.1≠d:=fun p l=>by
  obtain⟨y,f,rfl⟩:=List.mem_map.1 l
  exact g y.1 (o.mem_iff.2 (List.mem_append_left _ (List.mem_map.2 ⟨y,f,rfl⟩)))
 refine k ⟨b.idx,b.dst,b.qf.mono (LSub.over i) (SubO.refl _),AF.mono (LSub.over i) (fun y f=>?_) b.af,b.ok⟩ m F X Y N a w s o ⟨?_,c.old,c.own⟩ u j
 ·obtain⟨_,_,_,_,_,_,h,_⟩:=b.af.mem y f
  rw[ZfK (g y f)]
  exact h
 ·have t:look (ZaQ Y++fr) d=some v:=by
   revert q
   generalize ZaQ Y=Z
   intro r
   induction Z with
   | nil=>exact i
   | cons z Z ih =>
    have:Nat.beq z.1 d=false:=by
     cases hc:Nat.beq z.1 d with
     | false=>rfl
     | true=>exact absurd (Nat.eq_of_beq_eq_true hc) (r z List.mem_cons_self)
    simp only[List.cons_append,look,this]
    exact ih fun p l=>r p (List.mem_cons_of_mem _ l)
  exact(c.sim.over t).lsub (Zd4 q)
theorem Zqv (d:Nat){c:Bool}(a:look fr d=some (.bool c))(e:c=true->RD P n wr ops todo V Al K ((d,.bool true)::fr) O)(b:c=false->RD P n wr ops todo V Al K ((d,.bool false)::fr) O):RD P n wr ops todo V Al K fr O:=by
 cases c with
 | true=>exact ZuL a (e rfl)
 | false=>exact ZuL a (b rfl)
theorem Zba {i:Nat}{dst:Option Tmp}{a:Op}{ty:TypeId}{pos:String}{af:Array Edge}{j:Nat}{b c:Bool}{e:Oper}{d:Nat}(g:ops[j]?=some e)(f:e.dst=some d)(l:look fr d=some (.bool c))
  (k:c=true->RD P n wr ops ((i,⟨dst,a,ty,pos,af,some (j,b)⟩)::todo) V Al K ((d,.bool true)::fr) O) (h:c=false->RD P n wr ops ((i,⟨dst,a,ty,pos,af,some (j,b)⟩)::todo) V Al K ((d,.bool false)::fr) O) :
  RD P n wr ops ((i,⟨dst,a,ty,pos,af,some (j,b)⟩)::todo) V Al K fr O:=Zqv d l k h
def Zs7:Op->Bool
 | .move _ | .pick .. | .build .. | .load .. | .nilCheck _ | .binOp .. | .unOp .. | .convert .. | .fieldAddr .. | .field .. | .indexAddr .. | .index .. | .lookup .. | .extract .. | .makeFunc .. | .makeInterface .. | .slice .. => true
 | .call c=>match c.callee with | .builtin .len=>true | .builtin .cap=>true | .builtin .min=>true | .builtin .max=>true|_=>false
 | _=>false
def ZeD (ops:Array Oper)(todo:List (Nat × Oper))(i:Nat):Bool := !(todo.any fun q=>Zbm ops q.1 i)
def ZwA (ops:Array Oper)(todo:List (Nat × Oper))(Al:List Ap):List (Nat × Oper)->Option ((Nat × Oper) × List (Nat × Oper))
 | []=>none
 | p::l=>bif Zs7 p.2.op&&(ZeD ops todo p.1&&!(Al.any fun k=>Zbm ops k.i p.1)) then some (p,l) else match ZwA ops todo Al l with|some (q,r)=>some (q,p::r)|none=>none
theorem ZjQ:∀ {l r:List (Nat × Oper)} {p:Nat × Oper},ZwA ops todo Al l=some (p,r)->Pk p l r
 | [],_,_,h=>by cases h
 | x::l,r,p,h=>by
  simp only[ZwA]at h
  cases hb:(Zs7 x.2.op&&(ZeD ops todo x.1&&!(Al.any fun k=>Zbm ops k.i x.1))) with
  | true =>
   rw[hb]at h
   simp only[cond_true,Option.some.injEq,Prod.mk.injEq]at h
   obtain⟨rfl,rfl⟩:=h
   exact .here
  | false =>
   rw[hb]at h
   simp only[cond_false]at h
   split at h
   ·rename_i q r' a
    simp only[Option.some.injEq,Prod.mk.injEq]at h
    obtain⟨rfl,rfl⟩:=h
    exact .there (ZjQ a)
   ·cases h
def Zuv:Op->Bool | .alloc _=>true | .buildSlice .. => true|_=>false
def ZwC (ops:Array Oper)(todo:List (Nat × Oper)):List (Nat × Oper)->Option ((Nat × Oper) × List (Nat × Oper))
 | []=>none
 | p::l=>bif Zuv p.2.op&&ZeD ops todo p.1 then some (p,l) else match ZwC ops todo l with|some (q,r)=>some (q,p::r)|none=>none
theorem ZjS:∀ {l r:List (Nat × Oper)} {p:Nat × Oper},ZwC ops todo l=some (p,r)->Pk p l r
 | [],_,_,h=>by cases h
 | x::l,r,p,h=>by
  simp only[ZwC]at h
  cases hb:(Zuv x.2.op&&ZeD ops todo x.1) with
  | true =>
   rw[hb]at h
   simp only[cond_true,Option.some.injEq,Prod.mk.injEq]at h
   obtain⟨rfl,rfl⟩:=h
   exact .here
  | false =>
   rw[hb]at h
   simp only[cond_false]at h
   split at h
   ·rename_i q r' a
    simp only[Option.some.injEq,Prod.mk.injEq]at h
    obtain⟨rfl,rfl⟩:=h
    exact .there (ZjS a)
   ·cases h
def Zwz (ops:Array Oper)(todo:List (Nat × Oper)):List Ap->Option (Ap × List Ap)
 | []=>none
 | k::l=>bif ZdB ops k.i todo then some (k,l) else match Zwz ops todo l with|some (q,r)=>some (q,k::r)|none=>none
theorem Zfa:∀ {l r:List Ap} {p:Ap},Zwz ops todo l=some (p,r)->PkA p l r/\ZdB ops p.i todo=true
 | [],_,_,h=>by cases h
 | x::l,r,p,h=>by
  simp only[Zwz]at h
  cases hb:ZdB ops x.i todo with
  | true =>
   rw[hb]at h
   simp only[cond_true,Option.some.injEq,Prod.mk.injEq]at h
   obtain⟨rfl,rfl⟩:=h
   exact⟨.here,hb⟩
  | false =>
   rw[hb]at h
   simp only[cond_false]at h
   split at h
   ·rename_i q r' a
    simp only[Option.some.injEq,Prod.mk.injEq]at h
    obtain⟨rfl,rfl⟩:=h
    exact⟨.there (Zfa a).1,(Zfa a).2⟩
   ·cases h
def gst (ops:Array Oper)(fr:Fr):Option (Nat × Bool)->Option Bool
 | none=>some true
 | some (j,b)=>match ops[j]? with|some o=>(match o.dst with|some d=>(match look fr d with|some v=>(match v with | .bool c=>some (c==b)|_=>some false)|none=>none)|none=>none)|none=>none
theorem Zd6 {a:Act}{o:Oper}{c:Bool}(h:gst ops fr o.guard=some c)(l:Sim n fr a):Region.wanted o (yielded ops a.tmps)=c:=by
 cases hg:o.guard with
 | none =>
  rw[hg]at h
  simp only[gst,Option.some.injEq]at h
  simp[Region.wanted,hg,<- h]
 | some p =>
  obtain⟨j,b⟩:=p
  rw[hg]at h
  simp only[gst]at h
  split at h
  ·rename_i m i
   split at h
   ·rename_i d g
    split at h
    ·rename_i v k
     have f:=l.at_ d _ k
     cases v with
     | bool c' =>
      simp only[Option.some.injEq]at h
      have e:yielded ops a.tmps j=some c':=by simp[yielded,i,g,f]
      simp only[Region.wanted,hg,e]
      rw[<- h]
      cases c' <;> cases b <;> rfl
     | _ =>
      simp only[Option.some.injEq]at h
      have e:yielded ops a.tmps j=none:=by simp[yielded,i,g,f]
      simp only[Region.wanted,hg,e]
      rw[<- h]
      cases b <;> rfl
    ·cases h
   ·cases h
  ·cases h
theorem Qy_y {b:Option Tmp}{c:Op}{ty:TypeId}{pos:String}{af:Array Edge}{g:Option (Nat × Bool)}{v:Value}(e:gst ops fr g=some true)(h:Pu P n wr fr O c ty v):Qy P n wr ops fr O ⟨b,c,ty,pos,af,g⟩ v :=
 fun a w d => .inl ⟨Zd6 (o:=⟨b,c,ty,pos,af,g⟩) e d.sim,h a w d _ _ _ _⟩
theorem Qy_n {b:Option Tmp}{c:Op}{ty:TypeId}{pos:String}{af:Array Edge}{g:Option (Nat × Bool)}(d:gst ops fr g=some false):Qy P n wr ops fr O ⟨b,c,ty,pos,af,g⟩ undef :=
 fun a w e => .inr ⟨Zd6 (o:=⟨b,c,ty,pos,af,g⟩) d e.sim,rfl⟩
def ZwB (ops:Array Oper)(fr:Fr)(todo:List (Nat × Oper)):List (Nat × Oper)->Option ((Nat × Oper) × List (Nat × Oper))
 | []=>none
 | p::l=>bif (match gst ops fr p.2.guard with|some b => !b|none=>false)&&ZeD ops todo p.1 then some (p,l) else match ZwB ops fr todo l with|some (q,r)=>some (q,p::r)|none=>none
theorem ZjR:∀ {l r:List (Nat × Oper)} {p:Nat × Oper},ZwB ops fr todo l=some (p,r)->Pk p l r
 | [],_,_,h=>by cases h
 | x::l,r,p,h=>by
  simp only[ZwB]at h
  cases hb:((match gst ops fr x.2.guard with|some b => !b|none=>false)&&ZeD ops todo x.1) with
  | true =>
   rw[hb]at h
   simp only[cond_true,Option.some.injEq,Prod.mk.injEq]at h
   obtain⟨rfl,rfl⟩:=h
   exact .here
  | false =>
   rw[hb]at h
   simp only[cond_false]at h
   split at h
   ·rename_i q r' a
    simp only[Option.some.injEq,Prod.mk.injEq]at h
    obtain⟨rfl,rfl⟩:=h
    exact .there (ZjR a)
   ·cases h
def okQ (n:Nat)(ops:Array Oper)(i d:Nat)(o:Oper):Bool:=ZeR ops i d&&Nat.ble (d+1) n&&ZgO o.op
theorem RD_Q {i d:Nat}{o:Oper}{v:Value}(f:ZwA ops todo Al todo=some ((i,o),todo'))(c:o.dst=some d)(a:okQ n ops i d o=true)(e:look fr d=none)(b:ZoJ d V Al=true)
  (g:Qy P n wr ops fr O o v) (k:RD P n wr ops todo' (⟨i,d,v⟩::V) Al K ((d,v)::fr) O):RD P n wr ops todo V Al K fr O:=by
 simp only[okQ,Bool.and_eq_true]at a
 exact RD_q (ZjQ f) c a.1.1 a.1.2 a.2 e b g k
theorem RD_N {i d:Nat}{o:Oper}(h:ZwB ops fr todo todo=some ((i,o),todo'))(c:o.dst=some d)(a:okQ n ops i d o=true)(f:look fr d=none)(b:ZoJ d V Al=true)
  (e:gst ops fr o.guard=some false) (k:RD P n wr ops todo' (⟨i,d,undef⟩::V) Al K ((d,undef)::fr) O):RD P n wr ops todo V Al K fr O:=by
 simp only[okQ,Bool.and_eq_true]at a
 obtain⟨dst,j,ty,pos,af,g⟩:=o
 exact RD_q (ZjR h) c a.1.1 a.1.2 a.2 f b (Qy_n e) k
theorem RD_A {i d:Nat}{o:Oper}{val:Nat->Value}{z:List Value}{t:TypeId}{c:Nat->It}(g:ZwC ops todo todo=some ((i,o),todo'))(e:o.dst=some d)(a:okQ n ops i d o=true)(f:look fr d=none)(b:ZoJ d V Al=true)
  (h:Ay P n wr ops fr o ⟨i,d,val,z,t,c⟩) (k:RD P n wr ops todo' V (⟨i,d,val,z,t,c⟩::Al) K fr O):RD P n wr ops todo V Al K fr O:=by
 simp only[okQ,Bool.and_eq_true]at a
 exact ZCp (ZjS g) e a.1.1 a.1.2 a.2 f b h k
theorem RD_W {k:Ap}{Al':List Ap}{p:Nat × Oper}(a:Zwz ops (p::todo) Al=some (k,Al'))(c:∀ b,RD P n wr ops (p::todo) V Al' K ((k.d,k.val b)::fr) (k.it b::O)):RD P n wr ops (p::todo) V Al K fr O :=
 Zxp (Zfa a).1 (by simp) (Zfa a).2 c
def alOk (n:Nat)(fr:Fr)(dst:Option Tmp)(Al:List Ap):Bool:=match dst with|none=>true|some d=>Nat.ble (d+1) n&&(Al.all fun x => !(Nat.beq x.d d))&&(Al.isEmpty||(look fr d).isNone)
def okL (n:Nat)(ops:Array Oper)(fr:Fr)(todo todo':List (Nat × Oper))(o:Oper):Bool:=Zun ops todo' todo&&ZgO o.op&&(match gst ops fr o.guard with|some b=>b|none=>false)
theorem RD_L {i:Nat}{o:Oper}{V':List Qp}(g:okL n ops fr ((i,o)::todo) todo o=true)(c:alOk n fr o.dst Al=true)(u:Filt ops i V V')
  (e:∀ F,Stp P n wr fr (O++F) o fun v O'=>∃ O'',Ends O' F O''/\QF P n wr ops (updF fr o.dst v) O'' V'/\RD P n wr ops todo V' Al K (updF fr o.dst v) O'') :
  RD P n wr ops ((i,o)::todo) V Al K fr O:=by
 simp only[okL,Bool.and_eq_true]at g
 obtain⟨⟨m,p⟩,f⟩:=g
 have y:gst ops fr o.guard=some true:=by
  split at f
  ·rename_i b x
   rw[x,f]
  ·cases f
 intro j
 refine RD_l .here m p (fun a r=>Zd6 y r) ?_ u (fun F a w r Kn Q l=>e F a w r Kn Q fun v O' w' m p ⟨O'',f,s,t⟩=>l v O' w' m p ⟨O'',f,s,?_,t⟩) j
 ·unfold alOk at c
  cases hd:o.dst with
  | none=>rfl
  | some d =>
   rw[hd]at c
   simp only[Bool.and_eq_true]at c
   simp only[ZiR,Bool.and_eq_true]
   exact c.1
 ·cases hd:o.dst with
  | none=>exact j.af
  | some d =>
   unfold alOk at c
   rw[hd]at c
   simp only[Bool.and_eq_true,Bool.or_eq_true,List.all_eq_true,Bool.not_eq_true']at c
   rcases c.2 with he|hl
   ·have:Al=[]:=by simpa using he
    subst this
    exact trivial
   ·have q:look fr d=none:=by simpa using hl
    refine AF.mono (LSub.cons q) (fun k l=>?_) j.af
    obtain⟨_,_,_,_,_,_,h,_⟩:=j.af.mem k l
    show look ((d,v)::fr) k.d=none
    rw[ZfK (Nat.ne_of_beq_eq_false (c.1.2 k l))]
    exact h
def Zll (ops:Array Oper)(todo:List (Nat × Oper)):List Ap->List Ap->List (Ap × List Ap)
 | _,[]=>[]
 | pre,k::l=>bif todo.any (fun p=>Zbm ops k.i p.1&&!(todo.any fun q=>Zbm ops q.1 p.1)) then (k,pre.reverse++l)::Zll ops todo (k::pre) l else Zll ops todo (k::pre) l
def okK (n:Nat)(ops:Array Oper)(fr:Fr)(todo todo':List (Nat × Oper))(o:Oper)(ks:List Nat):Bool:=(todo'.all fun p=>(todo.any fun q=>Zbm ops q.1 p.1)||ks.any fun k=>Zbm ops k p.1)&&ZgO o.op&&(match gst ops fr o.guard with|some b=>b|none=>false)
theorem ZgW:∀ (l a:List Ap) (x:Ap × List Ap),x∈Zll ops todo a l->(a.reverse++l).Perm (x.1::x.2)
 | [],_,_,h=>by cases h
 | k::l,a,x,h=>by
  have b:=ZgW l (k::a) x
  simp only[List.reverse_cons,List.append_assoc,List.cons_append,List.nil_append]at b
  simp only[Zll]at h
  cases hb:todo.any (fun p=>Zbm ops k.i p.1&&!(todo.any fun q=>Zbm ops q.1 p.1)) with
  | true =>
   rw[hb]at h
   simp only[cond_true]at h
   rcases List.mem_cons.1 h with rfl|h
   ·exact List.perm_middle
   ·exact b h
  | false =>
   rw[hb]at h
   exact b h
def Zif (ops:Array Oper)(todo:List (Nat × Oper))(Al:List Ap):List (Nat × Oper)->Option ((Nat × Oper) × List (Nat × Oper))
 | []=>none
 | p::l=>bif ZeD ops todo p.1&&!(Al.any fun k=>Zbm ops k.i p.1) then some (p,l) else match Zif ops todo Al l with|some (q,r)=>some (q,p::r)|none=>none
theorem ZdI {a:List (Nat × Oper)}{Al:List Ap}:∀ {l r:List (Nat × Oper)} {p:Nat × Oper},Zif ops a Al l=some (p,r)->Pk p l r
 | [],_,_,h=>by cases h
 | x::l,r,p,h=>by
  simp only[Zif]at h
  cases hb:(ZeD ops a x.1&&!(Al.any fun k=>Zbm ops k.i x.1)) with
  | true =>
   rw[hb]at h
   simp only[cond_true,Option.some.injEq,Prod.mk.injEq]at h
   obtain⟨rfl,rfl⟩:=h
   exact .here
  | false =>
   rw[hb]at h
   simp only[cond_false]at h
   split at h
   ·rename_i q r' b
    simp only[Option.some.injEq,Prod.mk.injEq]at h
    obtain⟨rfl,rfl⟩:=h
    exact .there (ZdI b)
   ·cases h
theorem RD_K {i:Nat}{o:Oper}{V':List Qp}{B:List (Ap × List Ap)}(y:Zif ops todo Al todo=some ((i,o),todo'))(g:Zll ops todo [] Al=B)(l:okK n ops fr todo todo' o (B.map (·.1.i))=true)(c:alOk n fr o.dst Al=true)(C:Filt ops i V V')
  (J:∀ x∈B,∀ b,RD P n wr ops todo V x.2 K ((x.1.d,x.1.val b)::fr) (x.1.it b::O))
  (e:∀ F,Stp P n wr fr (O++F) o fun v O'=>∃ O'',Ends O' F O''/\QF P n wr ops (updF fr o.dst v) O'' V'/\RD P n wr ops todo' V' Al K (updF fr o.dst v) O'') :
  RD P n wr ops todo V Al K fr O:=by
 simp only[okK,Bool.and_eq_true]at l
 obtain⟨⟨r,s⟩,f⟩:=l
 have H:gst ops fr o.guard=some true:=by
  split at f
  ·rename_i b G
   rw[G,f]
  ·cases f
 intro m
 refine ZCo (ZdI y) (fun p y=>?_) s (fun a z=>Zd6 H z) ?_ C.le C.ge (fun F a w z Kn Q q=>e F a w z Kn Q fun v O' w' r s ⟨O'',f,D,E⟩=>q v O' w' r s ⟨O'',f,D,?_,E⟩) m
 ·have:=List.all_eq_true.1 r p y
  rw[Bool.or_eq_true]at this
  rcases this with h|h
  ·exact .inl h
  ·rw[List.any_eq_true]at h
   obtain⟨j,I,t⟩:=h
   obtain⟨x,A,rfl⟩:=List.mem_map.1 I
   rw[<- g]at A
   exact .inr ⟨x.1,x.2,ZgW Al [] x A,t,J x (g▸A)⟩
 ·unfold alOk at c
  cases hd:o.dst with
  | none=>rfl
  | some d =>
   rw[hd]at c
   simp only[Bool.and_eq_true]at c
   simp only[ZiR,Bool.and_eq_true]
   exact c.1
 ·cases hd:o.dst with
  | none=>exact m.af
  | some d =>
   unfold alOk at c
   rw[hd]at c
   simp only[Bool.and_eq_true,Bool.or_eq_true,List.all_eq_true,Bool.not_eq_true']at c
   rcases c.2 with t|hl
   ·have:Al=[]:=by simpa using t
    subst this
    exact trivial
   ·have u:look fr d=none:=by simpa using hl
    refine AF.mono (LSub.cons u) (fun k q=>?_) m.af
    obtain⟨_,_,_,_,_,_,h,_⟩:=m.af.mem k q
    show look ((d,v)::fr) k.d=none
    rw[ZfK (Nat.ne_of_beq_eq_false (c.1.2 k q))]
    exact h
theorem ZD9 {i:Nat}{o:Oper}{V':List Qp}{k:Ap}{A1:List Ap}(h:Zif ops todo Al todo=some ((i,o),todo'))(e:Zll ops todo [] Al=[(k,A1)])(f:okK n ops fr todo todo' o [k.i]=true)(c:alOk n fr o.dst Al=true)(g:Filt ops i V V')
  (l:∀ b,RD P n wr ops todo V A1 K ((k.d,k.val b)::fr) (k.it b::O))
  (a:∀ F,Stp P n wr fr (O++F) o fun v O'=>∃ O'',Ends O' F O''/\QF P n wr ops (updF fr o.dst v) O'' V'/\RD P n wr ops todo' V' Al K (updF fr o.dst v) O'') :
  RD P n wr ops todo V Al K fr O   := RD_K h e f c g (fun x j=>by rw[List.mem_singleton.1 j];exact l) a
theorem QF.mk {i d:Nat}{v:Value}{o:Oper}(c:ops[i]?=some o)(b:o.dst=some d)(a:okQ n ops i d o=true)(e:Qy P n wr ops fr O o v)(r:QF P n wr ops fr O V):QF P n wr ops fr O (⟨i,d,v⟩::V):=by
 simp only[okQ,Bool.and_eq_true]at a
 exact QF.cons c b a.1.1 a.1.2 a.2 e r
