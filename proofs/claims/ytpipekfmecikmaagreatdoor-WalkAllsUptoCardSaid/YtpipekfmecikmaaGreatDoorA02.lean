/- Parts of the proof. -/
import Derived.Test.YtpipekfmecikmaaGreatDoorA01
import Derived.Orders
set_option maxHeartbeats 0
set_option linter.all false
namespace Go.Wk
open Go Go.RowKit
section
variable (P:Program)(ops:Array Oper)(Q:Exit->Act->World->Prop)
def AnyT:Nat->(Nat->Prop)->Act->World->Prop
 | 0,T,a,w=>(∀ i,¬ T i)/\Q .normal a w
 | m+1,T,a,w=>((∀ i,¬ T i)->Q .normal a w) /\
   ∀ i,T i->(∃ o,ops[i]?=some o/\∀ e∈o.after,Region.binds .any e=true->¬ T e.on)->wpOp P ops Q i (AnyT m (fun j=>T j/\j≠i)) a w
end
def acyc (ops:Array Oper):Bool:=(List.range ops.size).all fun i=>match ops[i]? with|some o=>o.after.all fun e => !(Region.binds .any e)||Nat.ble (e.on+1) i|none=>true
theorem ZuC {ops:Array Oper}(h:acyc ops=true){i:Nat}{o:Oper}(b:ops[i]?=some o){e:Edge}(d:e∈o.after)(c:Region.binds .any e=true):e.on<i:=by
 have f:i<ops.size:=(Array.getElem?_eq_some_iff.1 b).1
 have:=List.all_eq_true.1 h i (List.mem_range.2 f)
 rw[b]at this
 simp only[Array.all_eq_true_iff_forall_mem]at this
 have a:=this e d
 rw[c]at a
 exact Nat.le_of_ble_eq_true (by simpa using a)
theorem Zna {T:Nat->Prop}:∀ i,T i->∃ k,T k/\∀ j,j<k->¬ T j:=by
 intro i
 induction i using Nat.strongRecOn with
 | _ i ih =>
  intro c
  by_cases h:∃ j,j<i/\T j
  ·obtain⟨j,b,a⟩:=h
   exact ih j b a
  ·exact⟨i,c,fun j b a=>h ⟨j,b,a⟩⟩
theorem Zju {P:Program}{ops:Array Oper}{Q:Exit->Act->World->Prop}(u:acyc ops=true):∀ (m:Nat) (T:Nat->Prop) (c:Array Bool) (a:Act) (w:World),c.size=ops.size->(∀ j,T j↔c.getD j true=false) ->
  AnyT P ops Q m T a w->wpAny P .any ops Q m c a w:=by
 intro m
 induction m with
 | zero =>
  intro T c a w q l h
  refine⟨?_,h.2⟩
  rw[List.eq_nil_iff_forall_not_mem]
  intro i r
  exact h.1 i ((l i).2 (mem_ready.1 r).1)
 | succ m ih =>
  intro T c a w q l h
  have s:∀ j,c.getD j false=true->¬ T j:=fun j d t=>by
   have g:=(l j).1 t
   rw[Array.getD_eq_getD_getElem?]at d g
   cases hx:c[j]? with
   | none=>rw[hx]at d;simp at d
   | some b=>rw[hx]at d g;simp at d g;rw[d]at g;cases g
  refine⟨fun H=>h.1 fun i r=>?_,fun i r=>?_⟩
  ·obtain⟨k,F,G⟩:=Zna i r
   have n:=(l k).1 F
   have f:k<ops.size:=by
    rcases Nat.lt_or_ge k ops.size with h0|h0
    ·exact h0
    ·rw[Array.getD_eq_getD_getElem?,Array.getElem?_eq_none (by omega)]at n
     simp at n
   have:k∈Region.ready .any ops c:=mem_ready.2 ⟨n,ops[k],Array.getElem?_eq_getElem f,fun e x v=>by
    have z:=ZuC u (Array.getElem?_eq_getElem f) x v
    have p:=G e.on z
    rw[l]at p
    have y:e.on<c.size:=by omega
    rw[Array.getD_eq_getD_getElem?,Array.getElem?_eq_getElem y]at p ⊢
    simpa using p⟩
   rw[H]at this
   cases this
  ·obtain⟨g,o,A,E⟩:=mem_ready.1 r
   refine wpOp_mono (fun B w' C=>ih _ _ B w' (by simpa using q) ?_ C) (h.2 i ((l i).2 g) ⟨o,A,fun e x D=>s _ (E e x D)⟩)
   intro j
   by_cases d:i=j
   ·subst d
    have f:i<c.size:=by rw[q];exact(Array.getElem?_eq_some_iff.1 A).1
    simp[Array.getD_eq_getD_getElem?,f]
   ·rw[getD_set_ne true d,<- l]
    exact⟨fun h=>h.1,fun h=>⟨h,fun e=>d e.symm⟩⟩
structure Qp where
 i:Nat
 d:Nat
 v:Value
structure Ap where
 i:Nat
 d:Nat
 val:Nat->Value
 z:List Value
 t:TypeId
 it:Nat->It
def ItOk (k:Ap):Prop:=∀ b,(∀ j,(k.it b).S j↔j=b)/\∀ w:World,w.heap[b]?=some (.cells k.z.toArray k.t (0,0))->(k.it b).sat w
def putX (a:Act):List Qp->Act
 | []=>a
 | x::r=>putX (a.put (some x.d) x.v) r
def Zbm (ops:Array Oper)(i j:Nat):Bool:=match ops[j]? with|some o=>o.after.toList.any fun e=>Region.binds .any e&&Nat.beq e.on i|none=>false
def ZeR (ops:Array Oper)(i d:Nat):Bool :=
 (List.range ops.size).all fun j=>Zbm ops i j||match ops[j]? with|some o => !(o.looksAt ops).contains d&&(Nat.beq j i||!(o.dst==some d))|none=>true
theorem ZfL {ops:Array Oper}{i d:Nat}(h:ZeR ops i d=true){j:Nat}{o:Oper}(a:ops[j]?=some o)(b:Zbm ops i j=false):d ∉ o.looksAt ops:=by
 have c:j<ops.size:=(Array.getElem?_eq_some_iff.1 a).1
 have:=List.all_eq_true.1 h j (List.mem_range.2 c)
 rw[a,b]at this
 simp only[Bool.false_or,Bool.and_eq_true,Bool.not_eq_true',List.contains_eq_mem,decide_eq_false_iff_not]at this
 exact this.1
theorem Zj3 {ops:Array Oper}{i d:Nat}(h:ZeR ops i d=true){j:Nat}{o:Oper}(c:ops[j]?=some o)(b:j≠i)(f:Zbm ops i j=false):o.dst≠some d:=by
 have g:j<ops.size:=(Array.getElem?_eq_some_iff.1 c).1
 have:=List.all_eq_true.1 h j (List.mem_range.2 g)
 have a:Nat.beq j i=false:=by
  cases a:Nat.beq j i with
  | false=>rfl
  | true=>exact absurd (Nat.eq_of_beq_eq_true a) b
 rw[c,f,a]at this
 simp only[Bool.false_or,Bool.and_eq_true,Bool.not_eq_true']at this
 intro e
 rw[e]at this
 simp at this
theorem Zbv {ops:Array Oper}{T:Nat->Prop}{j:Nat}(g:∃ o,ops[j]?=some o/\∀ e∈o.after,Region.binds .any e=true->¬ T e.on){i:Nat}(c:T i):Zbm ops i j=false:=by
 obtain⟨o,f,b⟩:=g
 unfold Zbm
 rw[f]
 cases a:(o.after.toList.any fun e=>Region.binds .any e&&Nat.beq e.on i) with
 | false=>simpa using a
 | true =>
  rw[List.any_eq_true]at a
  obtain⟨k,d,a⟩:=a
  simp only[Bool.and_eq_true]at a
  have e:=Nat.eq_of_beq_eq_true a.2
  exact absurd (e▸c) (b _ (Array.mem_toList_iff.1 d) a.1)
section
variable {P:Program}{n:Nat}{wr:World}{ops:Array Oper}
def LSub (fr fr':Fr):Prop:=∀ t v,look fr t=some v->look fr' t=some v
theorem LSub.cons {fr:Fr}{d:Nat}{v:Value}(h:look fr d=none):LSub fr ((d,v)::fr):=fun t u a=>by
 simp only[look]
 cases hb:Nat.beq d t with
 | false=>simpa using a
 | true =>
  have e:=Nat.eq_of_beq_eq_true hb
  subst e
  rw[h]at a
  cases a
theorem Sim.lsub {fr fr':Fr}{a:Act}(h:Sim n fr' a)(b:LSub fr fr'):Sim n fr a:=⟨h.defers,h.size,fun t v c=>h.at_ t v (b t v c)⟩
def Qy (P:Program)(n:Nat)(wr:World)(ops:Array Oper)(fr:Fr)(O:List It)(o:Oper)(v:Value):Prop :=
 ∀ a w,St n wr fr O a w->(Region.wanted o (yielded ops a.tmps)=true/\(execOp a.eval o).run P w = .ok (.value v) w)\/(Region.wanted o (yielded ops a.tmps)=false/\v=undef)
def Ay (P:Program)(n:Nat)(_wr:World)(ops:Array Oper)(fr:Fr)(o:Oper)(k:Ap):Prop :=
 ItOk k/\∀ a w,Sim n fr a->Region.wanted o (yielded ops a.tmps)=true/\(execOp a.eval o).run P w = .ok (.value (k.val w.heap.size)) (w.alloc (.cells k.z.toArray k.t))
def QF (P:Program)(n:Nat)(wr:World)(ops:Array Oper)(fr:Fr)(O:List It):List Qp->Prop
 | []=>True
 | x::r=>(∃ o,ops[x.i]?=some o/\o.dst=some x.d/\ZeR ops x.i x.d=true/\Nat.ble (x.d+1) n=true/\(∀ cs b,o.op ≠ .select cs b)/\Qy P n wr ops fr O o x.v)/\QF P n wr ops fr O r
def AF (P:Program)(n:Nat)(wr:World)(ops:Array Oper)(fr:Fr):List Ap->Prop
 | []=>True
 | x::r=>(∃ o,ops[x.i]?=some o/\o.dst=some x.d/\ZeR ops x.i x.d=true/\Nat.ble (x.d+1) n=true/\(∀ cs b,o.op ≠ .select cs b)/\look fr x.d=none/\Ay P n wr ops fr o x)/\AF P n wr ops fr r
theorem QF.mem {fr:Fr}{O:List It}:∀ {V:List Qp},QF P n wr ops fr O V->∀ x∈V,∃ o,ops[x.i]?=some o/\o.dst=some x.d/\ZeR ops x.i x.d=true/\Nat.ble (x.d+1) n=true/\(∀ cs b,o.op ≠ .select cs b)/\Qy P n wr ops fr O o x.v
 | [],_,_,h=>by cases h
 | y::r,h,x,hx=>by
  rcases List.mem_cons.1 hx with rfl|hx
  ·exact h.1
  ·exact QF.mem h.2 x hx
theorem QF.mono {fr fr':Fr}{O O':List It}(d:LSub fr fr')(c:SubO O O'):∀ {V:List Qp},QF P n wr ops fr O V->QF P n wr ops fr' O' V
 | [],_=>trivial
 | y::r,h=>by
  obtain⟨⟨o,e,f,g,i,j,k⟩,l⟩:=h
  exact⟨⟨o,e,f,g,i,j,fun a w b=>k a w ⟨b.sim.lsub d,b.old,b.own.sub c⟩⟩,QF.mono d c l⟩
theorem AF.mem {fr:Fr}:∀ {V:List Ap},AF P n wr ops fr V->∀ x∈V,∃ o,ops[x.i]?=some o/\o.dst=some x.d/\ZeR ops x.i x.d=true/\Nat.ble (x.d+1) n=true/\(∀ cs b,o.op ≠ .select cs b)/\look fr x.d=none/\Ay P n wr ops fr o x
 | [],_,_,h=>by cases h
 | y::r,h,x,hx=>by
  rcases List.mem_cons.1 hx with rfl|hx
  ·exact h.1
  ·exact AF.mem h.2 x hx
def Tof (todo:List (Nat × Oper))(X:List Qp)(N:List Ap)(j:Nat):Prop:=(∃ p∈todo,p.1=j)\/(∃ x∈X,x.i=j)\/∃ k∈N,k.i=j
def Zfy (ops:Array Oper)(T:Nat->Prop):Prop:=∀ k o,ops[k]?=some o->¬ T k->∀ e∈o.after,Region.binds .any e=true->¬ T e.on
theorem Zfy.step {T:Nat->Prop}(h:Zfy ops T){i:Nat}(p:∃ o,ops[i]?=some o/\∀ e∈o.after,Region.binds .any e=true->¬ T e.on):Zfy ops (fun j=>T j/\j≠i):=fun k o l n e g f d=>by
 by_cases a:k=i
 ·subst a
  obtain⟨q,b,m⟩:=p
  rw[l]at b
  cases b
  exact m e g f d.1
 ·exact h k o l (fun c=>n ⟨c,a⟩) e g f d.1
def Ztr (acc:List Nat)(o:Oper):Nat:=o.after.toList.foldl (fun m e=>bif Region.binds .any e then (m ||| 2 ^ e.on) ||| acc.getD e.on 0 else m) 0
def ZwJ:List Oper->List Nat->List Nat
 | [],acc=>acc
 | o::l,acc=>ZwJ l (acc++[Ztr acc o])
def Zkr (m:Nat):Nat->Nat->List Bool
 | 0,_=>[]
 | f+1,k=>m.testBit k::Zkr m f (k+1)
theorem Zkq (m:Nat):∀ (f k i:Nat),(Zkr m f k).getD i false=true->m.testBit (k+i)=true
 | 0,_,_,h=>by simp[Zkr]at h
 | f+1,k,0,h=>by simpa[Zkr] using h
 | f+1,k,i+1,h=>by
  have:=Zkq m f (k+1) i (by simpa[Zkr] using h)
  rwa[show k+1+i=k+(i+1) by omega]at this
def Zh8 (ops:Array Oper)(i j:Nat):Bool:=(Zkr ((ZwJ ops.toList []).getD j 0) ops.size 0).getD i false
theorem ZmH {a:List Nat}{i:Nat}:∀ (l:List Edge) (m:Nat),(l.foldl (fun m e=>bif Region.binds .any e then (m ||| 2 ^ e.on) ||| a.getD e.on 0 else m) m).testBit i=true ->
  m.testBit i=true\/∃ e∈l,Region.binds .any e=true/\(e.on=i\/(a.getD e.on 0).testBit i=true)
 | [],_,h => .inl h
 | e::l,m,h=>by
  rw[List.foldl_cons]at h
  rcases ZmH l _ h with h|⟨e',h1,h2⟩
  ·cases hb:Region.binds .any e with
   | false =>
    rw[hb]at h
    exact .inl (by simpa using h)
   | true =>
    rw[hb]at h
    simp only[cond_true,Nat.testBit_or,Nat.testBit_two_pow,Bool.or_eq_true,decide_eq_true_eq]at h
    rcases h with(h|h)|h
    ·exact .inl h
    ·exact .inr ⟨e,List.mem_cons_self,hb,.inl h⟩
    ·exact .inr ⟨e,List.mem_cons_self,hb,.inr h⟩
  ·exact .inr ⟨e',List.mem_cons_of_mem _ h1,h2⟩
theorem ZjX {T:Nat->Prop}(j:Zfy ops T):∀ (l:List Oper) (a:List Nat),(∀ k o,l[k]?=some o->ops[a.length+k]?=some o)->(∀ k i,(a.getD k 0).testBit i=true->¬ T k->¬ T i) ->
  ∀ k i,((ZwJ l a).getD k 0).testBit i=true->¬ T k->¬ T i
 | [],_,_,h=>h
 | o::l,a,ho,h=>by
  rw[ZwJ]
  refine ZjX j l _ (fun k n f=>?_) (fun k i b f=>?_)
  ·rw[List.length_append,List.length_singleton,Nat.add_assoc,Nat.add_comm 1 k]
   exact ho (k+1) n (by simpa using f)
  ·rw[List.getD_eq_getElem?_getD]at b
   by_cases g:k<a.length
   ·rw[List.getElem?_append_left g,<- List.getD_eq_getElem?_getD]at b
    exact h k i b f
   ·by_cases m:k=a.length
    ·subst m
     rw[List.getElem?_append_right (Nat.le_refl _),Nat.sub_self]at b
     have c:(Ztr a o).testBit i=true:=b
     unfold Ztr at c
     rcases ZmH _ _ c with h0|⟨e,h1,h2,h3⟩
     ·simp at h0
     ·have d:=j _ o (ho 0 o rfl) f e (Array.mem_toList_iff.1 h1) h2
      rcases h3 with rfl|h3
      ·exact d
      ·exact h _ _ h3 d
    ·rw[List.getElem?_eq_none (by simp;omega)]at b
     simp at b
theorem Zh7 {T:Nat->Prop}(b:Zfy ops T){i j:Nat}(h:Zh8 ops i j=true)(c:¬ T j):¬ T i :=
 ZjX b ops.toList [] (fun k o d=>by simpa using d) (fun k i a=>by simp at a) j i (by have:=Zkq _ _ _ _ h;rwa[Nat.zero_add]at this) c
def ZaQ (Y:List (Ap × Nat)):Fr:=Y.map fun y=>(y.1.d,y.1.val y.2)
def ZcI (Y:List (Ap × Nat)):List It:=Y.map fun y=>y.1.it y.2
def ZfI (n:Nat)(wr:World)(F:List It)(K:Fr->List It->Prop):Exit->Act->World->Prop:=fun e a w=>e = .normal/\∃ fr O,St n wr fr (O++F) a w/\K fr O
structure Rg (P:Program)(n:Nat)(wr:World)(ops:Array Oper)(todo:List (Nat × Oper))(V:List Qp)(Al:List Ap)(fr:Fr)(O:List It):Prop where
 idx:(todo.map (·.1)++(V.map (·.i)++Al.map (·.i))).Nodup
 dst:(V.map (·.d)++Al.map (·.d)).Nodup
 qf:QF P n wr ops fr O V
 af:AF P n wr ops fr Al
 ok:∀ p∈todo,ops[p.1]?=some p.2
def RD (P:Program)(n:Nat)(wr:World)(ops:Array Oper)(todo:List (Nat × Oper))(V:List Qp)(Al:List Ap)(K:Fr->List It->Prop)(fr:Fr)(O:List It):Prop :=
 Rg P n wr ops todo V Al fr O->∀ (m:Nat) (F:List It) (X:List Qp) (Y:List (Ap × Nat)) (N:List Ap) (a:Act) (w:World),
  X.Sublist V->Al.Perm (Y.map (·.1)++N)->St n wr (ZaQ Y++fr) (O++(ZcI Y++F)) (putX a X) w ->
  todo.length+X.length+N.length<=m->Zfy ops (Tof todo X N)->AnyT P ops (ZfI n wr F K) m (Tof todo X N) a w
theorem ZpZ:∀ (X1 X2:List Qp) (x:Qp) (a:Act),(∀ y∈X1,y.d≠x.d)->putX a (X1++x::X2)=putX (a.put (some x.d) x.v) (X1++X2)
 | [],_,_,_,_=>rfl
 | y::X1,X2,x,a,h=>by
  simp only[List.cons_append,putX]
  rw[ZpZ X1 X2 x _ fun z c=>h z (List.mem_cons_of_mem _ c)]
  rw[Act.put_comm a _ _ (fun d b e=>h y List.mem_cons_self (by injection b with b;injection e with e;omega))]
theorem Zf7:∀ (X:List Qp) (a:Act) (d:Option Tmp) (v:Value),(∀ y∈X,d≠some y.d)->putX (a.put d v) X=(putX a X).put d v
 | [],_,_,_,_=>rfl
 | y::X,a,d,v,h=>by
  simp only[putX]
  rw[<- Zf7 X _ d v fun z c=>h z (List.mem_cons_of_mem _ c),Act.put_comm a _ _ (fun f b e=>h y List.mem_cons_self (by rw[b,<- e]))]
theorem ZeV {o:Oper}(e:∀ cs b,o.op ≠ .select cs b):∀ (X:List Qp) (a:Act),(∀ y∈X,y.d ∉ o.looksAt ops) ->
  execOp (putX a X).eval o=execOp a.eval o/\Region.wanted o (yielded ops (putX a X).tmps)=Region.wanted o (yielded ops a.tmps)
 | [],_,_=>⟨rfl,rfl⟩
 | y::X,a,h=>by
  have g:=ZeV e X (a.put (some y.d) y.v) fun z i=>h z (List.mem_cons_of_mem _ i)
  have f:∀ d,some y.d=some d->d ∉ o.looksAt ops:=fun d c=>by injection c with c;subst c;exact h y List.mem_cons_self
  simp only[putX]
  rw[g.1,g.2]
  exact⟨execOp_put o e a _ _ f,wanted_put o a _ _ f⟩
theorem Zc8 {fr fr':Fr}:∀ {Z:Fr},(∀ p∈Z,look fr p.1=none)->LSub fr fr'->LSub fr (Z++fr')
 | [],_,hl=>hl
 | (d,u)::Z,h,hl=>fun t v a=>by
  have b:=h (d,u) List.mem_cons_self
  have f:=Zc8 (fun p c=>h p (List.mem_cons_of_mem _ c)) hl t v a
  simp only[List.cons_append,look]
  cases hb:Nat.beq d t with
  | false=>simpa using f
  | true =>
   have e:=Nat.eq_of_beq_eq_true hb
   subst e
   simp only at b
   rw[b]at a
   cases a
theorem SubO.append (O F:List It):SubO O (O++F):=by
 induction O with
 | nil=>exact .nil
 | cons x O ih=>exact .cons .here ih
theorem Zaz.swapHead {base b:Nat}{cs:List Value}{t:TypeId}{A:It}{O:List It}{w:World}(h:Zaz base (.blk b cs t::O) w)(d:(∀ j,A.S j↔j=b)/\∀ w:World,w.heap[b]?=some (.cells cs.toArray t (0,0))->A.sat w):Zaz base (A::O) w:=by
 have e:=h.inb _ List.mem_cons_self b rfl
 refine⟨fun i a=>?_,fun i a k c=>?_,List.pairwise_cons.2 ⟨fun j f k c=>?_,(List.pairwise_cons.1 h.sep).2⟩⟩
 ·rcases List.mem_cons.1 a with rfl|a
  ·exact d.2 w (h.sat _ List.mem_cons_self)
  ·exact h.tail.sat i a
 ·rcases List.mem_cons.1 a with rfl|a
  ·rw[(d.1 k).1 c]
   exact e
  ·exact h.tail.inb i a k c
 ·rw[(d.1 k).1 c]
  exact(List.pairwise_cons.1 h.sep).1 j f b rfl
variable {todo:List (Nat × Oper)}{V:List Qp}{Al:List Ap}{K:Fr->List It->Prop}{fr:Fr}{O:List It}
theorem Ze2 (fin:todo=[]->K fr O/\Al=[])
  (aa:Rg P n wr ops todo V Al fr O->∀ (m:Nat) (F:List It) (X:List Qp) (Y:List (Ap × Nat)) (N:List Ap) (a:Act) (w:World),X.Sublist V->Al.Perm (Y.map (·.1)++N)->St n wr (ZaQ Y++fr) (O++(ZcI Y++F)) (putX a X) w ->
   todo.length+X.length+N.length<=m+1->Zfy ops (Tof todo X N)->∀ p∈todo,(∃ o,ops[p.1]?=some o/\∀ e∈o.after,Region.binds .any e=true->¬ Tof todo X N e.on)->wpOp P ops (ZfI n wr F K) p.1 (AnyT P ops (ZfI n wr F K) m (fun j=>Tof todo X N j/\j≠p.1)) a w) :
  RD P n wr ops todo V Al K fr O:=by
 intro L m
 have Q:=L.idx
 have H:(V.map (·.i)++Al.map (·.i)).Nodup:=(List.nodup_append.1 Q).2.1
 have ag:∀ p∈todo,∀ k,k∈V.map (·.i)++Al.map (·.i)->p.1≠k:=fun p s k U=>(List.nodup_append.1 Q).2.2 _ (List.mem_map.2 ⟨p,s,rfl⟩) _ U
 have last:∀ (F:List It) (X:List Qp) (Y:List (Ap × Nat)) (N:List Ap) (a:Act) (w:World),Al.Perm (Y.map (·.1)++N)->St n wr (ZaQ Y++fr) (O++(ZcI Y++F)) (putX a X) w->todo=[]->X=[]->ZfI n wr F K .normal a w:=by
  intro F X Y N a w q u ht c
  obtain⟨hK,ah⟩:=fin ht
  subst c
  have hY:Y=[]:=by
   rw[ah]at q
   have:=q.length_eq
   simp at this
   exact List.eq_nil_of_length_eq_zero (by omega)
  subst hY
  exact⟨rfl,fr,O,by simpa[ZaQ,ZcI,putX] using u,hK⟩
 induction m with
 | zero =>
  intro F X Y N a w c q u hm _
  have I:todo=[]:=List.eq_nil_of_length_eq_zero (by omega)
  have h2:X=[]:=List.eq_nil_of_length_eq_zero (by omega)
  have h3:N=[]:=List.eq_nil_of_length_eq_zero (by omega)
  refine⟨fun i hi=>?_,last F X Y N a w q u I h2⟩
  rw[I,h2,h3]at hi
  rcases hi with⟨_,h,_⟩|⟨_,h,_⟩|⟨_,h,_⟩ <;> cases h
 | succ m ih =>
  intro F X Y N a w c q u hm T
  refine⟨fun M=>?_,fun i hi Z=>?_⟩
  ·refine last F X Y N a w q u ?_ ?_
   ·rw[List.eq_nil_iff_forall_not_mem]
    exact fun p s=>M p.1 (.inl ⟨p,s,rfl⟩)
   ·rw[List.eq_nil_iff_forall_not_mem]
    exact fun x hx=>M x.i (.inr (.inl ⟨x,hx,rfl⟩))
  ·have g:∀ {j:Nat} {o:Oper},ops[j]?=some o->(∃ o,ops[j]?=some o/\∀ e∈o.after,Region.binds .any e=true->¬ Tof todo X N e.on)->∀ y∈X,y.d ∉ o.looksAt ops:=fun ho Z y b=>by
    obtain⟨oy,_,_,h3,_⟩:=L.qf.mem y (c.subset b)
    exact ZfL h3 ho (Zbv Z (.inr (.inl ⟨y,b,rfl⟩)))
   have ae:∀ p∈ZaQ Y,look fr p.1=none:=fun p s=>by
    obtain⟨y,b,rfl⟩:=List.mem_map.1 s
    obtain⟨_,_,_,_,_,_,h,_⟩:=L.af.mem y.1 (q.mem_iff.2 (List.mem_append_left _ (List.mem_map.2 ⟨y,b,rfl⟩)))
    exact h
   rcases hi with⟨p,s,rfl⟩|⟨x,hx,rfl⟩|⟨k,U,rfl⟩
   ·exact aa L m F X Y N a w c q u hm T p s Z
   ·obtain⟨o,I,h2,h3,h4,h5,h6⟩:=L.qf.mem x (c.subset hx)
    obtain⟨X1,X2,rfl⟩:=List.append_of_mem hx
    have ab:((X1++x::X2).map (·.d)).Nodup:=(List.nodup_append.1 L.dst).1.sublist (c.map _)
    have W:((X1++x::X2).map (·.i)).Nodup:=(List.nodup_append.1 H).1.sublist (c.map _)
    rw[List.map_append,List.map_cons]at ab W
    have aj:(X1++X2).Sublist V:=((List.sublist_cons_self x X2).append_left X1).trans c
    have ak:∀ y∈X1,y.d≠x.d:=fun y b e=>(List.nodup_append.1 ab).2.2 _ (List.mem_map.2 ⟨y,b,rfl⟩) _ List.mem_cons_self e
    have ac:=ZpZ X1 X2 x a ak
    have M:(fun j=>Tof todo (X1++x::X2) N j/\j≠x.i)=Tof todo (X1++X2) N:=by
     funext j
     apply propext
     constructor
     ·rintro⟨h|⟨y,b,rfl⟩|h,hne⟩
      ·exact .inl h
      ·rcases List.mem_append.1 b with b|b
       ·exact .inr (.inl ⟨y,List.mem_append_left _ b,rfl⟩)
       ·rcases List.mem_cons.1 b with rfl|b
        ·exact absurd rfl hne
        ·exact .inr (.inl ⟨y,List.mem_append_right _ b,rfl⟩)
      ·exact .inr (.inr h)
     ·rintro(⟨p,s,rfl⟩|⟨y,b,rfl⟩|⟨k,U,rfl⟩)
      ·exact⟨.inl ⟨p,s,rfl⟩,ag p s x.i (List.mem_append_left _ (List.mem_map.2 ⟨x,c.subset hx,rfl⟩))⟩
      ·refine⟨.inr (.inl ⟨y,?_,rfl⟩),fun e=>?_⟩
       ·rcases List.mem_append.1 b with b|b
        ·exact List.mem_append_left _ b
        ·exact List.mem_append_right _ (List.mem_cons_of_mem _ b)
       ·rcases List.mem_append.1 b with b|b
        ·exact(List.nodup_append.1 W).2.2 _ (List.mem_map.2 ⟨y,b,rfl⟩) _ List.mem_cons_self e
        ·have:=(List.nodup_cons.1 (List.nodup_append.1 W).2.1).1
         exact this (List.mem_map.2 ⟨y,b,e⟩)
      ·refine⟨.inr (.inr ⟨k,U,rfl⟩),fun e=>?_⟩
       have r:k∈Al:=q.mem_iff.2 (List.mem_append_right _ U)
       exact(List.nodup_append.1 H).2.2 _ (List.mem_map.2 ⟨x,c.subset hx,rfl⟩) _ (List.mem_map.2 ⟨k,r,rfl⟩) e.symm
    have am:St n wr fr O (putX a (X1++x::X2)) w:=⟨u.sim.lsub (Zc8 ae fun _ _ h=>h),u.old,u.own.sub (SubO.append _ _)⟩
    have D:=ZeV (ops:=ops) h5 (X1++x::X2) a (g I Z)
    have b:=h6 _ _ am
    rw[D.1,D.2]at b
    have E:AnyT P ops (ZfI n wr F K) m (fun j=>Tof todo (X1++x::X2) N j/\j≠x.i) (a.put o.dst x.v) w:=by
     rw[M,h2]
     refine ih F (X1++X2) Y N _ w aj q (by rw[<- ac];exact u) ?_ (M▸T.step Z)
     simp only[List.length_append,List.length_cons]at hm ⊢
     omega
    unfold Go.wpOp
    simp only[I]
    rcases b with⟨hw,hv⟩|⟨hw,hv⟩
    ·simp only[hw,if_true,Oper.wp,hv,Oper.upon]
     exact .inl E
    ·simp only[hw,Bool.false_eq_true,if_false]
     rw[<- hv]
     exact E
   ·have r:k∈Al:=q.mem_iff.2 (List.mem_append_right _ U)
    obtain⟨o,I,h2,h3,h4,h5,h6,h7⟩:=L.af.mem k r
    obtain⟨N1,N2,rfl⟩:=List.append_of_mem U
    have ad:Sim n fr (putX a X):=u.sim.lsub (Zc8 ae fun _ _ h=>h)
    obtain⟨hw,R⟩:=h7.2 _ w ad
    have D:=ZeV (ops:=ops) h5 X a (g I Z)
    rw[D.1]at R
    rw[D.2]at hw
    have al:∀ y∈X,(some k.d:Option Tmp)≠some y.d:=fun y b e=>by
     injection e with e
     exact(List.nodup_append.1 L.dst).2.2 _ (List.mem_map.2 ⟨y,c.subset b,rfl⟩) _ (List.mem_map.2 ⟨k,r,rfl⟩) e.symm
    have ai:(Al.map (·.i)).Nodup:=(List.nodup_append.1 H).2.1
    have J:((Y.map (·.1)++(N1++k::N2)).map (·.i)).Nodup:=(q.map _).nodup_iff.1 ai
    have S:((N1++k::N2).map (·.i)).Nodup:=by
     rw[List.map_append]at J
     exact(List.nodup_append.1 J).2.1
    rw[List.map_append,List.map_cons]at S
    have M:(fun j=>Tof todo X (N1++k::N2) j/\j≠k.i)=Tof todo X (N1++N2):=by
     funext j
     apply propext
     constructor
     ·rintro⟨h|h|⟨y,b,rfl⟩,hne⟩
      ·exact .inl h
      ·exact .inr (.inl h)
      ·rcases List.mem_append.1 b with b|b
       ·exact .inr (.inr ⟨y,List.mem_append_left _ b,rfl⟩)
       ·rcases List.mem_cons.1 b with rfl|b
        ·exact absurd rfl hne
        ·exact .inr (.inr ⟨y,List.mem_append_right _ b,rfl⟩)
     ·rintro(⟨p,s,rfl⟩|⟨y,b,rfl⟩|⟨y,b,rfl⟩)
      ·exact⟨.inl ⟨p,s,rfl⟩,ag p s k.i (List.mem_append_right _ (List.mem_map.2 ⟨k,r,rfl⟩))⟩
      ·exact⟨.inr (.inl ⟨y,b,rfl⟩),fun e=>(List.nodup_append.1 H).2.2 _ (List.mem_map.2 ⟨y,c.subset b,rfl⟩) _ (List.mem_map.2 ⟨k,r,rfl⟩) e⟩
      ·refine⟨.inr (.inr ⟨y,?_,rfl⟩),fun e=>?_⟩
       ·rcases List.mem_append.1 b with b|b
        ·exact List.mem_append_left _ b
        ·exact List.mem_append_right _ (List.mem_cons_of_mem _ b)
       ·rcases List.mem_append.1 b with b|b
        ·exact(List.nodup_append.1 S).2.2 _ (List.mem_map.2 ⟨y,b,rfl⟩) _ List.mem_cons_self e
        ·exact(List.nodup_cons.1 (List.nodup_append.1 S).2.1).1 (List.mem_map.2 ⟨y,b,e⟩)
    unfold Go.wpOp
    simp only[I,hw,if_true,Oper.wp,R,Oper.upon]
    refine .inl ?_
    rw[M,h2]
    have f:=u.fresh (cs:=k.z) (t:=k.t)
    refine ih F X ((k,w.heap.size)::Y) (N1++N2) _ _ c ?_ ⟨?_,f.1,?_⟩ ?_ (M▸T.step Z)
    ·refine q.trans ?_
     simp only[List.map_cons,List.cons_append]
     exact(List.perm_middle.append_left _).trans (List.perm_middle) |>.trans (by simp)
    ·rw[Zf7 X a _ _ al]
     exact u.sim.put h4 _
    ·refine(f.2.swapHead (h7.1 _)).perm ?_
     simp only[ZcI,List.map_cons,List.cons_append]
     exact List.perm_middle.symm
    ·simp only[List.length_append,List.length_cons]at hm ⊢
     omega
