/- Parts of the proof. -/
import Derived.Test.YtpipekfmecikmaaGreatDoorV01
import Derived.Orders
set_option maxHeartbeats 4000000
set_option linter.unusedVariables false
set_option linter.unusedSimpArgs false
namespace Go.Wk
open Go Go.RowKit
section
variable (P:Program)(ops:Array Oper)(Q:Exit->Act->World->Prop)
def AnyT:Nat->(Nat->Prop)->Act->World->Prop
 | 0,T,a,w=>(∀ i,¬ T i)/\Q .normal a w
 | m+1,T,a,w=>((∀ i,¬ T i)->Q .normal a w) /\
   ∀ i,T i->(∃ o,ops[i]?=some o/\∀ e∈o.after,Region.binds .any e=true->¬ T e.on)->wpOp P ops Q i (AnyT m (fun j=>T j/\j≠i)) a w
end
def acyc (ops:Array Oper):Bool:=(List.range ops.size).all fun i=>match ops[i]? with|some o=>o.after.all fun e => !(Region.binds .any e)||Nat.ble (e.on+1) i|none=>true
theorem Zs1 {ops:Array Oper}(h:acyc ops=true){i:Nat}{o:Oper}(ho:ops[i]?=some o){e:Edge}(he:e∈o.after)(hb:Region.binds .any e=true):e.on<i:=by
 have hi:i<ops.size:=(Array.getElem?_eq_some_iff.1 ho).1
 have:=List.all_eq_true.1 h i (List.mem_range.2 hi)
 rw[ho]at this
 simp only[Array.all_eq_true_iff_forall_mem]at this
 have h2:=this e he
 rw[hb]at h2
 exact Nat.le_of_ble_eq_true (by simpa using h2)
theorem ZlW {T:Nat->Prop}:∀ i,T i->∃ k,T k/\∀ j,j<k->¬ T j:=by
 intro i
 induction i using Nat.strongRecOn with
 | _ i ih =>
  intro hi
  by_cases h:∃ j,j<i/\T j
  ·obtain⟨j,hj,hT⟩:=h
   exact ih j hj hT
  ·exact⟨i,hi,fun j hj hT=>h ⟨j,hj,hT⟩⟩
theorem Zp3 {P:Program}{ops:Array Oper}{Q:Exit->Act->World->Prop}(hac:acyc ops=true):∀ (m:Nat) (T:Nat->Prop) (listed:Array Bool) (a:Act) (w:World),listed.size=ops.size->(∀ j,T j↔listed.getD j true=false) ->
  AnyT P ops Q m T a w->wpAny P .any ops Q m listed a w:=by
 intro m
 induction m with
 | zero =>
  intro T listed a w hsz hT h
  refine⟨?_,h.2⟩
  rw[List.eq_nil_iff_forall_not_mem]
  intro i hi
  exact h.1 i ((hT i).2 (mem_ready.1 hi).1)
 | succ m ih =>
  intro T listed a w hsz hT h
  have hT':∀ j,listed.getD j false=true->¬ T j:=fun j hj hTj=>by
   have h1:=(hT j).1 hTj
   rw[Array.getD_eq_getD_getElem?]at hj h1
   cases hx:listed[j]? with
   | none=>rw[hx]at hj;simp at hj
   | some b=>rw[hx]at hj h1;simp at hj h1;rw[hj]at h1;cases h1
  refine⟨fun hr=>h.1 fun i hi=>?_,fun i hi=>?_⟩
  ·obtain⟨k,hk,hl⟩:=ZlW i hi
   have hk1:=(hT k).1 hk
   have hlt:k<ops.size:=by
    rcases Nat.lt_or_ge k ops.size with h0|h0
    ·exact h0
    ·rw[Array.getD_eq_getD_getElem?,Array.getElem?_eq_none (by omega)]at hk1
     simp at hk1
   have:k∈Region.ready .any ops listed:=mem_ready.2 ⟨hk1,ops[k],Array.getElem?_eq_getElem hlt,fun e he hbe=>by
    have hon:=Zs1 hac (Array.getElem?_eq_getElem hlt) he hbe
    have hnT:=hl e.on hon
    rw[hT]at hnT
    have hin:e.on<listed.size:=by omega
    rw[Array.getD_eq_getD_getElem?,Array.getElem?_eq_getElem hin]at hnT ⊢
    simpa using hnT⟩
   rw[hr]at this
   cases this
  ·obtain⟨h1,o,ho,hd⟩:=mem_ready.1 hi
   refine wpOp_mono (fun a' w' h'=>ih _ _ a' w' (by simpa using hsz) ?_ h') (h.2 i ((hT i).2 h1) ⟨o,ho,fun e he hb=>hT' _ (hd e he hb)⟩)
   intro j
   by_cases hj:i=j
   ·subst hj
    have hlt:i<listed.size:=by rw[hsz];exact(Array.getElem?_eq_some_iff.1 ho).1
    simp[Array.getD_eq_getD_getElem?,hlt]
   ·rw[getD_set_ne true hj,<- hT]
    exact⟨fun h=>h.1,fun h=>⟨h,fun e=>hj e.symm⟩⟩
structure Qp where
 i:Nat
 d:Nat
 v:Value
structure Ap where
 i:Nat
 d:Nat
 val:Nat->Value
 z:List Value
 t:TypeId
 it:Nat->It
def ItOk (k:Ap):Prop:=∀ b,(∀ j,(k.it b).S j↔j=b)/\∀ w:World,w.heap[b]?=some (.cells k.z.toArray k.t (0,0))->(k.it b).sat w
def putX (a:Act):List Qp->Act
 | []=>a
 | x::r=>putX (a.put (some x.d) x.v) r
def Zbc (ops:Array Oper)(i j:Nat):Bool:=match ops[j]? with|some o=>o.after.toList.any fun e=>Region.binds .any e&&Nat.beq e.on i|none=>false
def Zej (ops:Array Oper)(i d:Nat):Bool :=
 (List.range ops.size).all fun j=>Zbc ops i j||match ops[j]? with|some o => !(o.looksAt ops).contains d&&(Nat.beq j i||!(o.dst==some d))|none=>true
theorem ZhZ {ops:Array Oper}{i d:Nat}(h:Zej ops i d=true){j:Nat}{o:Oper}(ho:ops[j]?=some o)(he:Zbc ops i j=false):d ∉ o.looksAt ops:=by
 have hj:j<ops.size:=(Array.getElem?_eq_some_iff.1 ho).1
 have:=List.all_eq_true.1 h j (List.mem_range.2 hj)
 rw[ho,he]at this
 simp only[Bool.false_or,Bool.and_eq_true,Bool.not_eq_true',List.contains_eq_mem,decide_eq_false_iff_not]at this
 exact this.1
theorem ZqK {ops:Array Oper}{i d:Nat}(h:Zej ops i d=true){j:Nat}{o:Oper}(ho:ops[j]?=some o)(hne:j≠i)(he:Zbc ops i j=false):o.dst≠some d:=by
 have hj:j<ops.size:=(Array.getElem?_eq_some_iff.1 ho).1
 have:=List.all_eq_true.1 h j (List.mem_range.2 hj)
 have hb:Nat.beq j i=false:=by
  cases hb:Nat.beq j i with
  | false=>rfl
  | true=>exact absurd (Nat.eq_of_beq_eq_true hb) hne
 rw[ho,he,hb]at this
 simp only[Bool.false_or,Bool.and_eq_true,Bool.not_eq_true']at this
 intro e
 rw[e]at this
 simp at this
theorem Zca {ops:Array Oper}{T:Nat->Prop}{j:Nat}(hr:∃ o,ops[j]?=some o/\∀ e∈o.after,Region.binds .any e=true->¬ T e.on){i:Nat}(hi:T i):Zbc ops i j=false:=by
 obtain⟨o,ho,hd⟩:=hr
 unfold Zbc
 rw[ho]
 cases hx:(o.after.toList.any fun e=>Region.binds .any e&&Nat.beq e.on i) with
 | false=>simpa using hx
 | true =>
  rw[List.any_eq_true]at hx
  obtain⟨k,hk,hx⟩:=hx
  simp only[Bool.and_eq_true]at hx
  have e:=Nat.eq_of_beq_eq_true hx.2
  exact absurd (e▸hi) (hd _ (Array.mem_toList_iff.1 hk) hx.1)
section
variable {P:Program}{n:Nat}{wr:World}{ops:Array Oper}
def LSub (fr fr':Fr):Prop:=∀ t v,look fr t=some v->look fr' t=some v
theorem LSub.cons {fr:Fr}{d:Nat}{v:Value}(h:look fr d=none):LSub fr ((d,v)::fr):=fun t u hu=>by
 simp only[look]
 cases hb:Nat.beq d t with
 | false=>simpa using hu
 | true =>
  have e:=Nat.eq_of_beq_eq_true hb
  subst e
  rw[h]at hu
  cases hu
theorem Sim.lsub {fr fr':Fr}{a:Act}(h:Sim n fr' a)(hl:LSub fr fr'):Sim n fr a:=⟨h.defers,h.size,fun t v hv=>h.at_ t v (hl t v hv)⟩
def Qy (P:Program)(n:Nat)(wr:World)(ops:Array Oper)(fr:Fr)(O:List It)(o:Oper)(v:Value):Prop :=
 ∀ a w,St n wr fr O a w->(Region.wanted o (yielded ops a.tmps)=true/\(execOp a.eval o).run P w = .ok (.value v) w)\/(Region.wanted o (yielded ops a.tmps)=false/\v=undef)
def Ay (P:Program)(n:Nat)(_wr:World)(ops:Array Oper)(fr:Fr)(o:Oper)(k:Ap):Prop :=
 ItOk k/\∀ a w,Sim n fr a->Region.wanted o (yielded ops a.tmps)=true/\(execOp a.eval o).run P w = .ok (.value (k.val w.heap.size)) (w.alloc (.cells k.z.toArray k.t))
def QF (P:Program)(n:Nat)(wr:World)(ops:Array Oper)(fr:Fr)(O:List It):List Qp->Prop
 | []=>True
 | x::r=>(∃ o,ops[x.i]?=some o/\o.dst=some x.d/\Zej ops x.i x.d=true/\Nat.ble (x.d+1) n=true/\(∀ cs b,o.op ≠ .select cs b)/\Qy P n wr ops fr O o x.v)/\QF P n wr ops fr O r
def AF (P:Program)(n:Nat)(wr:World)(ops:Array Oper)(fr:Fr):List Ap->Prop
 | []=>True
 | x::r=>(∃ o,ops[x.i]?=some o/\o.dst=some x.d/\Zej ops x.i x.d=true/\Nat.ble (x.d+1) n=true/\(∀ cs b,o.op ≠ .select cs b)/\look fr x.d=none/\Ay P n wr ops fr o x)/\AF P n wr ops fr r
theorem QF.mem {fr:Fr}{O:List It}:∀ {V:List Qp},QF P n wr ops fr O V->∀ x∈V,∃ o,ops[x.i]?=some o/\o.dst=some x.d/\Zej ops x.i x.d=true/\Nat.ble (x.d+1) n=true/\(∀ cs b,o.op ≠ .select cs b)/\Qy P n wr ops fr O o x.v
 | [],_,_,h=>by cases h
 | y::r,h,x,hx=>by
  rcases List.mem_cons.1 hx with rfl|hx
  ·exact h.1
  ·exact QF.mem h.2 x hx
theorem QF.mono {fr fr':Fr}{O O':List It}(hf:LSub fr fr')(hO:SubO O O'):∀ {V:List Qp},QF P n wr ops fr O V->QF P n wr ops fr' O' V
 | [],_=>trivial
 | y::r,h=>by
  obtain⟨⟨o,h1,h2,h3,h4,h5,h6⟩,h7⟩:=h
  exact⟨⟨o,h1,h2,h3,h4,h5,fun a w hs=>h6 a w ⟨hs.sim.lsub hf,hs.old,hs.own.sub hO⟩⟩,QF.mono hf hO h7⟩
theorem QF.sub {fr:Fr}{O:List It}(p:Qp->Bool):∀ {V:List Qp},QF P n wr ops fr O V->QF P n wr ops fr O (V.filter p)
 | [],_=>trivial
 | y::r,h=>by
  rw[List.filter_cons]
  split
  ·exact⟨h.1,QF.sub p h.2⟩
  ·exact QF.sub p h.2
theorem AF.mem {fr:Fr}:∀ {V:List Ap},AF P n wr ops fr V->∀ x∈V,∃ o,ops[x.i]?=some o/\o.dst=some x.d/\Zej ops x.i x.d=true/\Nat.ble (x.d+1) n=true/\(∀ cs b,o.op ≠ .select cs b)/\look fr x.d=none/\Ay P n wr ops fr o x
 | [],_,_,h=>by cases h
 | y::r,h,x,hx=>by
  rcases List.mem_cons.1 hx with rfl|hx
  ·exact h.1
  ·exact AF.mem h.2 x hx
def Tof (todo:List (Nat × Oper))(X:List Qp)(N:List Ap)(j:Nat):Prop:=(∃ p∈todo,p.1=j)\/(∃ x∈X,x.i=j)\/∃ k∈N,k.i=j
def ZgR (ops:Array Oper)(T:Nat->Prop):Prop:=∀ k o,ops[k]?=some o->¬ T k->∀ e∈o.after,Region.binds .any e=true->¬ T e.on
theorem ZgR.step {T:Nat->Prop}(h:ZgR ops T){i:Nat}(hr:∃ o,ops[i]?=some o/\∀ e∈o.after,Region.binds .any e=true->¬ T e.on):ZgR ops (fun j=>T j/\j≠i):=fun k o hk hn e he hb hT=>by
 by_cases hki:k=i
 ·subst hki
  obtain⟨o',ho',hd⟩:=hr
  rw[hk]at ho'
  cases ho'
  exact hd e he hb hT.1
 ·exact h k o hk (fun hTk=>hn ⟨hTk,hki⟩) e he hb hT.1
def Zr9 (acc:List Nat)(o:Oper):Nat:=o.after.toList.foldl (fun m e=>bif Region.binds .any e then (m ||| 2 ^ e.on) ||| acc.getD e.on 0 else m) 0
def Zvc:List Oper->List Nat->List Nat
 | [],acc=>acc
 | o::l,acc=>Zvc l (acc++[Zr9 acc o])
def ZjK (m:Nat):Nat->Nat->List Bool
 | 0,_=>[]
 | f+1,k=>m.testBit k::ZjK m f (k+1)
theorem ZjJ (m:Nat):∀ (f k i:Nat),(ZjK m f k).getD i false=true->m.testBit (k+i)=true
 | 0,_,_,h=>by simp[ZjK]at h
 | f+1,k,0,h=>by simpa[ZjK] using h
 | f+1,k,i+1,h=>by
  have:=ZjJ m f (k+1) i (by simpa[ZjK] using h)
  rwa[show k+1+i=k+(i+1) by omega]at this
def Zll (ops:Array Oper)(i j:Nat):Bool:=(ZjK ((Zvc ops.toList []).getD j 0) ops.size 0).getD i false
theorem ZlD {acc:List Nat}{i:Nat}:∀ (l:List Edge) (m:Nat),(l.foldl (fun m e=>bif Region.binds .any e then (m ||| 2 ^ e.on) ||| acc.getD e.on 0 else m) m).testBit i=true ->
  m.testBit i=true\/∃ e∈l,Region.binds .any e=true/\(e.on=i\/(acc.getD e.on 0).testBit i=true)
 | [],_,h => .inl h
 | e::l,m,h=>by
  rw[List.foldl_cons]at h
  rcases ZlD l _ h with h|⟨e',h1,h2⟩
  ·cases hb:Region.binds .any e with
   | false =>
    rw[hb]at h
    exact .inl (by simpa using h)
   | true =>
    rw[hb]at h
    simp only[cond_true,Nat.testBit_or,Nat.testBit_two_pow,Bool.or_eq_true,decide_eq_true_eq]at h
    rcases h with(h|h)|h
    ·exact .inl h
    ·exact .inr ⟨e,List.mem_cons_self,hb,.inl h⟩
    ·exact .inr ⟨e,List.mem_cons_self,hb,.inr h⟩
  ·exact .inr ⟨e',List.mem_cons_of_mem _ h1,h2⟩
theorem Zjj {T:Nat->Prop}(hc:ZgR ops T):∀ (l:List Oper) (acc:List Nat),(∀ k o,l[k]?=some o->ops[acc.length+k]?=some o)->(∀ k i,(acc.getD k 0).testBit i=true->¬ T k->¬ T i) ->
  ∀ k i,((Zvc l acc).getD k 0).testBit i=true->¬ T k->¬ T i
 | [],_,_,h=>h
 | o::l,acc,ho,h=>by
  rw[Zvc]
  refine Zjj hc l _ (fun k o' hk=>?_) (fun k i hb hk=>?_)
  ·rw[List.length_append,List.length_singleton,Nat.add_assoc,Nat.add_comm 1 k]
   exact ho (k+1) o' (by simpa using hk)
  ·rw[List.getD_eq_getElem?_getD]at hb
   by_cases hlt:k<acc.length
   ·rw[List.getElem?_append_left hlt,<- List.getD_eq_getElem?_getD]at hb
    exact h k i hb hk
   ·by_cases he:k=acc.length
    ·subst he
     rw[List.getElem?_append_right (Nat.le_refl _),Nat.sub_self]at hb
     have hb':(Zr9 acc o).testBit i=true:=hb
     unfold Zr9 at hb'
     rcases ZlD _ _ hb' with h0|⟨e,h1,h2,h3⟩
     ·simp at h0
     ·have hne:=hc _ o (ho 0 o rfl) hk e (Array.mem_toList_iff.1 h1) h2
      rcases h3 with rfl|h3
      ·exact hne
      ·exact h _ _ h3 hne
    ·rw[List.getElem?_eq_none (by simp;omega)]at hb
     simp at hb
theorem Zne {T:Nat->Prop}(hc:ZgR ops T){i j:Nat}(h:Zll ops i j=true)(hj:¬ T j):¬ T i :=
 Zjj hc ops.toList [] (fun k o hk=>by simpa using hk) (fun k i hb=>by simp at hb) j i (by have:=ZjJ _ _ _ _ h;rwa[Nat.zero_add]at this) hj
def Zbr (Y:List (Ap × Nat)):Fr:=Y.map fun y=>(y.1.d,y.1.val y.2)
def ZeY (Y:List (Ap × Nat)):List It:=Y.map fun y=>y.1.it y.2
def Zkb (n:Nat)(wr:World)(F:List It)(K:Fr->List It->Prop):Exit->Act->World->Prop:=fun e a w=>e = .normal/\∃ fr O,St n wr fr (O++F) a w/\K fr O
structure Rg (P:Program)(n:Nat)(wr:World)(ops:Array Oper)(todo:List (Nat × Oper))(V:List Qp)(Al:List Ap)(fr:Fr)(O:List It):Prop where
 idx:(todo.map (·.1)++(V.map (·.i)++Al.map (·.i))).Nodup
 dst:(V.map (·.d)++Al.map (·.d)).Nodup
 qf:QF P n wr ops fr O V
 af:AF P n wr ops fr Al
 ok:∀ p∈todo,ops[p.1]?=some p.2
def RD (P:Program)(n:Nat)(wr:World)(ops:Array Oper)(todo:List (Nat × Oper))(V:List Qp)(Al:List Ap)(K:Fr->List It->Prop)(fr:Fr)(O:List It):Prop :=
 Rg P n wr ops todo V Al fr O->∀ (m:Nat) (F:List It) (X:List Qp) (Y:List (Ap × Nat)) (N:List Ap) (a:Act) (w:World),
  X.Sublist V->Al.Perm (Y.map (·.1)++N)->St n wr (Zbr Y++fr) (O++(ZeY Y++F)) (putX a X) w ->
  todo.length+X.length+N.length<=m->ZgR ops (Tof todo X N)->AnyT P ops (Zkb n wr F K) m (Tof todo X N) a w
theorem ZoR:∀ (X1 X2:List Qp) (x:Qp) (a:Act),(∀ y∈X1,y.d≠x.d)->putX a (X1++x::X2)=putX (a.put (some x.d) x.v) (X1++X2)
 | [],_,_,_,_=>rfl
 | y::X1,X2,x,a,h=>by
  simp only[List.cons_append,putX]
  rw[ZoR X1 X2 x _ fun z hz=>h z (List.mem_cons_of_mem _ hz)]
  rw[Act.put_comm a _ _ (fun d hd e=>h y List.mem_cons_self (by injection hd with hd;injection e with e;omega))]
theorem ZgX:∀ (X:List Qp) (a:Act) (d:Option Tmp) (v:Value),(∀ y∈X,d≠some y.d)->putX (a.put d v) X=(putX a X).put d v
 | [],_,_,_,_=>rfl
 | y::X,a,d,v,h=>by
  simp only[putX]
  rw[<- ZgX X _ d v fun z hz=>h z (List.mem_cons_of_mem _ hz),Act.put_comm a _ _ (fun d' hd e=>h y List.mem_cons_self (by rw[hd,<- e]))]
theorem ZfE {o:Oper}(hs:∀ cs b,o.op ≠ .select cs b):∀ (X:List Qp) (a:Act),(∀ y∈X,y.d ∉ o.looksAt ops) ->
  execOp (putX a X).eval o=execOp a.eval o/\Region.wanted o (yielded ops (putX a X).tmps)=Region.wanted o (yielded ops a.tmps)
 | [],_,_=>⟨rfl,rfl⟩
 | y::X,a,h=>by
  have ih:=ZfE hs X (a.put (some y.d) y.v) fun z hz=>h z (List.mem_cons_of_mem _ hz)
  have hy:∀ d,some y.d=some d->d ∉ o.looksAt ops:=fun d hd=>by injection hd with hd;subst hd;exact h y List.mem_cons_self
  simp only[putX]
  rw[ih.1,ih.2]
  exact⟨execOp_put o hs a _ _ hy,wanted_put o a _ _ hy⟩
theorem ZdC {fr fr':Fr}:∀ {Z:Fr},(∀ p∈Z,look fr p.1=none)->LSub fr fr'->LSub fr (Z++fr')
 | [],_,hl=>hl
 | (d,u)::Z,h,hl=>fun t v hv=>by
  have hd:=h (d,u) List.mem_cons_self
  have ih:=ZdC (fun p hp=>h p (List.mem_cons_of_mem _ hp)) hl t v hv
  simp only[List.cons_append,look]
  cases hb:Nat.beq d t with
  | false=>simpa using ih
  | true =>
   have e:=Nat.eq_of_beq_eq_true hb
   subst e
   simp only at hd
   rw[hd]at hv
   cases hv
theorem SubO.append (O F:List It):SubO O (O++F):=by
 induction O with
 | nil=>exact .nil
 | cons x O ih=>exact .cons .here ih
theorem ZaA.swapHead {base b:Nat}{cs:List Value}{t:TypeId}{A:It}{O:List It}{w:World}(h:ZaA base (.blk b cs t::O) w)(hA:(∀ j,A.S j↔j=b)/\∀ w:World,w.heap[b]?=some (.cells cs.toArray t (0,0))->A.sat w):ZaA base (A::O) w:=by
 have hb:=h.inb _ List.mem_cons_self b rfl
 refine⟨fun i hi=>?_,fun i hi k hk=>?_,List.pairwise_cons.2 ⟨fun j hj k hk=>?_,(List.pairwise_cons.1 h.sep).2⟩⟩
 ·rcases List.mem_cons.1 hi with rfl|hi
  ·exact hA.2 w (h.sat _ List.mem_cons_self)
  ·exact h.tail.sat i hi
 ·rcases List.mem_cons.1 hi with rfl|hi
  ·rw[(hA.1 k).1 hk]
   exact hb
  ·exact h.tail.inb i hi k hk
 ·rw[(hA.1 k).1 hk]
  exact(List.pairwise_cons.1 h.sep).1 j hj b rfl
variable {todo:List (Nat × Oper)}{V:List Qp}{Al:List Ap}{K:Fr->List It->Prop}{fr:Fr}{O:List It}
theorem ZfQ (fin:todo=[]->K fr O/\Al=[])
  (core:Rg P n wr ops todo V Al fr O->∀ (m:Nat) (F:List It) (X:List Qp) (Y:List (Ap × Nat)) (N:List Ap) (a:Act) (w:World),X.Sublist V->Al.Perm (Y.map (·.1)++N)->St n wr (Zbr Y++fr) (O++(ZeY Y++F)) (putX a X) w ->
   todo.length+X.length+N.length<=m+1->ZgR ops (Tof todo X N)->∀ p∈todo,(∃ o,ops[p.1]?=some o/\∀ e∈o.after,Region.binds .any e=true->¬ Tof todo X N e.on)->wpOp P ops (Zkb n wr F K) p.1 (AnyT P ops (Zkb n wr F K) m (fun j=>Tof todo X N j/\j≠p.1)) a w) :
  RD P n wr ops todo V Al K fr O:=by
 intro hR m
 have hidx:=hR.idx
 have hVA:(V.map (·.i)++Al.map (·.i)).Nodup:=(List.nodup_append.1 hidx).2.1
 have htd:∀ p∈todo,∀ k,k∈V.map (·.i)++Al.map (·.i)->p.1≠k:=fun p hp k hk=>(List.nodup_append.1 hidx).2.2 _ (List.mem_map.2 ⟨p,hp,rfl⟩) _ hk
 have last:∀ (F:List It) (X:List Qp) (Y:List (Ap × Nat)) (N:List Ap) (a:Act) (w:World),Al.Perm (Y.map (·.1)++N)->St n wr (Zbr Y++fr) (O++(ZeY Y++F)) (putX a X) w->todo=[]->X=[]->Zkb n wr F K .normal a w:=by
  intro F X Y N a w hA hs ht hX
  obtain⟨hK,hAl⟩:=fin ht
  subst hX
  have hY:Y=[]:=by
   rw[hAl]at hA
   have:=hA.length_eq
   simp at this
   exact List.eq_nil_of_length_eq_zero (by omega)
  subst hY
  exact⟨rfl,fr,O,by simpa[Zbr,ZeY,putX] using hs,hK⟩
 induction m with
 | zero =>
  intro F X Y N a w hX hA hs hm _
  have h1:todo=[]:=List.eq_nil_of_length_eq_zero (by omega)
  have h2:X=[]:=List.eq_nil_of_length_eq_zero (by omega)
  have h3:N=[]:=List.eq_nil_of_length_eq_zero (by omega)
  refine⟨fun i hi=>?_,last F X Y N a w hA hs h1 h2⟩
  rw[h1,h2,h3]at hi
  rcases hi with⟨_,h,_⟩|⟨_,h,_⟩|⟨_,h,_⟩ <;> cases h
 | succ m ih =>
  intro F X Y N a w hX hA hs hm hcl
  refine⟨fun hT=>?_,fun i hi hr=>?_⟩
  ·refine last F X Y N a w hA hs ?_ ?_
   ·rw[List.eq_nil_iff_forall_not_mem]
    exact fun p hp=>hT p.1 (.inl ⟨p,hp,rfl⟩)
   ·rw[List.eq_nil_iff_forall_not_mem]
    exact fun x hx=>hT x.i (.inr (.inl ⟨x,hx,rfl⟩))
  ·have hlooks:∀ {j:Nat} {o:Oper},ops[j]?=some o->(∃ o,ops[j]?=some o/\∀ e∈o.after,Region.binds .any e=true->¬ Tof todo X N e.on)->∀ y∈X,y.d ∉ o.looksAt ops:=fun ho hr y hy=>by
    obtain⟨oy,_,_,h3,_⟩:=hR.qf.mem y (hX.subset hy)
    exact ZhZ h3 ho (Zca hr (.inr (.inl ⟨y,hy,rfl⟩)))
   have hsl:∀ p∈Zbr Y,look fr p.1=none:=fun p hp=>by
    obtain⟨y,hy,rfl⟩:=List.mem_map.1 hp
    obtain⟨_,_,_,_,_,_,h,_⟩:=hR.af.mem y.1 (hA.mem_iff.2 (List.mem_append_left _ (List.mem_map.2 ⟨y,hy,rfl⟩)))
    exact h
   rcases hi with⟨p,hp,rfl⟩|⟨x,hx,rfl⟩|⟨k,hk,rfl⟩
   ·exact core hR m F X Y N a w hX hA hs hm hcl p hp hr
   ·obtain⟨o,h1,h2,h3,h4,h5,h6⟩:=hR.qf.mem x (hX.subset hx)
    obtain⟨X1,X2,rfl⟩:=List.append_of_mem hx
    have hnd:((X1++x::X2).map (·.d)).Nodup:=(List.nodup_append.1 hR.dst).1.sublist (hX.map _)
    have hni:((X1++x::X2).map (·.i)).Nodup:=(List.nodup_append.1 hVA).1.sublist (hX.map _)
    rw[List.map_append,List.map_cons]at hnd hni
    have hX':(X1++X2).Sublist V:=((List.sublist_cons_self x X2).append_left X1).trans hX
    have hd1:∀ y∈X1,y.d≠x.d:=fun y hy e=>(List.nodup_append.1 hnd).2.2 _ (List.mem_map.2 ⟨y,hy,rfl⟩) _ List.mem_cons_self e
    have hput:=ZoR X1 X2 x a hd1
    have hT:(fun j=>Tof todo (X1++x::X2) N j/\j≠x.i)=Tof todo (X1++X2) N:=by
     funext j
     apply propext
     constructor
     ·rintro⟨h|⟨y,hy,rfl⟩|h,hne⟩
      ·exact .inl h
      ·rcases List.mem_append.1 hy with hy|hy
       ·exact .inr (.inl ⟨y,List.mem_append_left _ hy,rfl⟩)
       ·rcases List.mem_cons.1 hy with rfl|hy
        ·exact absurd rfl hne
        ·exact .inr (.inl ⟨y,List.mem_append_right _ hy,rfl⟩)
      ·exact .inr (.inr h)
     ·rintro(⟨p,hp,rfl⟩|⟨y,hy,rfl⟩|⟨k,hk,rfl⟩)
      ·exact⟨.inl ⟨p,hp,rfl⟩,htd p hp x.i (List.mem_append_left _ (List.mem_map.2 ⟨x,hX.subset hx,rfl⟩))⟩
      ·refine⟨.inr (.inl ⟨y,?_,rfl⟩),fun e=>?_⟩
       ·rcases List.mem_append.1 hy with hy|hy
        ·exact List.mem_append_left _ hy
        ·exact List.mem_append_right _ (List.mem_cons_of_mem _ hy)
       ·rcases List.mem_append.1 hy with hy|hy
        ·exact(List.nodup_append.1 hni).2.2 _ (List.mem_map.2 ⟨y,hy,rfl⟩) _ List.mem_cons_self e
        ·have:=(List.nodup_cons.1 (List.nodup_append.1 hni).2.1).1
         exact this (List.mem_map.2 ⟨y,hy,e⟩)
      ·refine⟨.inr (.inr ⟨k,hk,rfl⟩),fun e=>?_⟩
       have hkA:k∈Al:=hA.mem_iff.2 (List.mem_append_right _ hk)
       exact(List.nodup_append.1 hVA).2.2 _ (List.mem_map.2 ⟨x,hX.subset hx,rfl⟩) _ (List.mem_map.2 ⟨k,hkA,rfl⟩) e.symm
    have hst:St n wr fr O (putX a (X1++x::X2)) w:=⟨hs.sim.lsub (ZdC hsl fun _ _ h=>h),hs.old,hs.own.sub (SubO.append _ _)⟩
    have hex:=ZfE (ops:=ops) h5 (X1++x::X2) a (hlooks h1 hr)
    have hy:=h6 _ _ hst
    rw[hex.1,hex.2]at hy
    have hnext:AnyT P ops (Zkb n wr F K) m (fun j=>Tof todo (X1++x::X2) N j/\j≠x.i) (a.put o.dst x.v) w:=by
     rw[hT,h2]
     refine ih F (X1++X2) Y N _ w hX' hA (by rw[<- hput];exact hs) ?_ (hT▸hcl.step hr)
     simp only[List.length_append,List.length_cons]at hm ⊢
     omega
    unfold Go.wpOp
    simp only[h1]
    rcases hy with⟨hw,hv⟩|⟨hw,hv⟩
    ·simp only[hw,if_true,Oper.wp,hv,Oper.upon]
     exact .inl hnext
    ·simp only[hw,Bool.false_eq_true,if_false]
     rw[<- hv]
     exact hnext
   ·have hkA:k∈Al:=hA.mem_iff.2 (List.mem_append_right _ hk)
    obtain⟨o,h1,h2,h3,h4,h5,h6,h7⟩:=hR.af.mem k hkA
    obtain⟨N1,N2,rfl⟩:=List.append_of_mem hk
    have hsim:Sim n fr (putX a X):=hs.sim.lsub (ZdC hsl fun _ _ h=>h)
    obtain⟨hw,hrun⟩:=h7.2 _ w hsim
    have hex:=ZfE (ops:=ops) h5 X a (hlooks h1 hr)
    rw[hex.1]at hrun
    rw[hex.2]at hw
    have hkd:∀ y∈X,(some k.d:Option Tmp)≠some y.d:=fun y hy e=>by
     injection e with e
     exact(List.nodup_append.1 hR.dst).2.2 _ (List.mem_map.2 ⟨y,hX.subset hy,rfl⟩) _ (List.mem_map.2 ⟨k,hkA,rfl⟩) e.symm
    have hAn:(Al.map (·.i)).Nodup:=(List.nodup_append.1 hVA).2.1
    have hAn':((Y.map (·.1)++(N1++k::N2)).map (·.i)).Nodup:=(hA.map _).nodup_iff.1 hAn
    have hNn:((N1++k::N2).map (·.i)).Nodup:=by
     rw[List.map_append]at hAn'
     exact(List.nodup_append.1 hAn').2.1
    rw[List.map_append,List.map_cons]at hNn
    have hT:(fun j=>Tof todo X (N1++k::N2) j/\j≠k.i)=Tof todo X (N1++N2):=by
     funext j
     apply propext
     constructor
     ·rintro⟨h|h|⟨y,hy,rfl⟩,hne⟩
      ·exact .inl h
      ·exact .inr (.inl h)
      ·rcases List.mem_append.1 hy with hy|hy
       ·exact .inr (.inr ⟨y,List.mem_append_left _ hy,rfl⟩)
       ·rcases List.mem_cons.1 hy with rfl|hy
        ·exact absurd rfl hne
        ·exact .inr (.inr ⟨y,List.mem_append_right _ hy,rfl⟩)
     ·rintro(⟨p,hp,rfl⟩|⟨y,hy,rfl⟩|⟨y,hy,rfl⟩)
      ·exact⟨.inl ⟨p,hp,rfl⟩,htd p hp k.i (List.mem_append_right _ (List.mem_map.2 ⟨k,hkA,rfl⟩))⟩
      ·exact⟨.inr (.inl ⟨y,hy,rfl⟩),fun e=>(List.nodup_append.1 hVA).2.2 _ (List.mem_map.2 ⟨y,hX.subset hy,rfl⟩) _ (List.mem_map.2 ⟨k,hkA,rfl⟩) e⟩
      ·refine⟨.inr (.inr ⟨y,?_,rfl⟩),fun e=>?_⟩
       ·rcases List.mem_append.1 hy with hy|hy
        ·exact List.mem_append_left _ hy
        ·exact List.mem_append_right _ (List.mem_cons_of_mem _ hy)
       ·rcases List.mem_append.1 hy with hy|hy
        ·exact(List.nodup_append.1 hNn).2.2 _ (List.mem_map.2 ⟨y,hy,rfl⟩) _ List.mem_cons_self e
        ·exact(List.nodup_cons.1 (List.nodup_append.1 hNn).2.1).1 (List.mem_map.2 ⟨y,hy,e⟩)
    unfold Go.wpOp
    simp only[h1,hw,if_true,Oper.wp,hrun,Oper.upon]
    refine .inl ?_
    rw[hT,h2]
    have hfresh:=hs.fresh (cs:=k.z) (t:=k.t)
    refine ih F X ((k,w.heap.size)::Y) (N1++N2) _ _ hX ?_ ⟨?_,hfresh.1,?_⟩ ?_ (hT▸hcl.step hr)
    ·refine hA.trans ?_
     simp only[List.map_cons,List.cons_append]
     exact(List.perm_middle.append_left _).trans (List.perm_middle) |>.trans (by simp)
    ·rw[ZgX X a _ _ hkd]
     exact hs.sim.put h4 _
    ·refine(hfresh.2.swapHead (h7.1 _)).perm ?_
     simp only[ZeY,List.map_cons,List.cons_append]
     exact List.perm_middle.symm
    ·simp only[List.length_append,List.length_cons]at hm ⊢
     omega
end
end Go.Wk
