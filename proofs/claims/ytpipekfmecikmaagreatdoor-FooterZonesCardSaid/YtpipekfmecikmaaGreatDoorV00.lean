/- Parts of the proof. -/
import Derived.WalkKit
import Derived.Deep.LoopGhost
import Derived.KernelRfl
set_option maxHeartbeats 4000000
set_option linter.unusedVariables false
set_option linter.unusedSimpArgs false
namespace Go.Wk
open Go
theorem ZzE {α:Type}(a:Ask α):∀ w:World,w.drawn<=(w.ask a).2.drawn:=by
 induction a with
 | done a=>intro w;exact Nat.le_refl _
 | ask what range k ih =>
  intro w
  rw[World.ask]
  split
  ·exact ih _ w
  ·exact Nat.le_trans (Nat.le_succ _) (ih _ { w with drawn:=w.drawn+1 })
theorem Zza (w:World)(c:Sys):w.drawn<=(w.sys c).2.drawn:=by
 have h:=ZzE (Kernel.perform c w.os) w
 unfold World.sys
 split
 ·exact Nat.le_refl _
 ·rename_i r os w2 _ e
  rw[e]at h
  exact h
theorem Zk4 {p:Program}{w:World}{at_:Addr}{u:TypeId}{k:Addr}{v:Value}{b:Bool}{x:World × List Addr}(h:w.viewStore p at_ u k v b = .ok x):x.1.drawn=w.drawn:=by
 unfold World.viewStore at h
 simp only[bind,Except.bind,pure,Except.pure,throw,throwThe,MonadExceptOf.throw]at h
 repeat' split at h
 all_goals first|(cases h;done)|(cases h;rfl)
theorem ZnO {w:World}{p:Program}{a:Addr}{v:Value}{b:Bool}{x:World × List Addr}(h:w.farStore p a v b = .ok x):x.1.drawn=w.drawn:=by
 unfold World.farStore at h
 split at h
 ·split at h
  ·rename_i r hr
   cases h
   exact Zk4 hr
  ·cases h
 ·cases h
theorem Zsv (w:World)(a:Addr)(n:Nat):(w.freeze a n).drawn=w.drawn:=by
 unfold World.freeze
 split <;> rfl
theorem ZrA {α:Type}{P:Program}(s:Sem α):∀ (w:World) (v:α) (w':World),s.run P w = .ok v w'->w.drawn<=w'.drawn:=by
 induction s with
 | pure a=>intro w v w' h;simp only[Sem.run,Result.ok.injEq]at h;rw[h.2];exact Nat.le_refl _
 | load m a k ih =>
  intro w v w' h
  rw[Sem.run]at h
  split at h
  ·exact ih _ w v w' h
  ·split at h
   ·exact ih _ w v w' h
   ·cases h
 | store m a x k ih =>
  intro w v w' h
  have key:(match w.cell? a with
   | some _=>if w.frozen? a then Result.halt (.unsupported (.unsafePointer "a write to bytes that a string shares")) w else k.run P (w.setCell a x)
   | none=>match w.farStore P a x (m==Mode.atomic) with
    | .ok (w,_)=>k.run P w
    | .error h => .halt h w) = .ok v w':=by
   cases x <;> first|exact h|(simp only[Sem.run]at h;cases h)
  split at key
  ·split at key
   ·cases key
   ·exact ih (w.setCell a x) v w' key
  ·split at key
   ·rename_i w2 l hf
    have:=ih w2 v w' key
    have e:=ZnO hf
    dsimp only at e
    omega
   ·cases key
 | new o k ih=>intro w v w' h;exact ih w.heap.size { w with heap:=w.heap.push o } v w' h
 | shape r k ih=>intro w v w' h;exact ih _ _ v w' h
 | freeze a n k ih=>intro w v w' h;have:=ih (w.freeze a n) v w' h;rwa[Zsv]at this
 | frozen a k ih=>intro w v w' h;exact ih _ _ v w' h
 | getObj r k ih =>
  intro w v w' h
  rw[Sem.run]at h
  split at h
  ·cases h
  ·exact ih _ _ v w' h
  ·cases h
 | setObj r o k ih =>
  intro w v w' h
  rw[Sem.run]at h
  split at h
  ·cases h
  ·exact ih { w with heap:=w.heap.setIfInBounds r o } v w' h
  ·cases h
 | choose q k ih =>
  intro w v w' h
  rw[Sem.run]at h
  split at h
  ·exact ih _ _ v w' h
  ·exact Nat.le_trans (Nat.le_succ _) (ih (q.cut (w.tape w.drawn q)) { w with drawn:=w.drawn+1 } v w' h)
 | sys c k ih =>
  intro w v w' h
  exact Nat.le_trans (Zza w c) (ih (w.sys c).1 (w.sys c).2 v w' h)
 | program k ih=>intro w v w' h;exact ih _ _ v w' h
 | mark m k ih=>intro w v w' h;exact ih _ v w' h
 | halt e=>intro w v w' h;cases h
open Go Go.RowKit
structure Bel (B:Nat)(w w':World):Prop extends Below B w w'
theorem Bel.refl (B:Nat)(w:World):Bel B w w:=⟨Below.refl B w⟩
theorem Bel.trans {B:Nat}{a b c:World}(h:Bel B a b)(k:Bel B b c):Bel B a c:=⟨h.toBelow.trans k.toBelow⟩
theorem Bel.mono {B B':Nat}{w w':World}(h:Bel B w w')(hB:B'<=B):Bel B' w w':=⟨h.toBelow.mono hB⟩
theorem Bel.grown {B:Nat}{a w w':World}{row:Option Nat}(h:Bel B a w)(hg:w.grownBy w' row)(_hd:w.drawn<=w'.drawn)(hB:B<=w.heap.size)(hr:∀ k,row=some k->B<=k):Bel B a w':=⟨h.toBelow.grown hg hB hr⟩
theorem Bel.alloc {B:Nat}{a w:World}(h:Bel B a w)(hB:B<=w.heap.size)(o:Obj):Bel B a (w.alloc o):=⟨h.toBelow.alloc hB o⟩
abbrev Fr:=List (Nat × Value)
def look:Fr->Nat->Option Value
 | [],_=>none
 | (k,v)::r,t=>bif Nat.beq k t then some v else look r t
def ev (fr:Fr):Operand->Option Value
 | .tmp t=>look fr t
 | .const v=>some v
 | .global g=>some (.pointer (some ⟨g,0,none⟩))
 | .func f=>some (.func (.func f) #[] #[])
structure Sim (n:Nat)(fr:Fr)(a:Act):Prop where
 defers:a.defers=[]
 size:a.tmps.size=n
 at_:∀ t v,look fr t=some v->a.tmps[t]?=some v
theorem Sim.ev {n:Nat}{fr:Fr}{a:Act}(h:Sim n fr a){x:Operand}{v:Value}(hx:ev fr x=some v):a.eval x=v:=by
 cases x with
 | tmp t =>
  have:=h.at_ t v hx
  simp[Act.eval,Array.getD_eq_getD_getElem?,this]
 | const u=>simpa[Wk.ev,Act.eval] using hx
 | global g=>simpa[Wk.ev,Act.eval] using hx
 | func f=>simpa[Wk.ev,Act.eval] using hx
theorem Sim.put {n:Nat}{fr:Fr}{a:Act}(h:Sim n fr a){d:Nat}(hd:Nat.ble (d+1) n=true)(v:Value):Sim n ((d,v)::fr) (a.put (some d) v):=by
 have hd':d<n:=Nat.le_of_ble_eq_true hd
 refine⟨h.defers,by simp[Act.put,h.size],fun t u hu=>?_⟩
 simp only[Act.put]
 by_cases e:d=t
 ·subst e
  have:u=v:=by simpa[look] using hu.symm
  subst this
  rw[Array.getElem?_setIfInBounds,if_pos rfl,if_pos (by rw[h.size];exact hd')]
 ·have hl:look fr t=some u:=by
   have hne:Nat.beq d t=false:=by
    cases hb:Nat.beq d t with
    | false=>rfl
    | true=>exact absurd (Nat.eq_of_beq_eq_true hb) e
   simpa[look,hne] using hu
  rw[Array.getElem?_setIfInBounds,if_neg e]
  exact h.at_ t u hl
def Sub:Fr->Fr->Prop
 | [],_=>True
 | (t,v)::r,fr=>look fr t=some v/\Sub r fr
theorem Sub.look {fr:Fr}:∀ {fr':Fr},Sub fr' fr->∀ t v,look fr' t=some v->look fr t=some v
 | [],_,_,_,h=>by simp[Wk.look]at h
 | (k,u)::r,hs,t,v,h=>by
  simp only[Wk.look]at h
  cases hb:Nat.beq k t with
  | true =>
   rw[hb]at h
   have e:=Nat.eq_of_beq_eq_true hb
   subst e
   simp at h
   subst h
   exact hs.1
  | false =>
   rw[hb]at h
   exact Sub.look hs.2 t v (by simpa using h)
theorem Sim.sub {n:Nat}{fr fr':Fr}{a:Act}(h:Sim n fr a)(hs:Sub fr' fr):Sim n fr' a :=
 ⟨h.defers,h.size,fun t v hv=>h.at_ t v (hs.look t v hv)⟩
def ZyB (S:Nat->Prop)(w w':World):Prop:=∀ b,S b->w'.heap[b]?=w.heap[b]?
inductive It where
 | blk (b:Nat) (cs:List Value) (t:TypeId)
 | row (v:Value) (e:TypeId) (size n:Nat) (xs:List Value)
 | mp (b:Nat) (m:List (ByteArray × Value))
 | fact (S:Nat->Prop) (p:World->Prop)
def Zcl (m:List (ByteArray × Value))(es:Array MapEntry):Prop:=es.toList.map (fun e=>(e.key,e.val))=m.map fun x=>(Value.string x.1,x.2)
def stOk (es:Array MapEntry)(c:Nat):Prop:=(es.toList.map (·.born)).Nodup/\∀ n∈es.toList.map (·.born),n<c
theorem ZoK:stOk #[] 0:=⟨List.nodup_nil,fun n hn=>by cases hn⟩
theorem Zru {es:Array MapEntry}{c:Nat}(h:stOk es c)(k v:Value):stOk (es.push { key:=k,val:=v,born:=c }) (c+1):=by
 have e:(es.push { key:=k,val:=v,born:=c }).toList.map (·.born)=es.toList.map (·.born)++[c]:=by rw[Array.toList_push,List.map_append];rfl
 unfold stOk
 rw[e]
 refine⟨List.nodup_append.2 ⟨h.1,by simp,fun a ha b hb=>?_⟩,fun n hn=>?_⟩
 ·rw[List.mem_singleton.1 hb]
  have:=h.2 a ha
  omega
 ·rcases List.mem_append.1 hn with hn|hn
  ·have:=h.2 n hn
   omega
  ·rw[List.mem_singleton.1 hn]
   omega
theorem Zef {α β:Type}(f:α->α)(g:α->β)(h:∀ x,g (f x)=g x):∀ (l:List α) (i:Nat),(l.modify i f).map g=l.map g
 | [],i=>by cases i <;> rfl
 | x::l,0=>by simp[List.modify,h]
 | x::l,i+1=>by
  have:=Zef f g h l i
  simpa using this
theorem ZmZ {es:Array MapEntry}{c:Nat}(h:stOk es c)(j:Nat)(k v:Value):stOk (es.modify j fun e=>{ e with key:=k,val:=v }) c:=by
 have e:(es.modify j fun e=>{ e with key:=k,val:=v }).toList.map (·.born)=es.toList.map (·.born):=by
  rw[Array.toList_modify]
  exact Zef (fun e:MapEntry=>{ e with key:=k,val:=v }) (·.born) (fun _=>rfl) _ _
 unfold stOk
 rw[e]
 exact h
def It.S:It->Nat->Prop
 | .blk b _ _=>fun k=>k=b
 | .row v _ _ _ _=>fun k=>v.ownBlock=some k
 | .mp b _=>fun k=>k=b
 | .fact S _=>S
def It.sat:It->World->Prop
 | .blk b cs t,w=>w.heap[b]?=some (.cells cs.toArray t (0,0))
 | .row v e size n xs,w=>w.ownsRow 0 e size v n xs
 | .mp b m,w=>∃ es clock,w.heap[b]?=some (.map es clock)/\Zcl m es/\stOk es clock
 | .fact S p,w=>∀ w',ZyB S w w'->p w'
theorem Zkd {w w':World}{e:TypeId}{size n:Nat}{v:Value}{xs:List Value}(h:w.ownsRow 0 e size v n xs)
  (ha:∀ k,v.ownBlock=some k->w'.heap[k]?=w.heap[k]?):w'.ownsRow 0 e size v n xs:=by
 refine⟨h.1,?_⟩
 rcases h.2 with hn|⟨g,cap,cur,rfl,hb,hg,rest⟩
 ·exact .inl hn
 ·exact .inr ⟨g,cap,cur,rfl,hb,(ha g (by simp[Value.ownBlock])).trans hg,rest⟩
theorem It.sat_congr {i:It}{w w':World}(h:i.sat w)(ha:ZyB i.S w w'):i.sat w':=by
 cases i with
 | blk b cs t=>exact(ha b rfl).trans h
 | row v e size n xs=>exact Zkd h fun k hk=>ha k hk
 | mp b m =>
  obtain⟨es,c,h1,h2⟩:=h
  exact⟨es,c,(ha b rfl).trans h1,h2⟩
 | fact S p=>exact fun w'' h''=>h w'' fun b hb=>(h'' b hb).trans (ha b hb)
structure ZaA (base:Nat)(O:List It)(w:World):Prop where
 sat:∀ i∈O,i.sat w
 inb:∀ i∈O,∀ b,i.S b->base<=b/\b<w.heap.size
 sep:O.Pairwise fun i j=>∀ b,i.S b->¬ j.S b
theorem ZaA.nil (base:Nat)(w:World):ZaA base [] w:=⟨by simp,by simp,.nil⟩
def foot (O:List It)(b:Nat):Prop:=∃ i∈O,i.S b
theorem ZaA.congr {base:Nat}{O:List It}{w w':World}(h:ZaA base O w)(hsz:w.heap.size<=w'.heap.size)(ha:ZyB (foot O) w w'):ZaA base O w' :=
 ⟨fun i hi=>It.sat_congr (h.sat i hi) fun b hb=>ha b ⟨i,hi,hb⟩,fun i hi b hb=>⟨(h.inb i hi b hb).1,Nat.lt_of_lt_of_le (h.inb i hi b hb).2 hsz⟩,h.sep⟩
theorem ZaA.append {base:Nat}{O O':List It}{w:World}(h:ZaA base O w)(h':ZaA base O' w)(hd:∀ b,foot O' b->¬ foot O b):ZaA base (O'++O) w:=by
 refine⟨fun i hi=>?_,fun i hi=>?_,?_⟩
 ·rcases List.mem_append.1 hi with hi|hi
  ·exact h'.sat i hi
  ·exact h.sat i hi
 ·rcases List.mem_append.1 hi with hi|hi
  ·exact h'.inb i hi
  ·exact h.inb i hi
 ·rw[List.pairwise_append]
  exact⟨h'.sep,h.sep,fun i hi j hj b hb hb'=>hd b ⟨i,hi,hb⟩ ⟨j,hj,hb'⟩⟩
theorem ZaA.grow {base:Nat}{O O':List It}{w w':World}(h:ZaA base O w)(hB:Bel w.heap.size w w')(hbase:base<=w.heap.size)(h':ZaA w.heap.size O' w'):ZaA base (O'++O) w':=by
 have h1:ZaA base O w':=h.congr hB.size fun b ⟨i,hi,hb⟩=>hB.block b (h.inb i hi b hb).2
 have h2:ZaA base O' w':=⟨h'.sat,fun i hi b hb=>⟨Nat.le_trans hbase (h'.inb i hi b hb).1,(h'.inb i hi b hb).2⟩,h'.sep⟩
 refine h1.append h2 fun b ⟨i,hi,hb⟩ ⟨j,hj,hb'⟩=>?_
 have:=(h'.inb i hi b hb).1
 have:=(h.inb j hj b hb').2
 omega
inductive Pick:It->List It->List It->Prop
 | here {A:It} {R:List It}:Pick A (A::R) R
 | there {A x:It} {O R:List It}:Pick A O R->Pick A (x::O) (x::R)
theorem Pick.perm {A:It}{O R:List It}(h:Pick A O R):O.Perm (A::R):=by
 induction h with
 | here=>exact List.Perm.refl _
 | there _ ih=>exact(List.Perm.cons _ ih).trans (List.Perm.swap _ _ _)
theorem ZaA.perm {base:Nat}{O O':List It}{w:World}(h:ZaA base O w)(hp:O.Perm O'):ZaA base O' w :=
 ⟨fun i hi=>h.sat i (hp.mem_iff.2 hi),fun i hi=>h.inb i (hp.mem_iff.2 hi),(hp.pairwise_iff (fun hab k hb ha=>hab k ha hb)).1 h.sep⟩
theorem ZaA.tail {base:Nat}{A:It}{O:List It}{w:World}(h:ZaA base (A::O) w):ZaA base O w :=
 ⟨fun i hi=>h.sat i (List.mem_cons_of_mem _ hi),fun i hi=>h.inb i (List.mem_cons_of_mem _ hi),(List.pairwise_cons.1 h.sep).2⟩
inductive SubO:List It->List It->Prop
 | nil {O:List It}:SubO [] O
 | cons {A:It} {O' O R:List It}:Pick A O R->SubO O' R->SubO (A::O') O
theorem SubO.refl:∀ O:List It,SubO O O
 | [] => .nil
 | _::O => .cons .here (SubO.refl O)
theorem SubO.perm {O' O:List It}(h:SubO O' O):∃ R,O.Perm (O'++R):=by
 induction h with
 | nil=>exact⟨_,List.Perm.refl _⟩
 | cons hp _ ih =>
  obtain⟨R,hR⟩:=ih
  exact⟨R,hp.perm.trans (List.Perm.cons _ hR)⟩
theorem ZaA.sub {base:Nat}{O O':List It}{w:World}(h:ZaA base O w)(hs:SubO O' O):ZaA base O' w:=by
 obtain⟨R,hR⟩:=hs.perm
 have:=h.perm hR
 exact⟨fun i hi=>this.sat i (List.mem_append_left _ hi),fun i hi=>this.inb i (List.mem_append_left _ hi),(List.pairwise_append.1 this.sep).1⟩
inductive Upd:List It->It->It->List It->Prop
 | here {A A':It} {R:List It}:Upd (A::R) A A' (A'::R)
 | there {A A' x:It} {O O':List It}:Upd O A A' O'->Upd (x::O) A A' (x::O')
theorem Upd.parts {O O':List It}{A A':It}(h:Upd O A A' O'):∃ R,O.Perm (A::R)/\O'.Perm (A'::R):=by
 induction h with
 | here=>exact⟨_,.refl _,.refl _⟩
 | there _ ih =>
  obtain⟨R,h1,h2⟩:=ih
  exact⟨_,(List.Perm.cons _ h1).trans (.swap _ _ _),(List.Perm.cons _ h2).trans (.swap _ _ _)⟩
theorem Upd.mem {O O':List It}{A A':It}(h:Upd O A A' O'):A∈O:=by
 induction h with
 | here=>exact List.mem_cons_self
 | there _ ih=>exact List.mem_cons_of_mem _ ih
theorem ZaA.upd {base:Nat}{O O':List It}{A A':It}{w w':World}(h:ZaA base O w)(hu:Upd O A A' O')(hbase:base<=w.heap.size)(hsz:w.heap.size<=w'.heap.size)
  (hk:∀ b,b<w.heap.size->¬ A.S b->w'.heap[b]?=w.heap[b]?) (hsat:A'.sat w') (hS:∀ b,A'.S b->A.S b\/(w.heap.size<=b/\b<w'.heap.size)):ZaA base O' w':=by
 obtain⟨R,h1,h2⟩:=hu.parts
 have h3:=h.perm h1
 obtain⟨hd,hR⟩:=List.pairwise_cons.1 h3.sep
 have hRw:ZaA base R w':=h3.tail.congr hsz fun b ⟨i,hi,hb⟩=>hk b (h3.tail.inb i hi b hb).2 fun hA=>hd i hi b hA hb
 have hA':∀ b,A'.S b->base<=b/\b<w'.heap.size:=fun b hb=>by
  rcases hS b hb with hA|⟨hA,hA2⟩
  ·have:=h3.inb A List.mem_cons_self b hA
   exact⟨this.1,by omega⟩
  ·exact⟨by omega,hA2⟩
 have hX:ZaA base (A'::R) w':=by
  refine⟨fun i hi=>?_,fun i hi=>?_,List.pairwise_cons.2 ⟨fun j hj b hb hjb=>?_,hR⟩⟩
  ·rcases List.mem_cons.1 hi with rfl|hi
   ·exact hsat
   ·exact hRw.sat i hi
  ·rcases List.mem_cons.1 hi with rfl|hi
   ·exact hA'
   ·exact hRw.inb i hi
  ·rcases hS b hb with hA|⟨hA,_⟩
   ·exact hd j hj b hA hjb
   ·have:=(h3.tail.inb j hj b hjb).2
    omega
 exact hX.perm h2.symm
structure St (n:Nat)(wr:World)(fr:Fr)(O:List It)(a:Act)(w:World):Prop where
 sim:Sim n fr a
 old:Bel wr.heap.size wr w
 own:ZaA wr.heap.size O w
def lift (n:Nat)(wr:World)(Q:Exit->Fr->List It->Prop):Exit->Act->World->Prop:=fun e a w=>∃ fr O,St n wr fr O a w/\Q e fr O
def W (P:Program)(n:Nat)(wr:World)(c:Code)(Q:Exit->Fr->List It->Prop)(fr:Fr)(O:List It):Prop :=
 ∀ a w,St n wr fr O a w->c.wp P (lift n wr Q) a w
def Zat (K:Fr->List It->Prop)(Q:Exit->Fr->List It->Prop):Exit->Fr->List It->Prop
 | .normal=>K
 | e=>Q e
def Zaj (id:Nat)(Q:Exit->Fr->List It->Prop):Exit->Fr->List It->Prop
 | .exit k=>fun fr O=>if k=id then Q .normal fr O else Q (.exit k) fr O
 | e=>Q e
section
variable {P:Program}{n:Nat}{wr:World}{Q:Exit->Fr->List It->Prop}{fr:Fr}{O:List It}
theorem W_seq {x y:Code}(h:W P n wr x (Zat (W P n wr y Q) Q) fr O):W P n wr (.seq x y) Q fr O:=by
 intro a w hs
 refine wp_seq (wp_mono (h a w hs) ?_)
 rintro e a' w' ⟨fr',O',hs',hq⟩
 cases e with
 | normal=>exact hq a' w' hs'
 | _=>exact⟨fr',O',hs',hq⟩
theorem W_skip (h:Q .normal fr O):W P n wr .skip Q fr O:=fun _ _ hs=>wp_skip ⟨fr,O,hs,h⟩
theorem W_ret (h:Q .ret fr O):W P n wr .ret Q fr O:=fun _ _ hs=>wp_ret ⟨fr,O,hs,h⟩
theorem W_exit {id:Nat}(h:Q (.exit id) fr O):W P n wr (.exit id) Q fr O:=fun _ _ hs=>wp_exit ⟨fr,O,hs,h⟩
theorem W_block {id:Nat}{c:Code}(h:W P n wr c (Zaj id Q) fr O):W P n wr (.block id c) Q fr O:=by
 intro a w hs
 refine wp_block (wp_mono (h a w hs) ?_)
 rintro e a' w' ⟨fr',O',hs',hq⟩
 cases e with
 | exit k =>
  simp only[Exit.inBlock,Zaj]at hq ⊢
  split
  ·rename_i hk;rw[if_pos hk]at hq;exact⟨fr',O',hs',hq⟩
  ·rename_i hk;rw[if_neg hk]at hq;exact⟨fr',O',hs',hq⟩
 | _=>exact⟨fr',O',hs',hq⟩
theorem Zaf {c:Operand}{x y:Code}{b:Bool}(hc:ev fr c=some (.bool b))(ht:b=true->W P n wr x Q fr O)(hf:b=false->W P n wr y Q fr O):W P n wr (.cond c x y) Q fr O:=by
 intro a w hs
 exact wp_cond_split (hs.sim.ev hc) (fun h=>ht h a w hs) (fun h=>hf h a w hs)
theorem W_true {c:Operand}{x y:Code}(hc:ev fr c=some (.bool true))(ht:W P n wr x Q fr O):W P n wr (.cond c x y) Q fr O:=Zaf hc (fun _=>ht) (fun h=>by cases h)
theorem W_false {c:Operand}{x y:Code}(hc:ev fr c=some (.bool false))(ht:W P n wr y Q fr O):W P n wr (.cond c x y) Q fr O:=Zaf hc (fun h=>by cases h) (fun _=>ht)
theorem ZcO {c:Code}{fr':Fr}{O':List It}(hf:Sub fr' fr)(hO:SubO O' O)(h:W P n wr c Q fr' O'):W P n wr c Q fr O :=
 fun a w hs=>h a w ⟨hs.sim.sub hf,hs.old,hs.own.sub hO⟩
theorem Zwh {c:Code}{Q':Exit->Fr->List It->Prop}(h:W P n wr c Q' fr O)(hq:∀ e fr O,Q' e fr O->Q e fr O):W P n wr c Q fr O :=
 fun a w hs=>wp_mono (h a w hs) fun e _ _ ⟨fr',O',hs',hh⟩=>⟨fr',O',hs',hq e fr' O' hh⟩
theorem ZzN {c:Code}{G:Type}(FR:G->Fr)(OO:G->List It)(Inv:G->Prop)(μ:G->Nat)(g₀:G)(hf:Sub (FR g₀) fr)(hO:SubO (OO g₀) O)(h₀:Inv g₀)
  (round:∀ g,Inv g->W P n wr c (Zat (fun fr' O'=>∃ g',μ g'<μ g/\Inv g'/\Sub (FR g') fr'/\SubO (OO g') O') Q) (FR g) (OO g)):W P n wr (.loop c) Q fr O:=by
 intro a w hs
 refine wp_loop_ghost (fun m a w=>∃ g,μ g=m/\Inv g/\St n wr (FR g) (OO g) a w) (μ g₀) ⟨g₀,rfl,h₀,hs.sim.sub hf,hs.old,hs.own.sub hO⟩ ?_
 rintro m a w ⟨g,rfl,hg,hst⟩
 refine wp_mono (round g hg a w hst) ?_
 rintro e a' w' ⟨fr',O',hs',hq⟩
 cases e with
 | normal =>
  obtain⟨g',hlt,hg',hf',hO'⟩:=hq
  exact⟨μ g',hlt,g',rfl,hg',hs'.sim.sub hf',hs'.old,hs'.own.sub hO'⟩
 | _=>exact⟨fr',O',hs',hq⟩
def regQ (n:Nat)(wr:World)(Q:Fr->List It->Prop):Exit->Act->World->Prop:=fun e a w=>e = .normal/\∃ fr O,St n wr fr O a w/\Q fr O
def RL (P:Program)(n:Nat)(wr:World)(ops:Array Oper)(l:List Oper)(K:Fr->List It->Prop)(fr:Fr)(O:List It):Prop :=
 ∀ a w,St n wr fr O a w->wpList P ops (regQ n wr K) l a w
theorem W_region {id:Nat}{l:List Oper}(h:RL P n wr l.toArray l (Q .normal) fr O):W P n wr (.region id l.toArray false) Q fr O:=by
 intro a w hs
 refine wp_mono (wp_region_lit (h a w hs)) ?_
 rintro e a' w' ⟨rfl,fr',O',hs',hq⟩
 exact⟨fr',O',hs',hq⟩
end
section
variable {P:Program}{n:Nat}{wr:World}{ops:Array Oper}{rest:List Oper}{K:Fr->List It->Prop}{fr:Fr}{O:List It}
theorem RL_nil (h:K fr O):RL P n wr ops [] K fr O:=fun _ _ hs=>⟨rfl,fr,O,hs,h⟩
theorem ZAA {o:Oper}(hg:o.guard=none)
  (h:∀ a w,St n wr fr O a w->∃ v w' fr' O',(execOp a.eval o).run P w = .ok (.value v) w'/\St n wr fr' O' (a.put o.dst v) w'/\RL P n wr ops rest K fr' O'):RL P n wr ops (o::rest) K fr O:=by
 intro a w hs
 obtain⟨v,w',fr',O',hrun,hs',hr⟩:=h a w hs
 refine wpList_plain hg fun K' hK=>?_
 unfold Oper.wp
 rw[hrun,Oper.upon_value]
 exact hK _ _ (hr _ _ hs')
def Pu (P:Program)(n:Nat)(wr:World)(fr:Fr)(O:List It)(op:Op)(ty:TypeId)(v:Value):Prop :=
 ∀ a w,St n wr fr O a w->∀ (dst:Option Tmp) (pos:String) (af:Array Edge) (g:Option (Nat × Bool)),(execOp a.eval ⟨dst,op,ty,pos,af,g⟩).run P w = .ok (.value v) w
theorem RL_pu {d:Nat}{op:Op}{ty:TypeId}{pos:String}{af:Array Edge}{v:Value}(hd:Nat.ble (d+1) n=true)(h:Pu P n wr fr O op ty v)(k:RL P n wr ops rest K ((d,v)::fr) O) :
  RL P n wr ops (⟨some d,op,ty,pos,af,none⟩::rest) K fr O :=
 ZAA rfl fun a w hs=>⟨v,w,_,_,h a w hs _ _ _ _,⟨hs.sim.put hd v,hs.old,hs.own⟩,k⟩
def Stp (P:Program)(n:Nat)(wr:World)(fr:Fr)(O:List It)(o:Oper)(Kp:Value->List It->Prop):Prop :=
 ∀ a w,St n wr fr O a w->∀ (Kn:Act->World->Prop) (Q:Exit->Act->World->Prop),
  (∀ v O' w',Bel wr.heap.size wr w'->ZaA wr.heap.size O' w'->Kp v O'->Kn (a.put o.dst v) w')->o.wp P a w Kn Q
theorem RL_st {d:Nat}{op:Op}{ty:TypeId}{pos:String}{af:Array Edge}(hd:Nat.ble (d+1) n=true)(h:Stp P n wr fr O ⟨some d,op,ty,pos,af,none⟩ fun v O'=>RL P n wr ops rest K ((d,v)::fr) O') :
  RL P n wr ops (⟨some d,op,ty,pos,af,none⟩::rest) K fr O:=by
 intro a w hs
 refine wpList_plain rfl fun K' hK=>h a w hs _ _ fun v O' w' h1 h2 h3=>hK _ _ (h3 _ _ ⟨hs.sim.put hd v,h1,h2⟩)
theorem RL_st0 {op:Op}{ty:TypeId}{pos:String}{af:Array Edge}(h:Stp P n wr fr O ⟨none,op,ty,pos,af,none⟩ fun _ O'=>RL P n wr ops rest K fr O') :
  RL P n wr ops (⟨none,op,ty,pos,af,none⟩::rest) K fr O:=by
 intro a w hs
 refine wpList_plain rfl fun K' hK=>h a w hs _ _ fun v O' w' h1 h2 h3=>hK _ _ (h3 _ _ ⟨hs.sim,h1,h2⟩)
theorem ZbG {o:Oper}{Kp:Value->List It->Prop}(h:∀ a w,St n wr fr O a w->∃ v w' O',(execOp a.eval o).run P w = .ok (.value v) w'/\Bel wr.heap.size wr w'/\ZaA wr.heap.size O' w'/\Kp v O'):Stp P n wr fr O o Kp:=by
 intro a w hs Kn Q hk
 obtain⟨v,w',O',hr,h1,h2,h3⟩:=h a w hs
 unfold Oper.wp
 rw[hr,Oper.upon_value]
 exact hk v O' w' h1 h2 h3
theorem Zg9 {o:Oper}{Kp:Value->List It->Prop}(h:∀ a w,St n wr fr O a w->∃ w' O',(execOp a.eval o).run P w = .ok .skip w'/\Bel wr.heap.size wr w'/\ZaA wr.heap.size O' w'/\Kp undef O'):Stp P n wr fr O o Kp:=by
 intro a w hs Kn Q hk
 obtain⟨w',O',hr,h1,h2,h3⟩:=h a w hs
 unfold Oper.wp
 rw[hr,Oper.upon_skip]
 exact hk undef O' w' h1 h2 h3
theorem RL_yes {dst:Option Tmp}{op:Op}{ty:TypeId}{pos:String}{af:Array Edge}{j:Nat}{b:Bool}{oj:Oper}{d:Nat}(hj:ops[j]?=some oj)(hd:oj.dst=some d)(hb:look fr d=some (.bool b))
  (k:RL P n wr ops (⟨dst,op,ty,pos,af,none⟩::rest) K fr O):RL P n wr ops (⟨dst,op,ty,pos,af,some (j,b)⟩::rest) K fr O:=by
 intro a w hs
 have:=k a w hs
 have hy:yielded ops a.tmps j=some b:=by simp[yielded,hj,hd,hs.sim.at_ d _ hb]
 simp only[wpList,Region.wanted,hy,if_true,beq_self_eq_true]at this ⊢
 exact this
theorem RL_no {d':Nat}{op:Op}{ty:TypeId}{pos:String}{af:Array Edge}{j:Nat}{b b':Bool}{oj:Oper}{d:Nat}(hj:ops[j]?=some oj)(hd:oj.dst=some d)(hb:look fr d=some (.bool b'))(hne:b' = !b)(hdn:Nat.ble (d'+1) n=true)
  (k:RL P n wr ops rest K ((d',undef)::fr) O):RL P n wr ops (⟨some d',op,ty,pos,af,some (j,b)⟩::rest) K fr O:=by
 intro a w hs
 have:=k (a.put (some d') undef) w ⟨hs.sim.put hdn undef,hs.old,hs.own⟩
 have hy:yielded ops a.tmps j=some b':=by simp[yielded,hj,hd,hs.sim.at_ d _ hb]
 have hw:Region.wanted (⟨some d',op,ty,pos,af,some (j,b)⟩:Oper) (yielded ops a.tmps)=false:=by
  subst hne
  simp[Region.wanted,hy]
 simp only[wpList,hw]
 exact this
theorem Pu_move {x:Operand}{ty:TypeId}{v:Value}(hx:ev fr x=some v):Pu P n wr fr O (.move x) ty v :=
 fun a w hs _ _ _ _=>by simp[execOp,hs.sim.ev hx,Sem.run_pure]
theorem Pu_assign {x:Operand}{ty:TypeId}{v:Value}(hx:ev fr x=some v):Pu P n wr fr O (.assign x) ty v :=
 fun a w hs _ _ _ _=>by simp[execOp,hs.sim.ev hx,Sem.run_pure]
theorem Pu.mono {fr':Fr}{O':List It}{op:Op}{ty:TypeId}{v:Value}(h:Pu P n wr fr O op ty v)(hf:Sub fr fr')(hO:SubO O O'):Pu P n wr fr' O' op ty v :=
 fun a w hs=>h a w ⟨hs.sim.sub hf,hs.old,hs.own.sub hO⟩
end
def Zwd:TypeDesc->Bool | .struct _=>true | .array _ _=>true|_=>false
def Zrp (P:Program)(t:TypeId):Option (Nat × Bool) :=
 match P.info? t,P.underlying t with
 | some i,some d=>some (i.size,Zwd d)
 | _,_=>none
def Zg2 (P:Program)(s f:Nat):Option (Nat × Nat × Bool) :=
 match P.underlying s with
 | some (.struct fs) =>
  match fs[f]? with
  | some fld =>
   match Zrp P fld.type with
   | some (sz,ag)=>if sz=0 then none else some (fld.offset,sz,ag)
   | none=>none
  | none=>none
 | _=>none
def Zgd (P:Program)(t:TypeId):Option (TypeId × Nat × Nat) :=
 match P.underlying t with
 | some (.slice e)=>match P.info? e with|some i=>some (e,i.size,i.bytes)|none=>none
 | _=>none
def Ze8 (P:Program)(t:TypeId):Option (List Value) :=
 match P.info? t with
 | some i=>match i.zero with|some z=>some z.cells.toList|none=>none
 | none=>none
class Ty (P:Program) (t:TypeId) (sz:outParam Nat) (ag:outParam Bool):Prop where
 h:Zrp P t=some (sz,ag):=by kernel_rfl
class FieldAt (P:Program) (s f:Nat) (off sz:outParam Nat) (ag:outParam Bool):Prop where
 h:Zg2 P s f=some (off,sz,ag):=by kernel_rfl
class ElemT (P:Program) (t:TypeId) (e:outParam TypeId) (sz bytes:outParam Nat):Prop where
 h:Zgd P t=some (e,sz,bytes):=by kernel_rfl
class ZeroT (P:Program) (t:TypeId) (z:outParam (List Value)):Prop where
 h:Ze8 P t=some z:=by kernel_rfl
class StringT (P:Program) (t:TypeId):Prop where
 h:P.underlying t=some .string:=by kernel_rfl
class IntT (P:Program) (t:TypeId) (k:outParam IntKind):Prop where
 h:P.underlying t=some (.int k):=by kernel_rfl
theorem Ty.parts {P:Program}{t:TypeId}{sz:Nat}{ag:Bool}(h:Zrp P t=some (sz,ag)):∃ i d,P.info? t=some i/\i.size=sz/\P.underlying t=some d/\Zwd d=ag:=by
 unfold Zrp at h
 split at h
 ·rename_i i d hi hd
  simp at h
  exact⟨i,d,hi,h.1,hd,h.2⟩
 ·cases h
theorem ZaK {P:Program}{t:TypeId}{i:TypeInfo}{w:World}(h:P.info? t=some i):(typeInfo t).run P w = .ok i w:=by
 simp[typeInfo,program,h,Sem.run]
theorem ZcA {P:Program}{t:TypeId}{sz:Nat}{ag:Bool}[ht:Ty P t sz ag]{w:World}:(sizeOf t).run P w = .ok sz w:=by
 obtain⟨i,d,hi,hs,_,_⟩:=Ty.parts ht.h
 simp[sizeOf,ZaK hi,hs]
theorem Zdd {P:Program}{t:TypeId}{sz:Nat}{ag:Bool}[ht:Ty P t sz ag]{w:World}:(isAgg t).run P w = .ok ag w:=by
 obtain⟨i,d,_,_,hd,ha⟩:=Ty.parts ht.h
 subst ha
 simp only[isAgg,Sem.run_bind,run_underlying hd,Result.andThen_ok]
 cases d <;> rfl
def Zau (w:World)(ad:Addr)(cs:List Value):Prop:=∀ j v,cs[j]?=some v->w.cell? (ad.add j)=some v
theorem Zdc {P:Program}{w:World}{ad:Addr}:∀ (cs:List Value) (i:Nat) (acc:Array Value),(∀ j v,cs[j]?=some v->w.cell? (ad.add (i+j))=some v) ->
  (loadCellsFrom ad i cs.length acc).run P w = .ok (acc++cs.toArray) w
 | [],i,acc,_=>by simp[loadCellsFrom]
 | c::cs,i,acc,h=>by
  have h0:=h 0 c rfl
  simp only[Nat.add_zero]at h0
  have:=Zdc (P:=P) cs (i+1) (acc.push c) (fun j v hj=>by have:=h (j+1) v (by simpa using hj);rwa[show i+1+j=i+(j+1) from by omega])
  simp only[List.length_cons,loadCellsFrom,Sem.run_bind,load,Sem.run,h0,Result.andThen_ok,this]
  simp
theorem Zd9 {P:Program}{t:TypeId}{sz:Nat}[Ty P t sz true]{w:World}{ad:Addr}{cs:List Value}(hl:cs.length=sz)(h:Zau w ad cs) :
  (loadVar t ad).run P w = .ok (.agg cs.toArray) w:=by
 have:=Zdc (P:=P) cs 0 #[] (fun j v hj=>by simpa using h j v hj)
 subst hl
 simp only[loadVar,Sem.run_bind,Zdd,Result.andThen_ok,if_true,ZcA,loadCells,this,Sem.run_pure]
 simp
theorem Zd8 {P:Program}{t:TypeId}{sz:Nat}[Ty P t sz false]{w:World}{ad:Addr}{v:Value}(h:w.cell? ad=some v) :
  (loadVar t ad).run P w = .ok v w:=by
 simp only[loadVar,Sem.run_bind,Zdd,Result.andThen_ok,Bool.false_eq_true,if_false,load,Sem.run,h]
def Zba (w:World)(ad:Addr):List Value->Nat->World
 | [],_=>w
 | v::r,i=>Zba (w.setCell (ad.add i) v) ad r (i+1)
section
variable {P:Program}{n:Nat}{wr:World}{ops:Array Oper}{rest:List Oper}{K:Fr->List It->Prop}{fr:Fr}{O:List It}{ty:TypeId}{pos:String}{af:Array Edge}{d:Nat}
theorem Pu_pickT {c x y:Operand}{v:Value}(hc:ev fr c=some (.bool true))(hx:ev fr x=some v):Pu P n wr fr O (.pick c x y) ty (v) :=
 fun a w hs _ _ _ _=>by simp[execOp,hs.sim.ev hc,hs.sim.ev hx,asBool]
theorem Pu_pickF {c x y:Operand}{v:Value}(hc:ev fr c=some (.bool false))(hx:ev fr y=some v):Pu P n wr fr O (.pick c x y) ty (v) :=
 fun a w hs _ _ _ _=>by simp[execOp,hs.sim.ev hc,hs.sim.ev hx,asBool]
theorem Pu_fieldAddr {s f off sz:Nat}{ag:Bool}{x:Operand}{ad:Addr}[hF:FieldAt P s f off sz ag](hx:ev fr x=some (.pointer (some ad))):Pu P n wr fr O (.fieldAddr s x f) ty (.pointer (some (ad.add off))) :=
 fun a w hs _ _ _ _=>by
  have h:=hF.h
  unfold Zg2 at h
  split at h
  ·rename_i fs hu
   split at h
   ·rename_i fld hf
    split at h
    ·rename_i sz' ag' ht
     split at h
     ·cases h
     ·rename_i hne
      simp only[Option.some.injEq,Prod.mk.injEq]at h
      obtain⟨rfl,rfl,rfl⟩:=h
      obtain⟨i,dd,hi,hs',_,_⟩:=Ty.parts ht
      simp only[execOp,hs.sim.ev hx,Instr.fieldAt,Sem.run_bind,run_underlying hu,Result.andThen_ok,hf,Instr.sureAddr,Sem.run_pure,fieldPlace,sizeOf,ZaK hi,hs',if_neg hne]
    ·cases h
   ·cases h
  ·cases h
theorem Zhc {t sz:Nat}{x:Operand}{ad:Addr}{v:Value}[Ty P t sz false](hx:ev fr x=some (.pointer (some ad)))
  (h:∀ w,Bel wr.heap.size wr w->ZaA wr.heap.size O w->w.cell? ad=some v):Pu P n wr fr O (.load t x) ty (v) :=
 fun a w hs _ _ _ _=>by simp only[execOp,hs.sim.ev hx,Instr.loadAt,Instr.sureAddr,Sem.run_bind,Sem.run_pure,Result.andThen_ok,Zd8 (h w hs.old hs.own)]
theorem Zhb {t sz:Nat}{x:Operand}{ad:Addr}{cs:List Value}[Ty P t sz true](hx:ev fr x=some (.pointer (some ad)))(hl:cs.length=sz)
  (h:∀ w,Bel wr.heap.size wr w->ZaA wr.heap.size O w->Zau w ad cs):Pu P n wr fr O (.load t x) ty (.agg cs.toArray) :=
 fun a w hs _ _ _ _=>by simp only[execOp,hs.sim.ev hx,Instr.loadAt,Instr.sureAddr,Sem.run_bind,Sem.run_pure,Result.andThen_ok,Zd9 hl (h w hs.old hs.own)]
theorem Zcy {w:World}{b:Nat}{cs:List Value}{t:TypeId}(h:(It.blk b cs t).sat w)(j:Nat):w.cell? ⟨b,j,none⟩=cs[j]?:=by
 simp only[It.sat]at h
 simp[World.cell?,h]
theorem Pu_loadB1 {t sz b j:Nat}{x:Operand}{cs:List Value}{bt:TypeId}{v:Value}{R:List It}[Ty P t sz false](hx:ev fr x=some (.pointer (some ⟨b,j,none⟩)))
  (hp:Pick (.blk b cs bt) O R) (hv:cs[j]?=some v):Pu P n wr fr O (.load t x) ty (v) :=
 Zhc hx (fun w _ hO=>by rw[Zcy (hO.sat _ (hp.perm.mem_iff.2 List.mem_cons_self)),hv])
theorem ZbV (b j i:Nat):(⟨b,j,none⟩:Addr).add i=⟨b,j+i,none⟩:=by
 unfold Addr.add
 split
 ·rename_i h;subst h;rfl
 ·rfl
theorem Zmt {t sz b j:Nat}{x:Operand}{cs:List Value}{bt:TypeId}{R:List It}[Ty P t sz true](hx:ev fr x=some (.pointer (some ⟨b,j,none⟩)))
  (hp:Pick (.blk b cs bt) O R) {vs:List Value} (hv:(cs.drop j).take sz=vs) (hl:vs.length=sz):Pu P n wr fr O (.load t x) ty (.agg vs.toArray) :=
 Zhb hx hl (fun w _ hO i v hi=>by
  rw[ZbV,Zcy (hO.sat _ (hp.perm.mem_iff.2 List.mem_cons_self))]
  subst hv
  rw[List.getElem?_take]at hi
  split at hi
  ·rw[<- hi,List.getElem?_drop]
  ·cases hi)
theorem St.fresh {a:Act}{w:World}{cs:List Value}{t:TypeId}(hs:St n wr fr O a w) :
  Bel wr.heap.size wr (w.alloc (.cells cs.toArray t))/\ZaA wr.heap.size (.blk w.heap.size cs t::O) (w.alloc (.cells cs.toArray t)):=by
 have hB:Bel w.heap.size w (w.alloc (.cells cs.toArray t)):=(Bel.refl _ _).alloc (Nat.le_refl _) _
 refine⟨hs.old.trans (hB.mono hs.old.size),?_⟩
 refine hs.own.grow (O':=[.blk w.heap.size cs t]) hB hs.old.size ⟨fun i hi=>?_,fun i hi b hb=>?_,List.pairwise_singleton _ _⟩
 ·rw[List.mem_singleton.1 hi]
  exact heap_alloc_new w _
 ·rw[List.mem_singleton.1 hi]at hb
  simp only[It.S]at hb
  subst hb
  exact⟨Nat.le_refl _,by simp⟩
theorem ZyO {t:TypeId}{x:Operand}{v:Value}{dst:Option Tmp}{g:Option (Nat × Bool)}{Kp:Value->List It->Prop}(hx:ev fr x=some v)
  (k:∀ b,Kp (.pointer (some ⟨b,0,none⟩)) (.blk b v.cells.toList t::O)):Stp P n wr fr O ⟨dst,.box t x,ty,pos,af,g⟩ Kp :=
 ZbG fun a w hs=>⟨.pointer (some ⟨w.heap.size,0,none⟩),w.alloc (.cells v.cells t),_,by
  simp[execOp,hs.sim.ev hx,Instr.box,newVar,newRow,newObj,Sem.run],
  by have:=(hs.fresh (cs:=v.cells.toList) (t:=t)).1;simpa using this,by have:=(hs.fresh (cs:=v.cells.toList) (t:=t)).2;simpa using this,k _⟩
theorem Stp_alloc {t:TypeId}{z:List Value}{dst:Option Tmp}{g:Option (Nat × Bool)}{Kp:Value->List It->Prop}[hz:ZeroT P t z]
  (k:∀ b,Kp (.pointer (some ⟨b,0,none⟩)) (.blk b z t::O)):Stp P n wr fr O ⟨dst,.alloc t,ty,pos,af,g⟩ Kp :=
 ZbG fun a w hs=>by
  have h:=hz.h
  unfold Ze8 at h
  split at h
  ·rename_i i hi
   split at h
   ·rename_i zv hzv
    simp only[Option.some.injEq]at h
    subst h
    refine⟨.pointer (some ⟨w.heap.size,0,none⟩),w.alloc (.cells zv.cells t),_,?_,by have:=(hs.fresh (cs:=zv.cells.toList) (t:=t)).1;simpa using this,by have:=(hs.fresh (cs:=zv.cells.toList) (t:=t)).2;simpa using this,k _⟩
    simp[execOp,Instr.alloc,zeroValue,ZaK hi,hzv,newVar,newRow,newObj,Sem.run]
   ·cases h
  ·cases h
theorem Zb8 {P:Program}{ad:Addr}:∀ (vs:List Value) (w:World) (i:Nat),(∀ v∈vs,v.oneCell'=true)->(∀ j,j<vs.length->(w.cell? (ad.add (i+j))).isSome/\w.frozen? (ad.add (i+j))=false) ->
  (storeCells ad vs i).run P w = .ok () (Zba w ad vs i)
 | [],w,i,_,_=>by simp[storeCells,Zba]
 | v::r,w,i,h1,h2=>by
  have h0:=h2 0 (by simp)
  simp only[Nat.add_zero]at h0
  obtain⟨u,hu⟩:=Option.isSome_iff_exists.1 h0.1
  have hone:=h1 v List.mem_cons_self
  have ih:=Zb8 (P:=P) (ad:=ad) r (w.setCell (ad.add i) v) (i+1) (fun x hx=>h1 x (List.mem_cons_of_mem _ hx)) (fun j hj=>by
   have:=h2 (j+1) (by simpa using hj)
   rw[show i+(j+1)=i+1+j from by omega]at this
   refine⟨?_,?_⟩
   ·obtain⟨x,hx⟩:=Option.isSome_iff_exists.1 this.1
    obtain⟨y,hy⟩:=cell?_setCell_some (w:=w) (p:=ad.add i) (x:=v) (q:=ad.add (i+1+j)) (v:=x) hx
    simp[hy]
   ·rw[World.frozen?_setCell];exact this.2)
  have hst:(store (ad.add i) v).run P w = .ok () (w.setCell (ad.add i) v):=by
   cases v <;> first|(simp[Value.oneCell']at hone;done)|simp[store,Sem.run,hu,h0.2]
  simp only[storeCells,Sem.run_bind,hst,Result.andThen_ok,ih,Zba]
theorem Zbl {ad:Addr}:∀ (vs:List Value) (w:World) (i b:Nat),b≠ad.block->(Zba w ad vs i).heap[b]?=w.heap[b]?
 | [],_,_,_,_=>rfl
 | v::r,w,i,b,hb=>by
  rw[Zba,Zbl r _ _ b hb,Below.heap_setCell]
  intro e
  apply hb
  rw[e]
  unfold Addr.add
  split <;> rfl
theorem Zbk {ad:Addr}:∀ (vs:List Value) (w:World) (i:Nat),(Zba w ad vs i).heap.size=w.heap.size
 | [],_,_=>rfl
 | v::r,w,i=>by rw[Zba,Zbk r];simp[World.setCell]
theorem Zbb {ad:Addr}:∀ (vs:List Value) (w:World) (i:Nat),(Zba w ad vs i).os=w.os/\(Zba w ad vs i).tape=w.tape/\(Zba w ad vs i).output=w.output
 | [],_,_=>⟨rfl,rfl,rfl⟩
 | v::r,w,i=>by rw[Zba];exact Zbb r _ _
def lay (cs:List Value)(j:Nat):List Value->List Value
 | []=>cs
 | v::r=>lay (cs.set j v) (j+1) r
theorem lay_length (j:Nat):∀ (vs cs:List Value),(lay cs j vs).length=cs.length
 | [],_=>rfl
 | v::r,cs=>by rw[lay,lay_length (j+1) r,List.length_set]
theorem ZcR {b j:Nat}{t:TypeId}:∀ (vs cs:List Value) (w:World) (i:Nat),w.heap[b]?=some (.cells cs.toArray t (0,0)) ->
  (Zba w ⟨b,j,none⟩ vs i).heap[b]?=some (.cells (lay cs (j+i) vs).toArray t (0,0))
 | [],_,_,_,h=>h
 | v::r,cs,w,i,h=>by
  rw[Zba,lay,show j+i+1=j+(i+1) from rfl]
  refine ZcR r (cs.set (j+i) v) _ (i+1) ?_
  rw[ZbV]
  simp[World.setCell,Array.getElem?_modify,h]
theorem Zgj {t sz b j:Nat}{ag:Bool}{x y:Operand}{cs:List Value}{bt:TypeId}{v:Value}{vs cs':List Value}{O':List It}{dst:Option Tmp}{g:Option (Nat × Bool)}{Kp:Value->List It->Prop}[hT:Ty P t sz ag]
  (hx:ev fr x=some (.pointer (some ⟨b,j,none⟩))) (hy:ev fr y=some v)
  (hu:Upd O (.blk b cs bt) (.blk b cs' bt) O') (hvs:v.cells.toList=vs) (hl:vs.length=sz) (h1:vs.all Value.oneCell'=true) (hj:Nat.ble (j+sz) cs.length=true) (hc:lay cs j vs=cs')
  (k:Kp undef O'):Stp P n wr fr O ⟨dst,.store t x y,ty,pos,af,g⟩ Kp:=by
 refine Zg9 fun a w hs=>?_
 have hj':j+sz<=cs.length:=Nat.le_of_ble_eq_true hj
 have hsat:=hs.own.sat _ hu.mem
 have hb:=hs.own.inb _ hu.mem b rfl
 have hcell:∀ i,w.cell? ⟨b,i,none⟩=cs[i]?:=fun i=>Zcy hsat i
 have hfz:∀ i,w.frozen? ⟨b,i,none⟩=false:=fun i=>by
  simp only[It.sat]at hsat
  simp[World.frozen?,hsat]
 have hrun:=Zb8 (P:=P) (ad:=⟨b,j,none⟩) vs w 0 (fun u hu=>List.all_eq_true.1 h1 u hu) (fun i hi=>by
  rw[ZbV,hcell,hfz]
  refine⟨?_,rfl⟩
  rw[List.getElem?_eq_getElem (by omega)]
  rfl)
 refine⟨Zba w ⟨b,j,none⟩ vs 0,O',?_,?_,?_,k⟩
 ·have hsz:v.cells.size=sz:=by rw[<- hl,<- hvs];simp
  simp only[execOp,hs.sim.ev hx,hs.sim.ev hy,Instr.storeAt,Instr.sureAddr,Sem.run_bind,Sem.run_pure,Result.andThen_ok,storeVar,ZcA,hsz,ne_eq,not_true,if_false,hvs,hrun]
 ·refine hs.old.trans ⟨⟨(Zbb vs w 0).1,(Zbb vs w 0).2.1,(Zbb vs w 0).2.2,by rw[Zbk];exact Nat.le_refl _,fun i hi=>Zbl vs w 0 i (by show i≠b;omega)⟩⟩
 ·refine hs.own.upd hu hs.old.size (by rw[Zbk];exact Nat.le_refl _) (fun i _ hi=>Zbl vs w 0 i hi) ?_ (fun i hi=>Or.inl hi)
  have:=ZcR (b:=b) (j:=j) (t:=bt) vs cs w 0 hsat
  simp only[Nat.add_zero]at this
  rw[hc]at this
  exact this
end
end Go.Wk
