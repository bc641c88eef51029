/- Parts of the proof. -/
import Derived.WalkKit
import Derived.Deep.LoopGhost
import Derived.KernelRfl
set_option maxHeartbeats 0
set_option linter.all false
theorem dF_{p:Prop}[h:Decidable p]:¬p->decide p=false:=decide_eq_false
theorem dT_{p:Prop}[h:Decidable p]:p->decide p=true:=decide_eq_true
theorem cS_{p:Prop}(h:p:=by repeat' constructor):p:=h
namespace Go.Wk
open Go
theorem ZB7 {α:Type}(a:Ask α):∀ w:World,w.drawn<=(w.ask a).2.drawn:=by
 induction a with
 | done a=>intro w;exact Nat.le_refl _
 | ask what range k ih =>
  intro w
  rw[World.ask]
  split
  ·exact ih _ w
  ·exact Nat.le_trans (Nat.le_succ _) (ih _ { w with drawn:=w.drawn+1 })
theorem ZBC (w:World)(c:Sys):w.drawn<=(w.sys c).2.drawn:=by
 have h:=ZB7 (Kernel.perform c w.os) w
 unfold World.sys
 split
 ·exact Nat.le_refl _
 ·rename_i r os a _ e
  rw[e]at h
  exact h
theorem ZlZ {p:Program}{w:World}{a:Addr}{u:TypeId}{k:Addr}{v:Value}{b:Bool}{x:World × List Addr}(h:w.viewStore p a u k v b = .ok x):x.1.drawn=w.drawn:=by
 unfold World.viewStore at h
 simp only[bind,Except.bind,pure,Except.pure,throw,throwThe,MonadExceptOf.throw]at h
 repeat' split at h
 all_goals first|(cases h;done)|(cases h;rfl)
theorem ZoO {w:World}{p:Program}{a:Addr}{v:Value}{b:Bool}{x:World × List Addr}(h:w.farStore p a v b = .ok x):x.1.drawn=w.drawn:=by
 unfold World.farStore at h
 split at h
 ·split at h
  ·rename_i r c
   cases h
   exact ZlZ c
  ·cases h
 ·cases h
theorem ZtQ (w:World)(a:Addr)(n:Nat):(w.freeze a n).drawn=w.drawn:=by
 unfold World.freeze
 split <;> rfl
theorem ZsL {α:Type}{P:Program}(s:Sem α):∀ (w:World) (v:α) (w':World),s.run P w = .ok v w'->w.drawn<=w'.drawn:=by
 induction s with
 | pure a=>intro w v w' h;simp only[Sem.run,Result.ok.injEq]at h;rw[h.2];exact Nat.le_refl _
 | load m a k ih =>
  intro w v w' h
  rw[Sem.run]at h
  split at h
  ·exact ih _ w v w' h
  ·split at h
   ·exact ih _ w v w' h
   ·cases h
 | store m a x k ih =>
  intro w v w' h
  have key:(match w.cell? a with
   | some _=>if w.frozen? a then Result.halt (.unsupported (.unsafePointer "a write to bytes that a string shares")) w else k.run P (w.setCell a x)
   | none=>match w.farStore P a x (m==Mode.atomic) with
    | .ok (w,_)=>k.run P w
    | .error h => .halt h w) = .ok v w':=by
   cases x <;> first|exact h|(simp only[Sem.run]at h;cases h)
  split at key
  ·split at key
   ·cases key
   ·exact ih (w.setCell a x) v w' key
  ·split at key
   ·rename_i d l b
    have:=ih d v w' key
    have e:=ZoO b
    dsimp only at e
    omega
   ·cases key
 | new o k ih=>intro w v w' h;exact ih w.heap.size { w with heap:=w.heap.push o } v w' h
 | shape r k ih=>intro w v w' h;exact ih _ _ v w' h
 | freeze a n k ih=>intro w v w' h;have:=ih (w.freeze a n) v w' h;rwa[ZtQ]at this
 | frozen a k ih=>intro w v w' h;exact ih _ _ v w' h
 | getObj r k ih =>
  intro w v w' h
  rw[Sem.run]at h
  split at h
  ·cases h
  ·exact ih _ _ v w' h
  ·cases h
 | setObj r o k ih =>
  intro w v w' h
  rw[Sem.run]at h
  split at h
  ·cases h
  ·exact ih { w with heap:=w.heap.setIfInBounds r o } v w' h
  ·cases h
 | choose q k ih =>
  intro w v w' h
  rw[Sem.run]at h
  split at h
  ·exact ih _ _ v w' h
  ·exact Nat.le_trans (Nat.le_succ _) (ih (q.cut (w.tape w.drawn q)) { w with drawn:=w.drawn+1 } v w' h)
 | sys c k ih =>
  intro w v w' h
  exact Nat.le_trans (ZBC w c) (ih (w.sys c).1 (w.sys c).2 v w' h)
 | program k ih=>intro w v w' h;exact ih _ _ v w' h
 | mark m k ih=>intro w v w' h;exact ih _ v w' h
 | halt e=>intro w v w' h;cases h
open Go Go.RowKit
structure Bel (B:Nat)(w w':World):Prop extends Below B w w'
theorem Bel.refl (B:Nat)(w:World):Bel B w w:=⟨Below.refl B w⟩
theorem Bel.trans {B:Nat}{a b c:World}(h:Bel B a b)(k:Bel B b c):Bel B a c:=⟨h.toBelow.trans k.toBelow⟩
theorem Bel.mono {B B':Nat}{w w':World}(h:Bel B w w')(a:B'<=B):Bel B' w w':=⟨h.toBelow.mono a⟩
theorem Bel.grown {B:Nat}{a w w':World}{row:Option Nat}(h:Bel B a w)(d:w.grownBy w' row)(b:w.drawn<=w'.drawn)(c:B<=w.heap.size)(e:∀ k,row=some k->B<=k):Bel B a w':=⟨h.toBelow.grown d c e⟩
theorem Bel.alloc {B:Nat}{a w:World}(h:Bel B a w)(b:B<=w.heap.size)(o:Obj):Bel B a (w.alloc o):=⟨h.toBelow.alloc b o⟩
abbrev Fr:=List (Nat × Value)
def look:Fr->Nat->Option Value
 | [],_=>none
 | (k,v)::r,t=>bif Nat.beq k t then some v else look r t
def ev (fr:Fr):Operand->Option Value
 | .tmp t=>look fr t
 | .const v=>some v
 | .global g=>some (.pointer (some ⟨g,0,none⟩))
 | .func f=>some (.func (.func f) #[] #[])
structure Sim (n:Nat)(fr:Fr)(a:Act):Prop where
 defers:a.defers=[]
 size:a.tmps.size=n
 at_:∀ t v,look fr t=some v->a.tmps[t]?=some v
theorem Sim.ev {n:Nat}{fr:Fr}{a:Act}(h:Sim n fr a){x:Operand}{v:Value}(b:ev fr x=some v):a.eval x=v:=by
 cases x with
 | tmp t =>
  have:=h.at_ t v b
  simp[Act.eval,Array.getD_eq_getD_getElem?,this]
 | const u=>simpa[Wk.ev,Act.eval] using b
 | global g=>simpa[Wk.ev,Act.eval] using b
 | func f=>simpa[Wk.ev,Act.eval] using b
theorem Sim.put {n:Nat}{fr:Fr}{a:Act}(h:Sim n fr a){d:Nat}(g:Nat.ble (d+1) n=true)(v:Value):Sim n ((d,v)::fr) (a.put (some d) v):=by
 have b:d<n:=Nat.le_of_ble_eq_true g
 refine⟨h.defers,by simp[Act.put,h.size],fun t u f=>?_⟩
 simp only[Act.put]
 by_cases e:d=t
 ·subst e
  have:u=v:=by simpa[look] using f.symm
  subst this
  rw[Array.getElem?_setIfInBounds,if_pos rfl,if_pos (by rw[h.size];exact b)]
 ·have i:look fr t=some u:=by
   have c:Nat.beq d t=false:=by
    cases hb:Nat.beq d t with
    | false=>rfl
    | true=>exact absurd (Nat.eq_of_beq_eq_true hb) e
   simpa[look,c] using f
  rw[Array.getElem?_setIfInBounds,if_neg e]
  exact h.at_ t u i
def Sub:Fr->Fr->Prop
 | [],_=>True
 | (t,v)::r,fr=>look fr t=some v/\Sub r fr
theorem Sub.look {fr:Fr}:∀ {fr':Fr},Sub fr' fr->∀ t v,look fr' t=some v->look fr t=some v
 | [],_,_,_,h=>by simp[Wk.look]at h
 | (k,u)::r,hs,t,v,h=>by
  simp only[Wk.look]at h
  cases hb:Nat.beq k t with
  | true =>
   rw[hb]at h
   have e:=Nat.eq_of_beq_eq_true hb
   subst e
   simp at h
   subst h
   exact hs.1
  | false =>
   rw[hb]at h
   exact Sub.look hs.2 t v (by simpa using h)
theorem Sim.sub {n:Nat}{fr fr':Fr}{a:Act}(h:Sim n fr a)(b:Sub fr' fr):Sim n fr' a :=
 ⟨h.defers,h.size,fun t v c=>h.at_ t v (b.look t v c)⟩
def ZAW (S:Nat->Prop)(w w':World):Prop:=∀ b,S b->w'.heap[b]?=w.heap[b]?
inductive It where
 | blk (b:Nat) (cs:List Value) (t:TypeId)
 | row (v:Value) (e:TypeId) (size n:Nat) (xs:List Value)
 | mp (b:Nat) (m:List (ByteArray × Value))
 | fact (S:Nat->Prop) (p:World->Prop)
def ZdP (m:List (ByteArray × Value))(es:Array MapEntry):Prop:=es.toList.map (fun e=>(e.key,e.val))=m.map fun x=>(Value.string x.1,x.2)
def stOk (es:Array MapEntry)(c:Nat):Prop:=(es.toList.map (·.born)).Nodup/\∀ n∈es.toList.map (·.born),n<c
theorem ZpS:stOk #[] 0:=⟨List.nodup_nil,fun n a=>by cases a⟩
theorem ZsB {f:Array MapEntry}{c:Nat}(h:stOk f c)(k v:Value):stOk (f.push { key:=k,val:=v,born:=c }) (c+1):=by
 have e:(f.push { key:=k,val:=v,born:=c }).toList.map (·.born)=f.toList.map (·.born)++[c]:=by rw[Array.toList_push,List.map_append];rfl
 unfold stOk
 rw[e]
 refine⟨List.nodup_append.2 ⟨h.1,by simp,fun a g b i=>?_⟩,fun n d=>?_⟩
 ·rw[List.mem_singleton.1 i]
  have:=h.2 a g
  omega
 ·rcases List.mem_append.1 d with d|d
  ·have:=h.2 n d
   omega
  ·rw[List.mem_singleton.1 d]
   omega
theorem ZeL {α β:Type}(f:α->α)(g:α->β)(h:∀ x,g (f x)=g x):∀ (l:List α) (i:Nat),(l.modify i f).map g=l.map g
 | [],i=>by cases i <;> rfl
 | x::l,0=>by simp[List.modify,h]
 | x::l,i+1=>by
  have:=ZeL f g h l i
  simpa using this
theorem Zn5 {a:Array MapEntry}{c:Nat}(h:stOk a c)(j:Nat)(k v:Value):stOk (a.modify j fun e=>{ e with key:=k,val:=v }) c:=by
 have e:(a.modify j fun e=>{ e with key:=k,val:=v }).toList.map (·.born)=a.toList.map (·.born):=by
  rw[Array.toList_modify]
  exact ZeL (fun e:MapEntry=>{ e with key:=k,val:=v }) (·.born) (fun _=>rfl) _ _
 unfold stOk
 rw[e]
 exact h
def It.S:It->Nat->Prop
 | .blk b _ _=>fun k=>k=b
 | .row v _ _ _ _=>fun k=>v.ownBlock=some k
 | .mp b _=>fun k=>k=b
 | .fact S _=>S
def It.sat:It->World->Prop
 | .blk b cs t,w=>w.heap[b]?=some (.cells cs.toArray t (0,0))
 | .row v e size n xs,w=>w.ownsRow 0 e size v n xs
 | .mp b m,w=>∃ es clock,w.heap[b]?=some (.map es clock)/\ZdP m es/\stOk es clock
 | .fact S p,w=>∀ w',ZAW S w w'->p w'
theorem Zk0 {w w':World}{e:TypeId}{a n:Nat}{v:Value}{xs:List Value}(h:w.ownsRow 0 e a v n xs)
  (b:∀ k,v.ownBlock=some k->w'.heap[k]?=w.heap[k]?):w'.ownsRow 0 e a v n xs:=by
 refine⟨h.1,?_⟩
 rcases h.2 with hn|⟨g,cap,cur,rfl,hb,hg,rest⟩
 ·exact .inl hn
 ·exact .inr ⟨g,cap,cur,rfl,hb,(b g (by simp[Value.ownBlock])).trans hg,rest⟩
theorem It.sat_congr {i:It}{w w':World}(h:i.sat w)(a:ZAW i.S w w'):i.sat w':=by
 cases i with
 | blk b cs t=>exact(a b rfl).trans h
 | row v e size n xs=>exact Zk0 h fun k q=>a k q
 | mp b m =>
  obtain⟨j,c,l,o⟩:=h
  exact⟨j,c,(a b rfl).trans l,o⟩
 | fact S p=>exact fun f d=>h f fun b g=>(d b g).trans (a b g)
structure Zaz (base:Nat)(O:List It)(w:World):Prop where
 sat:∀ i∈O,i.sat w
 inb:∀ i∈O,∀ b,i.S b->base<=b/\b<w.heap.size
 sep:O.Pairwise fun i j=>∀ b,i.S b->¬ j.S b
theorem Zaz.nil (base:Nat)(w:World):Zaz base [] w:=⟨by simp,by simp,.nil⟩
def foot (O:List It)(b:Nat):Prop:=∃ i∈O,i.S b
theorem Zaz.congr {base:Nat}{O:List It}{w w':World}(h:Zaz base O w)(d:w.heap.size<=w'.heap.size)(e:ZAW (foot O) w w'):Zaz base O w' :=
 ⟨fun i a=>It.sat_congr (h.sat i a) fun b c=>e b ⟨i,a,c⟩,fun i a b c=>⟨(h.inb i a b c).1,Nat.lt_of_lt_of_le (h.inb i a b c).2 d⟩,h.sep⟩
theorem Zaz.append {base:Nat}{O O':List It}{w:World}(h:Zaz base O w)(c:Zaz base O' w)(f:∀ b,foot O' b->¬ foot O b):Zaz base (O'++O) w:=by
 refine⟨fun i a=>?_,fun i a=>?_,?_⟩
 ·rcases List.mem_append.1 a with a|a
  ·exact c.sat i a
  ·exact h.sat i a
 ·rcases List.mem_append.1 a with a|a
  ·exact c.inb i a
  ·exact h.inb i a
 ·rw[List.pairwise_append]
  exact⟨c.sep,h.sep,fun i a j g b e d=>f b ⟨i,a,e⟩ ⟨j,g,d⟩⟩
theorem Zaz.grow {base:Nat}{O O':List It}{w w':World}(h:Zaz base O w)(g:Bel w.heap.size w w')(a:base<=w.heap.size)(e:Zaz w.heap.size O' w'):Zaz base (O'++O) w':=by
 have k:Zaz base O w':=h.congr g.size fun b ⟨i,d,c⟩=>g.block b (h.inb i d b c).2
 have l:Zaz base O' w':=⟨e.sat,fun i d b c=>⟨Nat.le_trans a (e.inb i d b c).1,(e.inb i d b c).2⟩,e.sep⟩
 refine k.append l fun b ⟨i,d,c⟩ ⟨j,m,f⟩=>?_
 have:=(e.inb i d b c).1
 have:=(h.inb j m b f).2
 omega
inductive Pick:It->List It->List It->Prop
 | here {A:It} {R:List It}:Pick A (A::R) R
 | there {A x:It} {O R:List It}:Pick A O R->Pick A (x::O) (x::R)
theorem Pick.perm {A:It}{O R:List It}(h:Pick A O R):O.Perm (A::R):=by
 induction h with
 | here=>exact List.Perm.refl _
 | there _ ih=>exact(List.Perm.cons _ ih).trans (List.Perm.swap _ _ _)
theorem Zaz.perm {base:Nat}{O O':List It}{w:World}(h:Zaz base O w)(c:O.Perm O'):Zaz base O' w :=
 ⟨fun i b=>h.sat i (c.mem_iff.2 b),fun i b=>h.inb i (c.mem_iff.2 b),(c.pairwise_iff (fun a k e d=>a k d e)).1 h.sep⟩
theorem Zaz.tail {base:Nat}{A:It}{O:List It}{w:World}(h:Zaz base (A::O) w):Zaz base O w :=
 ⟨fun i a=>h.sat i (List.mem_cons_of_mem _ a),fun i a=>h.inb i (List.mem_cons_of_mem _ a),(List.pairwise_cons.1 h.sep).2⟩
inductive SubO:List It->List It->Prop
 | nil {O:List It}:SubO [] O
 | cons {A:It} {O' O R:List It}:Pick A O R->SubO O' R->SubO (A::O') O
theorem SubO.refl:∀ O:List It,SubO O O
 | [] => .nil
 | _::O => .cons .here (SubO.refl O)
theorem SubO.perm {O' O:List It}(h:SubO O' O):∃ R,O.Perm (O'++R):=by
 induction h with
 | nil=>exact⟨_,List.Perm.refl _⟩
 | cons hp _ ih =>
  obtain⟨R,a⟩:=ih
  exact⟨R,hp.perm.trans (List.Perm.cons _ a)⟩
theorem Zaz.sub {base:Nat}{O O':List It}{w:World}(h:Zaz base O w)(c:SubO O' O):Zaz base O' w:=by
 obtain⟨R,b⟩:=c.perm
 have:=h.perm b
 exact⟨fun i a=>this.sat i (List.mem_append_left _ a),fun i a=>this.inb i (List.mem_append_left _ a),(List.pairwise_append.1 this.sep).1⟩
inductive Upd:List It->It->It->List It->Prop
 | here {A A':It} {R:List It}:Upd (A::R) A A' (A'::R)
 | there {A A' x:It} {O O':List It}:Upd O A A' O'->Upd (x::O) A A' (x::O')
theorem Upd.parts {O O':List It}{A A':It}(h:Upd O A A' O'):∃ R,O.Perm (A::R)/\O'.Perm (A'::R):=by
 induction h with
 | here=>exact⟨_,.refl _,.refl _⟩
 | there _ ih =>
  obtain⟨R,a,b⟩:=ih
  exact⟨_,(List.Perm.cons _ a).trans (.swap _ _ _),(List.Perm.cons _ b).trans (.swap _ _ _)⟩
theorem Upd.mem {O O':List It}{A A':It}(h:Upd O A A' O'):A∈O:=by
 induction h with
 | here=>exact List.mem_cons_self
 | there _ ih=>exact List.mem_cons_of_mem _ ih
theorem Zaz.upd {base:Nat}{O O':List It}{A A':It}{w w':World}(h:Zaz base O w)(x:Upd O A A' O')(m:base<=w.heap.size)(n:w.heap.size<=w'.heap.size)
  (v:∀ b,b<w.heap.size->¬ A.S b->w'.heap[b]?=w.heap[b]?) (k:A'.sat w') (o:∀ b,A'.S b->A.S b\/(w.heap.size<=b/\b<w'.heap.size)):Zaz base O' w':=by
 obtain⟨R,r,s⟩:=x.parts
 have e:=h.perm r
 obtain⟨p,t⟩:=List.pairwise_cons.1 e.sep
 have f:Zaz base R w':=e.tail.congr n fun b ⟨i,a,d⟩=>v b (e.tail.inb i a b d).2 fun c=>p i a b c d
 have l:∀ b,A'.S b->base<=b/\b<w'.heap.size:=fun b d=>by
  rcases o b d with c|⟨c,hA2⟩
  ·have:=e.inb A List.mem_cons_self b c
   exact⟨this.1,by omega⟩
  ·exact⟨by omega,hA2⟩
 have u:Zaz base (A'::R) w':=by
  refine⟨fun i a=>?_,fun i a=>?_,List.pairwise_cons.2 ⟨fun j q b d g=>?_,t⟩⟩
  ·rcases List.mem_cons.1 a with rfl|a
   ·exact k
   ·exact f.sat i a
  ·rcases List.mem_cons.1 a with rfl|a
   ·exact l
   ·exact f.inb i a
  ·rcases o b d with c|⟨c,_⟩
   ·exact p j q b c g
   ·have:=(e.tail.inb j q b g).2
    omega
 exact u.perm s.symm
structure St (n:Nat)(wr:World)(fr:Fr)(O:List It)(a:Act)(w:World):Prop where
 sim:Sim n fr a
 old:Bel wr.heap.size wr w
 own:Zaz wr.heap.size O w
def lift (n:Nat)(wr:World)(Q:Exit->Fr->List It->Prop):Exit->Act->World->Prop:=fun e a w=>∃ fr O,St n wr fr O a w/\Q e fr O
def W (P:Program)(n:Nat)(wr:World)(c:Code)(Q:Exit->Fr->List It->Prop)(fr:Fr)(O:List It):Prop :=
 ∀ a w,St n wr fr O a w->c.wp P (lift n wr Q) a w
def Zaq (K:Fr->List It->Prop)(Q:Exit->Fr->List It->Prop):Exit->Fr->List It->Prop
 | .normal=>K
 | e=>Q e
def Zai (id:Nat)(Q:Exit->Fr->List It->Prop):Exit->Fr->List It->Prop
 | .exit k=>fun fr O=>if k=id then Q .normal fr O else Q (.exit k) fr O
 | e=>Q e
section
variable {P:Program}{n:Nat}{wr:World}{Q:Exit->Fr->List It->Prop}{fr:Fr}{O:List It}
theorem W_seq {x y:Code}(h:W P n wr x (Zaq (W P n wr y Q) Q) fr O):W P n wr (.seq x y) Q fr O:=by
 intro a w f
 refine wp_seq (wp_mono (h a w f) ?_)
 rintro e d w' ⟨fr',O',b,c⟩
 cases e with
 | normal=>exact c d w' b
 | _=>exact⟨fr',O',b,c⟩
theorem W_skip (h:Q .normal fr O):W P n wr .skip Q fr O:=fun _ _ a=>wp_skip ⟨fr,O,a,h⟩
theorem W_ret (h:Q .ret fr O):W P n wr .ret Q fr O:=fun _ _ a=>wp_ret ⟨fr,O,a,h⟩
theorem W_exit {a:Nat}(h:Q (.exit a) fr O):W P n wr (.exit a) Q fr O:=fun _ _ b=>wp_exit ⟨fr,O,b,h⟩
theorem W_block {g:Nat}{c:Code}(h:W P n wr c (Zai g Q) fr O):W P n wr (.block g c) Q fr O:=by
 intro a w i
 refine wp_block (wp_mono (h a w i) ?_)
 rintro e j w' ⟨fr',O',b,d⟩
 cases e with
 | exit k =>
  simp only[Exit.inBlock,Zai]at d ⊢
  split
  ·rename_i f;rw[if_pos f]at d;exact⟨fr',O',b,d⟩
  ·rename_i f;rw[if_neg f]at d;exact⟨fr',O',b,d⟩
 | _=>exact⟨fr',O',b,d⟩
theorem Zaf {c:Operand}{x y:Code}{b:Bool}(e:ev fr c=some (.bool b))(g:b=true->W P n wr x Q fr O)(f:b=false->W P n wr y Q fr O):W P n wr (.cond c x y) Q fr O:=by
 intro a w d
 exact wp_cond_split (d.sim.ev e) (fun h=>g h a w d) (fun h=>f h a w d)
theorem W_true {c:Operand}{x y:Code}(a:ev fr c=some (.bool true))(b:W P n wr x Q fr O):W P n wr (.cond c x y) Q fr O:=Zaf a (fun _=>b) (fun h=>by cases h)
theorem W_false {c:Operand}{x y:Code}(a:ev fr c=some (.bool false))(b:W P n wr y Q fr O):W P n wr (.cond c x y) Q fr O:=Zaf a (fun h=>by cases h) (fun _=>b)
theorem ZcG {c:Code}{fr':Fr}{O':List It}(e:Sub fr' fr)(d:SubO O' O)(h:W P n wr c Q fr' O'):W P n wr c Q fr O :=
 fun a w b=>h a w ⟨b.sim.sub e,b.old,b.own.sub d⟩
theorem Zx7 {c:Code}{Q':Exit->Fr->List It->Prop}(h:W P n wr c Q' fr O)(f:∀ e fr O,Q' e fr O->Q e fr O):W P n wr c Q fr O :=
 fun a w g=>wp_mono (h a w g) fun e _ _ ⟨fr',O',b,d⟩=>⟨fr',O',b,f e fr' O' d⟩
theorem ZCi {c:Code}{G:Type}(FR:G->Fr)(OO:G->List It)(Inv:G->Prop)(μ:G->Nat)(h:G)(s:Sub (FR h) fr)(r:SubO (OO h) O)(u:Inv h)
  (f:∀ g,Inv g->W P n wr c (Zaq (fun fr' O'=>∃ d,μ d<μ g/\Inv d/\Sub (FR d) fr'/\SubO (OO d) O') Q) (FR g) (OO g)):W P n wr (.loop c) Q fr O:=by
 intro a w o
 refine wp_loop_ghost (fun m a w=>∃ g,μ g=m/\Inv g/\St n wr (FR g) (OO g) a w) (μ h) ⟨h,rfl,u,o.sim.sub s,o.old,o.own.sub r⟩ ?_
 rintro m a w ⟨g,rfl,t,p⟩
 refine wp_mono (f g t a w p) ?_
 rintro e v w' ⟨fr',O',b,q⟩
 cases e with
 | normal =>
  obtain⟨d,l,k,j,i⟩:=q
  exact⟨μ d,l,d,rfl,k,b.sim.sub j,b.old,b.own.sub i⟩
 | _=>exact⟨fr',O',b,q⟩
def regQ (n:Nat)(wr:World)(Q:Fr->List It->Prop):Exit->Act->World->Prop:=fun e a w=>e = .normal/\∃ fr O,St n wr fr O a w/\Q fr O
def RL (P:Program)(n:Nat)(wr:World)(ops:Array Oper)(l:List Oper)(K:Fr->List It->Prop)(fr:Fr)(O:List It):Prop :=
 ∀ a w,St n wr fr O a w->wpList P ops (regQ n wr K) l a w
theorem W_region {f:Nat}{l:List Oper}(h:RL P n wr l.toArray l (Q .normal) fr O):W P n wr (.region f l.toArray false) Q fr O:=by
 intro a w d
 refine wp_mono (wp_region_lit (h a w d)) ?_
 rintro e g w' ⟨rfl,fr',O',b,c⟩
 exact⟨fr',O',b,c⟩
end
section
variable {P:Program}{n:Nat}{wr:World}{ops:Array Oper}{rest:List Oper}{K:Fr->List It->Prop}{fr:Fr}{O:List It}
theorem RL_nil (h:K fr O):RL P n wr ops [] K fr O:=fun _ _ a=>⟨rfl,fr,O,a,h⟩
theorem ZD7 {o:Oper}(e:o.guard=none)
  (h:∀ a w,St n wr fr O a w->∃ v w' fr' O',(execOp a.eval o).run P w = .ok (.value v) w'/\St n wr fr' O' (a.put o.dst v) w'/\RL P n wr ops rest K fr' O'):RL P n wr ops (o::rest) K fr O:=by
 intro a w g
 obtain⟨v,w',fr',O',b,c,f⟩:=h a w g
 refine wpList_plain e fun K' d=>?_
 unfold Oper.wp
 rw[b,Oper.upon_value]
 exact d _ _ (f _ _ c)
def Pu (P:Program)(n:Nat)(wr:World)(fr:Fr)(O:List It)(op:Op)(ty:TypeId)(v:Value):Prop :=
 ∀ a w,St n wr fr O a w->∀ (dst:Option Tmp) (pos:String) (af:Array Edge) (g:Option (Nat × Bool)),(execOp a.eval ⟨dst,op,ty,pos,af,g⟩).run P w = .ok (.value v) w
theorem RL_pu {d:Nat}{c:Op}{ty:TypeId}{pos:String}{af:Array Edge}{v:Value}(e:Nat.ble (d+1) n=true)(h:Pu P n wr fr O c ty v)(k:RL P n wr ops rest K ((d,v)::fr) O) :
  RL P n wr ops (⟨some d,c,ty,pos,af,none⟩::rest) K fr O :=
 ZD7 rfl fun a w b=>⟨v,w,_,_,h a w b _ _ _ _,⟨b.sim.put e v,b.old,b.own⟩,k⟩
def Stp (P:Program)(n:Nat)(wr:World)(fr:Fr)(O:List It)(o:Oper)(Kp:Value->List It->Prop):Prop :=
 ∀ a w,St n wr fr O a w->∀ (Kn:Act->World->Prop) (Q:Exit->Act->World->Prop),
  (∀ v O' w',Bel wr.heap.size wr w'->Zaz wr.heap.size O' w'->Kp v O'->Kn (a.put o.dst v) w')->o.wp P a w Kn Q
theorem RL_st {d:Nat}{c:Op}{ty:TypeId}{pos:String}{af:Array Edge}(j:Nat.ble (d+1) n=true)(h:Stp P n wr fr O ⟨some d,c,ty,pos,af,none⟩ fun v O'=>RL P n wr ops rest K ((d,v)::fr) O') :
  RL P n wr ops (⟨some d,c,ty,pos,af,none⟩::rest) K fr O:=by
 intro a w b
 refine wpList_plain rfl fun K' i=>h a w b _ _ fun v O' w' e f g=>i _ _ (g _ _ ⟨b.sim.put j v,e,f⟩)
theorem RL_st0 {c:Op}{ty:TypeId}{pos:String}{af:Array Edge}(h:Stp P n wr fr O ⟨none,c,ty,pos,af,none⟩ fun _ O'=>RL P n wr ops rest K fr O') :
  RL P n wr ops (⟨none,c,ty,pos,af,none⟩::rest) K fr O:=by
 intro a w b
 refine wpList_plain rfl fun K' g=>h a w b _ _ fun v O' w' d e f=>g _ _ (f _ _ ⟨b.sim,d,e⟩)
theorem ZbZ {o:Oper}{Kp:Value->List It->Prop}(h:∀ a w,St n wr fr O a w->∃ v w' O',(execOp a.eval o).run P w = .ok (.value v) w'/\Bel wr.heap.size wr w'/\Zaz wr.heap.size O' w'/\Kp v O'):Stp P n wr fr O o Kp:=by
 intro a w g Kn Q e
 obtain⟨v,w',O',f,b,c,d⟩:=h a w g
 unfold Oper.wp
 rw[f,Oper.upon_value]
 exact e v O' w' b c d
theorem Zfj {o:Oper}{Kp:Value->List It->Prop}(h:∀ a w,St n wr fr O a w->∃ w' O',(execOp a.eval o).run P w = .ok .skip w'/\Bel wr.heap.size wr w'/\Zaz wr.heap.size O' w'/\Kp undef O'):Stp P n wr fr O o Kp:=by
 intro a w g Kn Q e
 obtain⟨w',O',f,b,c,d⟩:=h a w g
 unfold Oper.wp
 rw[f,Oper.upon_skip]
 exact e undef O' w' b c d
theorem RL_yes {dst:Option Tmp}{f:Op}{ty:TypeId}{pos:String}{af:Array Edge}{j:Nat}{b:Bool}{e:Oper}{d:Nat}(i:ops[j]?=some e)(h:e.dst=some d)(g:look fr d=some (.bool b))
  (k:RL P n wr ops (⟨dst,f,ty,pos,af,none⟩::rest) K fr O):RL P n wr ops (⟨dst,f,ty,pos,af,some (j,b)⟩::rest) K fr O:=by
 intro a w c
 have:=k a w c
 have l:yielded ops a.tmps j=some b:=by simp[yielded,i,h,c.sim.at_ d _ g]
 simp only[wpList,Region.wanted,l,if_true,beq_self_eq_true]at this ⊢
 exact this
theorem RL_no {c:Nat}{l:Op}{ty:TypeId}{pos:String}{af:Array Edge}{j:Nat}{b f:Bool}{i:Oper}{d:Nat}(p:ops[j]?=some i)(o:i.dst=some d)(m:look fr d=some (.bool f))(h:f = !b)(g:Nat.ble (c+1) n=true)
  (k:RL P n wr ops rest K ((c,undef)::fr) O):RL P n wr ops (⟨some c,l,ty,pos,af,some (j,b)⟩::rest) K fr O:=by
 intro a w e
 have:=k (a.put (some c) undef) w ⟨e.sim.put g undef,e.old,e.own⟩
 have r:yielded ops a.tmps j=some f:=by simp[yielded,p,o,e.sim.at_ d _ m]
 have q:Region.wanted (⟨some c,l,ty,pos,af,some (j,b)⟩:Oper) (yielded ops a.tmps)=false:=by
  subst h
  simp[Region.wanted,r]
 simp only[wpList,q]
 exact this
theorem Pu_move {x:Operand}{ty:TypeId}{v:Value}(c:ev fr x=some v):Pu P n wr fr O (.move x) ty v :=
 fun a w b _ _ _ _=>by simp[execOp,b.sim.ev c,Sem.run_pure]
theorem Pu_assign {x:Operand}{ty:TypeId}{v:Value}(c:ev fr x=some v):Pu P n wr fr O (.assign x) ty v :=
 fun a w b _ _ _ _=>by simp[execOp,b.sim.ev c,Sem.run_pure]
end
def ZxY:TypeDesc->Bool | .struct _=>true | .array _ _=>true|_=>false
def Zsw (P:Program)(t:TypeId):Option (Nat × Bool) :=
 match P.info? t,P.underlying t with
 | some i,some d=>some (i.size,ZxY d)
 | _,_=>none
def Zlh (P:Program)(s f:Nat):Option (Nat × Nat × Bool) :=
 match P.underlying s with
 | some (.struct fs) =>
  match fs[f]? with
  | some fld =>
   match Zsw P fld.type with
   | some (sz,ag)=>if sz=0 then none else some (fld.offset,sz,ag)
   | none=>none
  | none=>none
 | _=>none
def ZiQ (P:Program)(t:TypeId):Option (TypeId × Nat × Nat) :=
 match P.underlying t with
 | some (.slice e)=>match P.info? e with|some i=>some (e,i.size,i.bytes)|none=>none
 | _=>none
def ZfA (P:Program)(t:TypeId):Option (List Value) :=
 match P.info? t with
 | some i=>match i.zero with|some z=>some z.cells.toList|none=>none
 | none=>none
class Ty (P:Program) (t:TypeId) (sz:outParam Nat) (ag:outParam Bool):Prop where
 h:Zsw P t=some (sz,ag):=by kernel_rfl
class FieldAt (P:Program) (s f:Nat) (off sz:outParam Nat) (ag:outParam Bool):Prop where
 h:Zlh P s f=some (off,sz,ag):=by kernel_rfl
class ElemT (P:Program) (t:TypeId) (e:outParam TypeId) (sz bytes:outParam Nat):Prop where
 h:ZiQ P t=some (e,sz,bytes):=by kernel_rfl
class ZeroT (P:Program) (t:TypeId) (z:outParam (List Value)):Prop where
 h:ZfA P t=some z:=by kernel_rfl
class StringT (P:Program) (t:TypeId):Prop where
 h:P.underlying t=some .string:=by kernel_rfl
class IntT (P:Program) (t:TypeId) (k:outParam IntKind):Prop where
 h:P.underlying t=some (.int k):=by kernel_rfl
theorem Ty.parts {P:Program}{t:TypeId}{sz:Nat}{a:Bool}(h:Zsw P t=some (sz,a)):∃ i d,P.info? t=some i/\i.size=sz/\P.underlying t=some d/\ZxY d=a:=by
 unfold Zsw at h
 split at h
 ·rename_i i d c b
  simp at h
  exact⟨i,d,c,h.1,b,h.2⟩
 ·cases h
theorem ZaN {P:Program}{t:TypeId}{i:TypeInfo}{w:World}(h:P.info? t=some i):(typeInfo t).run P w = .ok i w:=by
 simp[typeInfo,program,h,Sem.run]
theorem ZdE {P:Program}{t:TypeId}{sz:Nat}{a:Bool}[ht:Ty P t sz a]{w:World}:(sizeOf t).run P w = .ok sz w:=by
 obtain⟨i,d,b,c,_,_⟩:=Ty.parts ht.h
 simp[sizeOf,ZaN b,c]
theorem ZeC {P:Program}{t:TypeId}{sz:Nat}{a:Bool}[ht:Ty P t sz a]{w:World}:(isAgg t).run P w = .ok a w:=by
 obtain⟨i,d,_,_,c,b⟩:=Ty.parts ht.h
 subst b
 simp only[isAgg,Sem.run_bind,run_underlying c,Result.andThen_ok]
 cases d <;> rfl
def Zat (w:World)(ad:Addr)(cs:List Value):Prop:=∀ j v,cs[j]?=some v->w.cell? (ad.add j)=some v
theorem ZdF {P:Program}{w:World}{ad:Addr}:∀ (cs:List Value) (i:Nat) (a:Array Value),(∀ j v,cs[j]?=some v->w.cell? (ad.add (i+j))=some v) ->
  (loadCellsFrom ad i cs.length a).run P w = .ok (a++cs.toArray) w
 | [],i,a,_=>by simp[loadCellsFrom]
 | c::cs,i,a,h=>by
  have b:=h 0 c rfl
  simp only[Nat.add_zero]at b
  have:=ZdF (P:=P) cs (i+1) (a.push c) (fun j v d=>by have:=h (j+1) v (by simpa using d);rwa[show i+1+j=i+(j+1) from by omega])
  simp only[List.length_cons,loadCellsFrom,Sem.run_bind,load,Sem.run,b,Result.andThen_ok,this]
  simp
theorem ZeB {P:Program}{t:TypeId}{sz:Nat}[Ty P t sz true]{w:World}{ad:Addr}{cs:List Value}(b:cs.length=sz)(h:Zat w ad cs) :
  (loadVar t ad).run P w = .ok (.agg cs.toArray) w:=by
 have:=ZdF (P:=P) cs 0 #[] (fun j v a=>by simpa using h j v a)
 subst b
 simp only[loadVar,Sem.run_bind,ZeC,Result.andThen_ok,if_true,ZdE,loadCells,this,Sem.run_pure]
 simp
theorem Zc3 {P:Program}{t:TypeId}{sz:Nat}[Ty P t sz false]{w:World}{ad:Addr}{v:Value}(h:w.cell? ad=some v) :
  (loadVar t ad).run P w = .ok v w:=by
 simp only[loadVar,Sem.run_bind,ZeC,Result.andThen_ok,Bool.false_eq_true,if_false,load,Sem.run,h]
def Zbg (w:World)(ad:Addr):List Value->Nat->World
 | [],_=>w
 | v::r,i=>Zbg (w.setCell (ad.add i) v) ad r (i+1)
section
variable {P:Program}{n:Nat}{wr:World}{ops:Array Oper}{rest:List Oper}{K:Fr->List It->Prop}{fr:Fr}{O:List It}{ty:TypeId}{pos:String}{af:Array Edge}{d:Nat}
theorem Pu_pickT {c x y:Operand}{v:Value}(d:ev fr c=some (.bool true))(e:ev fr x=some v):Pu P n wr fr O (.pick c x y) ty (v) :=
 fun a w b _ _ _ _=>by simp[execOp,b.sim.ev d,b.sim.ev e,asBool]
theorem Pu_pickF {c x y:Operand}{v:Value}(d:ev fr c=some (.bool false))(e:ev fr y=some v):Pu P n wr fr O (.pick c x y) ty (v) :=
 fun a w b _ _ _ _=>by simp[execOp,b.sim.ev d,b.sim.ev e,asBool]
theorem Pu_fieldAddr {s f b sz:Nat}{e:Bool}{x:Operand}{ad:Addr}[hF:FieldAt P s f b sz e](q:ev fr x=some (.pointer (some ad))):Pu P n wr fr O (.fieldAddr s x f) ty (.pointer (some (ad.add b))) :=
 fun a w m _ _ _ _=>by
  have h:=hF.h
  unfold Zlh at h
  split at h
  ·rename_i t p
   split at h
   ·rename_i j k
    split at h
    ·rename_i r g o
     split at h
     ·cases h
     ·rename_i c
      simp only[Option.some.injEq,Prod.mk.injEq]at h
      obtain⟨rfl,rfl,rfl⟩:=h
      obtain⟨i,dd,l,d,_,_⟩:=Ty.parts o
      simp only[execOp,m.sim.ev q,Instr.fieldAt,Sem.run_bind,run_underlying p,Result.andThen_ok,k,Instr.sureAddr,Sem.run_pure,fieldPlace,sizeOf,ZaN l,d,if_neg c]
    ·cases h
   ·cases h
  ·cases h
theorem ZlH {t sz:Nat}{x:Operand}{ad:Addr}{v:Value}[Ty P t sz false](c:ev fr x=some (.pointer (some ad)))
  (h:∀ w,Bel wr.heap.size wr w->Zaz wr.heap.size O w->w.cell? ad=some v):Pu P n wr fr O (.load t x) ty (v) :=
 fun a w b _ _ _ _=>by simp only[execOp,b.sim.ev c,Instr.loadAt,Instr.sureAddr,Sem.run_bind,Sem.run_pure,Result.andThen_ok,Zc3 (h w b.old b.own)]
theorem ZgA {t sz:Nat}{x:Operand}{ad:Addr}{cs:List Value}[Ty P t sz true](d:ev fr x=some (.pointer (some ad)))(c:cs.length=sz)
  (h:∀ w,Bel wr.heap.size wr w->Zaz wr.heap.size O w->Zat w ad cs):Pu P n wr fr O (.load t x) ty (.agg cs.toArray) :=
 fun a w b _ _ _ _=>by simp only[execOp,b.sim.ev d,Instr.loadAt,Instr.sureAddr,Sem.run_bind,Sem.run_pure,Result.andThen_ok,ZeB c (h w b.old b.own)]
theorem ZcR {w:World}{b:Nat}{cs:List Value}{t:TypeId}(h:(It.blk b cs t).sat w)(j:Nat):w.cell? ⟨b,j,none⟩=cs[j]?:=by
 simp only[It.sat]at h
 simp[World.cell?,h]
theorem Pu_loadB1 {t sz b j:Nat}{x:Operand}{cs:List Value}{a:TypeId}{v:Value}{R:List It}[Ty P t sz false](f:ev fr x=some (.pointer (some ⟨b,j,none⟩)))
  (d:Pick (.blk b cs a) O R) (e:cs[j]?=some v):Pu P n wr fr O (.load t x) ty (v) :=
 ZlH f (fun w _ c=>by rw[ZcR (c.sat _ (d.perm.mem_iff.2 List.mem_cons_self)),e])
theorem Zcl (b j i:Nat):(⟨b,j,none⟩:Addr).add i=⟨b,j+i,none⟩:=by
 unfold Addr.add
 split
 ·rename_i h;subst h;rfl
 ·rfl
theorem ZnI {t sz b j:Nat}{x:Operand}{cs:List Value}{c:TypeId}{R:List It}[Ty P t sz true](h:ev fr x=some (.pointer (some ⟨b,j,none⟩)))
  (f:Pick (.blk b cs c) O R) {vs:List Value} (g:(cs.drop j).take sz=vs) (e:vs.length=sz):Pu P n wr fr O (.load t x) ty (.agg vs.toArray) :=
 ZgA h e (fun w _ d i v a=>by
  rw[Zcl,ZcR (d.sat _ (f.perm.mem_iff.2 List.mem_cons_self))]
  subst g
  rw[List.getElem?_take]at a
  split at a
  ·rw[<- a,List.getElem?_drop]
  ·cases a)
theorem St.fresh {a:Act}{w:World}{cs:List Value}{t:TypeId}(c:St n wr fr O a w) :
  Bel wr.heap.size wr (w.alloc (.cells cs.toArray t))/\Zaz wr.heap.size (.blk w.heap.size cs t::O) (w.alloc (.cells cs.toArray t)):=by
 have f:Bel w.heap.size w (w.alloc (.cells cs.toArray t)):=(Bel.refl _ _).alloc (Nat.le_refl _) _
 refine⟨c.old.trans (f.mono c.old.size),?_⟩
 refine c.own.grow (O':=[.blk w.heap.size cs t]) f c.old.size ⟨fun i e=>?_,fun i e b d=>?_,List.pairwise_singleton _ _⟩
 ·rw[List.mem_singleton.1 e]
  exact heap_alloc_new w _
 ·rw[List.mem_singleton.1 e]at d
  simp only[It.S]at d
  subst d
  exact⟨Nat.le_refl _,by simp⟩
theorem ZA9 {t:TypeId}{x:Operand}{v:Value}{c:Option Tmp}{g:Option (Nat × Bool)}{Kp:Value->List It->Prop}(e:ev fr x=some v)
  (k:∀ b,Kp (.pointer (some ⟨b,0,none⟩)) (.blk b v.cells.toList t::O)):Stp P n wr fr O ⟨c,.box t x,ty,pos,af,g⟩ Kp :=
 ZbZ fun a w d=>⟨.pointer (some ⟨w.heap.size,0,none⟩),w.alloc (.cells v.cells t),_,by
  simp[execOp,d.sim.ev e,Instr.box,newVar,newRow,newObj,Sem.run],
  by have:=(d.fresh (cs:=v.cells.toList) (t:=t)).1;simpa using this,by have:=(d.fresh (cs:=v.cells.toList) (t:=t)).2;simpa using this,k _⟩
theorem Stp_alloc {t:TypeId}{z:List Value}{c:Option Tmp}{g:Option (Nat × Bool)}{Kp:Value->List It->Prop}[hz:ZeroT P t z]
  (k:∀ b,Kp (.pointer (some ⟨b,0,none⟩)) (.blk b z t::O)):Stp P n wr fr O ⟨c,.alloc t,ty,pos,af,g⟩ Kp :=
 ZbZ fun a w f=>by
  have h:=hz.h
  unfold ZfA at h
  split at h
  ·rename_i i j
   split at h
   ·rename_i e d
    simp only[Option.some.injEq]at h
    subst h
    refine⟨.pointer (some ⟨w.heap.size,0,none⟩),w.alloc (.cells e.cells t),_,?_,by have:=(f.fresh (cs:=e.cells.toList) (t:=t)).1;simpa using this,by have:=(f.fresh (cs:=e.cells.toList) (t:=t)).2;simpa using this,k _⟩
    simp[execOp,Instr.alloc,zeroValue,ZaN j,d,newVar,newRow,newObj,Sem.run]
   ·cases h
  ·cases h
theorem Zct {P:Program}{ad:Addr}:∀ (vs:List Value) (w:World) (i:Nat),(∀ v∈vs,v.oneCell'=true)->(∀ j,j<vs.length->(w.cell? (ad.add (i+j))).isSome/\w.frozen? (ad.add (i+j))=false) ->
  (storeCells ad vs i).run P w = .ok () (Zbg w ad vs i)
 | [],w,i,_,_=>by simp[storeCells,Zbg]
 | v::r,w,i,h1,h2=>by
  have b:=h2 0 (by simp)
  simp only[Nat.add_zero]at b
  obtain⟨u,f⟩:=Option.isSome_iff_exists.1 b.1
  have a:=h1 v List.mem_cons_self
  have h:=Zct (P:=P) (ad:=ad) r (w.setCell (ad.add i) v) (i+1) (fun x d=>h1 x (List.mem_cons_of_mem _ d)) (fun j e=>by
   have:=h2 (j+1) (by simpa using e)
   rw[show i+(j+1)=i+1+j from by omega]at this
   refine⟨?_,?_⟩
   ·obtain⟨x,d⟩:=Option.isSome_iff_exists.1 this.1
    obtain⟨y,g⟩:=cell?_setCell_some (w:=w) (p:=ad.add i) (x:=v) (q:=ad.add (i+1+j)) (v:=x) d
    simp[g]
   ·rw[World.frozen?_setCell];exact this.2)
  have c:(store (ad.add i) v).run P w = .ok () (w.setCell (ad.add i) v):=by
   cases v <;> first|(simp[Value.oneCell']at a;done)|simp[store,Sem.run,f,b.2]
  simp only[storeCells,Sem.run_bind,c,Result.andThen_ok,h,Zbg]
theorem Zbt {ad:Addr}:∀ (vs:List Value) (w:World) (i b:Nat),b≠ad.block->(Zbg w ad vs i).heap[b]?=w.heap[b]?
 | [],_,_,_,_=>rfl
 | v::r,w,i,b,hb=>by
  rw[Zbg,Zbt r _ _ b hb,Below.heap_setCell]
  intro e
  apply hb
  rw[e]
  unfold Addr.add
  split <;> rfl
theorem Zbs {ad:Addr}:∀ (vs:List Value) (w:World) (i:Nat),(Zbg w ad vs i).heap.size=w.heap.size
 | [],_,_=>rfl
 | v::r,w,i=>by rw[Zbg,Zbs r];simp[World.setCell]
theorem Zbi {ad:Addr}:∀ (vs:List Value) (w:World) (i:Nat),(Zbg w ad vs i).os=w.os/\(Zbg w ad vs i).tape=w.tape/\(Zbg w ad vs i).output=w.output
 | [],_,_=>⟨rfl,rfl,rfl⟩
 | v::r,w,i=>by rw[Zbg];exact Zbi r _ _
def lay (cs:List Value)(j:Nat):List Value->List Value
 | []=>cs
 | v::r=>lay (cs.set j v) (j+1) r
theorem lay_length (j:Nat):∀ (vs cs:List Value),(lay cs j vs).length=cs.length
 | [],_=>rfl
 | v::r,cs=>by rw[lay,lay_length (j+1) r,List.length_set]
theorem Zdj {b j:Nat}{t:TypeId}:∀ (vs cs:List Value) (w:World) (i:Nat),w.heap[b]?=some (.cells cs.toArray t (0,0)) ->
  (Zbg w ⟨b,j,none⟩ vs i).heap[b]?=some (.cells (lay cs (j+i) vs).toArray t (0,0))
 | [],_,_,_,h=>h
 | v::r,cs,w,i,h=>by
  rw[Zbg,lay,show j+i+1=j+(i+1) from rfl]
  refine Zdj r (cs.set (j+i) v) _ (i+1) ?_
  rw[Zcl]
  simp[World.setCell,Array.getElem?_modify,h]
theorem Zg2 {t sz b j:Nat}{z:Bool}{x y:Operand}{cs:List Value}{p:TypeId}{v:Value}{vs f:List Value}{O':List It}{q:Option Tmp}{g:Option (Nat × Bool)}{Kp:Value->List It->Prop}[hT:Ty P t sz z]
  (F:ev fr x=some (.pointer (some ⟨b,j,none⟩))) (G:ev fr y=some v)
  (m:Upd O (.blk b cs p) (.blk b f p) O') (o:v.cells.toList=vs) (E:vs.length=sz) (A:vs.all Value.oneCell'=true) (C:Nat.ble (j+sz) cs.length=true) (B:lay cs j vs=f)
  (k:Kp undef O'):Stp P n wr fr O ⟨q,.store t x y,ty,pos,af,g⟩ Kp:=by
 refine Zfj fun a w e=>?_
 have D:j+sz<=cs.length:=Nat.le_of_ble_eq_true C
 have c:=e.own.sat _ m.mem
 have H:=e.own.inb _ m.mem b rfl
 have d:∀ i,w.cell? ⟨b,i,none⟩=cs[i]?:=fun i=>ZcR c i
 have r:∀ i,w.frozen? ⟨b,i,none⟩=false:=fun i=>by
  simp only[It.sat]at c
  simp[World.frozen?,c]
 have l:=Zct (P:=P) (ad:=⟨b,j,none⟩) vs w 0 (fun u m=>List.all_eq_true.1 A u m) (fun i h=>by
  rw[Zcl,d,r]
  refine⟨?_,rfl⟩
  rw[List.getElem?_eq_getElem (by omega)]
  rfl)
 refine⟨Zbg w ⟨b,j,none⟩ vs 0,O',?_,?_,?_,k⟩
 ·have s:v.cells.size=sz:=by rw[<- E,<- o];simp
  simp only[execOp,e.sim.ev F,e.sim.ev G,Instr.storeAt,Instr.sureAddr,Sem.run_bind,Sem.run_pure,Result.andThen_ok,storeVar,ZdE,s,ne_eq,not_true,if_false,o,l]
 ·refine e.old.trans ⟨⟨(Zbi vs w 0).1,(Zbi vs w 0).2.1,(Zbi vs w 0).2.2,by rw[Zbs];exact Nat.le_refl _,fun i h=>Zbt vs w 0 i (by show i≠b;omega)⟩⟩
 ·refine e.own.upd m e.old.size (by rw[Zbs];exact Nat.le_refl _) (fun i _ h=>Zbt vs w 0 i h) ?_ (fun i h=>Or.inl h)
  have:=Zdj (b:=b) (j:=j) (t:=p) vs cs w 0 c
  simp only[Nat.add_zero]at this
  rw[B]at this
  exact this
