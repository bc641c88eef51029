/- Parts of the proof. -/
import Derived.Test.YtpipekfmecikmaaGreatDoorA03
import Derived.Maps.AppendAt
import Derived.Lib.SliceRun
import Derived.ProofKit
import Derived.OpenShut
import Derived.JoinedCond
import Derived.Deep.Slices
set_option maxHeartbeats 0
set_option linter.all false
namespace Go.Wk
open Go Go.RowKit
def ZAJ (P:Program)(t:TypeId):Option (TypeId × Nat × Nat × Bool) :=
 match P.underlying t with
 | some (.slice e)=>match P.info? e with|some i=>(match i.zero with|some z=>some (e,i.size,i.bytes,Nat.beq z.cells.size i.size&&Nat.ble 1 i.size)|none=>none)|none=>none
 | _=>none
class ElemZ (P:Program) (t:TypeId) (e:outParam TypeId) (sz bytes:outParam Nat):Prop where
 h:ZAJ P t=some (e,sz,bytes,true):=by kernel_rfl
theorem ElemZ.parts {P:Program}{t e:TypeId}{sz bytes:Nat}(h:ZAJ P t=some (e,sz,bytes,true)) :
  ∃ i z,P.underlying t=some (.slice e)/\P.info? e=some i/\i.zero=some z/\i.size=sz/\i.bytes=bytes/\z.cells.size=sz/\0<sz:=by
 unfold ZAJ at h
 split at h
 ·rename_i g d
  split at h
  ·rename_i i c
   split at h
   ·rename_i z f
    simp only[Option.some.injEq,Prod.mk.injEq,Bool.and_eq_true]at h
    obtain⟨rfl,rfl,rfl,a,b⟩:=h
    exact⟨i,z,d,c,f,rfl,rfl,Nat.eq_of_beq_eq_true a,Nat.le_of_ble_eq_true b⟩
   ·cases h
  ·cases h
 ·cases h
def Zz9 (P:Program)(t:TypeId):Option Value:=match P.info? t with|some i=>i.zero|none=>none
class ZeroV (P:Program) (t:TypeId) (v:outParam Value):Prop where
 h:Zz9 P t=some v:=by kernel_rfl
theorem ZeA {P:Program}{t:TypeId}{v:Value}[hz:ZeroV P t v]{w:World}:(zeroValue t).run P w = .ok v w:=by
 have h:=hz.h
 unfold Zz9 at h
 split at h
 ·rename_i i a
  simp[zeroValue,ZaN a,h]
 ·cases h
def Raw (w:World)(A:Option Addr)(cs:List Value):Prop:=∀ j u,cs[j]?=some u->A≠none/\w.cell? ((adr A).add j)=some u
theorem ZbK (a:Addr)(i j:Nat):(a.add i).add j=a.add (i+j):=by
 unfold Addr.add
 by_cases b:i=0 <;> by_cases c:j=0 <;> simp[b,c,Nat.add_assoc]
theorem ZgH {P:Program}(w:World)(base:Nat)(t ty e:TypeId)(i:TypeInfo)(b:Nat)(f:P.underlying t=some (.slice e))(d:P.info? e=some i)
  (v:Value) (n:Nat) (xs:List Value) (a:w.ownsRow base e b v n xs) (c:Nat):(Builtin.append_ #[t,t] ty #[v,.slice none 0 c]).run P w = .ok v w:=by
 rcases a.2 with⟨rfl,rfl⟩|⟨g,cap,cur,rfl,_,_,hnc,_⟩
 ·simp[Builtin.append_,run_underlying f,sizeOf,typeInfo,d,Builtin.lenOf,Builtin.firstCells]
 ·simp[Builtin.append_,run_underlying f,sizeOf,typeInfo,d,Builtin.lenOf,Builtin.firstCells,hnc,storeCells]
theorem ZfX {w:World}{e:TypeId}{a n:Nat}{v:Value}{xs:List Value}(h:w.ownsRow 0 e a v n xs) :
  ∃ A c,v = .slice A n c/\n<=c/\c<=maxLen/\(0<n->A≠none)/\xs.length=n*a:=by
 refine(h.2.elim ?_ ?_)
 ·rintro⟨rfl,rfl⟩
  exact⟨none,0,rfl,Nat.le_refl _,Nat.zero_le _,fun h=>absurd h (by omega),h.1⟩
 ·rintro⟨g,cap,cur,rfl,_,_,h1,h2,_⟩
  exact⟨_,cap,rfl,h1,h2,fun _=>by simp,h.1⟩
theorem Zbc {w:World}{e:TypeId}{a n c:Nat}{A:Option Addr}{xs:List Value}(h:w.ownsRow 0 e a (.slice A n c) n xs){j:Nat}{u:Value}(f:xs[j]?=some u):A≠none/\w.cell? ((adr A).add j)=some u:=by
 have b:=h.1
 have d:j<xs.length:=(List.getElem?_eq_some_iff.1 f).1
 rcases h.2 with⟨hv,hn⟩|⟨g,cap,cur,hv,_,hg,_,_,_,hx⟩
 ·subst hn
  rw[b]at d
  simp at d
 ·injection hv with hA _ hc
  subst hA
  refine⟨by simp,?_⟩
  simp only[adr,Option.getD_some,Zcl,Nat.zero_add]
  rw[World.cell?]
  simp only[hg]
  rw[<- hx]at f
  have i:j<n*a:=by omega
  rw[List.getElem?_take,if_pos i]at f
  simpa using f
section
variable {P:Program}{n:Nat}{wr:World}{ops:Array Oper}{rest:List Oper}{K:Fr->List It->Prop}{fr:Fr}{O:List It}{ty:TypeId}{pos:String}{af:Array Edge}{dst:Option Tmp}{g:Option (Nat × Bool)}{Kp:Value->List It->Prop}
theorem ZCj {c:Code}{Q:Exit->Fr->List It->Prop}{φ:Prop}(d:∀ w,Bel wr.heap.size wr w->Zaz wr.heap.size O w->φ)(h:φ->W P n wr c Q fr O):W P n wr c Q fr O:=fun a w b=>h (d w b.old b.own) a w b
theorem Zaz.rowNil {base:Nat}{w:World}(h:Zaz base O w)(e:TypeId)(a:Nat):Zaz base (.row (.slice none 0 0) e a 0 []::O) w :=
 ⟨fun i c=>by
  rcases List.mem_cons.1 c with rfl|c
  ·exact World.ownsRow_nil w 0 e a
  ·exact h.sat i c,fun i c b d=>by
  rcases List.mem_cons.1 c with rfl|c
  ·simp[It.S,Value.ownBlock]at d
  ·exact h.inb i c b d,List.pairwise_cons.2 ⟨fun _ _ b d=>by simp[It.S,Value.ownBlock]at d,h.sep⟩⟩
theorem Zdy {c:Code}{Q:Exit->Fr->List It->Prop}(e:TypeId)(b:Nat)(h:W P n wr c Q fr (.row (.slice none 0 0) e b 0 []::O)):W P n wr c Q fr O:=fun a w d=>h a w ⟨d.sim,d.old,d.own.rowNil e b⟩
theorem Zaz.toRow {base b m:Nat}{cs:List Value}{t:TypeId}{O':List It}{w:World}(h:Zaz base O w)(a:Nat)(g:cs.length=m*a)(r:m<=maxLen)(n:Upd O (.blk b cs t) (.row (.slice (some ⟨b,0,none⟩) m m) t a m cs) O'):Zaz base O' w:=by
 have e:=h.sat _ n.mem
 have l:=h.inb _ n.mem b rfl
 obtain⟨R,o,p⟩:=n.parts
 have f:=h.perm o
 refine(?_:Zaz base (_::R) w).perm p.symm
 refine⟨fun i c=>?_,fun i c=>?_,List.pairwise_cons.2 ⟨fun j q k d=>?_,(List.pairwise_cons.1 f.sep).2⟩⟩
 ·rcases List.mem_cons.1 c with rfl|c
  ·exact⟨g,.inr ⟨b,m,cs.toArray,rfl,Nat.zero_le _,e,Nat.le_refl _,r,by simpa using g,by rw[<- g];simp⟩⟩
  ·exact f.tail.sat i c
 ·rcases List.mem_cons.1 c with rfl|c
  ·intro k d
   simp only[It.S,Value.ownBlock,Option.some.injEq]at d
   subst d
   exact l
  ·exact f.tail.inb i c
 ·simp only[It.S,Value.ownBlock,Option.some.injEq]at d
  subst d
  exact(List.pairwise_cons.1 f.sep).1 j q b rfl
theorem Zpe {c:Code}{Q:Exit->Fr->List It->Prop}{b m:Nat}{cs:List Value}{t:TypeId}{O':List It}(d:Nat)(i:Upd O (.blk b cs t) (.row (.slice (some ⟨b,0,none⟩) m m) t d m cs) O')(f:cs.length=m*d)(g:m<=maxLen)
  (h:W P n wr c Q fr O'):W P n wr c Q fr O:=fun a w e=>h a w ⟨e.sim,e.old,e.own.toRow d f g i⟩
theorem ZaC {t e sz l:Nat}{s x:Operand}{A B:Option Addr}{m c k I:Nat}{xs d:List Value}{O':Option Addr->Nat->List It}[hE:ElemZ P t e sz l]
  (hs:ev fr s=some (.slice A m c)) (hx:ev fr x=some (.slice B k I))
  (C:∀ A' c',Upd O (.row (.slice A m c) e sz m xs) (.row (.slice A' (m+k) c') e sz (m+k) (xs++d)) (O' A' c'))
  (H:∀ w,Bel wr.heap.size wr w->Zaz wr.heap.size O w->Raw w B d) (W:d.length=k*sz) (Y:d.all Value.oneCell'=true) (J:m+k<=maxLen) (q:(m+k)*l<=140737488355328)
  (kk:∀ A' c',m+k<=c'->c'<=maxLen->(0<m+k->A'≠none)->Kp (.slice A' (m+k) c') (O' A' c')):Stp P n wr fr O ⟨dst,.call ⟨.builtin .append,#[s,x],#[t,t]⟩,ty,pos,af,g⟩ Kp:=by
 refine ZbZ fun a w f=>?_
 obtain⟨i,z,X,V,hz,T,K,U,y⟩:=ElemZ.parts hE.h
 have p:w.ownsRow 0 e sz (.slice A m c) m xs:=f.own.sat _ (C none 0).mem
 have R:=H w f.old f.own
 have key:∃ D w',(Builtin.append_ #[t,t] ty #[.slice A m c,.slice B k I]).run P w = .ok D w'/\w'.ownsRow 0 e sz D (m+k) (xs++d)/\w.grownBy w' (Value.slice A m c).ownBlock /\
   (D.ownBlock=(Value.slice A m c).ownBlock\/D.ownBlock=some w.heap.size):=by
  rcases B with _|ad
  ·have hn:d=[]:=by
    cases hnw:d with
    | nil=>rfl
    | cons u r =>
     rw[hnw]at R
     exact absurd rfl (R 0 u rfl).1
   subst hn
   have hk:k=0:=by
    rcases Nat.eq_zero_or_pos k with h|h
    ·exact h
    ·have:=Nat.mul_pos h y
     simp at W
     omega
   subst hk
   exact⟨_,w,ZgH w 0 t ty e i sz X V _ m xs p I,by simpa using p,World.grownBy.refl w _,.inl rfl⟩
  ·obtain⟨D,w',o,E,F,_,v⟩:=run_append_own_at (P:=P) w 0 t ty e i z sz l X V hz T K U y _ m xs p ad k I d W (fun j u C=>by simpa[adr] using(R j u C).2) (fun u C=>List.all_eq_true.1 Y u C) J q (Nat.zero_le _)
   exact⟨D,w',o,E,F,v⟩
 obtain⟨D,w',o,E,F,v⟩:=key
 obtain⟨A',c',rfl,L,M,N,_⟩:=ZfX E
 have G:=f.own.inb _ (C A' c').mem
 refine⟨_,w',O' A' c',?_,?_,?_,kk A' c' L M N⟩
 ·simp only[execOp,resolve,invoke,builtin,Sem.run_bind,Sem.run_pure,Result.andThen_ok,List.map_toArray,List.map_cons,List.map_nil,f.sim.ev hs,f.sim.ev hx,o]
 ·exact f.old.grown F (ZsL _ _ _ _ o) f.old.size fun k' Q=>(G k' Q).1
 ·refine f.own.upd (C A' c') f.old.size F.size (fun b q Z=>F.block b q fun he=>Z he.symm) E fun b q=>?_
  simp only[It.S]at q ⊢
  rcases v with v|v
  ·left;rw[<- v];exact q
  ·right
   rw[v]at q
   injection q with q
   subst q
   refine⟨Nat.le_refl _,?_⟩
   have:=E.lt w.heap.size v
   exact this.2
def Zel (len sz:Nat)(z:List Value):List Value:=(List.range (len*sz)).map fun i=>z[i % z.length]!
def Zfs (len sz:Nat):List (Nat × Nat):=(List.range len).map fun i=>(i*sz,sz)
theorem ZiL (sz:Nat):∀ (len:Nat) (j:List (Nat × Value)) (cs a:List Value),bld (Zfs len sz) cs j=some a->Instr.fill (fun i=>some (i*sz,sz)) cs.toArray j=some a.toArray
 | _,[],cs,a,h=>by simp only[bld,Option.some.injEq]at h;subst h;rfl
 | len,(i,v)::r,cs,a,h=>by
  simp only[bld]at h
  split at h
  ·cases h
  ·rename_i c s g
   cases hb:(Nat.beq v.cells.toList.length s&&Nat.ble (c+s) cs.length) with
   | false=>rw[hb]at h;cases h
   | true =>
    rw[hb]at h
    simp only[Bool.and_eq_true]at hb
    have l:=Nat.eq_of_beq_eq_true hb.1
    have t:=Nat.le_of_ble_eq_true hb.2
    have b:c=i*sz/\s=sz:=by
     simp only[Zfs,List.getElem?_map,Option.map_eq_some_iff]at g
     obtain⟨k,n,e⟩:=g
     have f:k=i:=by
      have:=List.getElem?_eq_some_iff.1 n
      simpa using this.2.symm
     subst f
     simp only[Prod.mk.injEq]at e
     exact⟨e.1.symm,e.2.symm⟩
    obtain⟨rfl,rfl⟩:=b
    simp only[Instr.fill]
    have d:v.cells.size=s:=by simpa using l
    rw[if_neg (by simp[d];omega)]
    have m:=ZgS (i*s) v.cells.toList cs 0
    have o:(Array.zipIdx v.cells).foldl (fun(cs:Array Value) (p:Value × Nat)=>cs.setIfInBounds (i*s+p.2) p.1) cs.toArray=(lay cs (i*s) v.cells.toList).toArray:=by
     rw[<- Array.foldl_toList,Array.toList_zipIdx]
     simpa using m
    have q:=ZiL s len r (lay cs (i*s) v.cells.toList) a (by simpa using h)
    rw[<- q,<- o]
theorem Zdu {t e sz b len:Nat}{z:List Value}{vs:List (Nat × Value)}{cs:List Value}[hE:ElemZ P t e sz b][hz:ZeroT P e z](c:Nat.ble (len*sz) 16777216=true)(p:bld (Zfs len sz) (Zel len sz z) vs=some cs)(w:World) :
  (Instr.buildSlice t len vs.toArray).run P w = .ok (.slice (some ⟨w.heap.size,0,none⟩) len len) (w.alloc (.cells cs.toArray e)):=by
 obtain⟨i,o,r,g,d,l,q,s,n⟩:=ElemZ.parts hE.h
 have h:=hz.h
 unfold ZfA at h
 rw[g]at h
 simp only[d,Option.some.injEq]at h
 have k:¬ len*sz>2 ^ 24:=by have:=Nat.le_of_ble_eq_true c;omega
 have m:=ZiL sz len vs (Zel len sz z) cs p
 simp only[Instr.buildSlice,Sem.run_bind,run_underlying r,Result.andThen_ok,sizeOf,ZaN g,l,if_neg k,Sem.run_pure]
 by_cases f:len*sz=0
 ·have a:((Array.range (len*sz)).map fun j=>(#[]:Array Value)[j % (#[]:Array Value).size]!)=(Zel len sz z).toArray:=by simp[f,Zel]
  rw[if_pos f]
  simp only[Sem.run_bind,Sem.run_pure,Result.andThen_ok]
  rw[a,m]
  simp[newRow,newObj,Sem.run]
 ·have a:((Array.range (len*sz)).map fun j=>o.cells[j % o.cells.size]!)=(Zel len sz z).toArray:=by
   subst h
   simp only[Zel,Array.length_toList,Array.getElem!_toList]
   rw[<- List.toArray_range,List.map_toArray]
  rw[if_neg f]
  simp only[Sem.run_bind,Sem.run_pure,Result.andThen_ok,zeroValue,ZaN g,d]
  rw[a,m]
  simp[newRow,newObj,Sem.run]
theorem Zjr {t e sz c len:Nat}{z:List Value}{i:List (Nat × Operand)}{vs:List (Nat × Value)}{cs:List Value}[hE:ElemZ P t e sz c][hz:ZeroT P e z](k:evpO fr i=some vs)(d:Nat.ble (len*sz) 16777216=true)
  (j:bld (Zfs len sz) (Zel len sz z) vs=some cs) (l:∀ b,Kp (.slice (some ⟨b,0,none⟩) len len) (.blk b cs e::O)):Stp P n wr fr O ⟨dst,.buildSlice t len i.toArray,ty,pos,af,g⟩ Kp :=
 ZbZ fun a w h=>⟨_,_,_,by
  have f:(Array.map (fun(x:Nat × Operand)=>(x.1,a.eval x.2)) i.toArray)=vs.toArray:=by
   have:=h.sim.evpO k
   simpa using this
  simp only[execOp,f,Sem.run_bind,Zdu d j,Result.andThen_ok,Sem.run_pure],h.fresh.1,h.fresh.2,l _⟩
theorem ZlP {t e sz c len:Nat}{z:List Value}{h:List (Nat × Operand)}{vs:List (Nat × Value)}{cs:List Value}{d i dd:Nat}[hE:ElemZ P t e sz c][hz:ZeroT P e z](l:evpO fr h=some vs)(f:Nat.ble (len*sz) 16777216=true)
  (j:bld (Zfs len sz) (Zel len sz z) vs=some cs):Ay P n wr ops fr ⟨some d,.buildSlice t len h.toArray,ty,pos,af,none⟩ ⟨i,dd,fun b => .slice (some ⟨b,0,none⟩) len len,cs,e,fun b => .blk b cs e⟩:=⟨ItOk.blk,fun a w k=>by
 refine⟨rfl,?_⟩
 have g:(Array.map (fun(x:Nat × Operand)=>(x.1,a.eval x.2)) h.toArray)=vs.toArray:=by
  have:=k.evpO l
  simpa using this
 simp only[execOp,g,Sem.run_bind,Zdu f j,Result.andThen_ok,Sem.run_pure]⟩
theorem Zwr {w:World}{b e sz:Nat}(h:w.heap[b]?=some (.cells (List.toArray []) e (0,0))):(It.row (.slice (some ⟨b,0,none⟩) 0 0) e sz 0 []).sat w :=
 ⟨by simp,.inr ⟨b,0,#[],rfl,Nat.zero_le _,h,Nat.le_refl _,Nat.zero_le _,by simp,by simp⟩⟩
theorem Stp_buildSlice0 {t e sz c:Nat}{z:List Value}[hE:ElemZ P t e sz c][hz:ZeroT P e z](f:∀ b,Kp (.slice (some ⟨b,0,none⟩) 0 0) (.row (.slice (some ⟨b,0,none⟩) 0 0) e sz 0 []::O)):Stp P n wr fr O ⟨dst,.buildSlice t 0 #[],ty,pos,af,g⟩ Kp :=
 ZbZ fun a w d=>⟨_,_,_,by
  have:=Zdu (P:=P) (t:=t) (len:=0) (vs:=[]) (cs:=[]) (by simp) (by simp[bld,Zel]) w
  simp only[execOp,List.map_toArray,List.map_nil,Sem.run_bind,this,Result.andThen_ok,Sem.run_pure],d.fresh.1,d.fresh.2.swapHead ⟨fun j=>by simp[It.S,Value.ownBlock,eq_comm],fun _ h=>Zwr h⟩,f _⟩
theorem Pu_eqNil {t t' e sz b:Nat}{x:Operand}{A:Option Addr}{m c:Nat}[hE:ElemT P t e sz b](k:ev fr x=some (.slice A m c)):Pu P n wr fr O (.binOp .eql t x (.const (.slice none 0 0)) t') ty (.bool A.isNone) :=
 fun a w i _ _ _ _=>by
  have h:=hE.h
  unfold ZiQ at h
  split at h
  ·rename_i d j
   have f:a.eval (.const (.slice none 0 0)) = .slice none 0 0:=rfl
   have g:(eqGuard .eql t x (.const (.slice none 0 0)) (.slice A m c) (.slice none 0 0)).run P w = .ok () w:=by simp[eqGuard]
   simp only[execOp,i.sim.ev k,f,Sem.run_bind,g,Result.andThen_ok,Lib.run_eql_slice_nil w t d A m c 0 0 j,Sem.run_pure]
  ·cases h
end
def mget (m:List (ByteArray × Value))(k:ByteArray):Option Value :=
 match m with
 | []=>none
 | (x,v)::r=>if k=x then some v else mget r k
def mset (m:List (ByteArray × Value))(k:ByteArray)(v:Value):List (ByteArray × Value) :=
 match m with
 | []=>[(k,v)]
 | (x,u)::r=>if k=x then (k,v)::r else (x,u)::mset r k v
def mdel (m:List (ByteArray × Value))(k:ByteArray):List (ByteArray × Value) :=
 match m with
 | []=>[]
 | (x,u)::r=>if k=x then r else (x,u)::mdel r k
def ZeI (m:List (ByteArray × Value))(k:ByteArray)(i:Nat):Option (Nat × Value) :=
 match m with
 | []=>none
 | (x,v)::r=>if k=x then some (i,v) else ZeI r k (i+1)
theorem ZmE (k:ByteArray):∀ (m:List (ByteArray × Value)) (i:Nat),(ZeI m k i).map (·.2)=mget m k
 | [],_=>rfl
 | (x,v)::r,i=>by
  simp only[ZeI,mget]
  split
  ·rfl
  ·exact ZmE k r (i+1)
theorem Zgs (a b:ByteArray):(a==b)=decide (a=b):=by rw[beq_toListBytes,toList_eq]
theorem ZiI (k:ByteArray):∀ (m:List (ByteArray × Value)) (a:List MapEntry) (i:Nat),a.map (fun e=>(e.key,e.val))=m.map (fun x=>(Value.string x.1,x.2)) ->
  Instr.findNow .string (.string k) a i=some (ZeI m k i)
 | [],a,i,h=>by
  have:a=[]:=by simpa using h
  subst this
  rfl
 | (x,v)::r,[],i,h=>by simp at h
 | (x,v)::r,e::a,i,h=>by
  simp only[List.map_cons,List.cons.injEq,Prod.mk.injEq]at h
  obtain⟨⟨c,d⟩,f⟩:=h
  have g:=ZiI k r a (i+1) f
  simp only[Instr.findNow,c,Instr.sameNow,Zgs,ZeI]
  by_cases b:k=x
  ·simp[b,d]
  ·simp[b,g]
theorem Zc4 {P:Program}{kt:TypeId}[hT:StringT P kt](k:ByteArray)(m:List (ByteArray × Value))(a:List MapEntry)(w:World)(h:a.map (fun e=>(e.key,e.val))=m.map (fun x=>(Value.string x.1,x.2))) :
  (Instr.findKey kt (.string k) a).run P w = .ok (ZeI m k 0) w:=by
 simp[Instr.findKey,run_underlying hT.h,ZiI k m a 0 h]
theorem Zcy {P:Program}{kt:TypeId}[hT:StringT P kt](b:Bool)(k:ByteArray)(d:Nat)(w:World):(Instr.checkKey b (d+1) kt (.string k)).run P w = .ok () w:=by
 simp[Instr.checkKey,run_underlying hT.h]
theorem ZmD (k:ByteArray)(v:Value):∀ (m:List (ByteArray × Value)) (a:List MapEntry) (c i:Nat),a.map (fun e=>(e.key,e.val))=m.map (fun x=>(Value.string x.1,x.2)) ->
  match ZeI m k i with
  | some (j,_)=>i<=j/\(∃ e,a[j - i]?=some e/\e.key = .string k)/\(a.modify (j - i) fun e:MapEntry=>{ e with key := .string k,val:=v }).map (fun e:MapEntry=>(e.key,e.val))=(mset m k v).map (fun x=>(Value.string x.1,x.2))
  | none=>(a++[({ key := .string k,val:=v,born:=c }:MapEntry)]).map (fun e:MapEntry=>(e.key,e.val))=(mset m k v).map (fun x=>(Value.string x.1,x.2))
 | [],a,c,i,h=>by
  have:a=[]:=by simpa using h
  subst this
  simp[ZeI,mset]
 | (x,u)::r,[],c,i,h=>by simp at h
 | (x,u)::r,e::a,c,i,h=>by
  simp only[List.map_cons,List.cons.injEq,Prod.mk.injEq]at h
  obtain⟨⟨d,n⟩,o⟩:=h
  simp only[ZeI,mset]
  by_cases q:k=x
  ·subst q
   simp[d,o]
  ·simp only[if_neg q]
   have b:=ZmD k v r a c (i+1) o
   cases hf:ZeI r k (i+1) with
   | none =>
    rw[hf]at b
    simp only[List.cons_append,List.map_cons,d,n]
    rw[b]
   | some p =>
    obtain⟨j,y⟩:=p
    rw[hf]at b
    obtain⟨t,⟨s,f,g⟩,l⟩:=b
    refine⟨by omega,⟨s,?_,g⟩,?_⟩
    ·rw[show j - i=(j - (i+1))+1 from by omega]
     simpa using f
    ·rw[show j - i=(j - (i+1))+1 from by omega]
     simp only[List.modify_succ_cons,List.map_cons,d,n]
     rw[l]
theorem ZmF (k:ByteArray):∀ (m:List (ByteArray × Value)) (a:List MapEntry) (i:Nat),a.map (fun e=>(e.key,e.val))=m.map (fun x=>(Value.string x.1,x.2)) ->
  match ZeI m k i with
  | some (j,_)=>i<=j/\(a.eraseIdx (j - i)).map (fun e=>(e.key,e.val))=(mdel m k).map (fun x=>(Value.string x.1,x.2))
  | none=>mdel m k=m
 | [],a,i,h=>by simp[ZeI,mdel]
 | (x,u)::r,[],i,h=>by simp at h
 | (x,u)::r,e::a,i,h=>by
  simp only[List.map_cons,List.cons.injEq,Prod.mk.injEq]at h
  obtain⟨⟨g,l⟩,d⟩:=h
  simp only[ZeI,mdel]
  by_cases f:k=x
  ·simp[f,d]
  ·simp only[if_neg f]
   have b:=ZmF k r a (i+1) d
   cases hf:ZeI r k (i+1) with
   | none =>
    rw[hf]at b
    simp only at b ⊢
    rw[b]
   | some p =>
    obtain⟨j,y⟩:=p
    rw[hf]at b
    obtain⟨n,c⟩:=b
    refine⟨by omega,?_⟩
    rw[show j - i=(j - (i+1))+1 from by omega]
    simp only[List.eraseIdx_cons_succ,List.map_cons,g,l]
    rw[c]
theorem MapT.parts {P:Program}{t k e:TypeId}(h:Zts P t=some (k,e)):P.underlying t=some (.map k e):=by
 unfold Zts at h
 split at h
 ·rename_i c b a
  simp only[Option.some.injEq,Prod.mk.injEq]at h
  rw[a,h.1,h.2]
 ·cases h
theorem Zd0 {w:World}{b i:Nat}{o:Obj}(h:i≠b):({ w with heap:=w.heap.setIfInBounds b o }:World).heap[i]?=w.heap[i]?:=by
 simp[Array.getElem?_setIfInBounds_ne (Ne.symm h)]
section
variable {P:Program}{n:Nat}{wr:World}{ops:Array Oper}{rest:List Oper}{K:Fr->List It->Prop}{fr:Fr}{O:List It}{ty:TypeId}{pos:String}{af:Array Edge}{dst:Option Tmp}{g:Option (Nat × Bool)}{Kp:Value->List It->Prop}
theorem Stp_makeMap {t:TypeId}(k:∀ b,Kp (.map (some b)) (.mp b []::O)):Stp P n wr fr O ⟨dst,.makeMap t none,ty,pos,af,g⟩ Kp :=
 ZbZ fun a w c=>by
  have f:Bel w.heap.size w (w.alloc (.map #[] 0)):=(Bel.refl _ _).alloc (Nat.le_refl _) _
  refine⟨.map (some w.heap.size),w.alloc (.map #[] 0),_,?_,c.old.trans (f.mono c.old.size),c.own.grow (O':=[.mp w.heap.size []]) f c.old.size ⟨fun i e=>?_,fun i e b d=>?_,List.pairwise_singleton _ _⟩,k _⟩
  ·simp only[execOp,Option.map_none,Sem.run_bind,run_makeMap (P:=P) t w,Result.andThen_ok,Sem.run_pure]
  ·rw[List.mem_singleton.1 e]
   exact⟨#[],0,heap_alloc_new w _,rfl,ZpS⟩
  ·rw[List.mem_singleton.1 e]at d
   simp only[It.S]at d
   subst d
   exact⟨Nat.le_refl _,by simp⟩
theorem Zbf {w:World}{b:Nat}{a:Array MapEntry}{c:Nat}(h:w.heap[b]?=some (.map a c)):(getObj b).run P w = .ok (.map a c) w:=by
 simp[getObj,Sem.run,h]
theorem Ze7 {t kt et b:Nat}{m:List (ByteArray × Value)}{k:ByteArray}{z:Value}{w:World}[hM:MapT P t kt et][StringT P kt][ZeroV P et z](h:(It.mp b m).sat w)(ok:Bool) :
  (Instr.lookup t (.map (some b)) (.string k) ok).run P w = .ok (if ok then .tuple #[(mget m k).getD z,.bool (mget m k).isSome] else (mget m k).getD z) w:=by
 obtain⟨a,c,d,e,_⟩:=h
 have f:=MapT.parts hM.h
 simp only[Instr.lookup,Sem.run_bind,run_underlying f,Result.andThen_ok,Zbf d,Sem.run_pure,Zcy _ k 9999,Zc4 k m a.toList w e]
 have:=ZmE k m 0
 cases hf:ZeI m k 0 with
 | none =>
  rw[hf]at this
  simp only[Option.map_none]at this
  rw[<- this]
  simp only[Sem.run_bind,ZeA,Result.andThen_ok,Sem.run_pure,Option.getD_none,Option.isSome_none]
 | some p =>
  rw[hf]at this
  simp only[Option.map_some]at this
  rw[<- this]
  simp only[Sem.run_bind,Sem.run_pure,Result.andThen_ok,Option.getD_some,Option.isSome_some]
theorem Pu_lookup {t kt et b:Nat}{x d:Operand}{m:List (ByteArray × Value)}{k:ByteArray}{z:Value}{R:List It}[hM:MapT P t kt et][StringT P kt][ZeroV P et z](g:ev fr x=some (.map (some b)))(e:ev fr d=some (.string k))
  (f:Pick (.mp b m) O R):Pu P n wr fr O (.lookup t x d false) ty ((mget m k).getD z) :=
 fun a w c _ _ _ _=>by
  have:=Ze7 (P:=P) (t:=t) (kt:=kt) (et:=et) (k:=k) (z:=z) (c.own.sat _ (f.perm.mem_iff.2 List.mem_cons_self)) false
  simp only[execOp,c.sim.ev g,c.sim.ev e,Sem.run_bind,this,Result.andThen_ok,Sem.run_pure]
  rfl
theorem Pu_lookupOk {t kt et b:Nat}{x d:Operand}{m:List (ByteArray × Value)}{k:ByteArray}{z:Value}{R:List It}[hM:MapT P t kt et][StringT P kt][ZeroV P et z](g:ev fr x=some (.map (some b)))(e:ev fr d=some (.string k))
  (f:Pick (.mp b m) O R):Pu P n wr fr O (.lookup t x d true) ty (.tuple [(mget m k).getD z,.bool (mget m k).isSome].toArray) :=
 fun a w c _ _ _ _=>by
  have:=Ze7 (P:=P) (t:=t) (kt:=kt) (et:=et) (k:=k) (z:=z) (c.own.sat _ (f.perm.mem_iff.2 List.mem_cons_self)) true
  simp only[execOp,c.sim.ev g,c.sim.ev e,Sem.run_bind,this,Result.andThen_ok,Sem.run_pure]
  rfl
theorem Zg8 {t kt et b:Nat}{x a:Operand}{m:List (ByteArray × Value)}{k:ByteArray}{z v:Value}{R:List It}[hM:MapT P t kt et][StringT P kt][ZeroV P et z](f:ev fr x=some (.map (some b)))(c:ev fr a=some (.string k))
  (d:Pick (.mp b m) O R) (e:(mget m k).getD z=v):Pu P n wr fr O (.lookup t x a false) ty v:=e▸Pu_lookup (kt:=kt) (et:=et) f c d
theorem Zsd {t kt et b:Nat}{x d:Operand}{m:List (ByteArray × Value)}{k:ByteArray}{z:Value}[hM:MapT P t kt et][StringT P kt][ZeroV P et z](g:ev fr x=some (.map (some b)))(e:ev fr d=some (.string k))
  (f:∀ w,Bel wr.heap.size wr w->Zaz wr.heap.size O w->(It.mp b m).sat w):Pu P n wr fr O (.lookup t x d false) ty ((mget m k).getD z) :=
 fun a w c _ _ _ _=>by
  have:=Ze7 (P:=P) (t:=t) (kt:=kt) (et:=et) (k:=k) (z:=z) (f w c.old c.own) false
  simp only[execOp,c.sim.ev g,c.sim.ev e,Sem.run_bind,this,Result.andThen_ok,Sem.run_pure]
  rfl
theorem St.setMap {a:Act}{w:World}{b:Nat}{m h:List (ByteArray × Value)}{O':List It}{es':Array MapEntry}{c':Nat}(d:St n wr fr O a w)(g:Upd O (.mp b m) (.mp b h) O')(j:ZdP h es')(f:stOk es' c') :
  Bel wr.heap.size wr { w with heap:=w.heap.setIfInBounds b (.map es' c') }/\Zaz wr.heap.size O' { w with heap:=w.heap.setIfInBounds b (.map es' c') }:=by
 have e:=d.own.inb _ g.mem b rfl
 refine⟨d.old.trans ⟨⟨rfl,rfl,rfl,by simp,fun i c=>Zd0 (by omega)⟩⟩,d.own.upd g d.old.size (by simp) (fun i _ c=>Zd0 c) ⟨es',c',?_,j,f⟩ fun i c => .inl c⟩
 simp[Array.getElem?_setIfInBounds,e.2]
theorem Stp_mapUpdate {t kt et b:Nat}{x I y:Operand}{m:List (ByteArray × Value)}{k:ByteArray}{v:Value}{O':List It}[hM:MapT P t kt et][StringT P kt](G:ev fr x=some (.map (some b)))(E:ev fr I=some (.string k))(H:ev fr y=some v)
  (C:Upd O (.mp b m) (.mp b (mset m k v)) O') (J:Kp undef O'):Stp P n wr fr O ⟨dst,.mapUpdate t x I y,ty,pos,af,g⟩ Kp :=
 Zfj fun a w f=>by
  have F:=MapT.parts hM.h
  obtain⟨i,c,s,A,D⟩:=f.own.sat _ C.mem
  have z:=ZmD k v m i.toList c 0 A
  cases hfi:ZeI m k 0 with
  | none =>
   rw[hfi]at z
   have d:=f.setMap (es':=i.push { key := .string k,val:=v,born:=c }) (c':=c+1) C (by unfold ZdP;simpa using z) (ZsB D _ _)
   refine⟨_,O',?_,d.1,d.2,J⟩
   simp only[execOp,f.sim.ev G,f.sim.ev E,f.sim.ev H,Instr.mapUpdate,Sem.run_bind,run_underlying F,Result.andThen_ok,Zbf s,Zcy _ k 9999,Zc4 k m i.toList w A,hfi]
   simp[setObj,Sem.run,s]
  | some p =>
   obtain⟨j,u⟩:=p
   rw[hfi]at z
   obtain⟨_,⟨e,o,B⟩,q⟩:=z
   simp only[Nat.sub_zero]at o q
   have d:=f.setMap (es':=i.modify j fun e=>{ e with key := .string k,val:=v }) (c':=c) C (by unfold ZdP;simpa using q) (Zn5 D _ _ _)
   refine⟨_,O',?_,d.1,d.2,J⟩
   have r:((i[j]?).map (·.key)).getD (.string k) = .string k:=by
    have:i[j]?=some e:=by simpa using o
    simp[this,B]
   have l:(Instr.keyThatStays (.string k) (.string k)).run P w = .ok (.string k) w:=by
    simp[Instr.keyThatStays,Instr.sameBits,Zgs]
   simp only[execOp,f.sim.ev G,f.sim.ev E,f.sim.ev H,Instr.mapUpdate,Sem.run_bind,run_underlying F,Result.andThen_ok,Zbf s,Zcy _ k 9999,Zc4 k m i.toList w A,hfi,r,l]
   simp[setObj,Sem.run,s]
end
theorem Ze5 {a b:ByteArray}:a.toList=b.toList↔a=b:=by
 have:=toList_eq a b
 rw[Bool.eq_iff_iff,beq_iff_eq,decide_eq_true_eq]at this
 exact this
class BoolT (P:Program) (t:TypeId):Prop where
 h:P.underlying t=some .bool:=by kernel_rfl
class EqE (P:Program) (t:TypeId) (α:outParam Type) [DecidableEq α] (enc:outParam (α->List Value)):Prop where
 h:∀ x y w,(Op.equalIn 10000 t (.agg (enc x).toArray) (.agg (enc y).toArray)).run P w = .ok (decide (x=y)) w
 g:P.eqGuardType P.depth t=false
section
variable {P:Program}{n:Nat}{wr:World}{fr:Fr}{O:List It}{ty:TypeId}
theorem Pu_eqlE {t t':TypeId}{α:Type}[DecidableEq α]{enc:α->List Value}{x y:Operand}{i j:α}[hE:EqE P t α enc](c:ev fr x=some (.agg (enc i).toArray))(d:ev fr y=some (.agg (enc j).toArray)) :
  Pu P n wr fr O (.binOp .eql t x y t') ty (.bool (decide (i=j))):=fun a w b _ _ _ _=>by
 simp only[execOp,b.sim.ev c,b.sim.ev d,Sem.run_bind,run_eqGuard_agg (P:=P) w .eql t x y _ _ hE.g,Result.andThen_ok,run_eql_struct,hE.h,Sem.run_pure]
theorem Pu_neqE {t t':TypeId}{α:Type}[DecidableEq α]{enc:α->List Value}{x y:Operand}{i j:α}[hE:EqE P t α enc](c:ev fr x=some (.agg (enc i).toArray))(d:ev fr y=some (.agg (enc j).toArray)) :
  Pu P n wr fr O (.binOp .neq t x y t') ty (.bool (!decide (i=j))):=fun a w b _ _ _ _=>by
 simp only[execOp,b.sim.ev c,b.sim.ev d,Sem.run_bind,run_eqGuard_agg (P:=P) w .neq t x y _ _ hE.g,Result.andThen_ok,run_neq_struct,hE.h,Sem.run_pure]
theorem Pu_eqB {t t':TypeId}{x y:Operand}{i j:Bool}[hT:BoolT P t](d:ev fr x=some (.bool i))(e:ev fr y=some (.bool j)) :
  Pu P n wr fr O (.binOp .eql t x y t') ty (.bool (i==j)):=fun a w b _ _ _ _=>by
 have h:=run_equalIn_bool' (P:=P) w 9999 t i j hT.h
 have c:(Op.equal t (.bool i) (.bool j)).run P w = .ok (i==j) w:=h
 simp only[execOp,b.sim.ev d,b.sim.ev e,binOp,eqGuard,Sem.run_bind]
 simp[c]
theorem Pu_neqB {t t':TypeId}{x y:Operand}{i j:Bool}[hT:BoolT P t](d:ev fr x=some (.bool i))(e:ev fr y=some (.bool j)) :
  Pu P n wr fr O (.binOp .neq t x y t') ty (.bool (!(i==j))):=fun a w b _ _ _ _=>by
 have h:=run_equalIn_bool' (P:=P) w 9999 t i j hT.h
 have c:(Op.equal t (.bool i) (.bool j)).run P w = .ok (i==j) w:=h
 simp only[execOp,b.sim.ev d,b.sim.ev e,binOp,eqGuard,Sem.run_bind]
 simp[c]
end
theorem ZaD {α:Type}{enc:α->List Value}{sz:Nat}(a:∀ x,(enc x).length=sz):∀ (l:List α) (k:Nat) (x:α) (j:Nat) (v:Value),l[k]?=some x->(enc x)[j]?=some v->(l.flatMap enc)[k*sz+j]?=some v
 | [],k,x,j,v,h,_=>by simp at h
 | y::l,0,x,j,v,h,hv=>by
  have e:y=x:=by simpa using h
  subst e
  have c:j<(enc y).length:=(List.getElem?_eq_some_iff.1 hv).1
  simp only[List.flatMap_cons,Nat.zero_mul,Nat.zero_add]
  rw[List.getElem?_append_left c]
  exact hv
 | y::l,k+1,x,j,v,h,hv=>by
  have b:l[k]?=some x:=by simpa using h
  have d:=ZaD a l k x j v b hv
  simp only[List.flatMap_cons]
  rw[List.getElem?_append_right (by rw[a,Nat.add_mul];omega),a,show(k+1)*sz+j - sz=k*sz+j from by rw[Nat.add_mul];omega]
  exact d
theorem ZbU {α:Type}{enc:α->List Value}{sz:Nat}(a:∀ x,(enc x).length=sz):∀ l:List α,(l.flatMap enc).length=l.length*sz
 | []=>by simp
 | x::l=>by simp[List.flatMap_cons,a,ZbU a l,Nat.add_mul];omega
theorem ZAE {α:Type}{enc:α->List Value}{sz:Nat}(b:∀ x,(enc x).length=sz)(a:0<sz)(l:List α)(i:Nat)(u:Value)(h:(l.flatMap enc)[i]?=some u):∃ x,l[i / sz]?=some x/\(enc x)[i % sz]?=some u:=by
 have e:i<l.length*sz:=by rw[<- ZbU b];exact(List.getElem?_eq_some_iff.1 h).1
 have c:i / sz<l.length:=(Nat.div_lt_iff_lt_mul a).2 e
 have f:i % sz<sz:=Nat.mod_lt _ a
 refine⟨l[i / sz],List.getElem?_eq_getElem c,?_⟩
 have d:(enc l[i / sz])[i % sz]?=some ((enc l[i / sz])[i % sz]'(by rw[b];exact f)):=List.getElem?_eq_getElem _
 have:=ZaD b l (i / sz) _ (i % sz) _ (List.getElem?_eq_getElem c) d
 rw[show i / sz*sz+i % sz=i from by rw[Nat.mul_comm];exact Nat.div_add_mod i sz]at this
 rw[d,<- this,h]
theorem ZaJ {α:Type}{enc:α->List Value}{sz e c:Nat}{A:Option Addr}{l:List α}{w:World}(b:∀ x,(enc x).length=sz)(h:(It.row (.slice A l.length c) e sz l.length (l.flatMap enc)).sat w):RdSl w A c enc sz l:=by
 obtain⟨A',c',a,f,g,_,_⟩:=ZfX h
 injection a with e2 _ e3
 subst e2 e3
 refine⟨f,g,fun k x d=>⟨?_,fun j v m=>?_⟩⟩
 ·obtain⟨_,_,a,_,_,i,_⟩:=ZfX h
  injection a with e2 _ _
  subst e2
  exact i (by have:=(List.getElem?_eq_some_iff.1 d).1;omega)
 ·rw[ZbK]
  exact(Zbc h (ZaD b l k x j v d m)).2
theorem Zbr {w:World}{b:Nat}{cs:List Value}{t:TypeId}(h:(It.blk b cs t).sat w):Raw w (some ⟨b,0,none⟩) cs:=fun j u a=>⟨by simp,by
 simp only[adr,Option.getD_some,Zcl,Nat.zero_add]
 rw[ZcR h,a]⟩
theorem RdL.raw {α:Type}{enc:α->List Value}{sz:Nat}{A:Option Addr}{l:List α}{w:World}(b:∀ x,(enc x).length=sz)(a:0<sz)(h:RdL w A enc sz l):Raw w A (l.flatMap enc):=fun i u g=>by
 obtain⟨x,c,d⟩:=ZAE b a l i u g
 obtain⟨e,f⟩:=h _ x c
 refine⟨e,?_⟩
 have:=f _ u d
 rw[ZbK,show i / sz*sz+i % sz=i from by rw[Nat.mul_comm];exact Nat.div_add_mod i sz]at this
 exact this
theorem Zaz.of {base:Nat}{O R:List It}{A:It}{w:World}(h:Zaz base O w)(a:Pick A O R):A.sat w:=h.sat _ (a.perm.mem_iff.2 List.mem_cons_self)
theorem Zqt {α:Type}{enc:α->List Value}(h:∀ x,(enc x).all Value.oneCell'=true):∀ l:List α,(l.flatMap enc).all Value.oneCell'=true
 | []=>rfl
 | x::l=>by rw[List.flatMap_cons,List.all_append,h x,Zqt h l];rfl
theorem ZbB {α:Type}{enc:α->List Value}(l:List α)(x:α):l.flatMap enc++enc x=(l++[x]).flatMap enc:=by simp
theorem ZpX {w:World}{e a n c:Nat}{A:Option Addr}{xs:List Value}(h:(It.row (.slice A n c) e a n xs).sat w)(f:0<n):A≠none:=by
 obtain⟨A2,g,b,_,_,d,_⟩:=ZfX h
 injection b with e2 _ _
 subst e2
 exact d f
section
variable {P:Program}{n:Nat}{wr:World}{fr:Fr}{O:List It}{ty:TypeId}
theorem ZcU {t sz e a p m c:Nat}{x:Operand}{A:Option Addr}{xs:List Value}{v:Value}{R:List It}[Ty P t sz false](g:ev fr x=some (.pointer (some ((adr A).add p))))
  (d:Pick (.row (.slice A m c) e a m xs) O R) (f:xs[p]?=some v):Pu P n wr fr O (.load t x) ty v :=
 ZlH g fun w _ b=>(Zbc (b.of d) f).2
end
structure AG (α:Type) where
 k:Nat
 A:Option Addr
 c:Nat
 m:Nat
 xs:List Value
 acc:List α
theorem DRule.len (x:DRule):x.enc.length=11:=rfl
theorem DEra.len (x:DEra):x.enc.length=13:=rfl
theorem DLink.len (x:DLink):x.enc.length=2:=rfl
theorem ZaR.len (x:ByteArray):(ZaR x).length=1:=rfl
section
variable {P:Program}{n:Nat}{wr:World}{fr:Fr}{O:List It}{ty:TypeId}{pos:String}{af:Array Edge}{dst:Option Tmp}{g:Option (Nat × Bool)}{Kp:Value->List It->Prop}
theorem Zpf {t e sz b:Nat}{s x:Operand}{A B:Option Addr}{c k f:Nat}{a:List Value}{O':Option Addr->Nat->List It}[hE:ElemZ P t e sz b]
  (q:ev fr s=some (.slice A 0 c)) (u:ev fr x=some (.slice B k f))
  (r:∀ A' c',Upd O (.row (.slice A 0 c) e sz 0 []) (.row (.slice A' k c') e sz k a) (O' A' c'))
  (d:∀ w,Bel wr.heap.size wr w->Zaz wr.heap.size O w->Raw w B a) (p:a.length=k*sz) (i:a.all Value.oneCell'=true) (m:k<=maxLen) (o:k*b<=140737488355328)
  (v:∀ A' c',k<=c'->c'<=maxLen->(0<k->A'≠none)->Kp (.slice A' k c') (O' A' c')):Stp P n wr fr O ⟨dst,.call ⟨.builtin .append,#[s,x],#[t,t]⟩,ty,pos,af,g⟩ Kp :=
 ZaC (O':=O') q u (fun A' c'=>by rw[Nat.zero_add,List.nil_append];exact r A' c') d p i (by omega) (by simpa using o) (fun A' c' y j l=>by
  have:=v A' c' (by omega) j (fun h=>l (by omega))
  simpa using this)
end
theorem RdSl.none {α:Type}{w:World}{A:Option Addr}{c:Nat}{enc:α->List Value}{sz:Nat}{xs:List α}(h:RdSl w A c enc sz xs)(a:A.isNone=true):xs=[]:=by
 cases xs with
 | nil=>rfl
 | cons x l =>
  have:=(h.rd 0 x rfl).1
  simp at a
  exact absurd a this
theorem oneR (x:DRule):x.enc.all Value.oneCell'=true:=rfl
theorem Pick.ofMem {A:It}:∀ {O:List It},A∈O->∃ R,Pick A O R
 | [],h=>by simp at h
 | x::O,h=>by
  rcases List.mem_cons.1 h with rfl|h
  ·exact⟨O,.here⟩
  ·obtain⟨R,a⟩:=Pick.ofMem h
   exact⟨x::R,.there a⟩
theorem SubO.ofPerm:∀ {O' O R:List It},O.Perm (O'++R)->SubO O' O
 | [],_,_,_ => .nil
 | A::O',O,R,h=>by
  obtain⟨R',a⟩:=Pick.ofMem (A:=A) (h.mem_iff.2 (by simp))
  refine .cons a (SubO.ofPerm (R:=R) ?_)
  exact List.Perm.cons_inv (a.perm.symm.trans h)
theorem Zaz.fact {base:Nat}{O1 O:List It}{w:World}{p:World->Prop}(h:Zaz base (O1++O) w)(l:∀ w',(∀ i∈O1,i.sat w')->p w'):Zaz base (.fact (foot O1) p::O) w:=by
 obtain⟨m,e,f⟩:=List.pairwise_append.1 h.sep
 refine⟨fun i a=>?_,fun i a b c=>?_,List.pairwise_cons.2 ⟨fun j k b c d=>?_,e⟩⟩
 ·rcases List.mem_cons.1 a with rfl|a
  ·exact fun w' g=>l w' fun i a=>It.sat_congr (h.sat i (List.mem_append_left _ a)) fun b c=>g b ⟨i,a,c⟩
  ·exact h.sat i (List.mem_append_right _ a)
 ·rcases List.mem_cons.1 a with rfl|a
  ·obtain⟨i,a,c⟩:=c
   exact h.inb i (List.mem_append_left _ a) b c
  ·exact h.inb i (List.mem_append_right _ a) b c
 ·obtain⟨i,a,c⟩:=c
  exact f i a j k b c d
theorem Zbj {S:Nat->Prop}{p:World->Prop}{w:World}(h:(It.fact S p).sat w):p w:=h w fun _ _=>rfl
section
variable {P:Program}{n:Nat}{wr:World}{ops:Array Oper}{K:Fr->List It->Prop}{fr:Fr}{O:List It}
theorem ZhI {c:Code}{Q:Exit->Fr->List It->Prop}(O1 R:List It)(p:World->Prop)(e:SubO (O1++R) O)(d:∀ w',(∀ i∈O1,i.sat w')->p w')(h:W P n wr c Q fr (.fact (foot O1) p::R)):W P n wr c Q fr O :=
 fun a w b=>h a w ⟨b.sim,b.old,(b.own.sub e).fact d⟩
end
theorem SubO.drop {x:It}{O' O:List It}(h:SubO O' O):SubO O' (x::O):=by
 obtain⟨R,a⟩:=h.perm
 exact SubO.ofPerm (R:=x::R) ((List.Perm.cons x a).trans List.perm_middle.symm)
theorem Ends.app {F:List It}:∀ {R:List It},Ends (R.append F) F R
 | [] => .nil
 | _::_ => .cons Ends.app
theorem SubO.right:∀ (A O:List It),SubO O (A++O)
 | [],O => .refl O
 | _::A,O=>(SubO.right A O).drop
section
variable {P:Program}{n:Nat}{wr:World}{Q:Exit->Fr->List It->Prop}{fr:Fr}{O:List It}
theorem Zb4 {c:Code}(I:Fr->List It->Prop)(a:W P n wr c (fun e fr O=>e = .normal/\I fr O) fr O)(b:∀ fr' O',I fr' O'->Q .normal fr' O'):W P n wr c Q fr O :=
 Zx7 a fun e fr' O' h=>by
  obtain⟨rfl,h⟩:=h
  exact b fr' O' h
end
section
variable {P:Program}{n:Nat}{wr:World}{fr:Fr}{O:List It}{ty:TypeId}{pos:String}{af:Array Edge}{dst:Option Tmp}{g:Option (Nat × Bool)}{Kp:Value->List It->Prop}
theorem Pu_sliceH {t e sz b:Nat}{x y:Operand}{A:Option Addr}{len cap:Nat}{h:Int}[hE:ElemZ P t e sz b](o:ev fr x=some (.slice A len cap))(p:ev fr y=some (.int .i64 h))(f:0<=h)(g:h<=cap) :
  Pu P n wr fr O (.slice t x none (some y) none) ty (.slice A h.toNat cap):=fun a w d _ _ _ _=>by
 obtain⟨i,z,m,k,r,l,j,q,c⟩:=ElemZ.parts hE.h
 simp[execOp,d.sim.ev o,d.sim.ev p,Instr.sliceAt,Instr.slice,run_underlying m,Instr.sliceBounds,run_sliceBound,f,g,sizeOf,typeInfo,k]
 intro _
 cases A with
 | none=>rfl
 | some ad=>simp[Addr.add]
end
section
variable {P:Program}{n:Nat}{wr:World}{fr:Fr}{O:List It}{ty:TypeId}
theorem Zb5 {t kt et b:Nat}{x a:Operand}{m:List (ByteArray × Value)}{k:ByteArray}{z v:Value}{c:Bool}{R:List It}[hM:MapT P t kt et][StringT P kt][ZeroV P et z](h:ev fr x=some (.map (some b)))(e:ev fr a=some (.string k))
  (f:Pick (.mp b m) O R) (g:(mget m k).getD z=v) (d:(mget m k).isSome=c):Pu P n wr fr O (.lookup t x a true) ty (.tuple [v,.bool c].toArray):=g▸d▸Pu_lookupOk (kt:=kt) (et:=et) h e f
end
theorem Ztl {α:Type}(w:World)(enc:α->List Value)(sz:Nat):RdSl w none 0 enc sz []:=⟨Nat.le_refl _,Nat.zero_le _,fun _ _ h=>by simp at h⟩
theorem ZoB {α:Type}{enc:α->List Value}{sz c b:Nat}{t:TypeId}{l:List α}{w:World}(a:∀ x,(enc x).length=sz)(d:l.length<=c)(e:c<=maxLen)(h:(It.blk b (l.flatMap enc) t).sat w):RdSl w (some ⟨b,0,none⟩) c enc sz l :=
 ⟨d,e,fun k x g=>⟨by simp,fun j v f=>by
  rw[ZbK]
  exact(Zbr h _ v (ZaD a l k x j v g f)).2⟩⟩
open Go Go.RowKit Go.ChangeShapes Go.WideShapes Go.ChangeAt
section
variable {H:Type}{enc:TypeId × Value->H}{P:Program}
theorem ZfT (g:laidOutB P=true){W W':World}(f:Below W.heap.size W W'){i:Nat->Bool}:∀ {c:List TypeId} {vs:List Value} {e:List (DataW H)} {b:List MemPlace},
  (∀ t∈c,P.readableRec t=true/\t<P.types.size)->DataW.TrodAll enc P W 0 (fun _=>true) true c vs e b->(∀ p∈b,p.block<W.heap.size)->(∀ p∈b,i p.block=true)->DataW.TrodAll enc P W' 0 i true c vs e b
 | [],_,_,_,_,h,_,_=>by
  obtain⟨rfl,rfl,rfl⟩:=trodAll_nil h
  rfl
 | t::c,_,_,_,hr,h,hlt,hsp=>by
  obtain⟨v,vs,d,e,p,q,rfl,rfl,rfl,j,k⟩:=trodAll_cons h
  obtain⟨m,n⟩:=hr t List.mem_cons_self
  refine⟨p,q,WideElems.Trod_stays g m n j (fun x a=>f.same (hlt x (List.mem_append_left _ a))) (fun x a=>hsp x (List.mem_append_left _ a)),?_,rfl⟩
  exact ZfT g f (fun t l=>hr t (List.mem_cons_of_mem _ l)) k (fun x a=>hlt x (List.mem_append_right _ a)) (fun x a=>hsp x (List.mem_append_right _ a))
theorem ZhT {w:World}{base:Nat}{g:Nat->Bool}{a:Bool}:∀ {b:List TypeId} {vs:List Value} {c:List (DataW H)} {f:List MemPlace},DataW.TrodAll enc P w base g a b vs c f->vs.length=b.length/\c.length=b.length
 | [],_,_,_,h=>by
  obtain⟨rfl,rfl,rfl⟩:=trodAll_nil h
  exact⟨rfl,rfl⟩
 | t::b,_,_,_,h=>by
  obtain⟨v,vs,d,c,p,q,rfl,rfl,rfl,i,e⟩:=trodAll_cons h
  have:=ZhT e
  exact⟨by simp[this.1],by simp[this.2]⟩
theorem ZwN {fn:Func}{s:ChangeSpec}{W W':World}{args:Array Value}{c o:List (DataW H)}{b:List MemPlace}{t:TypeId}(a:s.vars=[])(g:fn.resultTypes = #[t])(v:P.underlying t=some .bool)(r:laidOutB P=true)
  (u:∀ t∈fn.params.toList,P.readableRec t=true/\t<P.types.size) (d:∀ c:List (DataW H),c.length=fn.params.toList.length->s.fn H c={ results:=[.lit (.bool true)],args:=c })
  (m:DataW.Whole enc P fn.params.toList s.vars false W args.toList c o b) (n:Below W.heap.size W W'):s.post enc P fn false true false false W args (.bool true) W':=by
 have e:=m
 obtain⟨p,q,k,l,rfl,y,w⟩:=m
 rw[a]at l
 obtain⟨rfl,rfl⟩:=trodVars_none l
 have f:∀ x∈p,x.block<W.heap.size:=fun x j=>e.lt x (List.mem_append_left _ j)
 have i:=d c (ZhT k).2
 refine⟨c,[],_,[],p,[],e,?_,?_,?_,n.frame _,fun h=>by cases h⟩
 ·rw[List.append_nil,i,g]
  exact⟨[],[],shut_bool v true,rfl,rfl⟩
 ·rw[List.append_nil,i]
  exact ZfT r n u k f (fun x j=>by simpa using f x j)
 ·rw[List.append_nil,i,a]
  rfl
theorem Zdp {w:World}{base:Nat}{l:Nat->Bool}{a:Bool}{t:TypeId}{fuel:Nat}{cs:List Value}{x:DataW H × List MemPlace}{k:Array Field}(q:P.underlying t=some (.struct k))(h:DataW.trod enc P w base l a fuel t cs=some x) :
  cs.length=P.cellsOf t/\∀ (i ty b sz:Nat),(k[i]?).map (fun f=>(f.type,f.offset))=some (ty,b)->P.cellsOf ty=sz->∃ n y,DataW.trod enc P w base l a n ty ((cs.drop b).take sz)=some y:=by
 obtain⟨xs,n,_,_,p,d,m⟩:=DataW.trod_struct q h
 refine⟨p,fun i ty b sz o j=>⟨n,?_⟩⟩
 obtain⟨f,c,e⟩:=Option.map_eq_some_iff.1 o
 simp only[Prod.mk.injEq]at e
 obtain⟨rfl,rfl⟩:=e
 subst j
 have:=m i f c
 have g:i<xs.length:=by rw[d];exact(Array.getElem?_eq_some_iff.1 c).1
 rw[List.getElem?_eq_getElem g]at this
 exact⟨_,this⟩
end
theorem Zaw {α:Type}{l:List α}{k:Nat}(h:l.length=k+1):∃ a r,l=a::r/\r.length=k:=by
 cases l with
 | nil=>simp at h
 | cons a r=>exact⟨a,r,rfl,by simpa using h⟩
def inR (k:IntKind)(n:Int):Prop:=k.min<=n/\n<=k.max
theorem Zdo {k:IntKind}{n:Int}(h:(Lit.int k n).wf=true):inR k n:=by
 simpa[Lit.wf,inR] using h
theorem Zlc {n:Int}:inR .i64 n↔-9223372036854775808<=n/\n<=9223372036854775807:=Iff.rfl
section
variable {P:Program}{n:Nat}{wr:World}{fr:Fr}{O:List It}{ty:TypeId}
theorem Pu_conv64 {t t':TypeId}{x:Operand}{c:IntKind}{i:Int}{sz:Nat}{a:Bool}[Ty P t sz a][IntT P t' .i64](b:ev fr x=some (.int c i))(h : -9223372036854775808<=i/\i<=9223372036854775807):Pu P n wr fr O (.convert t t' x) ty (.int .i64 i):=by
 have:=Pu_convI (P:=P) (n:=n) (wr:=wr) (O:=O) (ty:=ty) (t:=t) (t':=t') b
 rwa[Zcw h]at this
theorem Pu_remE {t t':TypeId}{x y:Operand}{a:IntKind}{i j:Int}(c:ev fr x=some (.int a i))(d:ev fr y=some (.int a j))(b:0<=i)(e:0<j):Pu P n wr fr O (.binOp .rem t x y t') ty (.int a (i % j)):=by
 have:=Pu_rem (P:=P) (n:=n) (wr:=wr) (O:=O) (ty:=ty) (t:=t) (t':=t') c d (by omega)
 rwa[Int.tmod_eq_emod_of_nonneg b]at this
theorem ZBJ {i j M:Int}(a:0<=i)(b:i<=M)(e:0<j):0<=i / j/\i / j<=M:=by
 have c:0<=i / j:=Int.ediv_nonneg a (by omega)
 have d:i / j<=i:=Int.ediv_le_self _ a
 omega
theorem Pu_quo64 {t t':TypeId}{x y:Operand}{i j:Int}(d:ev fr x=some (.int .i64 i))(e:ev fr y=some (.int .i64 j))(a:0<=i)(b:i<=9223372036854775807)(c:0<j):Pu P n wr fr O (.binOp .quo t x y t') ty (.int .i64 (i / j)):=by
 have:=Pu_quo (P:=P) (n:=n) (wr:=wr) (O:=O) (ty:=ty) (t:=t) (t':=t') d e (by omega)
 have f:=ZBJ a b c
 rwa[Int.tdiv_eq_ediv_of_nonneg a,Zcw (by omega)]at this
end
inductive Nf:List Value->List Value->Prop
 | nil:Nf [] []
 | cons {x:Value} {l l':List Value}:Nf l l'->Nf (x::l) (x::l')
theorem Nf.eq {l a:List Value}(h:Nf l a):l=a:=by
 induction h with
 | nil=>rfl
 | cons _ ih=>rw[ih]
inductive SetAt:List Value->Nat->Value->List Value->Prop
 | here {x v:Value} {l:List Value}:SetAt (x::l) 0 v (v::l)
 | there {x v:Value} {j:Nat} {l l':List Value}:SetAt l j v l'->SetAt (x::l) (j+1) v (x::l')
theorem SetAt.eq {l a:List Value}{j:Nat}{v:Value}(h:SetAt l j v a):l.set j v=a:=by
 induction h with
 | here=>rfl
 | there _ ih=>rw[List.set_cons_succ,ih]
inductive Lay:List Value->Nat->List Value->List Value->Prop
 | nil {cs:List Value} {j:Nat}:Lay cs j [] cs
 | cons {cs cs1 cs2 vs:List Value} {j:Nat} {v:Value}:SetAt cs j v cs1->Lay cs1 (j+1) vs cs2->Lay cs j (v::vs) cs2
theorem Lay.eq {cs a vs:List Value}{j:Nat}(h:Lay cs j vs a):lay cs j vs=a:=by
 induction h with
 | nil=>rfl
 | cons h _ ih=>rw[lay,h.eq,ih]
section
variable {P:Program}{n:Nat}{wr:World}{ops:Array Oper}{fr:Fr}{O:List It}{ty:TypeId}{pos:String}{af:Array Edge}{dst:Option Tmp}{g:Option (Nat × Bool)}{Kp:Value->List It->Prop}
theorem Pu_fieldAddr0 {s f a sz b:Nat}{c:Bool}{x:Operand}[FieldAt P s f a sz c](d:ev fr x=some (.pointer (some ⟨b,0,none⟩))):Pu P n wr fr O (.fieldAddr s x f) ty (.pointer (some ⟨b,a,none⟩)):=by
 have h:=Pu_fieldAddr (P:=P) (n:=n) (wr:=wr) (O:=O) (ty:=ty) (s:=s) (f:=f) d
 rwa[Zcl,Nat.zero_add]at h
theorem Pu_loadNf {t sz b j:Nat}{x:Operand}{cs vs:List Value}{a:TypeId}{R:List It}[Ty P t sz true](f:ev fr x=some (.pointer (some ⟨b,j,none⟩)))(d:Pick (.blk b cs a) O R)(e:Nf ((cs.drop j).take sz) vs)(c:vs.length=sz):Pu P n wr fr O (.load t x) ty (.agg vs.toArray):=ZnI f d e.eq c
theorem Pu_buildNf {t:TypeId}{b:List (Nat × Operand)}{vs:List (Nat × Value)}{z cs a:List Value}{ls:List (Nat × Nat)}[ZeroT P t z][LayT P t ls](e:evpO fr b=some vs)(c:bld ls z vs=some cs)(d:Nf cs a):Pu P n wr fr O (.build t b.toArray) ty (.agg a.toArray):=by
 have h:=Zxw (P:=P) (n:=n) (wr:=wr) (O:=O) (ty:=ty) (t:=t) e c
 rwa[d.eq]at h
theorem Stp_storeNf {t sz b j:Nat}{e:Bool}{x y:Operand}{cs:List Value}{d:TypeId}{v:Value}{vs a:List Value}{O':List It}[Ty P t sz e](o:ev fr x=some (.pointer (some ⟨b,j,none⟩)))(p:ev fr y=some v)
  (m:Upd O (.blk b cs d) (.blk b a d) O') (c:Nf v.cells.toList vs) (l:vs.length=sz) (f:vs.all Value.oneCell'=true) (i:Nat.ble (j+sz) cs.length=true) (h:Lay cs j vs a)
  (k:Kp undef O'):Stp P n wr fr O ⟨dst,.store t x y,ty,pos,af,g⟩ Kp:=Zg2 o p m c.eq l f i h.eq k
theorem Stp_boxNf {t:TypeId}{x:Operand}{v:Value}{cs:List Value}(c:ev fr x=some v)(a:Nf v.cells.toList cs)(k:∀ b,Kp (.pointer (some ⟨b,0,none⟩)) (.blk b cs t::O)):Stp P n wr fr O ⟨dst,.box t x,ty,pos,af,g⟩ Kp:=ZA9 c (by rw[a.eq];exact k)
def ZrM (sz:Nat):Nat->List (Nat × Value)->Bool
 | _,[]=>true
 | i,(k,v)::r=>Nat.beq k i&&Nat.beq v.cells.toList.length sz&&ZrM sz (i+1) r
def catC:List (Nat × Value)->List Value
 | []=>[]
 | (_,v)::r=>v.cells.toList++catC r
theorem ZtE:∀ (vs b c a:List Value),c.length=vs.length->lay (b++(c++a)) b.length vs=b++(vs++a)
 | [],b,c,a,h=>by
  have:c=[]:=List.eq_nil_of_length_eq_zero (by simpa using h)
  simp[lay,this]
 | v::r,b,[],a,h=>by simp at h
 | v::r,b,o::c,a,h=>by
  have e:=ZtE r (b++[v]) c a (by simpa using h)
  have d:(b++(o::c++a)).set b.length v=(b++[v])++(c++a):=by simp
  rw[lay,d]
  simpa using e
theorem Zuo (sz len:Nat):∀ (vs:List (Nat × Value)) (i:Nat) (b a:List Value),ZrM sz i vs=true->i+vs.length=len->b.length=i*sz->a.length=vs.length*sz->bld (Zfs len sz) (b++a) vs=some (b++catC vs)
 | [],i,b,a,_,_,_,hr=>by
  have:a=[]:=List.eq_nil_of_length_eq_zero (by simpa using hr)
  simp[bld,catC,this]
 | (k,v)::r,i,b,a,ho,hl,hp,hr=>by
  simp only[ZrM,Bool.and_eq_true]at ho
  obtain⟨⟨f,d⟩,g⟩:=ho
  have f:=Nat.eq_of_beq_eq_true f
  have d:=Nat.eq_of_beq_eq_true d
  subst f
  simp only[List.length_cons]at hl hr
  have m:(r.length+1)*sz=r.length*sz+sz:=Nat.succ_mul _ _
  have j:(Zfs len sz)[k]?=some (k*sz,sz):=by
   unfold Zfs
   rw[List.getElem?_map,List.getElem?_range (by omega)]
   rfl
  have l:=Zuo sz len r (k+1) (b++v.cells.toList) (a.drop sz) g (by omega) (by rw[List.length_append,hp,d,Nat.succ_mul]) (by rw[List.length_drop,hr];omega)
  have c:a=a.take sz++a.drop sz:=(List.take_append_drop sz a).symm
  have e:lay (b++a) (k*sz) v.cells.toList=(b++v.cells.toList)++a.drop sz:=by
   rw[<- hp]
   conv=>lhs;rw[c]
   rw[ZtE _ _ _ _ (by rw[List.length_take,d,hr];omega)]
   simp
  simp only[bld,j]
  have h:(Nat.beq v.cells.toList.length sz&&Nat.ble (k*sz+sz) (b++a).length)=true:=by
   rw[Bool.and_eq_true]
   exact⟨by rw[d];exact Nat.beq_refl sz,Nat.ble_eq_true_of_le (by rw[List.length_append,hp,hr];omega)⟩
  rw[h,e]
  simp only[cond_true,l,catC]
  rw[List.append_assoc]
theorem Zup {sz len:Nat}{z:List Value}{vs:List (Nat × Value)}(b:ZrM sz 0 vs=true)(a:Nat.beq vs.length len=true):bld (Zfs len sz) (Zel len sz z) vs=some (catC vs):=by
 have a:=Nat.eq_of_beq_eq_true a
 have:=Zuo sz len vs 0 [] (Zel len sz z) b (by omega) (by simp) (by simp[Zel,a])
 simpa using this
theorem Stp_buildSliceC {t e sz a len:Nat}{z:List Value}{f:List (Nat × Operand)}{vs:List (Nat × Value)}{c:List Value}[ElemZ P t e sz a][ZeroT P e z](k:evpO fr f=some vs)(d:Nat.ble (len*sz) 16777216=true)
  (h:ZrM sz 0 vs=true) (i:Nat.beq vs.length len=true) (j:Nf (catC vs) c) (l:∀ b,Kp (.slice (some ⟨b,0,none⟩) len len) (.blk b c e::O)):Stp P n wr fr O ⟨dst,.buildSlice t len f.toArray,ty,pos,af,g⟩ Kp:=Zjr k d (Zup h i) (by rw[j.eq];exact l)
theorem Ay_buildSliceC {t e sz a len:Nat}{z:List Value}{g:List (Nat × Operand)}{vs:List (Nat × Value)}{c:List Value}{d i dd:Nat}[ElemZ P t e sz a][ZeroT P e z](m:evpO fr g=some vs)(f:Nat.ble (len*sz) 16777216=true)
  (j:ZrM sz 0 vs=true) (k:Nat.beq vs.length len=true) (l:Nf (catC vs) c):Ay P n wr ops fr ⟨some d,.buildSlice t len g.toArray,ty,pos,af,none⟩ ⟨i,dd,fun b => .slice (some ⟨b,0,none⟩) len len,c,e,fun b => .blk b c e⟩:=by
 have h:=ZlP (P:=P) (n:=n) (wr:=wr) (ops:=ops) (fr:=fr) (ty:=ty) (pos:=pos) (af:=af) (t:=t) (d:=d) (i:=i) (dd:=dd) m f (Zup j k)
 rwa[l.eq]at h
