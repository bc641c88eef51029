/- Parts of the proof. -/
import Derived.Test.YtpipekfmecikmaaGreatDoorV01
import Derived.Test.YtpipekfmecikmaaGreatDoorV03
import Derived.Maps.AppendAt
import Derived.Lib.SliceRun
import Derived.ProofKit
import Derived.OpenShut
import Derived.JoinedCond
import Derived.Deep.Slices
set_option maxHeartbeats 4000000
set_option linter.unusedVariables false
set_option linter.unusedSimpArgs false
namespace Go.Wk
open Go Go.RowKit
def Zyo (P:Program)(t:TypeId):Option (TypeId × Nat × Nat × Bool) :=
 match P.underlying t with
 | some (.slice e)=>match P.info? e with|some i=>(match i.zero with|some z=>some (e,i.size,i.bytes,Nat.beq z.cells.size i.size&&Nat.ble 1 i.size)|none=>none)|none=>none
 | _=>none
class ElemZ (P:Program) (t:TypeId) (e:outParam TypeId) (sz bytes:outParam Nat):Prop where
 h:Zyo P t=some (e,sz,bytes,true):=by kernel_rfl
theorem ElemZ.parts {P:Program}{t e:TypeId}{sz bytes:Nat}(h:Zyo P t=some (e,sz,bytes,true)) :
  ∃ i z,P.underlying t=some (.slice e)/\P.info? e=some i/\i.zero=some z/\i.size=sz/\i.bytes=bytes/\z.cells.size=sz/\0<sz:=by
 unfold Zyo at h
 split at h
 ·rename_i e' hu
  split at h
  ·rename_i i hi
   split at h
   ·rename_i z hz
    simp only[Option.some.injEq,Prod.mk.injEq,Bool.and_eq_true]at h
    obtain⟨rfl,rfl,rfl,h1,h2⟩:=h
    exact⟨i,z,hu,hi,hz,rfl,rfl,Nat.eq_of_beq_eq_true h1,Nat.le_of_ble_eq_true h2⟩
   ·cases h
  ·cases h
 ·cases h
def ZxY (P:Program)(t:TypeId):Option Value:=match P.info? t with|some i=>i.zero|none=>none
class ZeroV (P:Program) (t:TypeId) (v:outParam Value):Prop where
 h:ZxY P t=some v:=by kernel_rfl
theorem Zfr {P:Program}{t:TypeId}{v:Value}[hz:ZeroV P t v]{w:World}:(zeroValue t).run P w = .ok v w:=by
 have h:=hz.h
 unfold ZxY at h
 split at h
 ·rename_i i hi
  simp[zeroValue,ZaK hi,h]
 ·cases h
def Raw (w:World)(A:Option Addr)(cs:List Value):Prop:=∀ j u,cs[j]?=some u->A≠none/\w.cell? ((adr A).add j)=some u
theorem Zbo (a:Addr)(i j:Nat):(a.add i).add j=a.add (i+j):=by
 unfold Addr.add
 by_cases hi:i=0 <;> by_cases hj:j=0 <;> simp[hi,hj,Nat.add_assoc]
theorem ZfZ {P:Program}(w:World)(base:Nat)(t ty e:TypeId)(i:TypeInfo)(size:Nat)(ht:P.underlying t=some (.slice e))(hi:P.info? e=some i)
  (v:Value) (n:Nat) (xs:List Value) (hown:w.ownsRow base e size v n xs) (c:Nat):(Builtin.append_ #[t,t] ty #[v,.slice none 0 c]).run P w = .ok v w:=by
 rcases hown.2 with⟨rfl,rfl⟩|⟨g,cap,cur,rfl,_,_,hnc,_⟩
 ·simp[Builtin.append_,run_underlying ht,sizeOf,typeInfo,hi,Builtin.lenOf,Builtin.firstCells]
 ·simp[Builtin.append_,run_underlying ht,sizeOf,typeInfo,hi,Builtin.lenOf,Builtin.firstCells,hnc,storeCells]
theorem Zfs {w:World}{e:TypeId}{size n:Nat}{v:Value}{xs:List Value}(h:w.ownsRow 0 e size v n xs) :
  ∃ A c,v = .slice A n c/\n<=c/\c<=maxLen/\(0<n->A≠none)/\xs.length=n*size:=by
 refine(h.2.elim ?_ ?_)
 ·rintro⟨rfl,rfl⟩
  exact⟨none,0,rfl,Nat.le_refl _,Nat.zero_le _,fun h=>absurd h (by omega),h.1⟩
 ·rintro⟨g,cap,cur,rfl,_,_,h1,h2,_⟩
  exact⟨_,cap,rfl,h1,h2,fun _=>by simp,h.1⟩
theorem ZaD {w:World}{e:TypeId}{size n c:Nat}{A:Option Addr}{xs:List Value}(h:w.ownsRow 0 e size (.slice A n c) n xs){j:Nat}{u:Value}(hj:xs[j]?=some u):A≠none/\w.cell? ((adr A).add j)=some u:=by
 have hlen:=h.1
 have hlt:j<xs.length:=(List.getElem?_eq_some_iff.1 hj).1
 rcases h.2 with⟨hv,hn⟩|⟨g,cap,cur,hv,_,hg,_,_,_,hx⟩
 ·subst hn
  rw[hlen]at hlt
  simp at hlt
 ·injection hv with hA _ hc
  subst hA
  refine⟨by simp,?_⟩
  simp only[adr,Option.getD_some,ZbV,Nat.zero_add]
  rw[World.cell?]
  simp only[hg]
  rw[<- hx]at hj
  have hj2:j<n*size:=by omega
  rw[List.getElem?_take,if_pos hj2]at hj
  simpa using hj
section
variable {P:Program}{n:Nat}{wr:World}{ops:Array Oper}{rest:List Oper}{K:Fr->List It->Prop}{fr:Fr}{O:List It}{ty:TypeId}{pos:String}{af:Array Edge}{dst:Option Tmp}{g:Option (Nat × Bool)}{Kp:Value->List It->Prop}
theorem ZzO {c:Code}{Q:Exit->Fr->List It->Prop}{φ:Prop}(hφ:∀ w,Bel wr.heap.size wr w->ZaA wr.heap.size O w->φ)(h:φ->W P n wr c Q fr O):W P n wr c Q fr O:=fun a w hs=>h (hφ w hs.old hs.own) a w hs
theorem ZaA.rowNil {base:Nat}{w:World}(h:ZaA base O w)(e:TypeId)(size:Nat):ZaA base (.row (.slice none 0 0) e size 0 []::O) w :=
 ⟨fun i hi=>by
  rcases List.mem_cons.1 hi with rfl|hi
  ·exact World.ownsRow_nil w 0 e size
  ·exact h.sat i hi,fun i hi b hb=>by
  rcases List.mem_cons.1 hi with rfl|hi
  ·simp[It.S,Value.ownBlock]at hb
  ·exact h.inb i hi b hb,List.pairwise_cons.2 ⟨fun _ _ b hb=>by simp[It.S,Value.ownBlock]at hb,h.sep⟩⟩
theorem ZdN {c:Code}{Q:Exit->Fr->List It->Prop}(e:TypeId)(size:Nat)(h:W P n wr c Q fr (.row (.slice none 0 0) e size 0 []::O)):W P n wr c Q fr O:=fun a w hs=>h a w ⟨hs.sim,hs.old,hs.own.rowNil e size⟩
theorem ZaA.toRow {base b m:Nat}{cs:List Value}{t:TypeId}{O':List It}{w:World}(h:ZaA base O w)(size:Nat)(hc:cs.length=m*size)(hm:m<=maxLen)(hu:Upd O (.blk b cs t) (.row (.slice (some ⟨b,0,none⟩) m m) t size m cs) O'):ZaA base O' w:=by
 have hsat:=h.sat _ hu.mem
 have hin:=h.inb _ hu.mem b rfl
 obtain⟨R,h1,h2⟩:=hu.parts
 have h3:=h.perm h1
 refine(?_:ZaA base (_::R) w).perm h2.symm
 refine⟨fun i hi=>?_,fun i hi=>?_,List.pairwise_cons.2 ⟨fun j hj k hk=>?_,(List.pairwise_cons.1 h3.sep).2⟩⟩
 ·rcases List.mem_cons.1 hi with rfl|hi
  ·exact⟨hc,.inr ⟨b,m,cs.toArray,rfl,Nat.zero_le _,hsat,Nat.le_refl _,hm,by simpa using hc,by rw[<- hc];simp⟩⟩
  ·exact h3.tail.sat i hi
 ·rcases List.mem_cons.1 hi with rfl|hi
  ·intro k hk
   simp only[It.S,Value.ownBlock,Option.some.injEq]at hk
   subst hk
   exact hin
  ·exact h3.tail.inb i hi
 ·simp only[It.S,Value.ownBlock,Option.some.injEq]at hk
  subst hk
  exact(List.pairwise_cons.1 h3.sep).1 j hj b rfl
theorem Zs3 {c:Code}{Q:Exit->Fr->List It->Prop}{b m:Nat}{cs:List Value}{t:TypeId}{O':List It}(size:Nat)(hu:Upd O (.blk b cs t) (.row (.slice (some ⟨b,0,none⟩) m m) t size m cs) O')(hc:cs.length=m*size)(hm:m<=maxLen)
  (h:W P n wr c Q fr O'):W P n wr c Q fr O:=fun a w hs=>h a w ⟨hs.sim,hs.old,hs.own.toRow size hc hm hu⟩
theorem ZaT {t e sz bytes:Nat}{s x:Operand}{A B:Option Addr}{m c k c2:Nat}{xs news:List Value}{O':Option Addr->Nat->List It}[hE:ElemZ P t e sz bytes]
  (hs:ev fr s=some (.slice A m c)) (hx:ev fr x=some (.slice B k c2))
  (hu:∀ A' c',Upd O (.row (.slice A m c) e sz m xs) (.row (.slice A' (m+k) c') e sz (m+k) (xs++news)) (O' A' c'))
  (hraw:∀ w,Bel wr.heap.size wr w->ZaA wr.heap.size O w->Raw w B news) (hl:news.length=k*sz) (h1:news.all Value.oneCell'=true) (h63:m+k<=maxLen) (hb:(m+k)*bytes<=140737488355328)
  (kk:∀ A' c',m+k<=c'->c'<=maxLen->(0<m+k->A'≠none)->Kp (.slice A' (m+k) c') (O' A' c')):Stp P n wr fr O ⟨dst,.call ⟨.builtin .append,#[s,x],#[t,t]⟩,ty,pos,af,g⟩ Kp:=by
 refine ZbG fun a w hst=>?_
 obtain⟨i,z,ht,hi,hz,hsz,hby,hzs,hpos⟩:=ElemZ.parts hE.h
 have hown:w.ownsRow 0 e sz (.slice A m c) m xs:=hst.own.sat _ (hu none 0).mem
 have hr:=hraw w hst.old hst.own
 have key:∃ v' w',(Builtin.append_ #[t,t] ty #[.slice A m c,.slice B k c2]).run P w = .ok v' w'/\w'.ownsRow 0 e sz v' (m+k) (xs++news)/\w.grownBy w' (Value.slice A m c).ownBlock /\
   (v'.ownBlock=(Value.slice A m c).ownBlock\/v'.ownBlock=some w.heap.size):=by
  rcases B with _|ad
  ·have hn:news=[]:=by
    cases hnw:news with
    | nil=>rfl
    | cons u r =>
     rw[hnw]at hr
     exact absurd rfl (hr 0 u rfl).1
   subst hn
   have hk:k=0:=by
    rcases Nat.eq_zero_or_pos k with h|h
    ·exact h
    ·have:=Nat.mul_pos h hpos
     simp at hl
     omega
   subst hk
   exact⟨_,w,ZfZ w 0 t ty e i sz ht hi _ m xs hown c2,by simpa using hown,World.grownBy.refl w _,.inl rfl⟩
  ·obtain⟨v',w',hrun,h2,h3,_,h5⟩:=run_append_own_at (P:=P) w 0 t ty e i z sz bytes ht hi hz hsz hby hzs hpos _ m xs hown ad k c2 news hl (fun j u hu=>by simpa[adr] using(hr j u hu).2) (fun u hu=>List.all_eq_true.1 h1 u hu) h63 hb (Nat.zero_le _)
   exact⟨v',w',hrun,h2,h3,h5⟩
 obtain⟨v',w',hrun,h2,h3,h5⟩:=key
 obtain⟨A',c',rfl,hc1,hc2,hc3,_⟩:=Zfs h2
 have hinb:=hst.own.inb _ (hu A' c').mem
 refine⟨_,w',O' A' c',?_,?_,?_,kk A' c' hc1 hc2 hc3⟩
 ·simp only[execOp,resolve,invoke,builtin,Sem.run_bind,Sem.run_pure,Result.andThen_ok,List.map_toArray,List.map_cons,List.map_nil,hst.sim.ev hs,hst.sim.ev hx,hrun]
 ·exact hst.old.grown h3 (ZrA _ _ _ _ hrun) hst.old.size fun k' hk'=>(hinb k' hk').1
 ·refine hst.own.upd (hu A' c') hst.old.size h3.size (fun b hb hS=>h3.block b hb fun he=>hS he.symm) h2 fun b hb=>?_
  simp only[It.S]at hb ⊢
  rcases h5 with h5|h5
  ·left;rw[<- h5];exact hb
  ·right
   rw[h5]at hb
   injection hb with hb
   subst hb
   refine⟨Nat.le_refl _,?_⟩
   have:=h2.lt w.heap.size h5
   exact this.2
def Zcf (len sz:Nat)(z:List Value):List Value:=(List.range (len*sz)).map fun i=>z[i % z.length]!
def ZdT (len sz:Nat):List (Nat × Nat):=(List.range len).map fun i=>(i*sz,sz)
theorem Zid (sz:Nat):∀ (len:Nat) (ps:List (Nat × Value)) (cs cs':List Value),bld (ZdT len sz) cs ps=some cs'->Instr.fill (fun i=>some (i*sz,sz)) cs.toArray ps=some cs'.toArray
 | _,[],cs,cs',h=>by simp only[bld,Option.some.injEq]at h;subst h;rfl
 | len,(i,v)::r,cs,cs',h=>by
  simp only[bld]at h
  split at h
  ·cases h
  ·rename_i off s hi
   cases hb:(Nat.beq v.cells.toList.length s&&Nat.ble (off+s) cs.length) with
   | false=>rw[hb]at h;cases h
   | true =>
    rw[hb]at h
    simp only[Bool.and_eq_true]at hb
    have h1:=Nat.eq_of_beq_eq_true hb.1
    have h2:=Nat.le_of_ble_eq_true hb.2
    have hoff:off=i*sz/\s=sz:=by
     simp only[ZdT,List.getElem?_map,Option.map_eq_some_iff]at hi
     obtain⟨k,hk,e⟩:=hi
     have hki:k=i:=by
      have:=List.getElem?_eq_some_iff.1 hk
      simpa using this.2.symm
     subst hki
     simp only[Prod.mk.injEq]at e
     exact⟨e.1.symm,e.2.symm⟩
    obtain⟨rfl,rfl⟩:=hoff
    simp only[Instr.fill]
    have h1':v.cells.size=s:=by simpa using h1
    rw[if_neg (by simp[h1'];omega)]
    have hf:=Zf8 (i*s) v.cells.toList cs 0
    have hz:(Array.zipIdx v.cells).foldl (fun(cs:Array Value) (p:Value × Nat)=>cs.setIfInBounds (i*s+p.2) p.1) cs.toArray=(lay cs (i*s) v.cells.toList).toArray:=by
     rw[<- Array.foldl_toList,Array.toList_zipIdx]
     simpa using hf
    have ih:=Zid s len r (lay cs (i*s) v.cells.toList) cs' (by simpa using h)
    rw[<- ih,<- hz]
theorem Zb9 {t e sz bytes len:Nat}{z:List Value}{vs:List (Nat × Value)}{cs:List Value}[hE:ElemZ P t e sz bytes][hz:ZeroT P e z](hlen:Nat.ble (len*sz) 16777216=true)(hb:bld (ZdT len sz) (Zcf len sz z) vs=some cs)(w:World) :
  (Instr.buildSlice t len vs.toArray).run P w = .ok (.slice (some ⟨w.heap.size,0,none⟩) len len) (w.alloc (.cells cs.toArray e)):=by
 obtain⟨i,zv,ht,hi,hzv,hsz,hby,hzs,hpos⟩:=ElemZ.parts hE.h
 have h:=hz.h
 unfold Ze8 at h
 rw[hi]at h
 simp only[hzv,Option.some.injEq]at h
 have hle:¬ len*sz>2 ^ 24:=by have:=Nat.le_of_ble_eq_true hlen;omega
 have hf:=Zid sz len vs (Zcf len sz z) cs hb
 simp only[Instr.buildSlice,Sem.run_bind,run_underlying ht,Result.andThen_ok,sizeOf,ZaK hi,hsz,if_neg hle,Sem.run_pure]
 by_cases h0:len*sz=0
 ·have hcells:((Array.range (len*sz)).map fun j=>(#[]:Array Value)[j % (#[]:Array Value).size]!)=(Zcf len sz z).toArray:=by simp[h0,Zcf]
  rw[if_pos h0]
  simp only[Sem.run_bind,Sem.run_pure,Result.andThen_ok]
  rw[hcells,hf]
  simp[newRow,newObj,Sem.run]
 ·have hcells:((Array.range (len*sz)).map fun j=>zv.cells[j % zv.cells.size]!)=(Zcf len sz z).toArray:=by
   subst h
   simp only[Zcf,Array.length_toList,Array.getElem!_toList]
   rw[<- List.toArray_range,List.map_toArray]
  rw[if_neg h0]
  simp only[Sem.run_bind,Sem.run_pure,Result.andThen_ok,zeroValue,ZaK hi,hzv]
  rw[hcells,hf]
  simp[newRow,newObj,Sem.run]
theorem Ze4 {t e sz bytes len:Nat}{z:List Value}{ps:List (Nat × Operand)}{vs:List (Nat × Value)}{cs:List Value}[hE:ElemZ P t e sz bytes][hz:ZeroT P e z](hx:evpO fr ps=some vs)(hlen:Nat.ble (len*sz) 16777216=true)
  (hb:bld (ZdT len sz) (Zcf len sz z) vs=some cs) (kk:∀ b,Kp (.slice (some ⟨b,0,none⟩) len len) (.blk b cs e::O)):Stp P n wr fr O ⟨dst,.buildSlice t len ps.toArray,ty,pos,af,g⟩ Kp :=
 ZbG fun a w hs=>⟨_,_,_,by
  have hps:(Array.map (fun(x:Nat × Operand)=>(x.1,a.eval x.2)) ps.toArray)=vs.toArray:=by
   have:=hs.sim.evpO hx
   simpa using this
  simp only[execOp,hps,Sem.run_bind,Zb9 hlen hb,Result.andThen_ok,Sem.run_pure],hs.fresh.1,hs.fresh.2,kk _⟩
theorem ZfS {t e sz bytes len:Nat}{z:List Value}{ps:List (Nat × Operand)}{vs:List (Nat × Value)}{cs:List Value}{d i dd:Nat}[hE:ElemZ P t e sz bytes][hz:ZeroT P e z](hx:evpO fr ps=some vs)(hlen:Nat.ble (len*sz) 16777216=true)
  (hb:bld (ZdT len sz) (Zcf len sz z) vs=some cs):Ay P n wr ops fr ⟨some d,.buildSlice t len ps.toArray,ty,pos,af,none⟩ ⟨i,dd,fun b => .slice (some ⟨b,0,none⟩) len len,cs,e,fun b => .blk b cs e⟩:=⟨ItOk.blk,fun a w hs=>by
 refine⟨rfl,?_⟩
 have hps:(Array.map (fun(x:Nat × Operand)=>(x.1,a.eval x.2)) ps.toArray)=vs.toArray:=by
  have:=hs.evpO hx
  simpa using this
 simp only[execOp,hps,Sem.run_bind,Zb9 hlen hb,Result.andThen_ok,Sem.run_pure]⟩
theorem ZoP {w:World}{b e sz:Nat}(h:w.heap[b]?=some (.cells (List.toArray []) e (0,0))):(It.row (.slice (some ⟨b,0,none⟩) 0 0) e sz 0 []).sat w :=
 ⟨by simp,.inr ⟨b,0,#[],rfl,Nat.zero_le _,h,Nat.le_refl _,Nat.zero_le _,by simp,by simp⟩⟩
theorem Stp_buildSlice0 {t e sz bytes:Nat}{z:List Value}[hE:ElemZ P t e sz bytes][hz:ZeroT P e z](kk:∀ b,Kp (.slice (some ⟨b,0,none⟩) 0 0) (.row (.slice (some ⟨b,0,none⟩) 0 0) e sz 0 []::O)):Stp P n wr fr O ⟨dst,.buildSlice t 0 #[],ty,pos,af,g⟩ Kp :=
 ZbG fun a w hs=>⟨_,_,_,by
  have:=Zb9 (P:=P) (t:=t) (len:=0) (vs:=[]) (cs:=[]) (by simp) (by simp[bld,Zcf]) w
  simp only[execOp,List.map_toArray,List.map_nil,Sem.run_bind,this,Result.andThen_ok,Sem.run_pure],hs.fresh.1,hs.fresh.2.swapHead ⟨fun j=>by simp[It.S,Value.ownBlock,eq_comm],fun _ h=>ZoP h⟩,kk _⟩
theorem Ay_buildSlice0 {t e sz bytes:Nat}{z:List Value}{d i dd:Nat}[hE:ElemZ P t e sz bytes][hz:ZeroT P e z]:Ay P n wr ops fr ⟨some d,.buildSlice t 0 #[],ty,pos,af,none⟩ ⟨i,dd,fun b => .slice (some ⟨b,0,none⟩) 0 0,[],e,fun b => .row (.slice (some ⟨b,0,none⟩) 0 0) e sz 0 []⟩ :=
 ⟨fun _=>⟨fun j=>by simp[It.S,Value.ownBlock,eq_comm],fun _ h=>ZoP h⟩,fun a w _=>by
  refine⟨rfl,?_⟩
  have:=Zb9 (P:=P) (t:=t) (len:=0) (vs:=[]) (cs:=[]) (by simp) (by simp[bld,Zcf]) w
  simp only[execOp,List.map_toArray,List.map_nil,Sem.run_bind,this,Result.andThen_ok,Sem.run_pure]⟩
theorem Pu_eqNil {t t' e sz bytes:Nat}{x:Operand}{A:Option Addr}{m c:Nat}[hE:ElemT P t e sz bytes](hx:ev fr x=some (.slice A m c)):Pu P n wr fr O (.binOp .eql t x (.const (.slice none 0 0)) t') ty (.bool A.isNone) :=
 fun a w hs _ _ _ _=>by
  have h:=hE.h
  unfold Zgd at h
  split at h
  ·rename_i e' hu
   have hc:a.eval (.const (.slice none 0 0)) = .slice none 0 0:=rfl
   have hg:(eqGuard .eql t x (.const (.slice none 0 0)) (.slice A m c) (.slice none 0 0)).run P w = .ok () w:=by simp[eqGuard]
   simp only[execOp,hs.sim.ev hx,hc,Sem.run_bind,hg,Result.andThen_ok,Lib.run_eql_slice_nil w t e' A m c 0 0 hu,Sem.run_pure]
  ·cases h
end
def mget (m:List (ByteArray × Value))(k:ByteArray):Option Value :=
 match m with
 | []=>none
 | (x,v)::r=>if k=x then some v else mget r k
def mset (m:List (ByteArray × Value))(k:ByteArray)(v:Value):List (ByteArray × Value) :=
 match m with
 | []=>[(k,v)]
 | (x,u)::r=>if k=x then (k,v)::r else (x,u)::mset r k v
def mdel (m:List (ByteArray × Value))(k:ByteArray):List (ByteArray × Value) :=
 match m with
 | []=>[]
 | (x,u)::r=>if k=x then r else (x,u)::mdel r k
def Zed (m:List (ByteArray × Value))(k:ByteArray)(i:Nat):Option (Nat × Value) :=
 match m with
 | []=>none
 | (x,v)::r=>if k=x then some (i,v) else Zed r k (i+1)
theorem ZlA (k:ByteArray):∀ (m:List (ByteArray × Value)) (i:Nat),(Zed m k i).map (·.2)=mget m k
 | [],_=>rfl
 | (x,v)::r,i=>by
  simp only[Zed,mget]
  split
  ·rfl
  ·exact ZlA k r (i+1)
theorem Zme (a b:ByteArray):(a==b)=decide (a=b):=by rw[beq_toListBytes,toList_eq]
theorem Zia (k:ByteArray):∀ (m:List (ByteArray × Value)) (es:List MapEntry) (i:Nat),es.map (fun e=>(e.key,e.val))=m.map (fun x=>(Value.string x.1,x.2)) ->
  Instr.findNow .string (.string k) es i=some (Zed m k i)
 | [],es,i,h=>by
  have:es=[]:=by simpa using h
  subst this
  rfl
 | (x,v)::r,[],i,h=>by simp at h
 | (x,v)::r,e::es,i,h=>by
  simp only[List.map_cons,List.cons.injEq,Prod.mk.injEq]at h
  obtain⟨⟨h1,h2⟩,h3⟩:=h
  have ih:=Zia k r es (i+1) h3
  simp only[Instr.findNow,h1,Instr.sameNow,Zme,Zed]
  by_cases hk:k=x
  ·simp[hk,h2]
  ·simp[hk,ih]
theorem ZcE {P:Program}{kt:TypeId}[hT:StringT P kt](k:ByteArray)(m:List (ByteArray × Value))(es:List MapEntry)(w:World)(h:es.map (fun e=>(e.key,e.val))=m.map (fun x=>(Value.string x.1,x.2))) :
  (Instr.findKey kt (.string k) es).run P w = .ok (Zed m k 0) w:=by
 simp[Instr.findKey,run_underlying hT.h,Zia k m es 0 h]
theorem Zch {P:Program}{kt:TypeId}[hT:StringT P kt](b:Bool)(k:ByteArray)(d:Nat)(w:World):(Instr.checkKey b (d+1) kt (.string k)).run P w = .ok () w:=by
 simp[Instr.checkKey,run_underlying hT.h]
theorem Zlz (k:ByteArray)(v:Value):∀ (m:List (ByteArray × Value)) (es:List MapEntry) (c i:Nat),es.map (fun e=>(e.key,e.val))=m.map (fun x=>(Value.string x.1,x.2)) ->
  match Zed m k i with
  | some (j,_)=>i<=j/\(∃ e,es[j - i]?=some e/\e.key = .string k)/\(es.modify (j - i) fun e:MapEntry=>{ e with key := .string k,val:=v }).map (fun e:MapEntry=>(e.key,e.val))=(mset m k v).map (fun x=>(Value.string x.1,x.2))
  | none=>(es++[({ key := .string k,val:=v,born:=c }:MapEntry)]).map (fun e:MapEntry=>(e.key,e.val))=(mset m k v).map (fun x=>(Value.string x.1,x.2))
 | [],es,c,i,h=>by
  have:es=[]:=by simpa using h
  subst this
  simp[Zed,mset]
 | (x,u)::r,[],c,i,h=>by simp at h
 | (x,u)::r,e::es,c,i,h=>by
  simp only[List.map_cons,List.cons.injEq,Prod.mk.injEq]at h
  obtain⟨⟨h1,h2⟩,h3⟩:=h
  simp only[Zed,mset]
  by_cases hk:k=x
  ·subst hk
   simp[h1,h3]
  ·simp only[if_neg hk]
   have ih:=Zlz k v r es c (i+1) h3
   cases hf:Zed r k (i+1) with
   | none =>
    rw[hf]at ih
    simp only[List.cons_append,List.map_cons,h1,h2]
    rw[ih]
   | some p =>
    obtain⟨j,y⟩:=p
    rw[hf]at ih
    obtain⟨ih1,⟨e',ih2,ih3⟩,ih4⟩:=ih
    refine⟨by omega,⟨e',?_,ih3⟩,?_⟩
    ·rw[show j - i=(j - (i+1))+1 from by omega]
     simpa using ih2
    ·rw[show j - i=(j - (i+1))+1 from by omega]
     simp only[List.modify_succ_cons,List.map_cons,h1,h2]
     rw[ih4]
theorem ZlB (k:ByteArray):∀ (m:List (ByteArray × Value)) (es:List MapEntry) (i:Nat),es.map (fun e=>(e.key,e.val))=m.map (fun x=>(Value.string x.1,x.2)) ->
  match Zed m k i with
  | some (j,_)=>i<=j/\(es.eraseIdx (j - i)).map (fun e=>(e.key,e.val))=(mdel m k).map (fun x=>(Value.string x.1,x.2))
  | none=>mdel m k=m
 | [],es,i,h=>by simp[Zed,mdel]
 | (x,u)::r,[],i,h=>by simp at h
 | (x,u)::r,e::es,i,h=>by
  simp only[List.map_cons,List.cons.injEq,Prod.mk.injEq]at h
  obtain⟨⟨h1,h2⟩,h3⟩:=h
  simp only[Zed,mdel]
  by_cases hk:k=x
  ·simp[hk,h3]
  ·simp only[if_neg hk]
   have ih:=ZlB k r es (i+1) h3
   cases hf:Zed r k (i+1) with
   | none =>
    rw[hf]at ih
    simp only at ih ⊢
    rw[ih]
   | some p =>
    obtain⟨j,y⟩:=p
    rw[hf]at ih
    obtain⟨ih1,ih2⟩:=ih
    refine⟨by omega,?_⟩
    rw[show j - i=(j - (i+1))+1 from by omega]
    simp only[List.eraseIdx_cons_succ,List.map_cons,h1,h2]
    rw[ih2]
theorem MapT.parts {P:Program}{t k e:TypeId}(h:Zsa P t=some (k,e)):P.underlying t=some (.map k e):=by
 unfold Zsa at h
 split at h
 ·rename_i k' e' hu
  simp only[Option.some.injEq,Prod.mk.injEq]at h
  rw[hu,h.1,h.2]
 ·cases h
theorem Zdx {w:World}{b i:Nat}{o:Obj}(h:i≠b):({ w with heap:=w.heap.setIfInBounds b o }:World).heap[i]?=w.heap[i]?:=by
 simp[Array.getElem?_setIfInBounds_ne (Ne.symm h)]
section
variable {P:Program}{n:Nat}{wr:World}{ops:Array Oper}{rest:List Oper}{K:Fr->List It->Prop}{fr:Fr}{O:List It}{ty:TypeId}{pos:String}{af:Array Edge}{dst:Option Tmp}{g:Option (Nat × Bool)}{Kp:Value->List It->Prop}
theorem Stp_makeMap {t:TypeId}(k:∀ b,Kp (.map (some b)) (.mp b []::O)):Stp P n wr fr O ⟨dst,.makeMap t none,ty,pos,af,g⟩ Kp :=
 ZbG fun a w hs=>by
  have hB:Bel w.heap.size w (w.alloc (.map #[] 0)):=(Bel.refl _ _).alloc (Nat.le_refl _) _
  refine⟨.map (some w.heap.size),w.alloc (.map #[] 0),_,?_,hs.old.trans (hB.mono hs.old.size),hs.own.grow (O':=[.mp w.heap.size []]) hB hs.old.size ⟨fun i hi=>?_,fun i hi b hb=>?_,List.pairwise_singleton _ _⟩,k _⟩
  ·simp only[execOp,Option.map_none,Sem.run_bind,run_makeMap (P:=P) t w,Result.andThen_ok,Sem.run_pure]
  ·rw[List.mem_singleton.1 hi]
   exact⟨#[],0,heap_alloc_new w _,rfl,ZoK⟩
  ·rw[List.mem_singleton.1 hi]at hb
   simp only[It.S]at hb
   subst hb
   exact⟨Nat.le_refl _,by simp⟩
theorem Zbd {w:World}{b:Nat}{es:Array MapEntry}{c:Nat}(h:w.heap[b]?=some (.map es c)):(getObj b).run P w = .ok (.map es c) w:=by
 simp[getObj,Sem.run,h]
theorem ZeB {t kt et b:Nat}{m:List (ByteArray × Value)}{k:ByteArray}{z:Value}{w:World}[hM:MapT P t kt et][StringT P kt][ZeroV P et z](h:(It.mp b m).sat w)(ok:Bool) :
  (Instr.lookup t (.map (some b)) (.string k) ok).run P w = .ok (if ok then .tuple #[(mget m k).getD z,.bool (mget m k).isSome] else (mget m k).getD z) w:=by
 obtain⟨es,c,h1,h2,_⟩:=h
 have hu:=MapT.parts hM.h
 simp only[Instr.lookup,Sem.run_bind,run_underlying hu,Result.andThen_ok,Zbd h1,Sem.run_pure,Zch _ k 9999,ZcE k m es.toList w h2]
 have:=ZlA k m 0
 cases hf:Zed m k 0 with
 | none =>
  rw[hf]at this
  simp only[Option.map_none]at this
  rw[<- this]
  simp only[Sem.run_bind,Zfr,Result.andThen_ok,Sem.run_pure,Option.getD_none,Option.isSome_none]
 | some p =>
  rw[hf]at this
  simp only[Option.map_some]at this
  rw[<- this]
  simp only[Sem.run_bind,Sem.run_pure,Result.andThen_ok,Option.getD_some,Option.isSome_some]
theorem Pu_lookup {t kt et b:Nat}{x ix:Operand}{m:List (ByteArray × Value)}{k:ByteArray}{z:Value}{R:List It}[hM:MapT P t kt et][StringT P kt][ZeroV P et z](hx:ev fr x=some (.map (some b)))(hi:ev fr ix=some (.string k))
  (hp:Pick (.mp b m) O R):Pu P n wr fr O (.lookup t x ix false) ty ((mget m k).getD z) :=
 fun a w hs _ _ _ _=>by
  have:=ZeB (P:=P) (t:=t) (kt:=kt) (et:=et) (k:=k) (z:=z) (hs.own.sat _ (hp.perm.mem_iff.2 List.mem_cons_self)) false
  simp only[execOp,hs.sim.ev hx,hs.sim.ev hi,Sem.run_bind,this,Result.andThen_ok,Sem.run_pure]
  rfl
theorem Pu_lookupOk {t kt et b:Nat}{x ix:Operand}{m:List (ByteArray × Value)}{k:ByteArray}{z:Value}{R:List It}[hM:MapT P t kt et][StringT P kt][ZeroV P et z](hx:ev fr x=some (.map (some b)))(hi:ev fr ix=some (.string k))
  (hp:Pick (.mp b m) O R):Pu P n wr fr O (.lookup t x ix true) ty (.tuple [(mget m k).getD z,.bool (mget m k).isSome].toArray) :=
 fun a w hs _ _ _ _=>by
  have:=ZeB (P:=P) (t:=t) (kt:=kt) (et:=et) (k:=k) (z:=z) (hs.own.sat _ (hp.perm.mem_iff.2 List.mem_cons_self)) true
  simp only[execOp,hs.sim.ev hx,hs.sim.ev hi,Sem.run_bind,this,Result.andThen_ok,Sem.run_pure]
  rfl
theorem Zgq {t kt et b:Nat}{x ix:Operand}{m:List (ByteArray × Value)}{k:ByteArray}{z v:Value}{R:List It}[hM:MapT P t kt et][StringT P kt][ZeroV P et z](hx:ev fr x=some (.map (some b)))(hi:ev fr ix=some (.string k))
  (hp:Pick (.mp b m) O R) (hv:(mget m k).getD z=v):Pu P n wr fr O (.lookup t x ix false) ty v:=hv▸Pu_lookup (kt:=kt) (et:=et) hx hi hp
theorem Zq8 {t kt et b:Nat}{x ix:Operand}{m:List (ByteArray × Value)}{k:ByteArray}{z:Value}[hM:MapT P t kt et][StringT P kt][ZeroV P et z](hx:ev fr x=some (.map (some b)))(hi:ev fr ix=some (.string k))
  (hp:∀ w,Bel wr.heap.size wr w->ZaA wr.heap.size O w->(It.mp b m).sat w):Pu P n wr fr O (.lookup t x ix false) ty ((mget m k).getD z) :=
 fun a w hs _ _ _ _=>by
  have:=ZeB (P:=P) (t:=t) (kt:=kt) (et:=et) (k:=k) (z:=z) (hp w hs.old hs.own) false
  simp only[execOp,hs.sim.ev hx,hs.sim.ev hi,Sem.run_bind,this,Result.andThen_ok,Sem.run_pure]
  rfl
theorem Pu_lenMap {t kt et b:Nat}{x:Operand}{m:List (ByteArray × Value)}{R:List It}[hM:MapT P t kt et](hx:ev fr x=some (.map (some b)))(hp:Pick (.mp b m) O R) :
  Pu P n wr fr O (.call ⟨.builtin .len,#[x],#[t]⟩) ty (.int .i64 m.length) :=
 fun a w hs _ _ _ _=>by
  have hu:=MapT.parts hM.h
  obtain⟨es,c,h1,h2,_⟩:=hs.own.sat _ (hp.perm.mem_iff.2 List.mem_cons_self)
  have hl:es.size=m.length:=by
   have:=congrArg List.length h2
   simpa using this
  simp[execOp,resolve,invoke,builtin,Builtin.len_,hs.sim.ev hx,run_underlying hu,Zbd h1,goInt,hl]
theorem St.setMap {a:Act}{w:World}{b:Nat}{m m':List (ByteArray × Value)}{O':List It}{es':Array MapEntry}{c':Nat}(hs:St n wr fr O a w)(hu:Upd O (.mp b m) (.mp b m') O')(he:Zcl m' es')(hst:stOk es' c') :
  Bel wr.heap.size wr { w with heap:=w.heap.setIfInBounds b (.map es' c') }/\ZaA wr.heap.size O' { w with heap:=w.heap.setIfInBounds b (.map es' c') }:=by
 have hin:=hs.own.inb _ hu.mem b rfl
 refine⟨hs.old.trans ⟨⟨rfl,rfl,rfl,by simp,fun i hi=>Zdx (by omega)⟩⟩,hs.own.upd hu hs.old.size (by simp) (fun i _ hi=>Zdx hi) ⟨es',c',?_,he,hst⟩ fun i hi => .inl hi⟩
 simp[Array.getElem?_setIfInBounds,hin.2]
theorem Stp_mapUpdate {t kt et b:Nat}{x ix y:Operand}{m:List (ByteArray × Value)}{k:ByteArray}{v:Value}{O':List It}[hM:MapT P t kt et][StringT P kt](hx:ev fr x=some (.map (some b)))(hi:ev fr ix=some (.string k))(hy:ev fr y=some v)
  (hu:Upd O (.mp b m) (.mp b (mset m k v)) O') (kk:Kp undef O'):Stp P n wr fr O ⟨dst,.mapUpdate t x ix y,ty,pos,af,g⟩ Kp :=
 Zg9 fun a w hs=>by
  have ht:=MapT.parts hM.h
  obtain⟨es,c,h1,h2,h9⟩:=hs.own.sat _ hu.mem
  have hf:=Zlz k v m es.toList c 0 h2
  cases hfi:Zed m k 0 with
  | none =>
   rw[hfi]at hf
   have hst:=hs.setMap (es':=es.push { key := .string k,val:=v,born:=c }) (c':=c+1) hu (by unfold Zcl;simpa using hf) (Zru h9 _ _)
   refine⟨_,O',?_,hst.1,hst.2,kk⟩
   simp only[execOp,hs.sim.ev hx,hs.sim.ev hi,hs.sim.ev hy,Instr.mapUpdate,Sem.run_bind,run_underlying ht,Result.andThen_ok,Zbd h1,Zch _ k 9999,ZcE k m es.toList w h2,hfi]
   simp[setObj,Sem.run,h1]
  | some p =>
   obtain⟨j,u⟩:=p
   rw[hfi]at hf
   obtain⟨_,⟨e,he1,he2⟩,hf2⟩:=hf
   simp only[Nat.sub_zero]at he1 hf2
   have hst:=hs.setMap (es':=es.modify j fun e=>{ e with key := .string k,val:=v }) (c':=c) hu (by unfold Zcl;simpa using hf2) (ZmZ h9 _ _ _)
   refine⟨_,O',?_,hst.1,hst.2,kk⟩
   have hkey:((es[j]?).map (·.key)).getD (.string k) = .string k:=by
    have:es[j]?=some e:=by simpa using he1
    simp[this,he2]
   have hstay:(Instr.keyThatStays (.string k) (.string k)).run P w = .ok (.string k) w:=by
    simp[Instr.keyThatStays,Instr.sameBits,Zme]
   simp only[execOp,hs.sim.ev hx,hs.sim.ev hi,hs.sim.ev hy,Instr.mapUpdate,Sem.run_bind,run_underlying ht,Result.andThen_ok,Zbd h1,Zch _ k 9999,ZcE k m es.toList w h2,hfi,hkey,hstay]
   simp[setObj,Sem.run,h1]
end
theorem Zc9 {a b:ByteArray}:a.toList=b.toList↔a=b:=by
 have:=toList_eq a b
 rw[Bool.eq_iff_iff,beq_iff_eq,decide_eq_true_eq]at this
 exact this
class BoolT (P:Program) (t:TypeId):Prop where
 h:P.underlying t=some .bool:=by kernel_rfl
class EqE (P:Program) (t:TypeId) (α:outParam Type) [DecidableEq α] (enc:outParam (α->List Value)):Prop where
 h:∀ x y w,(Op.equalIn 10000 t (.agg (enc x).toArray) (.agg (enc y).toArray)).run P w = .ok (decide (x=y)) w
 g:P.eqGuardType P.depth t=false
section
variable {P:Program}{n:Nat}{wr:World}{fr:Fr}{O:List It}{ty:TypeId}
theorem Pu_eqlE {t t':TypeId}{α:Type}[DecidableEq α]{enc:α->List Value}{x y:Operand}{i j:α}[hE:EqE P t α enc](hx:ev fr x=some (.agg (enc i).toArray))(hy:ev fr y=some (.agg (enc j).toArray)) :
  Pu P n wr fr O (.binOp .eql t x y t') ty (.bool (decide (i=j))):=fun a w hs _ _ _ _=>by
 simp only[execOp,hs.sim.ev hx,hs.sim.ev hy,Sem.run_bind,run_eqGuard_agg (P:=P) w .eql t x y _ _ hE.g,Result.andThen_ok,run_eql_struct,hE.h,Sem.run_pure]
theorem Pu_neqE {t t':TypeId}{α:Type}[DecidableEq α]{enc:α->List Value}{x y:Operand}{i j:α}[hE:EqE P t α enc](hx:ev fr x=some (.agg (enc i).toArray))(hy:ev fr y=some (.agg (enc j).toArray)) :
  Pu P n wr fr O (.binOp .neq t x y t') ty (.bool (!decide (i=j))):=fun a w hs _ _ _ _=>by
 simp only[execOp,hs.sim.ev hx,hs.sim.ev hy,Sem.run_bind,run_eqGuard_agg (P:=P) w .neq t x y _ _ hE.g,Result.andThen_ok,run_neq_struct,hE.h,Sem.run_pure]
theorem Pu_eqB {t t':TypeId}{x y:Operand}{i j:Bool}[hT:BoolT P t](hx:ev fr x=some (.bool i))(hy:ev fr y=some (.bool j)) :
  Pu P n wr fr O (.binOp .eql t x y t') ty (.bool (i==j)):=fun a w hs _ _ _ _=>by
 have h:=run_equalIn_bool' (P:=P) w 9999 t i j hT.h
 have h2:(Op.equal t (.bool i) (.bool j)).run P w = .ok (i==j) w:=h
 simp only[execOp,hs.sim.ev hx,hs.sim.ev hy,binOp,eqGuard,Sem.run_bind]
 simp[h2]
theorem Pu_neqB {t t':TypeId}{x y:Operand}{i j:Bool}[hT:BoolT P t](hx:ev fr x=some (.bool i))(hy:ev fr y=some (.bool j)) :
  Pu P n wr fr O (.binOp .neq t x y t') ty (.bool (!(i==j))):=fun a w hs _ _ _ _=>by
 have h:=run_equalIn_bool' (P:=P) w 9999 t i j hT.h
 have h2:(Op.equal t (.bool i) (.bool j)).run P w = .ok (i==j) w:=h
 simp only[execOp,hs.sim.ev hx,hs.sim.ev hy,binOp,eqGuard,Sem.run_bind]
 simp[h2]
end
theorem Zao {α:Type}{enc:α->List Value}{sz:Nat}(hsz:∀ x,(enc x).length=sz):∀ (l:List α) (k:Nat) (x:α) (j:Nat) (v:Value),l[k]?=some x->(enc x)[j]?=some v->(l.flatMap enc)[k*sz+j]?=some v
 | [],k,x,j,v,h,_=>by simp at h
 | y::l,0,x,j,v,h,hv=>by
  have e:y=x:=by simpa using h
  subst e
  have hj:j<(enc y).length:=(List.getElem?_eq_some_iff.1 hv).1
  simp only[List.flatMap_cons,Nat.zero_mul,Nat.zero_add]
  rw[List.getElem?_append_left hj]
  exact hv
 | y::l,k+1,x,j,v,h,hv=>by
  have h':l[k]?=some x:=by simpa using h
  have ih:=Zao hsz l k x j v h' hv
  simp only[List.flatMap_cons]
  rw[List.getElem?_append_right (by rw[hsz,Nat.add_mul];omega),hsz,show(k+1)*sz+j - sz=k*sz+j from by rw[Nat.add_mul];omega]
  exact ih
theorem ZbA {α:Type}{enc:α->List Value}{sz:Nat}(hsz:∀ x,(enc x).length=sz):∀ l:List α,(l.flatMap enc).length=l.length*sz
 | []=>by simp
 | x::l=>by simp[List.flatMap_cons,hsz,ZbA hsz l,Nat.add_mul];omega
theorem Zyn {α:Type}{enc:α->List Value}{sz:Nat}(hsz:∀ x,(enc x).length=sz)(hpos:0<sz)(l:List α)(i:Nat)(u:Value)(h:(l.flatMap enc)[i]?=some u):∃ x,l[i / sz]?=some x/\(enc x)[i % sz]?=some u:=by
 have hi:i<l.length*sz:=by rw[<- ZbA hsz];exact(List.getElem?_eq_some_iff.1 h).1
 have hk:i / sz<l.length:=(Nat.div_lt_iff_lt_mul hpos).2 hi
 have hm:i % sz<sz:=Nat.mod_lt _ hpos
 refine⟨l[i / sz],List.getElem?_eq_getElem hk,?_⟩
 have hv:(enc l[i / sz])[i % sz]?=some ((enc l[i / sz])[i % sz]'(by rw[hsz];exact hm)):=List.getElem?_eq_getElem _
 have:=Zao hsz l (i / sz) _ (i % sz) _ (List.getElem?_eq_getElem hk) hv
 rw[show i / sz*sz+i % sz=i from by rw[Nat.mul_comm];exact Nat.div_add_mod i sz]at this
 rw[hv,<- this,h]
theorem ZaX {α:Type}{enc:α->List Value}{sz e c:Nat}{A:Option Addr}{l:List α}{w:World}(hsz:∀ x,(enc x).length=sz)(h:(It.row (.slice A l.length c) e sz l.length (l.flatMap enc)).sat w):RdSl w A c enc sz l:=by
 obtain⟨A',c',e1,h1,h2,_,_⟩:=Zfs h
 injection e1 with e2 _ e3
 subst e2 e3
 refine⟨h1,h2,fun k x hx=>⟨?_,fun j v hv=>?_⟩⟩
 ·obtain⟨_,_,e1,_,_,h3,_⟩:=Zfs h
  injection e1 with e2 _ _
  subst e2
  exact h3 (by have:=(List.getElem?_eq_some_iff.1 hx).1;omega)
 ·rw[Zbo]
  exact(ZaD h (Zao hsz l k x j v hx hv)).2
theorem Zcu {w:World}{b:Nat}{cs:List Value}{t:TypeId}(h:(It.blk b cs t).sat w):Raw w (some ⟨b,0,none⟩) cs:=fun j u hu=>⟨by simp,by
 simp only[adr,Option.getD_some,ZbV,Nat.zero_add]
 rw[Zcy h,hu]⟩
theorem RdL.raw {α:Type}{enc:α->List Value}{sz:Nat}{A:Option Addr}{l:List α}{w:World}(hsz:∀ x,(enc x).length=sz)(hpos:0<sz)(h:RdL w A enc sz l):Raw w A (l.flatMap enc):=fun i u hu=>by
 obtain⟨x,h1,h2⟩:=Zyn hsz hpos l i u hu
 obtain⟨h3,h4⟩:=h _ x h1
 refine⟨h3,?_⟩
 have:=h4 _ u h2
 rw[Zbo,show i / sz*sz+i % sz=i from by rw[Nat.mul_comm];exact Nat.div_add_mod i sz]at this
 exact this
theorem ZaA.of {base:Nat}{O R:List It}{A:It}{w:World}(h:ZaA base O w)(hp:Pick A O R):A.sat w:=h.sat _ (hp.perm.mem_iff.2 List.mem_cons_self)
theorem Zpl {α:Type}{enc:α->List Value}(h:∀ x,(enc x).all Value.oneCell'=true):∀ l:List α,(l.flatMap enc).all Value.oneCell'=true
 | []=>rfl
 | x::l=>by rw[List.flatMap_cons,List.all_append,h x,Zpl h l];rfl
theorem Zel {α:Type}{enc:α->List Value}(l:List α)(x:α):l.flatMap enc++enc x=(l++[x]).flatMap enc:=by simp
theorem ZoO {w:World}{e size n c:Nat}{A:Option Addr}{xs:List Value}(h:(It.row (.slice A n c) e size n xs).sat w)(hn:0<n):A≠none:=by
 obtain⟨A2,c2,e1,_,_,h5,_⟩:=Zfs h
 injection e1 with e2 _ _
 subst e2
 exact h5 hn
section
variable {P:Program}{n:Nat}{wr:World}{fr:Fr}{O:List It}{ty:TypeId}
theorem ZbW {t sz e size p m c:Nat}{x:Operand}{A:Option Addr}{xs:List Value}{v:Value}{R:List It}[Ty P t sz false](hx:ev fr x=some (.pointer (some ((adr A).add p))))
  (hp:Pick (.row (.slice A m c) e size m xs) O R) (hv:xs[p]?=some v):Pu P n wr fr O (.load t x) ty v :=
 Zhc hx fun w _ hO=>(ZaD (hO.of hp) hv).2
end
structure AG (α:Type) where
 k:Nat
 A:Option Addr
 c:Nat
 m:Nat
 xs:List Value
 acc:List α
theorem DRule.len (x:DRule):x.enc.length=11:=rfl
theorem DEra.len (x:DEra):x.enc.length=13:=rfl
theorem DLink.len (x:DLink):x.enc.length=2:=rfl
theorem ZaU.len (x:ByteArray):(ZaU x).length=1:=rfl
section
variable {P:Program}{n:Nat}{wr:World}{fr:Fr}{O:List It}{ty:TypeId}{pos:String}{af:Array Edge}{dst:Option Tmp}{g:Option (Nat × Bool)}{Kp:Value->List It->Prop}
theorem Zn8 {t e sz bytes:Nat}{s x:Operand}{A B:Option Addr}{c k c2:Nat}{news:List Value}{O':Option Addr->Nat->List It}[hE:ElemZ P t e sz bytes]
  (hs:ev fr s=some (.slice A 0 c)) (hx:ev fr x=some (.slice B k c2))
  (hu:∀ A' c',Upd O (.row (.slice A 0 c) e sz 0 []) (.row (.slice A' k c') e sz k news) (O' A' c'))
  (hraw:∀ w,Bel wr.heap.size wr w->ZaA wr.heap.size O w->Raw w B news) (hl:news.length=k*sz) (h1:news.all Value.oneCell'=true) (h63:k<=maxLen) (hb:k*bytes<=140737488355328)
  (kk:∀ A' c',k<=c'->c'<=maxLen->(0<k->A'≠none)->Kp (.slice A' k c') (O' A' c')):Stp P n wr fr O ⟨dst,.call ⟨.builtin .append,#[s,x],#[t,t]⟩,ty,pos,af,g⟩ Kp :=
 ZaT (O':=O') hs hx (fun A' c'=>by rw[Nat.zero_add,List.nil_append];exact hu A' c') hraw hl h1 (by omega) (by simpa using hb) (fun A' c' h2 h3 h4=>by
  have:=kk A' c' (by omega) h3 (fun h=>h4 (by omega))
  simpa using this)
end
theorem RdSl.none {α:Type}{w:World}{A:Option Addr}{c:Nat}{enc:α->List Value}{sz:Nat}{xs:List α}(h:RdSl w A c enc sz xs)(hA:A.isNone=true):xs=[]:=by
 cases xs with
 | nil=>rfl
 | cons x l =>
  have:=(h.rd 0 x rfl).1
  simp at hA
  exact absurd hA this
theorem oneR (x:DRule):x.enc.all Value.oneCell'=true:=rfl
theorem oneS (x:ByteArray):(ZaU x).all Value.oneCell'=true:=rfl
theorem Pick.ofMem {A:It}:∀ {O:List It},A∈O->∃ R,Pick A O R
 | [],h=>by simp at h
 | x::O,h=>by
  rcases List.mem_cons.1 h with rfl|h
  ·exact⟨O,.here⟩
  ·obtain⟨R,hR⟩:=Pick.ofMem h
   exact⟨x::R,.there hR⟩
theorem SubO.ofPerm:∀ {O' O R:List It},O.Perm (O'++R)->SubO O' O
 | [],_,_,_ => .nil
 | A::O',O,R,h=>by
  obtain⟨R',hp⟩:=Pick.ofMem (A:=A) (h.mem_iff.2 (by simp))
  refine .cons hp (SubO.ofPerm (R:=R) ?_)
  exact List.Perm.cons_inv (hp.perm.symm.trans h)
theorem SubO.app {O' O R:List It}(h:SubO O' O):SubO O' (O++R):=by
 obtain⟨R',hR⟩:=h.perm
 exact SubO.ofPerm (R:=R'++R) (by rw[<- List.append_assoc];exact hR.append_right R)
theorem ZaA.fact {base:Nat}{O1 O:List It}{w:World}{p:World->Prop}(h:ZaA base (O1++O) w)(hp:∀ w',(∀ i∈O1,i.sat w')->p w'):ZaA base (.fact (foot O1) p::O) w:=by
 obtain⟨h1,h2,h3⟩:=List.pairwise_append.1 h.sep
 refine⟨fun i hi=>?_,fun i hi b hb=>?_,List.pairwise_cons.2 ⟨fun j hj b hb hjb=>?_,h2⟩⟩
 ·rcases List.mem_cons.1 hi with rfl|hi
  ·exact fun w' ha=>hp w' fun i hi=>It.sat_congr (h.sat i (List.mem_append_left _ hi)) fun b hb=>ha b ⟨i,hi,hb⟩
  ·exact h.sat i (List.mem_append_right _ hi)
 ·rcases List.mem_cons.1 hi with rfl|hi
  ·obtain⟨i,hi,hb⟩:=hb
   exact h.inb i (List.mem_append_left _ hi) b hb
  ·exact h.inb i (List.mem_append_right _ hi) b hb
 ·obtain⟨i,hi,hb⟩:=hb
  exact h3 i hi j hj b hb hjb
theorem Zen {S:Nat->Prop}{p:World->Prop}{w:World}(h:(It.fact S p).sat w):p w:=h w fun _ _=>rfl
section
variable {P:Program}{n:Nat}{wr:World}{ops:Array Oper}{K:Fr->List It->Prop}{fr:Fr}{O:List It}
end
theorem SubO.drop {x:It}{O' O:List It}(h:SubO O' O):SubO O' (x::O):=by
 obtain⟨R,hR⟩:=h.perm
 exact SubO.ofPerm (R:=x::R) ((List.Perm.cons x hR).trans List.perm_middle.symm)
theorem Ends.app {F:List It}:∀ {R:List It},Ends (R.append F) F R
 | [] => .nil
 | _::_ => .cons Ends.app
theorem SubO.right:∀ (A O:List It),SubO O (A++O)
 | [],O => .refl O
 | _::A,O=>(SubO.right A O).drop
section
variable {P:Program}{n:Nat}{wr:World}{Q:Exit->Fr->List It->Prop}{fr:Fr}{O:List It}
theorem ZbZ {c:Code}(I:Fr->List It->Prop)(h1:W P n wr c (fun e fr O=>e = .normal/\I fr O) fr O)(h2:∀ fr' O',I fr' O'->Q .normal fr' O'):W P n wr c Q fr O :=
 Zwh h1 fun e fr' O' h=>by
  obtain⟨rfl,h⟩:=h
  exact h2 fr' O' h
end
section
variable {P:Program}{n:Nat}{wr:World}{fr:Fr}{O:List It}{ty:TypeId}{pos:String}{af:Array Edge}{dst:Option Tmp}{g:Option (Nat × Bool)}{Kp:Value->List It->Prop}
theorem Pu_capL {t e sz bytes:Nat}{x:Operand}{A:Option Addr}{len cap:Nat}[hE:ElemT P t e sz bytes](hx:ev fr x=some (.slice A len cap)):Pu P n wr fr O (.call ⟨.builtin .cap,#[x],#[t]⟩) ty (.int .i64 cap) :=
 fun a w hs _ _ _ _=>by
  have h:=hE.h
  unfold Zgd at h
  split at h
  ·rename_i e' hu
   simp[execOp,resolve,invoke,builtin,Builtin.cap_,hs.sim.ev hx,run_underlying hu,goInt]
  ·cases h
theorem Pu_sliceH {t e sz bytes:Nat}{x y:Operand}{A:Option Addr}{len cap:Nat}{h:Int}[hE:ElemZ P t e sz bytes](hx:ev fr x=some (.slice A len cap))(hy:ev fr y=some (.int .i64 h))(h0:0<=h)(h1:h<=cap) :
  Pu P n wr fr O (.slice t x none (some y) none) ty (.slice A h.toNat cap):=fun a w hs _ _ _ _=>by
 obtain⟨i,z,ht,hi,hz,hsz,hby,hzs,hpos⟩:=ElemZ.parts hE.h
 simp[execOp,hs.sim.ev hx,hs.sim.ev hy,Instr.sliceAt,Instr.slice,run_underlying ht,Instr.sliceBounds,run_sliceBound,h0,h1,sizeOf,typeInfo,hi]
 intro _
 cases A with
 | none=>rfl
 | some ad=>simp[Addr.add]
end
section
variable {P:Program}{n:Nat}{wr:World}{fr:Fr}{O:List It}{ty:TypeId}
theorem Zco {t kt et b:Nat}{x ix:Operand}{m:List (ByteArray × Value)}{k:ByteArray}{z v:Value}{c:Bool}{R:List It}[hM:MapT P t kt et][StringT P kt][ZeroV P et z](hx:ev fr x=some (.map (some b)))(hi:ev fr ix=some (.string k))
  (hp:Pick (.mp b m) O R) (hv:(mget m k).getD z=v) (hc:(mget m k).isSome=c):Pu P n wr fr O (.lookup t x ix true) ty (.tuple [v,.bool c].toArray):=hv▸hc▸Pu_lookupOk (kt:=kt) (et:=et) hx hi hp
end
theorem Zva {α:Type}(w:World)(enc:α->List Value)(sz:Nat):RdSl w none 0 enc sz []:=⟨Nat.le_refl _,Nat.zero_le _,fun _ _ h=>by simp at h⟩
theorem Zsd {α:Type}{enc:α->List Value}{sz c b:Nat}{t:TypeId}{l:List α}{w:World}(hsz:∀ x,(enc x).length=sz)(h1:l.length<=c)(h2:c<=maxLen)(h:(It.blk b (l.flatMap enc) t).sat w):RdSl w (some ⟨b,0,none⟩) c enc sz l :=
 ⟨h1,h2,fun k x hx=>⟨by simp,fun j v hv=>by
  rw[Zbo]
  exact(Zcu h _ v (Zao hsz l k x j v hx hv)).2⟩⟩
open Go Go.RowKit Go.ChangeShapes Go.WideShapes Go.ChangeAt
section
variable {H:Type}{enc:TypeId × Value->H}{P:Program}
theorem Zfo (hl:laidOutB P=true){W W':World}(hb:Below W.heap.size W W'){sp:Nat->Bool}:∀ {ts:List TypeId} {vs:List Value} {ds:List (DataW H)} {ps:List MemPlace},
  (∀ t∈ts,P.readableRec t=true/\t<P.types.size)->DataW.TrodAll enc P W 0 (fun _=>true) true ts vs ds ps->(∀ p∈ps,p.block<W.heap.size)->(∀ p∈ps,sp p.block=true)->DataW.TrodAll enc P W' 0 sp true ts vs ds ps
 | [],_,_,_,_,h,_,_=>by
  obtain⟨rfl,rfl,rfl⟩:=trodAll_nil h
  rfl
 | t::ts,_,_,_,hr,h,hlt,hsp=>by
  obtain⟨v,vs,d,ds,p,q,rfl,rfl,rfl,h1,h2⟩:=trodAll_cons h
  obtain⟨r1,r2⟩:=hr t List.mem_cons_self
  refine⟨p,q,WideElems.Trod_stays hl r1 r2 h1 (fun x hx=>hb.same (hlt x (List.mem_append_left _ hx))) (fun x hx=>hsp x (List.mem_append_left _ hx)),?_,rfl⟩
  exact Zfo hl hb (fun t ht=>hr t (List.mem_cons_of_mem _ ht)) h2 (fun x hx=>hlt x (List.mem_append_right _ hx)) (fun x hx=>hsp x (List.mem_append_right _ hx))
theorem Zho {w:World}{base:Nat}{sp:Nat->Bool}{held:Bool}:∀ {ts:List TypeId} {vs:List Value} {ds:List (DataW H)} {ps:List MemPlace},DataW.TrodAll enc P w base sp held ts vs ds ps->vs.length=ts.length/\ds.length=ts.length
 | [],_,_,_,h=>by
  obtain⟨rfl,rfl,rfl⟩:=trodAll_nil h
  exact⟨rfl,rfl⟩
 | t::ts,_,_,_,h=>by
  obtain⟨v,vs,d,ds,p,q,rfl,rfl,rfl,h1,h2⟩:=trodAll_cons h
  have:=Zho h2
  exact⟨by simp[this.1],by simp[this.2]⟩
theorem Zve {fn:Func}{s:ChangeSpec}{W W':World}{args:Array Value}{ds gs:List (DataW H)}{before:List MemPlace}{t:TypeId}(hvars:s.vars=[])(hres:fn.resultTypes = #[t])(ht:P.underlying t=some .bool)(hl:laidOutB P=true)
  (hr:∀ t∈fn.params.toList,P.readableRec t=true/\t<P.types.size) (hspec:∀ ds:List (DataW H),ds.length=fn.params.toList.length->s.fn H ds={ results:=[.lit (.bool true)],args:=ds })
  (hW:DataW.Whole enc P fn.params.toList s.vars false W args.toList ds gs before) (hb:Below W.heap.size W W'):s.post enc P fn false true false false W args (.bool true) W':=by
 have hW':=hW
 obtain⟨p,q,hA,hV,rfl,hz,hn⟩:=hW
 rw[hvars]at hV
 obtain⟨rfl,rfl⟩:=trodVars_none hV
 have hlt:∀ x∈p,x.block<W.heap.size:=fun x hx=>hW'.lt x (List.mem_append_left _ hx)
 have hs:=hspec ds (Zho hA).2
 refine⟨ds,[],_,[],p,[],hW',?_,?_,?_,hb.frame _,fun h=>by cases h⟩
 ·rw[List.append_nil,hs,hres]
  exact⟨[],[],shut_bool ht true,rfl,rfl⟩
 ·rw[List.append_nil,hs]
  exact Zfo hl hb hr hA hlt (fun x hx=>by simpa using hlt x hx)
 ·rw[List.append_nil,hs,hvars]
  rfl
theorem ZcY {w:World}{base:Nat}{sp:Nat->Bool}{held:Bool}{t:TypeId}{fuel:Nat}{cs:List Value}{x:DataW H × List MemPlace}{fs:Array Field}(ht:P.underlying t=some (.struct fs))(h:DataW.trod enc P w base sp held fuel t cs=some x) :
  cs.length=P.cellsOf t/\∀ (i ty off sz:Nat),(fs[i]?).map (fun f=>(f.type,f.offset))=some (ty,off)->P.cellsOf ty=sz->∃ n y,DataW.trod enc P w base sp held n ty ((cs.drop off).take sz)=some y:=by
 obtain⟨xs,n,_,_,hl,hlen,hf⟩:=DataW.trod_struct ht h
 refine⟨hl,fun i ty off sz hi hsz=>⟨n,?_⟩⟩
 obtain⟨f,hi2,e⟩:=Option.map_eq_some_iff.1 hi
 simp only[Prod.mk.injEq]at e
 obtain⟨rfl,rfl⟩:=e
 subst hsz
 have:=hf i f hi2
 have hlt:i<xs.length:=by rw[hlen];exact(Array.getElem?_eq_some_iff.1 hi2).1
 rw[List.getElem?_eq_getElem hlt]at this
 exact⟨_,this⟩
theorem ZoL {α:Type}{w:World}{sp:Nat->Bool}{held:Bool}{t e:TypeId}{fuel:Nat}{v:Value}{x:DataW H × List MemPlace}(ht:P.underlying t=some (.slice e))(R:α->List Value->Prop)
  (he:∀ n cs y,DataW.trod enc P w 0 sp held n e cs=some y->∃ a,R a cs) (h:DataW.trod enc P w 0 sp held fuel t [v]=some x) :
  ∃ (A:Option Addr) (l:List α) (c:Nat),v = .slice A l.length c/\l.length<=c/\c<=maxLen/\∀ k a,l[k]?=some a->A≠none/\∃ cs,R a cs/\Zau w ((adr A).add (k*P.cellsOf e)) cs:=by
 rcases Deep.open_slice ht h with⟨h0,_⟩|⟨a,len,cap,m,n,D,Pl,hcs,hb,hl,hm,hmm,hx,hi⟩
 ·injection h0 with h0 _
  exact⟨none,[],0,h0,Nat.le_refl _,Nat.zero_le _,fun k a h=>by simp at h⟩
 ·injection hcs with hcs _
  have hle:len<=m:=by rw[hmm];split <;> omega
  have key:∀ i,i<len->∃ a':α,∃ cs,R a' cs/\Zau w (a.add (i*P.cellsOf e)) cs:=fun i hi'=>by
   obtain⟨cs',h1,h2⟩:=hi i (by omega)
   obtain⟨a',ha'⟩:=he _ _ _ h2
   obtain⟨_,hcl,hat⟩:=World.cells?_some h1
   refine⟨a',cs',ha',fun j v hj=>?_⟩
   rw[hat j (by have:=(List.getElem?_eq_some_iff.1 hj).1;omega),hj]
  clear hi hx
  have all:∀ n,n<=len->∃ l:List α,l.length=n/\∀ k a',l[k]?=some a'->∃ cs,R a' cs/\Zau w (a.add (k*P.cellsOf e)) cs:=by
   intro n
   induction n with
   | zero=>exact fun _=>⟨[],rfl,fun k a' h=>by simp at h⟩
   | succ n ih =>
    intro hn
    obtain⟨l,h1,h2⟩:=ih (by omega)
    obtain⟨a',h3⟩:=key n (by omega)
    refine⟨l++[a'],by simp[h1],fun k b hk=>?_⟩
    by_cases hkn:k<n
    ·rw[List.getElem?_append_left (by omega)]at hk
     exact h2 k b hk
    ·have hk2:=(List.getElem?_eq_some_iff.1 hk).1
     simp at hk2
     have:k=n:=by omega
     subst this
     rw[List.getElem?_append_right (by omega),h1]at hk
     simp at hk
     subst hk
     exact h3
  obtain⟨l,h1,h2⟩:=all len (Nat.le_refl _)
  exact⟨some a,l,cap,by rw[hcs,h1],by omega,hm,fun k b hk=>⟨by simp,h2 k b hk⟩⟩
theorem ZgW {α:Type}{w:World}{sp:Nat->Bool}{held:Bool}{t e:TypeId}{fuel:Nat}{v:Value}{x:DataW H × List MemPlace}(ht:P.underlying t=some (.slice e))(en:α->List Value)(ok:α->Prop){sz:Nat}(hsz:P.cellsOf e=sz)
  (he:∀ n cs y,DataW.trod enc P w 0 sp held n e cs=some y->∃ a,cs=en a/\ok a) (h:DataW.trod enc P w 0 sp held fuel t [v]=some x) :
  ∃ (A:Option Addr) (l:List α) (c:Nat),v = .slice A l.length c/\RdSl w A c en sz l/\∀ a∈l,ok a:=by
 obtain⟨A,l,c,h1,h2,h3,h4⟩:=ZoL ht (fun(a:α) cs=>cs=en a/\ok a) he h
 refine⟨A,l,c,h1,⟨h2,h3,fun k a hk=>?_⟩,fun a ha=>?_⟩
 ·obtain⟨h5,cs,⟨rfl,_⟩,h6⟩:=h4 k a hk
  rw[hsz]at h6
  exact⟨h5,h6⟩
 ·obtain⟨k,hk⟩:=List.getElem?_of_mem ha
  obtain⟨_,_,⟨_,h5⟩,_⟩:=h4 k a hk
  exact h5
end
theorem Zav {α:Type}{l:List α}{k:Nat}(h:l.length=k+1):∃ a r,l=a::r/\r.length=k:=by
 cases l with
 | nil=>simp at h
 | cons a r=>exact⟨a,r,rfl,by simpa using h⟩
def inR (k:IntKind)(n:Int):Prop:=k.min<=n/\n<=k.max
theorem ZcX {k:IntKind}{n:Int}(h:(Lit.int k n).wf=true):inR k n:=by
 simpa[Lit.wf,inR] using h
end Go.Wk
