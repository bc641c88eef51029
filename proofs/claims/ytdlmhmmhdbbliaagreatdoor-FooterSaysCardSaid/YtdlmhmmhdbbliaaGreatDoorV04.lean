/- Parts of the proof. -/
import Derived.Test.YtdlmhmmhdbbliaaGreatDoorV01
import Derived.Test.YtdlmhmmhdbbliaaGreatDoorV03
import Derived.Maps.AppendAt
import Derived.Lib.SliceRun
set_option maxHeartbeats 4000000
set_option linter.unusedVariables false
set_option linter.unusedSimpArgs false
namespace Go.Wk
open Go Go.RowKit
def Zzm (P:Program)(t:TypeId):Option (TypeId × Nat × Nat × Bool) :=
 match P.underlying t with
 | some (.slice e)=>match P.info? e with|some i=>(match i.zero with|some z=>some (e,i.size,i.bytes,Nat.beq z.cells.size i.size&&Nat.ble 1 i.size)|none=>none)|none=>none
 | _=>none
class ElemZ (P:Program) (t:TypeId) (e:outParam TypeId) (sz bytes:outParam Nat):Prop where
 h:Zzm P t=some (e,sz,bytes,true):=by kernel_rfl
theorem ElemZ.parts {P:Program}{t e:TypeId}{sz bytes:Nat}(h:Zzm P t=some (e,sz,bytes,true)) :
  ∃ i z,P.underlying t=some (.slice e)/\P.info? e=some i/\i.zero=some z/\i.size=sz/\i.bytes=bytes/\z.cells.size=sz/\0<sz:=by
 unfold Zzm at h
 split at h
 ·rename_i e' hu
  split at h
  ·rename_i i hi
   split at h
   ·rename_i z hz
    simp only[Option.some.injEq,Prod.mk.injEq,Bool.and_eq_true]at h
    obtain⟨rfl,rfl,rfl,h1,h2⟩:=h
    exact⟨i,z,hu,hi,hz,rfl,rfl,Nat.eq_of_beq_eq_true h1,Nat.le_of_ble_eq_true h2⟩
   ·cases h
  ·cases h
 ·cases h
def ZyK (P:Program)(t:TypeId):Option Value:=match P.info? t with|some i=>i.zero|none=>none
class ZeroV (P:Program) (t:TypeId) (v:outParam Value):Prop where
 h:ZyK P t=some v:=by kernel_rfl
theorem Zgg {P:Program}{t:TypeId}{v:Value}[hz:ZeroV P t v]{w:World}:(zeroValue t).run P w = .ok v w:=by
 have h:=hz.h
 unfold ZyK at h
 split at h
 ·rename_i i hi
  simp[zeroValue,ZaK hi,h]
 ·cases h
def Raw (w:World)(A:Option Addr)(cs:List Value):Prop:=∀ j u,cs[j]?=some u->A≠none/\w.cell? ((adr A).add j)=some u
theorem Za6 (a:Addr)(i j:Nat):(a.add i).add j=a.add (i+j):=by
 unfold Addr.add
 by_cases hi:i=0 <;> by_cases hj:j=0 <;> simp[hi,hj,Nat.add_assoc]
theorem Zg1 {P:Program}(w:World)(base:Nat)(t ty e:TypeId)(i:TypeInfo)(size:Nat)(ht:P.underlying t=some (.slice e))(hi:P.info? e=some i)
  (v:Value) (n:Nat) (xs:List Value) (hown:w.ownsRow base e size v n xs) (c:Nat):(Builtin.append_ #[t,t] ty #[v,.slice none 0 c]).run P w = .ok v w:=by
 rcases hown.2 with⟨rfl,rfl⟩|⟨g,cap,cur,rfl,_,_,hnc,_⟩
 ·simp[Builtin.append_,run_underlying ht,sizeOf,typeInfo,hi,Builtin.lenOf,Builtin.firstCells]
 ·simp[Builtin.append_,run_underlying ht,sizeOf,typeInfo,hi,Builtin.lenOf,Builtin.firstCells,hnc,storeCells]
theorem Zgh {w:World}{e:TypeId}{size n:Nat}{v:Value}{xs:List Value}(h:w.ownsRow 0 e size v n xs) :
  ∃ A c,v = .slice A n c/\n<=c/\c<=maxLen/\(0<n->A≠none)/\xs.length=n*size:=by
 refine(h.2.elim ?_ ?_)
 ·rintro⟨rfl,rfl⟩
  exact⟨none,0,rfl,Nat.le_refl _,Nat.zero_le _,fun h=>absurd h (by omega),h.1⟩
 ·rintro⟨g,cap,cur,rfl,_,_,h1,h2,_⟩
  exact⟨_,cap,rfl,h1,h2,fun _=>by simp,h.1⟩
theorem Za0 {w:World}{e:TypeId}{size n c:Nat}{A:Option Addr}{xs:List Value}(h:w.ownsRow 0 e size (.slice A n c) n xs){j:Nat}{u:Value}(hj:xs[j]?=some u):A≠none/\w.cell? ((adr A).add j)=some u:=by
 have hlen:=h.1
 have hlt:j<xs.length:=(List.getElem?_eq_some_iff.1 hj).1
 rcases h.2 with⟨hv,hn⟩|⟨g,cap,cur,hv,_,hg,_,_,_,hx⟩
 ·subst hn
  rw[hlen]at hlt
  simp at hlt
 ·injection hv with hA _ hc
  subst hA
  refine⟨by simp,?_⟩
  simp only[adr,Option.getD_some,Zcd,Nat.zero_add]
  rw[World.cell?]
  simp only[hg]
  rw[<- hx]at hj
  have hj2:j<n*size:=by omega
  rw[List.getElem?_take,if_pos hj2]at hj
  simpa using hj
section
variable {P:Program}{n:Nat}{wr:World}{ops:Array Oper}{rest:List Oper}{K:Fr->List It->Prop}{fr:Fr}{O:List It}{ty:TypeId}{pos:String}{af:Array Edge}{dst:Option Tmp}{g:Option (Nat × Bool)}{Kp:Value->List It->Prop}
theorem Zay.rowNil {base:Nat}{w:World}(h:Zay base O w)(e:TypeId)(size:Nat):Zay base (.row (.slice none 0 0) e size 0 []::O) w :=
 ⟨fun i hi=>by
  rcases List.mem_cons.1 hi with rfl|hi
  ·exact World.ownsRow_nil w 0 e size
  ·exact h.sat i hi,fun i hi b hb=>by
  rcases List.mem_cons.1 hi with rfl|hi
  ·simp[It.S,Value.ownBlock]at hb
  ·exact h.inb i hi b hb,List.pairwise_cons.2 ⟨fun _ _ b hb=>by simp[It.S,Value.ownBlock]at hb,h.sep⟩⟩
theorem ZfA {c:Code}{Q:Exit->Fr->List It->Prop}(e:TypeId)(size:Nat)(h:W P n wr c Q fr (.row (.slice none 0 0) e size 0 []::O)):W P n wr c Q fr O:=fun a w hs=>h a w ⟨hs.sim,hs.old,hs.own.rowNil e size⟩
theorem Zay.toRow {base b m:Nat}{cs:List Value}{t:TypeId}{O':List It}{w:World}(h:Zay base O w)(size:Nat)(hc:cs.length=m*size)(hm:m<=maxLen)(hu:Upd O (.blk b cs t) (.row (.slice (some ⟨b,0,none⟩) m m) t size m cs) O'):Zay base O' w:=by
 have hsat:=h.sat _ hu.mem
 have hin:=h.inb _ hu.mem b rfl
 obtain⟨R,h1,h2⟩:=hu.parts
 have h3:=h.perm h1
 refine(?_:Zay base (_::R) w).perm h2.symm
 refine⟨fun i hi=>?_,fun i hi=>?_,List.pairwise_cons.2 ⟨fun j hj k hk=>?_,(List.pairwise_cons.1 h3.sep).2⟩⟩
 ·rcases List.mem_cons.1 hi with rfl|hi
  ·exact⟨hc,.inr ⟨b,m,cs.toArray,rfl,Nat.zero_le _,hsat,Nat.le_refl _,hm,by simpa using hc,by rw[<- hc];simp⟩⟩
  ·exact h3.tail.sat i hi
 ·rcases List.mem_cons.1 hi with rfl|hi
  ·intro k hk
   simp only[It.S,Value.ownBlock,Option.some.injEq]at hk
   subst hk
   exact hin
  ·exact h3.tail.inb i hi
 ·simp only[It.S,Value.ownBlock,Option.some.injEq]at hk
  subst hk
  exact(List.pairwise_cons.1 h3.sep).1 j hj b rfl
theorem ZuD {c:Code}{Q:Exit->Fr->List It->Prop}{b m:Nat}{cs:List Value}{t:TypeId}{O':List It}(size:Nat)(hu:Upd O (.blk b cs t) (.row (.slice (some ⟨b,0,none⟩) m m) t size m cs) O')(hc:cs.length=m*size)(hm:m<=maxLen)
  (h:W P n wr c Q fr O'):W P n wr c Q fr O:=fun a w hs=>h a w ⟨hs.sim,hs.old,hs.own.toRow size hc hm hu⟩
theorem ZaE {t e sz bytes:Nat}{s x:Operand}{A B:Option Addr}{m c k c2:Nat}{xs news:List Value}{O':Option Addr->Nat->List It}[hE:ElemZ P t e sz bytes]
  (hs:ev fr s=some (.slice A m c)) (hx:ev fr x=some (.slice B k c2))
  (hu:∀ A' c',Upd O (.row (.slice A m c) e sz m xs) (.row (.slice A' (m+k) c') e sz (m+k) (xs++news)) (O' A' c'))
  (hraw:∀ w,Bel wr.heap.size wr w->Zay wr.heap.size O w->Raw w B news) (hl:news.length=k*sz) (h1:news.all Value.oneCell'=true) (h63:m+k<=maxLen) (hb:(m+k)*bytes<=140737488355328)
  (kk:∀ A' c',m+k<=c'->c'<=maxLen->(0<m+k->A'≠none)->Kp (.slice A' (m+k) c') (O' A' c')):Stp P n wr fr O ⟨dst,.call ⟨.builtin .append,#[s,x],#[t,t]⟩,ty,pos,af,g⟩ Kp:=by
 refine Zce fun a w hst=>?_
 obtain⟨i,z,ht,hi,hz,hsz,hby,hzs,hpos⟩:=ElemZ.parts hE.h
 have hown:w.ownsRow 0 e sz (.slice A m c) m xs:=hst.own.sat _ (hu none 0).mem
 have hr:=hraw w hst.old hst.own
 have key:∃ v' w',(Builtin.append_ #[t,t] ty #[.slice A m c,.slice B k c2]).run P w = .ok v' w'/\w'.ownsRow 0 e sz v' (m+k) (xs++news)/\w.grownBy w' (Value.slice A m c).ownBlock /\
   (v'.ownBlock=(Value.slice A m c).ownBlock\/v'.ownBlock=some w.heap.size):=by
  rcases B with _|ad
  ·have hn:news=[]:=by
    cases hnw:news with
    | nil=>rfl
    | cons u r =>
     rw[hnw]at hr
     exact absurd rfl (hr 0 u rfl).1
   subst hn
   have hk:k=0:=by
    rcases Nat.eq_zero_or_pos k with h|h
    ·exact h
    ·have:=Nat.mul_pos h hpos
     simp at hl
     omega
   subst hk
   exact⟨_,w,Zg1 w 0 t ty e i sz ht hi _ m xs hown c2,by simpa using hown,World.grownBy.refl w _,.inl rfl⟩
  ·obtain⟨v',w',hrun,h2,h3,_,h5⟩:=run_append_own_at (P:=P) w 0 t ty e i z sz bytes ht hi hz hsz hby hzs hpos _ m xs hown ad k c2 news hl (fun j u hu=>by simpa[adr] using(hr j u hu).2) (fun u hu=>List.all_eq_true.1 h1 u hu) h63 hb (Nat.zero_le _)
   exact⟨v',w',hrun,h2,h3,h5⟩
 obtain⟨v',w',hrun,h2,h3,h5⟩:=key
 obtain⟨A',c',rfl,hc1,hc2,hc3,_⟩:=Zgh h2
 have hinb:=hst.own.inb _ (hu A' c').mem
 refine⟨_,w',O' A' c',?_,?_,?_,kk A' c' hc1 hc2 hc3⟩
 ·simp only[execOp,resolve,invoke,builtin,Sem.run_bind,Sem.run_pure,Result.andThen_ok,List.map_toArray,List.map_cons,List.map_nil,hst.sim.ev hs,hst.sim.ev hx,hrun]
 ·exact hst.old.grown h3 (ZAe _ _ _ _ hrun) hst.old.size fun k' hk'=>(hinb k' hk').1
 ·refine hst.own.upd (hu A' c') hst.old.size h3.size (fun b hb hS=>h3.block b hb fun he=>hS he.symm) h2 fun b hb=>?_
  simp only[It.S]at hb ⊢
  rcases h5 with h5|h5
  ·left;rw[<- h5];exact hb
  ·right
   rw[h5]at hb
   injection hb with hb
   subst hb
   refine⟨Nat.le_refl _,?_⟩
   have:=h2.lt w.heap.size h5
   exact this.2
def Zcz (len sz:Nat)(z:List Value):List Value:=(List.range (len*sz)).map fun i=>z[i % z.length]!
def places (len sz:Nat):List (Nat × Nat):=(List.range len).map fun i=>(i*sz,sz)
theorem ZiZ (sz:Nat):∀ (len:Nat) (ps:List (Nat × Value)) (cs cs':List Value),bld (places len sz) cs ps=some cs'->Instr.fill (fun i=>some (i*sz,sz)) cs.toArray ps=some cs'.toArray
 | _,[],cs,cs',h=>by simp only[bld,Option.some.injEq]at h;subst h;rfl
 | len,(i,v)::r,cs,cs',h=>by
  simp only[bld]at h
  split at h
  ·cases h
  ·rename_i off s hi
   cases hb:(Nat.beq v.cells.toList.length s&&Nat.ble (off+s) cs.length) with
   | false=>rw[hb]at h;cases h
   | true =>
    rw[hb]at h
    simp only[Bool.and_eq_true]at hb
    have h1:=Nat.eq_of_beq_eq_true hb.1
    have h2:=Nat.le_of_ble_eq_true hb.2
    have hoff:off=i*sz/\s=sz:=by
     simp only[places,List.getElem?_map,Option.map_eq_some_iff]at hi
     obtain⟨k,hk,e⟩:=hi
     have hki:k=i:=by
      have:=List.getElem?_eq_some_iff.1 hk
      simpa using this.2.symm
     subst hki
     simp only[Prod.mk.injEq]at e
     exact⟨e.1.symm,e.2.symm⟩
    obtain⟨rfl,rfl⟩:=hoff
    simp only[Instr.fill]
    have h1':v.cells.size=s:=by simpa using h1
    rw[if_neg (by simp[h1'];omega)]
    have hf:=Zhd (i*s) v.cells.toList cs 0
    have hz:(Array.zipIdx v.cells).foldl (fun(cs:Array Value) (p:Value × Nat)=>cs.setIfInBounds (i*s+p.2) p.1) cs.toArray=(lay cs (i*s) v.cells.toList).toArray:=by
     rw[<- Array.foldl_toList,Array.toList_zipIdx]
     simpa using hf
    have ih:=ZiZ s len r (lay cs (i*s) v.cells.toList) cs' (by simpa using h)
    rw[<- ih,<- hz]
theorem Zcu {t e sz bytes len:Nat}{z:List Value}{vs:List (Nat × Value)}{cs:List Value}[hE:ElemZ P t e sz bytes][hz:ZeroT P e z](hlen:Nat.ble (len*sz) 16777216=true)(hb:bld (places len sz) (Zcz len sz z) vs=some cs)(w:World) :
  (Instr.buildSlice t len vs.toArray).run P w = .ok (.slice (some ⟨w.heap.size,0,none⟩) len len) (w.alloc (.cells cs.toArray e)):=by
 obtain⟨i,zv,ht,hi,hzv,hsz,hby,hzs,hpos⟩:=ElemZ.parts hE.h
 have h:=hz.h
 unfold ZgV at h
 rw[hi]at h
 simp only[hzv,Option.some.injEq]at h
 have hle:¬ len*sz>2 ^ 24:=by have:=Nat.le_of_ble_eq_true hlen;omega
 have hf:=ZiZ sz len vs (Zcz len sz z) cs hb
 simp only[Instr.buildSlice,Sem.run_bind,run_underlying ht,Result.andThen_ok,sizeOf,ZaK hi,hsz,if_neg hle,Sem.run_pure]
 by_cases h0:len*sz=0
 ·have hcells:((Array.range (len*sz)).map fun j=>(#[]:Array Value)[j % (#[]:Array Value).size]!)=(Zcz len sz z).toArray:=by simp[h0,Zcz]
  rw[if_pos h0]
  simp only[Sem.run_bind,Sem.run_pure,Result.andThen_ok]
  rw[hcells,hf]
  simp[newRow,newObj,Sem.run]
 ·have hcells:((Array.range (len*sz)).map fun j=>zv.cells[j % zv.cells.size]!)=(Zcz len sz z).toArray:=by
   subst h
   simp only[Zcz,Array.length_toList,Array.getElem!_toList]
   rw[<- List.toArray_range,List.map_toArray]
  rw[if_neg h0]
  simp only[Sem.run_bind,Sem.run_pure,Result.andThen_ok,zeroValue,ZaK hi,hzv]
  rw[hcells,hf]
  simp[newRow,newObj,Sem.run]
theorem ZfO {t e sz bytes len:Nat}{z:List Value}{ps:List (Nat × Operand)}{vs:List (Nat × Value)}{cs:List Value}[hE:ElemZ P t e sz bytes][hz:ZeroT P e z](hx:evpO fr ps=some vs)(hlen:Nat.ble (len*sz) 16777216=true)
  (hb:bld (places len sz) (Zcz len sz z) vs=some cs) (kk:∀ b,Kp (.slice (some ⟨b,0,none⟩) len len) (.blk b cs e::O)):Stp P n wr fr O ⟨dst,.buildSlice t len ps.toArray,ty,pos,af,g⟩ Kp :=
 Zce fun a w hs=>⟨_,_,_,by
  have hps:(Array.map (fun(x:Nat × Operand)=>(x.1,a.eval x.2)) ps.toArray)=vs.toArray:=by
   have:=hs.sim.evpO hx
   simpa using this
  simp only[execOp,hps,Sem.run_bind,Zcu hlen hb,Result.andThen_ok,Sem.run_pure],hs.fresh.1,hs.fresh.2,kk _⟩
theorem ZgS {t e sz bytes len:Nat}{z:List Value}{ps:List (Nat × Operand)}{vs:List (Nat × Value)}{cs:List Value}{d i dd:Nat}[hE:ElemZ P t e sz bytes][hz:ZeroT P e z](hx:evpO fr ps=some vs)(hlen:Nat.ble (len*sz) 16777216=true)
  (hb:bld (places len sz) (Zcz len sz z) vs=some cs):Ay P n wr ops fr ⟨some d,.buildSlice t len ps.toArray,ty,pos,af,none⟩ ⟨i,dd,fun b => .slice (some ⟨b,0,none⟩) len len,cs,e,fun b => .blk b cs e⟩:=⟨ItOk.blk,fun a w hs=>by
 refine⟨rfl,?_⟩
 have hps:(Array.map (fun(x:Nat × Operand)=>(x.1,a.eval x.2)) ps.toArray)=vs.toArray:=by
  have:=hs.evpO hx
  simpa using this
 simp only[execOp,hps,Sem.run_bind,Zcu hlen hb,Result.andThen_ok,Sem.run_pure]⟩
theorem ZpR {w:World}{b e sz:Nat}(h:w.heap[b]?=some (.cells (List.toArray []) e (0,0))):(It.row (.slice (some ⟨b,0,none⟩) 0 0) e sz 0 []).sat w :=
 ⟨by simp,.inr ⟨b,0,#[],rfl,Nat.zero_le _,h,Nat.le_refl _,Nat.zero_le _,by simp,by simp⟩⟩
theorem Stp_buildSlice0 {t e sz bytes:Nat}{z:List Value}[hE:ElemZ P t e sz bytes][hz:ZeroT P e z](kk:∀ b,Kp (.slice (some ⟨b,0,none⟩) 0 0) (.row (.slice (some ⟨b,0,none⟩) 0 0) e sz 0 []::O)):Stp P n wr fr O ⟨dst,.buildSlice t 0 #[],ty,pos,af,g⟩ Kp :=
 Zce fun a w hs=>⟨_,_,_,by
  have:=Zcu (P:=P) (t:=t) (len:=0) (vs:=[]) (cs:=[]) (by simp) (by simp[bld,Zcz]) w
  simp only[execOp,List.map_toArray,List.map_nil,Sem.run_bind,this,Result.andThen_ok,Sem.run_pure],hs.fresh.1,hs.fresh.2.swapHead ⟨fun j=>by simp[It.S,Value.ownBlock,eq_comm],fun _ h=>ZpR h⟩,kk _⟩
theorem Ay_buildSlice0 {t e sz bytes:Nat}{z:List Value}{d i dd:Nat}[hE:ElemZ P t e sz bytes][hz:ZeroT P e z]:Ay P n wr ops fr ⟨some d,.buildSlice t 0 #[],ty,pos,af,none⟩ ⟨i,dd,fun b => .slice (some ⟨b,0,none⟩) 0 0,[],e,fun b => .row (.slice (some ⟨b,0,none⟩) 0 0) e sz 0 []⟩ :=
 ⟨fun _=>⟨fun j=>by simp[It.S,Value.ownBlock,eq_comm],fun _ h=>ZpR h⟩,fun a w _=>by
  refine⟨rfl,?_⟩
  have:=Zcu (P:=P) (t:=t) (len:=0) (vs:=[]) (cs:=[]) (by simp) (by simp[bld,Zcz]) w
  simp only[execOp,List.map_toArray,List.map_nil,Sem.run_bind,this,Result.andThen_ok,Sem.run_pure]⟩
theorem Pu_eqNil {t t' e sz bytes:Nat}{x:Operand}{A:Option Addr}{m c:Nat}[hE:ElemT P t e sz bytes](hx:ev fr x=some (.slice A m c)):Pu P n wr fr O (.binOp .eql t x (.const (.slice none 0 0)) t') ty (.bool A.isNone) :=
 fun a w hs _ _ _ _=>by
  have h:=hE.h
  unfold Zhh at h
  split at h
  ·rename_i e' hu
   have hc:a.eval (.const (.slice none 0 0)) = .slice none 0 0:=rfl
   have hg:(eqGuard .eql t x (.const (.slice none 0 0)) (.slice A m c) (.slice none 0 0)).run P w = .ok () w:=by simp[eqGuard]
   simp only[execOp,hs.sim.ev hx,hc,Sem.run_bind,hg,Result.andThen_ok,Lib.run_eql_slice_nil w t e' A m c 0 0 hu,Sem.run_pure]
  ·cases h
end
def mget (m:List (ByteArray × Value))(k:ByteArray):Option Value :=
 match m with
 | []=>none
 | (x,v)::r=>if k=x then some v else mget r k
def mset (m:List (ByteArray × Value))(k:ByteArray)(v:Value):List (ByteArray × Value) :=
 match m with
 | []=>[(k,v)]
 | (x,u)::r=>if k=x then (k,v)::r else (x,u)::mset r k v
def mdel (m:List (ByteArray × Value))(k:ByteArray):List (ByteArray × Value) :=
 match m with
 | []=>[]
 | (x,u)::r=>if k=x then r else (x,u)::mdel r k
def ZeN (m:List (ByteArray × Value))(k:ByteArray)(i:Nat):Option (Nat × Value) :=
 match m with
 | []=>none
 | (x,v)::r=>if k=x then some (i,v) else ZeN r k (i+1)
theorem Zms (k:ByteArray):∀ (m:List (ByteArray × Value)) (i:Nat),(ZeN m k i).map (·.2)=mget m k
 | [],_=>rfl
 | (x,v)::r,i=>by
  simp only[ZeN,mget]
  split
  ·rfl
  ·exact Zms k r (i+1)
theorem Zjf (a b:ByteArray):(a==b)=decide (a=b):=by rw[beq_toListBytes,toList_eq]
theorem ZiW (k:ByteArray):∀ (m:List (ByteArray × Value)) (es:List MapEntry) (i:Nat),es.map (fun e=>(e.key,e.val))=m.map (fun x=>(Value.string x.1,x.2)) ->
  Instr.findNow .string (.string k) es i=some (ZeN m k i)
 | [],es,i,h=>by
  have:es=[]:=by simpa using h
  subst this
  rfl
 | (x,v)::r,[],i,h=>by simp at h
 | (x,v)::r,e::es,i,h=>by
  simp only[List.map_cons,List.cons.injEq,Prod.mk.injEq]at h
  obtain⟨⟨h1,h2⟩,h3⟩:=h
  have ih:=ZiW k r es (i+1) h3
  simp only[Instr.findNow,h1,Instr.sameNow,Zjf,ZeN]
  by_cases hk:k=x
  ·simp[hk,h2]
  ·simp[hk,ih]
theorem Zc9 {P:Program}{kt:TypeId}[hT:StringT P kt](k:ByteArray)(m:List (ByteArray × Value))(es:List MapEntry)(w:World)(h:es.map (fun e=>(e.key,e.val))=m.map (fun x=>(Value.string x.1,x.2))) :
  (Instr.findKey kt (.string k) es).run P w = .ok (ZeN m k 0) w:=by
 simp[Instr.findKey,run_underlying hT.h,ZiW k m es 0 h]
theorem ZcA {P:Program}{kt:TypeId}[hT:StringT P kt](b:Bool)(k:ByteArray)(d:Nat)(w:World):(Instr.checkKey b (d+1) kt (.string k)).run P w = .ok () w:=by
 simp[Instr.checkKey,run_underlying hT.h]
theorem Zmr (k:ByteArray)(v:Value):∀ (m:List (ByteArray × Value)) (es:List MapEntry) (c i:Nat),es.map (fun e=>(e.key,e.val))=m.map (fun x=>(Value.string x.1,x.2)) ->
  match ZeN m k i with
  | some (j,_)=>i<=j/\(∃ e,es[j - i]?=some e/\e.key = .string k)/\(es.modify (j - i) fun e:MapEntry=>{ e with key := .string k,val:=v }).map (fun e:MapEntry=>(e.key,e.val))=(mset m k v).map (fun x=>(Value.string x.1,x.2))
  | none=>(es++[({ key := .string k,val:=v,born:=c }:MapEntry)]).map (fun e:MapEntry=>(e.key,e.val))=(mset m k v).map (fun x=>(Value.string x.1,x.2))
 | [],es,c,i,h=>by
  have:es=[]:=by simpa using h
  subst this
  simp[ZeN,mset]
 | (x,u)::r,[],c,i,h=>by simp at h
 | (x,u)::r,e::es,c,i,h=>by
  simp only[List.map_cons,List.cons.injEq,Prod.mk.injEq]at h
  obtain⟨⟨h1,h2⟩,h3⟩:=h
  simp only[ZeN,mset]
  by_cases hk:k=x
  ·subst hk
   simp[h1,h3]
  ·simp only[if_neg hk]
   have ih:=Zmr k v r es c (i+1) h3
   cases hf:ZeN r k (i+1) with
   | none =>
    rw[hf]at ih
    simp only[List.cons_append,List.map_cons,h1,h2]
    rw[ih]
   | some p =>
    obtain⟨j,y⟩:=p
    rw[hf]at ih
    obtain⟨ih1,⟨e',ih2,ih3⟩,ih4⟩:=ih
    refine⟨by omega,⟨e',?_,ih3⟩,?_⟩
    ·rw[show j - i=(j - (i+1))+1 from by omega]
     simpa using ih2
    ·rw[show j - i=(j - (i+1))+1 from by omega]
     simp only[List.modify_succ_cons,List.map_cons,h1,h2]
     rw[ih4]
theorem Zmt (k:ByteArray):∀ (m:List (ByteArray × Value)) (es:List MapEntry) (i:Nat),es.map (fun e=>(e.key,e.val))=m.map (fun x=>(Value.string x.1,x.2)) ->
  match ZeN m k i with
  | some (j,_)=>i<=j/\(es.eraseIdx (j - i)).map (fun e=>(e.key,e.val))=(mdel m k).map (fun x=>(Value.string x.1,x.2))
  | none=>mdel m k=m
 | [],es,i,h=>by simp[ZeN,mdel]
 | (x,u)::r,[],i,h=>by simp at h
 | (x,u)::r,e::es,i,h=>by
  simp only[List.map_cons,List.cons.injEq,Prod.mk.injEq]at h
  obtain⟨⟨h1,h2⟩,h3⟩:=h
  simp only[ZeN,mdel]
  by_cases hk:k=x
  ·simp[hk,h3]
  ·simp only[if_neg hk]
   have ih:=Zmt k r es (i+1) h3
   cases hf:ZeN r k (i+1) with
   | none =>
    rw[hf]at ih
    simp only at ih ⊢
    rw[ih]
   | some p =>
    obtain⟨j,y⟩:=p
    rw[hf]at ih
    obtain⟨ih1,ih2⟩:=ih
    refine⟨by omega,?_⟩
    rw[show j - i=(j - (i+1))+1 from by omega]
    simp only[List.eraseIdx_cons_succ,List.map_cons,h1,h2]
    rw[ih2]
theorem MapT.parts {P:Program}{t k e:TypeId}(h:Ztq P t=some (k,e)):P.underlying t=some (.map k e):=by
 unfold Ztq at h
 split at h
 ·rename_i k' e' hu
  simp only[Option.some.injEq,Prod.mk.injEq]at h
  rw[hu,h.1,h.2]
 ·cases h
theorem Zd4 {w:World}{b i:Nat}{o:Obj}(h:i≠b):({ w with heap:=w.heap.setIfInBounds b o }:World).heap[i]?=w.heap[i]?:=by
 simp[Array.getElem?_setIfInBounds_ne (Ne.symm h)]
section
variable {P:Program}{n:Nat}{wr:World}{ops:Array Oper}{rest:List Oper}{K:Fr->List It->Prop}{fr:Fr}{O:List It}{ty:TypeId}{pos:String}{af:Array Edge}{dst:Option Tmp}{g:Option (Nat × Bool)}{Kp:Value->List It->Prop}
theorem Stp_makeMap {t:TypeId}(k:∀ b,Kp (.map (some b)) (.mp b []::O)):Stp P n wr fr O ⟨dst,.makeMap t none,ty,pos,af,g⟩ Kp :=
 Zce fun a w hs=>by
  have hB:Bel w.heap.size w (w.alloc (.map #[] 0)):=(Bel.refl _ _).alloc (Nat.le_refl _) _
  refine⟨.map (some w.heap.size),w.alloc (.map #[] 0),_,?_,hs.old.trans (hB.mono hs.old.size),hs.own.grow (O':=[.mp w.heap.size []]) hB hs.old.size ⟨fun i hi=>?_,fun i hi b hb=>?_,List.pairwise_singleton _ _⟩,k _⟩
  ·simp only[execOp,Option.map_none,Sem.run_bind,run_makeMap (P:=P) t w,Result.andThen_ok,Sem.run_pure]
  ·rw[List.mem_singleton.1 hi]
   exact⟨#[],0,heap_alloc_new w _,rfl,ZpH⟩
  ·rw[List.mem_singleton.1 hi]at hb
   simp only[It.S]at hb
   subst hb
   exact⟨Nat.le_refl _,by simp⟩
theorem Zbh {w:World}{b:Nat}{es:Array MapEntry}{c:Nat}(h:w.heap[b]?=some (.map es c)):(getObj b).run P w = .ok (.map es c) w:=by
 simp[getObj,Sem.run,h]
theorem Ze8 {t kt et b:Nat}{m:List (ByteArray × Value)}{k:ByteArray}{z:Value}{w:World}[hM:MapT P t kt et][StringT P kt][ZeroV P et z](h:(It.mp b m).sat w)(ok:Bool) :
  (Instr.lookup t (.map (some b)) (.string k) ok).run P w = .ok (if ok then .tuple #[(mget m k).getD z,.bool (mget m k).isSome] else (mget m k).getD z) w:=by
 obtain⟨es,c,h1,h2,_⟩:=h
 have hu:=MapT.parts hM.h
 simp only[Instr.lookup,Sem.run_bind,run_underlying hu,Result.andThen_ok,Zbh h1,Sem.run_pure,ZcA _ k 9999,Zc9 k m es.toList w h2]
 have:=Zms k m 0
 cases hf:ZeN m k 0 with
 | none =>
  rw[hf]at this
  simp only[Option.map_none]at this
  rw[<- this]
  simp only[Sem.run_bind,Zgg,Result.andThen_ok,Sem.run_pure,Option.getD_none,Option.isSome_none]
 | some p =>
  rw[hf]at this
  simp only[Option.map_some]at this
  rw[<- this]
  simp only[Sem.run_bind,Sem.run_pure,Result.andThen_ok,Option.getD_some,Option.isSome_some]
theorem Pu_lookup {t kt et b:Nat}{x ix:Operand}{m:List (ByteArray × Value)}{k:ByteArray}{z:Value}{R:List It}[hM:MapT P t kt et][StringT P kt][ZeroV P et z](hx:ev fr x=some (.map (some b)))(hi:ev fr ix=some (.string k))
  (hp:Pick (.mp b m) O R):Pu P n wr fr O (.lookup t x ix false) ty ((mget m k).getD z) :=
 fun a w hs _ _ _ _=>by
  have:=Ze8 (P:=P) (t:=t) (kt:=kt) (et:=et) (k:=k) (z:=z) (hs.own.sat _ (hp.perm.mem_iff.2 List.mem_cons_self)) false
  simp only[execOp,hs.sim.ev hx,hs.sim.ev hi,Sem.run_bind,this,Result.andThen_ok,Sem.run_pure]
  rfl
theorem Pu_lookupOk {t kt et b:Nat}{x ix:Operand}{m:List (ByteArray × Value)}{k:ByteArray}{z:Value}{R:List It}[hM:MapT P t kt et][StringT P kt][ZeroV P et z](hx:ev fr x=some (.map (some b)))(hi:ev fr ix=some (.string k))
  (hp:Pick (.mp b m) O R):Pu P n wr fr O (.lookup t x ix true) ty (.tuple [(mget m k).getD z,.bool (mget m k).isSome].toArray) :=
 fun a w hs _ _ _ _=>by
  have:=Ze8 (P:=P) (t:=t) (kt:=kt) (et:=et) (k:=k) (z:=z) (hs.own.sat _ (hp.perm.mem_iff.2 List.mem_cons_self)) true
  simp only[execOp,hs.sim.ev hx,hs.sim.ev hi,Sem.run_bind,this,Result.andThen_ok,Sem.run_pure]
  rfl
theorem Zht {t kt et b:Nat}{x ix:Operand}{m:List (ByteArray × Value)}{k:ByteArray}{z v:Value}{R:List It}[hM:MapT P t kt et][StringT P kt][ZeroV P et z](hx:ev fr x=some (.map (some b)))(hi:ev fr ix=some (.string k))
  (hp:Pick (.mp b m) O R) (hv:(mget m k).getD z=v):Pu P n wr fr O (.lookup t x ix false) ty v:=hv▸Pu_lookup (kt:=kt) (et:=et) hx hi hp
theorem Zr5 {t kt et b:Nat}{x ix:Operand}{m:List (ByteArray × Value)}{k:ByteArray}{z:Value}[hM:MapT P t kt et][StringT P kt][ZeroV P et z](hx:ev fr x=some (.map (some b)))(hi:ev fr ix=some (.string k))
  (hp:∀ w,Bel wr.heap.size wr w->Zay wr.heap.size O w->(It.mp b m).sat w):Pu P n wr fr O (.lookup t x ix false) ty ((mget m k).getD z) :=
 fun a w hs _ _ _ _=>by
  have:=Ze8 (P:=P) (t:=t) (kt:=kt) (et:=et) (k:=k) (z:=z) (hp w hs.old hs.own) false
  simp only[execOp,hs.sim.ev hx,hs.sim.ev hi,Sem.run_bind,this,Result.andThen_ok,Sem.run_pure]
  rfl
theorem Pu_lenMap {t kt et b:Nat}{x:Operand}{m:List (ByteArray × Value)}{R:List It}[hM:MapT P t kt et](hx:ev fr x=some (.map (some b)))(hp:Pick (.mp b m) O R) :
  Pu P n wr fr O (.call ⟨.builtin .len,#[x],#[t]⟩) ty (.int .i64 m.length) :=
 fun a w hs _ _ _ _=>by
  have hu:=MapT.parts hM.h
  obtain⟨es,c,h1,h2,_⟩:=hs.own.sat _ (hp.perm.mem_iff.2 List.mem_cons_self)
  have hl:es.size=m.length:=by
   have:=congrArg List.length h2
   simpa using this
  simp[execOp,resolve,invoke,builtin,Builtin.len_,hs.sim.ev hx,run_underlying hu,Zbh h1,goInt,hl]
theorem St.setMap {a:Act}{w:World}{b:Nat}{m m':List (ByteArray × Value)}{O':List It}{es':Array MapEntry}{c':Nat}(hs:St n wr fr O a w)(hu:Upd O (.mp b m) (.mp b m') O')(he:ZcG m' es')(hst:stOk es' c') :
  Bel wr.heap.size wr { w with heap:=w.heap.setIfInBounds b (.map es' c') }/\Zay wr.heap.size O' { w with heap:=w.heap.setIfInBounds b (.map es' c') }:=by
 have hin:=hs.own.inb _ hu.mem b rfl
 refine⟨hs.old.trans ⟨⟨rfl,rfl,rfl,by simp,fun i hi=>Zd4 (by omega)⟩⟩,hs.own.upd hu hs.old.size (by simp) (fun i _ hi=>Zd4 hi) ⟨es',c',?_,he,hst⟩ fun i hi => .inl hi⟩
 simp[Array.getElem?_setIfInBounds,hin.2]
theorem Stp_mapUpdate {t kt et b:Nat}{x ix y:Operand}{m:List (ByteArray × Value)}{k:ByteArray}{v:Value}{O':List It}[hM:MapT P t kt et][StringT P kt](hx:ev fr x=some (.map (some b)))(hi:ev fr ix=some (.string k))(hy:ev fr y=some v)
  (hu:Upd O (.mp b m) (.mp b (mset m k v)) O') (kk:Kp undef O'):Stp P n wr fr O ⟨dst,.mapUpdate t x ix y,ty,pos,af,g⟩ Kp :=
 Zh6 fun a w hs=>by
  have ht:=MapT.parts hM.h
  obtain⟨es,c,h1,h2,h9⟩:=hs.own.sat _ hu.mem
  have hf:=Zmr k v m es.toList c 0 h2
  cases hfi:ZeN m k 0 with
  | none =>
   rw[hfi]at hf
   have hst:=hs.setMap (es':=es.push { key := .string k,val:=v,born:=c }) (c':=c+1) hu (by unfold ZcG;simpa using hf) (Zsy h9 _ _)
   refine⟨_,O',?_,hst.1,hst.2,kk⟩
   simp only[execOp,hs.sim.ev hx,hs.sim.ev hi,hs.sim.ev hy,Instr.mapUpdate,Sem.run_bind,run_underlying ht,Result.andThen_ok,Zbh h1,ZcA _ k 9999,Zc9 k m es.toList w h2,hfi]
   simp[setObj,Sem.run,h1]
  | some p =>
   obtain⟨j,u⟩:=p
   rw[hfi]at hf
   obtain⟨_,⟨e,he1,he2⟩,hf2⟩:=hf
   simp only[Nat.sub_zero]at he1 hf2
   have hst:=hs.setMap (es':=es.modify j fun e=>{ e with key := .string k,val:=v }) (c':=c) hu (by unfold ZcG;simpa using hf2) (Zn4 h9 _ _ _)
   refine⟨_,O',?_,hst.1,hst.2,kk⟩
   have hkey:((es[j]?).map (·.key)).getD (.string k) = .string k:=by
    have:es[j]?=some e:=by simpa using he1
    simp[this,he2]
   have hstay:(Instr.keyThatStays (.string k) (.string k)).run P w = .ok (.string k) w:=by
    simp[Instr.keyThatStays,Instr.sameBits,Zjf]
   simp only[execOp,hs.sim.ev hx,hs.sim.ev hi,hs.sim.ev hy,Instr.mapUpdate,Sem.run_bind,run_underlying ht,Result.andThen_ok,Zbh h1,ZcA _ k 9999,Zc9 k m es.toList w h2,hfi,hkey,hstay]
   simp[setObj,Sem.run,h1]
end
theorem ZdH {a b:ByteArray}:a.toList=b.toList↔a=b:=by
 have:=toList_eq a b
 rw[Bool.eq_iff_iff,beq_iff_eq,decide_eq_true_eq]at this
 exact this
class BoolT (P:Program) (t:TypeId):Prop where
 h:P.underlying t=some .bool:=by kernel_rfl
class EqE (P:Program) (t:TypeId) (α:outParam Type) [DecidableEq α] (enc:outParam (α->List Value)):Prop where
 h:∀ x y w,(Op.equalIn 10000 t (.agg (enc x).toArray) (.agg (enc y).toArray)).run P w = .ok (decide (x=y)) w
 g:P.eqGuardType P.depth t=false
section
variable {P:Program}{n:Nat}{wr:World}{fr:Fr}{O:List It}{ty:TypeId}
theorem Pu_eqlE {t t':TypeId}{α:Type}[DecidableEq α]{enc:α->List Value}{x y:Operand}{i j:α}[hE:EqE P t α enc](hx:ev fr x=some (.agg (enc i).toArray))(hy:ev fr y=some (.agg (enc j).toArray)) :
  Pu P n wr fr O (.binOp .eql t x y t') ty (.bool (decide (i=j))):=fun a w hs _ _ _ _=>by
 simp only[execOp,hs.sim.ev hx,hs.sim.ev hy,Sem.run_bind,run_eqGuard_agg (P:=P) w .eql t x y _ _ hE.g,Result.andThen_ok,run_eql_struct,hE.h,Sem.run_pure]
theorem Pu_neqE {t t':TypeId}{α:Type}[DecidableEq α]{enc:α->List Value}{x y:Operand}{i j:α}[hE:EqE P t α enc](hx:ev fr x=some (.agg (enc i).toArray))(hy:ev fr y=some (.agg (enc j).toArray)) :
  Pu P n wr fr O (.binOp .neq t x y t') ty (.bool (!decide (i=j))):=fun a w hs _ _ _ _=>by
 simp only[execOp,hs.sim.ev hx,hs.sim.ev hy,Sem.run_bind,run_eqGuard_agg (P:=P) w .neq t x y _ _ hE.g,Result.andThen_ok,run_neq_struct,hE.h,Sem.run_pure]
theorem Pu_eqB {t t':TypeId}{x y:Operand}{i j:Bool}[hT:BoolT P t](hx:ev fr x=some (.bool i))(hy:ev fr y=some (.bool j)) :
  Pu P n wr fr O (.binOp .eql t x y t') ty (.bool (i==j)):=fun a w hs _ _ _ _=>by
 have h:=run_equalIn_bool' (P:=P) w 9999 t i j hT.h
 have h2:(Op.equal t (.bool i) (.bool j)).run P w = .ok (i==j) w:=h
 simp only[execOp,hs.sim.ev hx,hs.sim.ev hy,binOp,eqGuard,Sem.run_bind]
 simp[h2]
theorem Pu_neqB {t t':TypeId}{x y:Operand}{i j:Bool}[hT:BoolT P t](hx:ev fr x=some (.bool i))(hy:ev fr y=some (.bool j)) :
  Pu P n wr fr O (.binOp .neq t x y t') ty (.bool (!(i==j))):=fun a w hs _ _ _ _=>by
 have h:=run_equalIn_bool' (P:=P) w 9999 t i j hT.h
 have h2:(Op.equal t (.bool i) (.bool j)).run P w = .ok (i==j) w:=h
 simp only[execOp,hs.sim.ev hx,hs.sim.ev hy,binOp,eqGuard,Sem.run_bind]
 simp[h2]
end
end Go.Wk
