/- Parts of the proof. -/
import Derived.Test.YtpipekfmecikmaaGreatDoorW06
import Derived.Orders
import Derived.Test.YtpipekfmecikmaaGreatDoorW05
import Derived.Test.YtpipekfmecikmaaGreatDoorW01
set_option maxHeartbeats 4000000
set_option linter.unusedVariables false
set_option linter.unusedSimpArgs false
namespace Go.Wk
open Go Go.RowKit
def Zak (P:Program)(f:FuncId)(args:List Value)(wr:World)(O:List It)(R:Value->List It->Prop):Prop :=
 ∀ w,Bel wr.heap.size wr w->Zaz wr.heap.size O w->Calls P f args.toArray w fun e w'=>∃ v O',e = .returned v/\Bel wr.heap.size wr w'/\Zaz wr.heap.size O' w'/\R v O'
theorem Zbz {P:Program}{f:FuncId}{fn:Func}{c:Code}{args:List Value}{wr:World}{O:List It}{R:Value->List It->Prop}{n:Nat}{rs:List ResultVar}(y:P.funcs[f]?=some fn)(x:fn.body=some c)(E:fn.ntmps=n)(z:fn.results=rs.toArray)
  (q:Nat.ble args.length n=true) (h:W P n wr c (retQ P wr rs R) (Zfg 0 args) O):Zak P f args wr O R:=by
 intro w m p
 refine calls_of_wp y x ?_
 have i:St n wr (Zfg 0 args) O { tmps:=args.toArray++Array.replicate (fn.ntmps - args.toArray.size) undef,defers:=[] } w:=by
  have s:args.length<=n:=Nat.le_of_ble_eq_true q
  refine⟨⟨rfl,by simp;omega,fun t v D=>?_⟩,m,p⟩
  have:=(ZcR args 0 t v D).2
  simp only[Nat.sub_zero]at this
  have d:t<args.length:=(List.getElem?_eq_some_iff.1 this).1
  rw[Array.getElem?_append_left (by simpa using d)]
  simpa using this
 refine wp_mono (h _ w i) ?_
 rintro e a w' ⟨fr,O1,b,g⟩
 have fin:(∃ vs O',Zo9 P wr fr O1 rs vs/\SubO O' O1/\R (tupV vs) O')->a.defers=[]/\∃ v,(results fn a.tmps).run P w' = .ok v w'/\∃ j O,Ending.returned v = .returned j/\Bel wr.heap.size wr w'/\Zaz wr.heap.size O w'/\R j O:=by
  rintro⟨vs,O',h1,h2,h3⟩
  refine⟨b.sim.defers,(tupV vs),?_,_,O',rfl,b.old,b.own.sub h2,h3⟩
  unfold results
  rw[z,List.mapM_toArray]
  simp only[Sem.run_bind,Sem.run_map]
  rw[ZcN (P:=P) b _ (fun _=>rfl) (fun _ _=>rfl) rs vs h1]
  simp only[Result.andThen_ok,Sem.run_pure]
  congr 1
  clear h1 h3
  match vs with
  | []=>rfl
  | [v]=>rfl
  | v::u::r=>simp;rfl
 cases e with
 | ret=>exact fin g
 | normal=>exact fin g
 | _=>exact g.elim
section
variable {P:Program}{n:Nat}{wr:World}{fr:Fr}{O:List It}{ty:TypeId}{pos:String}{af:Array Edge}{dst:Option Tmp}{g:Option (Nat × Bool)}{Kp:Value->List It->Prop}
theorem ZdF {f:FuncId}{xs:List Operand}{d:Array TypeId}{vs:List Value}{O2:List It}{R:Value->List It->Prop}[Body P f](p:evsO fr xs=some vs)(h:Zak P f vs wr O2 R)(l:SubO O2 O)(k:∀ v O',R v O'->Kp v O') :
  Stp P n wr fr O ⟨dst,.call ⟨.value (.func f),xs.toArray,d⟩,ty,pos,af,g⟩ Kp:=by
 intro a w c Kn Q o
 have b:(execOp a.eval ⟨dst,.call ⟨.value (.func f),xs.toArray,d⟩,ty,pos,af,g⟩).run P w = .ok (.enter f vs.toArray) w:=by
  have:=c.sim.evsO p
  simp[execOp,resolve,Act.eval,Deferred.ofValue,invoke,ZbR,this]
 unfold Oper.wp
 rw[b,Oper.upon_enter]
 refine(h w c.old (c.own.sub l)).mono ?_
 rintro e w' ⟨v,O',rfl,i,j,m⟩
 exact o v _ w' i j (k v O' m)
theorem Zhs (N:Nat):∀ (vs cs:List Value) (j:Nat),(lay cs j vs).take N=lay (cs.take N) j vs
 | [],_,_=>rfl
 | v::r,cs,j=>by rw[lay,lay,Zhs N r,List.take_set]
theorem ZgG {t sz e size m c p:Nat}{T:Bool}{x y:Operand}{A:Option Addr}{xs F vs:List Value}{v:Value}{O':List It}[hT:Ty P t sz T](R:ev fr x=some (.pointer (some ((adr A).add p))))(Z:ev fr y=some v)
  (B:Upd O (.row (.slice A m c) e size m xs) (.row (.slice A m c) e size m F) O') (D:v.cells.toList=vs) (X:vs.length=sz) (U:vs.all Value.oneCell'=true) (Q:p+sz<=xs.length) (h0:0<sz) (W:lay xs p vs=F)
  (k:Kp undef O'):Stp P n wr fr O ⟨dst,.store t x y,ty,pos,af,g⟩ Kp:=by
 refine Zhy fun a w o=>?_
 have z:=o.own.sat _ B.mem
 obtain⟨q,M|⟨b,cap,d,C,V,J,L,H,N,h⟩⟩:=id z
 ·obtain⟨_,rfl⟩:=M
  simp at q
  rw[q]at Q
  simp at Q
  omega
 injection C with hA _ hcc
 subst hA hcc
 have hb:=o.own.inb _ B.mem b (by simp[It.S,Value.ownBlock])
 have Y:xs.length<=d.size:=by rw[<- h,List.length_take,Array.length_toList];omega
 have K:w.heap[b]?=some (.cells d.toList.toArray e (0,0)):=by rw[Array.toArray_toList];exact J
 have G:(adr (some (⟨b,0,none⟩:Addr))).add p=⟨b,p,none⟩:=by
  rw[show adr (some (⟨b,0,none⟩:Addr))=⟨b,0,none⟩ from rfl,Zb5,Nat.zero_add]
 rw[G]at R
 have l:∀ i,w.cell? ⟨b,i,none⟩=d.toList[i]?:=fun i=>by simp[World.cell?,J]
 have I:∀ i,w.frozen? ⟨b,i,none⟩=false:=fun i=>by simp[World.frozen?,J]
 have s:=Zch (P:=P) (ad:=⟨b,p,none⟩) vs w 0 (fun u B=>List.all_eq_true.1 U u B) (fun i r=>by
  rw[Zb5,l,I]
  refine⟨?_,rfl⟩
  rw[List.getElem?_eq_getElem (by rw[Array.length_toList];omega)]
  rfl)
 refine⟨Zbb w ⟨b,p,none⟩ vs 0,O',?_,?_,?_,k⟩
 ·have E:v.cells.size=sz:=by rw[<- X,<- D];simp
  simp only[execOp,o.sim.ev R,o.sim.ev Z,Instr.storeAt,Instr.sureAddr,Sem.run_bind,Sem.run_pure,Result.andThen_ok,storeVar,ZcG,E,ne_eq,not_true,if_false,D,s]
 ·refine o.old.trans ⟨⟨(Zbc vs w 0).1,(Zbc vs w 0).2.1,(Zbc vs w 0).2.2,by rw[Zbn];exact Nat.le_refl _,fun i r=>Zbo vs w 0 i (by show i≠b;omega)⟩⟩
 ·refine o.own.upd B o.old.size (by rw[Zbn];exact Nat.le_refl _) (fun i _ r=>Zbo vs w 0 i (fun e=>r (by rw[e];simp[It.S,Value.ownBlock]))) ?_ (fun i r=>Or.inl r)
  have f:=Zc3 (b:=b) (j:=p) (t:=e) vs d.toList w 0 K
  simp only[Nat.add_zero]at f
  subst W
  refine⟨by rw[lay_length];exact q,.inr ⟨b,c,_,rfl,Nat.zero_le _,f,L,H,?_,?_⟩⟩
  ·rw[List.size_toArray,lay_length,Array.length_toList];exact N
  ·rw[List.toList_toArray,Zhs,h]
end
section
variable {P:Program}{n:Nat}{wr:World}{fr:Fr}{O:List It}{ty:TypeId}{pos:String}{af:Array Edge}{dst:Option Tmp}{g:Option (Nat × Bool)}{Kp:Value->List It->Prop}
theorem Znt {t:TypeId}{x d:Operand}{s:ByteArray}{f:IntKind}{i:Int}[hS:StringT P t](l:ev fr x=some (.string s))(k:ev fr d=some (.int f i))(g:0<=i)(j:i<s.size):Pu P n wr fr O (.index t x d) ty (.int .u8 (s.data.toList.getD i.toNat 0).toNat) :=
 fun a w c _ _ _ _=>by
  have h:=run_index_string (P:=P) (w:=w) t s f i hS.h
  rw[dif_pos ⟨g,j⟩]at h
  have b:i.toNat<s.data.toList.length:=by
   have:s.data.size=s.size:=rfl
   rw[Array.length_toList,this]
   omega
  have e:s.data.toList.getD i.toNat 0=s[i.toNat]'(by omega):=by
   rw[List.getD_eq_getElem?_getD,List.getElem?_eq_getElem b]
   rfl
  simp only[execOp,c.sim.ev l,c.sim.ev k,Sem.run_bind,h,Result.andThen_ok,e]
  rfl
theorem ZuW {t e sz b:Nat}{x y:Operand}{A:Option Addr}{len cap:Nat}{l:Int}[hE:ElemZ P t e sz b](q:ev fr x=some (.slice A len cap))(r:ev fr y=some (.int .i64 l))(j:0<=l)(k:l<=len)(u:l<cap) :
  Pu P n wr fr O (.slice t x (some y) none none) ty (.slice (A.map (·.add (l.toNat*sz))) (len - l.toNat) (cap - l.toNat)):=fun a w g _ _ _ _=>by
 obtain⟨i,z,p,o,v,d,m,s,f⟩:=ElemZ.parts hE.h
 have c:¬ (cap=l.toNat):=by omega
 simp[execOp,g.sim.ev q,g.sim.ev r,Instr.sliceAt,Instr.slice,run_underlying p,Instr.sliceBounds,run_sliceBound,j,k,sizeOf,typeInfo,o,c,d]
end
section
variable {P:Program}{n:Nat}{wr:World}{fr:Fr}{O:List It}{ty:TypeId}{pos:String}{af:Array Edge}{dst:Option Tmp}{g:Option (Nat × Bool)}{Kp:Value->List It->Prop}
theorem Zjt {e size m c p:Nat}{A:Option Addr}{xs x vs:List Value}{O':List It}{a:Act}{w:World}(q:St n wr fr O a w)
  (s:Upd O (.row (.slice A m c) e size m xs) (.row (.slice A m c) e size m x) O') (H:vs.all Value.oneCell'=true) (K:p+vs.length<=xs.length) (M:0<vs.length) (J:lay xs p vs=x) :
  ∃ w',(storeCells ((adr A).add p) vs 0).run P w = .ok () w'/\Bel wr.heap.size wr w'/\Zaz wr.heap.size O' w':=by
 have r:=q.own.sat _ s.mem
 obtain⟨k,F|⟨b,cap,d,v,I,C,E,z,G,g⟩⟩:=id r
 ·obtain⟨_,rfl⟩:=F
  simp at k
  subst k
  simp only[List.length_nil]at K
  omega
 injection v with hA _ hcc
 subst hA hcc
 have N:=q.own.inb _ s.mem b (by simp[It.S,Value.ownBlock])
 have L:xs.length<=d.size:=by rw[<- g,List.length_take,Array.length_toList];omega
 have D:w.heap[b]?=some (.cells d.toList.toArray e (0,0)):=by rw[Array.toArray_toList];exact C
 have y:(adr (some (⟨b,0,none⟩:Addr))).add p=⟨b,p,none⟩:=by
  rw[show adr (some (⟨b,0,none⟩:Addr))=⟨b,0,none⟩ from rfl,Zb5,Nat.zero_add]
 rw[y]
 have h:∀ i,w.cell? ⟨b,i,none⟩=d.toList[i]?:=fun i=>by simp[World.cell?,C]
 have B:∀ i,w.frozen? ⟨b,i,none⟩=false:=fun i=>by simp[World.frozen?,C]
 have o:=Zch (P:=P) (ad:=⟨b,p,none⟩) vs w 0 (fun u s=>List.all_eq_true.1 H u s) (fun i l=>by
  rw[Zb5,h,B]
  refine⟨?_,rfl⟩
  rw[List.getElem?_eq_getElem (by rw[Array.length_toList];omega)]
  rfl)
 refine⟨Zbb w ⟨b,p,none⟩ vs 0,o,?_,?_⟩
 ·refine q.old.trans ⟨⟨(Zbc vs w 0).1,(Zbc vs w 0).2.1,(Zbc vs w 0).2.2,by rw[Zbn];exact Nat.le_refl _,fun i l=>Zbo vs w 0 i (by show i≠b;omega)⟩⟩
 ·refine q.own.upd s q.old.size (by rw[Zbn];exact Nat.le_refl _) (fun i _ l=>Zbo vs w 0 i (fun e=>l (by rw[e];simp[It.S,Value.ownBlock]))) ?_ (fun i l=>Or.inl l)
  have f:=Zc3 (b:=b) (j:=p) (t:=e) vs d.toList w 0 D
  simp only[Nat.add_zero]at f
  subst J
  refine⟨by rw[lay_length];exact k,.inr ⟨b,c,_,rfl,Nat.zero_le _,f,E,z,?_,?_⟩⟩
  ·rw[List.size_toArray,lay_length,Array.length_toList];exact G
  ·rw[List.toList_toArray,Zhs,g]
theorem Zsl {t e sz d p k m c u:Nat}{x:Operand}{ad:Addr}{xs:List Value}{z:Value}{O':List It}[hE:ElemZ P t e sz d][hz:ZeroV P e z](J:ev fr x=some (.slice (some (ad.add p)) k u))
  (I:Upd O (.row (.slice (some ad) m c) e sz m xs) (.row (.slice (some ad) m c) e sz m (lay xs p (Builtin.zeroCells z.cells k).toList)) O') (v:(Builtin.zeroCells z.cells k).toList.all Value.oneCell'=true) (D:0<k) (E:p+k*sz<=xs.length)
  (L:Kp (.tuple #[]) O'):Stp P n wr fr O ⟨dst,.call ⟨.builtin .clear,#[x],#[t]⟩,ty,pos,af,g⟩ Kp:=by
 refine ZbQ fun a w s=>?_
 obtain⟨i,r,H,C,l,G,B,o,f⟩:=ElemZ.parts hE.h
 have q:r=z:=by
  have h:=hz.h
  unfold Zzz at h
  rw[C]at h
  exact Option.some.inj (l.symm.trans h)
 subst q
 have b:(Builtin.zeroCells r.cells k).toList.length=k*sz:=by rw[Array.length_toList,size_zeroCells,o]
 obtain⟨w',F,y,A⟩:=Zjt (P:=P) s I v (by rw[b];exact E) (by rw[b];exact Nat.mul_pos D f) rfl
 refine⟨.tuple #[],w',O',?_,y,A,L⟩
 obtain⟨k,rfl⟩:∃ K,k=K+1:=⟨k - 1,by omega⟩
 have j:(storeCells (ad.add p) (Builtin.zeroCells r.cells (k+1)).toList 0).run P w = .ok () w':=F
 simp[execOp,resolve,invoke,builtin,Builtin.clear_,s.sim.ev J,run_underlying H,ZfB,j]
theorem Zux {ops:Array Oper}{x:List Oper}{K:Fr->List It->Prop}{e size m c:Nat}{A:Option Addr}{xs:List Value}{O':List It}(k:Nat)(u:k<=m)(v:Upd O (.row (.slice A m c) e size m xs) (.row (.slice A k c) e size k (xs.take (k*size))) O')
  (h:RL P n wr ops x K fr O'):RL P n wr ops x K fr O:=fun a w g=>h a w ⟨g.sim,g.old,by
 refine g.own.upd v g.old.size (Nat.le_refl _) (fun _ _ _=>rfl) ?_ (fun i q=>?_)
 ·have j:=g.own.sat _ v.mem
  obtain⟨t,r|⟨b,cap,o,l,y,z,B,p,s,d⟩⟩:=j
  ·obtain⟨C,rfl⟩:=r
   obtain rfl:k=0:=by omega
   injection C with h1 _ h3
   subst h1 h3
   exact⟨by simp,.inl ⟨rfl,rfl⟩⟩
  ·injection l with hA _ hcc
   subst hA hcc
   refine⟨?_,.inr ⟨b,c,o,rfl,Nat.zero_le _,z,by omega,p,s,?_⟩⟩
   ·have f:k*size<=m*size:=Nat.mul_le_mul_right size u
    rw[List.length_take,t]
    omega
   ·have f:k*size<=m*size:=Nat.mul_le_mul_right size u
    rw[<- d,List.take_take,Nat.min_eq_left f]
 ·left
  simp only[It.S,Value.ownBlock]at q ⊢
  cases A with
  | none=>exact q
  | some a=>exact q⟩
end
section
variable {P:Program}{n:Nat}{wr:World}{ops:Array Oper}{fr:Fr}{O:List It}{K:Fr->List It->Prop}{ty:TypeId}
theorem Zxi {t t':TypeId}{x:Operand}{e:IntKind}{i:Int}{sz:Nat}{a:Bool}[Ty P t sz a][IntT P t' .u8](d:ev fr x=some (.int e i))(b:0<=i)(c:i<=255):Pu P n wr fr O (.convert t t' x) ty (.int .u8 i):=by
 have:=Pu_convI (P:=P) (n:=n) (wr:=wr) (O:=O) (ty:=ty) (t:=t) (t':=t') d
 rwa[show IntKind.u8.wrap i=i from IntWalk.u8_in i ⟨b,c⟩]at this
end
theorem Zb8 {P:Program}{n:Nat}{wr:World}{fr:Fr}{O:List It}{ty:TypeId}{t sz e a p m c:Nat}{x:Operand}{A:Option Addr}{xs vs:List Value}{R:List It}[Ty P t sz true](i:ev fr x=some (.pointer (some ((adr A).add p))))
  (g:Pick (.row (.slice A m c) e a m xs) O R) (h:∀ j v,vs[j]?=some v->xs[p+j]?=some v) (f:vs.length=sz):Pu P n wr fr O (.load t x) ty (.agg vs.toArray) :=
 Zhz i f fun w _ b j v d=>by
  rw[ZbB]
  exact(Za2 (b.of g) (h j v d)).2
theorem ZaG {P:Program}{n:Nat}{wr:World}{fr:Fr}{O:List It}{ty:TypeId}{t e sz b:Nat}{x d:Operand}{A:Option Addr}{len cap:Nat}{l:IntKind}{i:Int}[hE:ElemT P t e sz b](k:ev fr x=some (.slice A len cap))(j:ev fr d=some (.int l i))
  (f:0<=i) (g:i<len) (h:∀ w,Bel wr.heap.size wr w->Zaz wr.heap.size O w->A≠none):Pu P n wr fr O (.indexAddr t x d) ty (.pointer (some ((adr A).add (i.toNat*sz)))) :=
 fun a w c=>Pu_indexAddr k j f g (h w c.old c.own) a w c
section
variable {P:Program}{n:Nat}{wr:World}{fr:Fr}{O:List It}{ty:TypeId}{pos:String}{af:Array Edge}{dst:Option Tmp}{g:Option (Nat × Bool)}{Kp:Value->List It->Prop}
theorem ZdZ {f:FuncId}{d:Operand}{xs:List Operand}{i:Array TypeId}{us vs cs:List Value}{O2:List It}{R:Value->List It->Prop}[Body P f](p:ev fr d=some (.func (.func f) us.toArray cs.toArray))(r:evsO fr xs=some vs)(h:Zak P f (us++vs++cs) wr O2 R)(m:SubO O2 O)(k:∀ v O',R v O'->Kp v O') :
  Stp P n wr fr O ⟨dst,.call ⟨.value d,xs.toArray,i⟩,ty,pos,af,g⟩ Kp:=by
 intro a w c Kn Q q
 have b:(execOp a.eval ⟨dst,.call ⟨.value d,xs.toArray,i⟩,ty,pos,af,g⟩).run P w = .ok (.enter f (us++vs++cs).toArray) w:=by
  have:=c.sim.evsO r
  simp[execOp,resolve,c.sim.ev p,Deferred.ofValue,invoke,ZbR,this]
 unfold Oper.wp
 rw[b,Oper.upon_enter]
 refine(h w c.old (c.own.sub m)).mono ?_
 rintro e w' ⟨v,O',rfl,j,l,o⟩
 exact q v _ w' j l (k v O' o)
end
theorem ZgO {P:Program}{n:Nat}{wr:World}{fr:Fr}{O:List It}{ty:TypeId}{x y:Operand}{e:Array TypeId}{k:IntKind}{i j:Int}(c:ev fr x=some (.int k i))(d:ev fr y=some (.int k j)):Pu P n wr fr O (.call ⟨.builtin .min,#[x,y],e⟩) ty (.int k (if j<i then j else i)) :=
 fun a w b _ _ _ _=>by simp[execOp,resolve,invoke,builtin,Builtin.min_,Builtin.min2,b.sim.ev c,b.sim.ev d]
section
variable {P:Program}{n:Nat}{wr:World}{fr:Fr}{O:List It}{ty:TypeId}
theorem ZAJ {t t':TypeId}{x y:Operand}{b:IntKind}{i j:Int}(d:ev fr x=some (.int b i))(e:ev fr y=some (.int b j)):Pu P n wr fr O (.binOp .and t x y t') ty (.int b (b.wrap (BitVec.ofInt b.bits i &&& BitVec.ofInt b.bits j).toNat)) :=
 fun a w c _ _ _ _=>by simp[execOp,c.sim.ev d,c.sim.ev e,eqGuard,binOp,Op.intBits]
end
theorem Does.monoO {P:Program}{f:FuncId}{args:List Value}{w:World}{R R':Value->List It->Prop}(h:Does P f args w R)(j:∀ v O,R v O->∃ O',R' v O'/\∀ a w',Zaz a O w'->Zaz a O' w'):Does P f args w R' :=
 Calls.mono h fun _ _ ⟨v,O,b,c,d,e⟩=>by
  obtain⟨O',g,i⟩:=j v O e
  exact⟨v,O',b,c,i _ _ d,g⟩
section
variable {P:Program}{n:Nat}{wr:World}{fr:Fr}{O:List It}{ty:TypeId}
theorem ZAK {t t':TypeId}{x y:Operand}{i j:Int}(a:ev fr x=some (.int .u8 i))(b:ev fr y=some (.int .u8 j))(h:0<=i+j/\i+j<=255):Pu P n wr fr O (.binOp .add t x y t') ty (.int .u8 (i+j)):=by
 have:=ZlA (P:=P) (n:=n) (wr:=wr) (O:=O) (ty:=ty) (t:=t) (t':=t') a b
 rwa[IntWalk.u8_in _ h]at this
end
section
variable {P:Program}{n:Nat}{wr:World}{fr:Fr}{O:List It}{ty:TypeId}{pos:String}{af:Array Edge}{dst:Option Tmp}{g:Option (Nat × Bool)}{Kp:Value->List It->Prop}
end
section
variable {P:Program}{n:Nat}{wr:World}{fr:Fr}{O:List It}{ty:TypeId}{pos:String}{af:Array Edge}{dst:Option Tmp}{g:Option (Nat × Bool)}{Kp:Value->List It->Prop}
theorem ZeI {t sz e a p q m c:Nat}{x:Operand}{A:Option Addr}{xs:List Value}{v:Value}{R:List It}[Ty P t sz false](f:ev fr x=some (.pointer (some (((adr A).add p).add q))))
  (b:Pick (.row (.slice A m c) e a m xs) O R) (d:xs[p+q]?=some v):Pu P n wr fr O (.load t x) ty v :=
 Zb9 (by rw[<- ZbB];exact f) b d
end
end Go.Wk
namespace Go.Proofs.YtpipekfmecikmaaGreatDoor
open Go Go.RowKit Go.Wk
def fnV (f:Nat):Value := .func (.func f) #[] #[]
def ZmC:List Value:=[.bool false,.bool true,fnV 383,.bool true,.bool false,fnV 384,.bool true,.bool true,fnV 386,.bool true,.bool true,fnV 388]
def Zf0:List Value:=[fnV 390,.int .i64 3,fnV 392,.int .i64 12,fnV 393,.int .i64 3,fnV 395,.int .i64 3,fnV 397,.int .i64 14,fnV 398,.int .i64 15]
structure Glob (w:World):Prop where
 bef:Zau w ⟨3,0,none⟩ (ZaY.map fun n => .int .i64 n)
 kin:Zau w ⟨2,3,none⟩ ZmC
 con:Zau w ⟨4,0,none⟩ Zf0
theorem Glob.up {w w':World}(h:Glob w)(a:Bel w.heap.size w w'):Glob w' :=
 ⟨h.bef.up a (Nat.le_refl _),h.kin.up a (Nat.le_refl _),h.con.up a (Nat.le_refl _)⟩
end Go.Proofs.YtpipekfmecikmaaGreatDoor
namespace Go.Wk
open Go Go.RowKit
theorem Zfy (a b:Int)(c:0<b):(a.tmod b<0->a.tdiv b - 1=a / b/\a.tmod b+b=a % b)/\(¬ a.tmod b<0->a.tdiv b=a / b/\a.tmod b=a % b):=by
 have d:=Int.mul_tdiv_add_tmod a b
 have e:=Int.tmod_lt_of_pos a c
 have j:=Int.lt_tmod_of_pos a c
 have key:∀ q r:Int,b*q+r=a->0<=r->r<b->q=a / b/\r=a % b:=fun q r i f g=>by
  have:=(Int.ediv_emod_unique (a:=a) (r:=r) (q:=q) c).2 ⟨by omega,f,g⟩
  exact⟨this.1.symm,this.2.symm⟩
 constructor
 ·intro h
  exact key _ _ (by rw[Int.mul_sub];omega) (by omega) (by omega)
 ·intro h
  exact key _ _ d (by omega) e
theorem ZhO (a b:Int):a.tmod b=0↔a % b=0:=by rw[<- Int.dvd_iff_tmod_eq_zero,<- Int.dvd_iff_emod_eq_zero]
theorem Zn0 (a b:Int) : -(a.natAbs:Int)<=a.tdiv b/\a.tdiv b<=a.natAbs:=by
 have c:=Int.natAbs_tdiv_le_natAbs a b
 omega
section
variable {P:Program}{n:Nat}{wr:World}{fr:Fr}{O:List It}{ty:TypeId}
theorem ZuX {t t':TypeId}{x y:Operand}{i j:Int}(b:ev fr x=some (.int .i64 i))(c:ev fr y=some (.int .i64 j))(a:j≠0)(e:i.natAbs<=9223372036854775807):Pu P n wr fr O (.binOp .quo t x y t') ty (.int .i64 (i.tdiv j)):=by
 have:=Pu_quo (P:=P) (n:=n) (wr:=wr) (O:=O) (ty:=ty) (t:=t) (t':=t') b c a
 have d:=Zn0 i j
 rwa[Zcm (by omega)]at this
theorem Zph {x y:Operand}{e:Array TypeId}{k:IntKind}{i j:Int}(c:ev fr x=some (.int k i))(d:ev fr y=some (.int k j)):Pu P n wr fr O (.call ⟨.builtin .max,#[x,y],e⟩) ty (.int k (if i<j then j else i)) :=
 fun a w b _ _ _ _=>by simp[execOp,resolve,invoke,builtin,Builtin.max_,Builtin.max2,b.sim.ev c,b.sim.ev d]
theorem Zbr {t len e sz:Nat}{j:Bool}{x f:Operand}{ad:Addr}{u:IntKind}{i:Int}[hA:ArrT P t len e sz j](r:ev fr x=some (.pointer (some ad)))(o:ev fr f=some (.int u i))(l:0<=i)(m:i<len) :
  Pu P n wr fr O (.indexAddr t x f) ty (.pointer (some (ad.add (i.toNat*sz)))) :=
 fun a w d _ _ _ _=>by
  have h:=hA.h
  unfold Zkr at h
  split at h
  ·rename_i g y q
   split at h
   ·rename_i v k p
    simp only[Option.some.injEq,Prod.mk.injEq]at h
    obtain⟨rfl,rfl,rfl,rfl⟩:=h
    obtain⟨s,dd,b,c,_,_⟩:=Ty.parts p
    simp[execOp,d.sim.ev r,d.sim.ev o,Instr.indexAt,asIntOf,run_underlying q,Instr.sureAddr,l,m,sizeOf,ZaM b,c]
   ·cases h
  ·cases h
end
section
variable {P:Program}{n:Nat}{wr:World}{ops:Array Oper}{rest:List Oper}{K:Fr->List It->Prop}{fr:Fr}{O:List It}{ty:TypeId}{pos:String}{af:Array Edge}
theorem RL_und {c:Nat}{h:Op}{j:Nat}{b:Bool}{g:Oper}{d:Nat}(m:ops[j]?=some g)(l:g.dst=some d)(i:look fr d=some undef)(f:Nat.ble (c+1) n=true)
  (k:RL P n wr ops rest K ((c,undef)::fr) O):RL P n wr ops (⟨some c,h,ty,pos,af,some (j,b)⟩::rest) K fr O:=by
 intro a w e
 have:=k (a.put (some c) undef) w ⟨e.sim.put f undef,e.old,e.own⟩
 have o:Region.wanted (⟨some c,h,ty,pos,af,some (j,b)⟩:Oper) (yielded ops a.tmps)=false:=by
  have p:yielded ops a.tmps j=none:=by simp[yielded,m,l,e.sim.at_ d _ i,undef]
  simp only[Region.wanted,p]
  cases b <;> rfl
 simp only[wpList,o]
 exact this
end
def yN (r:Nat):Nat:=(r - r / 1460+r / 36524 - r / 146096) / 365
def okYN (r:Nat):Bool:=Nat.ble (yN r) 399&&Nat.ble (yN r*365+yN r / 4 - yN r / 100) r&&Nat.ble (r - (yN r*365+yN r / 4 - yN r / 100)) 366&&(Nat.blt r ((yN r+1)*365+(yN r+1) / 4 - (yN r+1) / 100)||Nat.beq (yN r) 399)
def Zw5:Nat->Nat->Bool
 | 0,_=>true
 | k+1,r=>okYN r&&Zw5 k (r+1)
theorem Znk:∀ (k r i:Nat),Zw5 k r=true->i<k->okYN (r+i)=true
 | 0,_,_,_,h=>by omega
 | k+1,r,i,h,hi=>by
  rw[Zw5,Bool.and_eq_true]at h
  cases i with
  | zero=>exact h.1
  | succ i =>
   have:=Znk k (r+1) i h.2 (by omega)
   rwa[show r+1+i=r+(i+1) by omega]at this
theorem Zun:∀ c,c<1461->Zw5 (if c=1460 then 97 else 100) (100*c)=true:=by decide +kernel
theorem Zst (r:Nat):Zcz (r:Int)=(yN r:Nat):=by
 unfold Zcz yN
 omega
theorem Zsu (k:Nat)(a:k<146097):okYN k=true:=by
 have h:=Znk _ (100*(k / 100)) (k % 100) (Zun _ (by omega)) (by split <;> omega)
 rwa[show 100*(k / 100)+k % 100=k by omega]at h
theorem ZpC (r:Int)(a:0<=r)(b:r<146097):0<=Zcz r/\Zcz r<=399/\0<=r - (Zcz r*365+Zcz r / 4 - Zcz r / 100)/\r - (Zcz r*365+Zcz r / 4 - Zcz r / 100)<=366:=by
 obtain⟨k,rfl⟩:=Int.eq_ofNat_of_zero_le a
 have h:=Zsu k (by omega)
 simp only[okYN,Bool.and_eq_true,Nat.ble_eq]at h
 rw[Zst]
 omega
end Go.Wk
namespace Go.Proofs.YtpipekfmecikmaaGreatDoor
open Go Go.RowKit Go.Wk
attribute [local irreducible] W RL Does Zat Zaj retQ Calls Pu Stp RD Qy Ay Zak
theorem ZgD (y:Int)(w:World):Does Tryz.prog 164 [.int .i64 y] w (fun v O=>v = .bool (inY y)/\O=[]):=by
 refine Zaa Tryz.func164 rfl rfl rfl rfl ?_
 repeat' (first|refine walk ?_|refine und ?_|(refine Zam rfl rfl rfl (fun a=>?_) (fun a=>?_))|(refine Zas rfl rfl rfl (fun a=>?_) (fun a=>?_))|(refine Zaf rfl (fun a=>?_) (fun a=>?_)))
 all_goals first|(refine ret_1 _ [] (.tmp rfl) .nil ⟨?_,rfl⟩;first|rfl|(simp only[*,Bool.true_and,Bool.false_and,Bool.true_or,Bool.false_or,Bool.not_true,Bool.not_false];done)|(simp_all [inY];done)|(simp_all [inY];omega)|(simp_all [inY];rw[Bool.eq_iff_iff];simp;omega))|(exfalso;simp_all [inY];done)|(exfalso;simp_all [inY];omega)|(exfalso;omega)
theorem Zq3 {G:Prop}(h:G:=by(apply Pu_rem;rfl;rfl;decide)):G:=h
theorem Ztz (y:Int)(w:World):Does Tryz.prog 219 [.int .i64 y] w (fun v O=>v = .bool (ZbZ y)/\O=[]):=by
 rw[show ZbZ y=(decide (y.tmod 4=0)&&(!decide (y.tmod 100=0)||decide (y.tmod 400=0))) by simp only[ZbZ,ZhO]]
 refine Zaa Tryz.func219 rfl rfl rfl rfl ?_
 repeat' (first|(apply RL_pu;rfl;exact Zq3)|refine walk1 ?_|refine und ?_|(refine Zam rfl rfl rfl (fun a=>?_) (fun a=>?_))|(refine Zas rfl rfl rfl (fun a=>?_) (fun a=>?_))|(refine Zaf rfl (fun a=>?_) (fun a=>?_)))
 all_goals exact clo1
theorem ZbK (y m:Int)(w:World):Does Tryz.prog 165 [.int .i64 y,.int .i64 m] w (fun v O=>v = .int .i64 (lenM y m)/\O=[]):=by
 refine Zaa Tryz.func165 rfl rfl rfl rfl ?_
 repeat' (first|(refine js ?_;(refine Zab (fun w' _=>Ztz y w') ?_))|refine walk ?_|refine und ?_|(refine Zam rfl rfl rfl (fun a=>?_) (fun a=>?_))|(refine Zas rfl rfl rfl (fun a=>?_) (fun a=>?_))|(refine Zaf rfl (fun a=>?_) (fun a=>?_)))
 all_goals first|(refine ret_1 _ [] (.tmp rfl) .nil ⟨?_,rfl⟩;first|rfl|(simp only[*,Bool.true_and,Bool.false_and,Bool.true_or,Bool.false_or,Bool.not_true,Bool.not_false];done)|(simp_all [lenM];done)|(simp_all [lenM];omega)|(simp_all [lenM];rw[Bool.eq_iff_iff];simp;omega))|(exfalso;simp_all [lenM];done)|(exfalso;simp_all [lenM];omega)|(exfalso;omega)
theorem ZlF {G:Prop}(h:G:=by(first|(apply ZuX;rfl;rfl;omega;omega)|(apply Pu_rem;rfl;rfl;omega))):G:=h
theorem Zqx {G:Prop}(h:G:=by first|(apply Qy_y;rfl;exact ZlF)|exact QyA):G:=h
theorem Zxg {G:Prop}(h:G:=by repeat (first|exact QF.nil|(apply QF.mk;rfl;rfl;decide +kernel;exact Zqx))):G:=h
theorem ZcF (a b:Int)(e:0<b)(r : -4611686018427387904<=a/\a<=4611686018427387904)(s:b<=4611686018427387904)(w:World):Does Tryz.prog 118 [.int .i64 a,.int .i64 b] w (fun v O=>v = .tuple #[.int .i64 (a / b),.int .i64 (a % b)]/\O=[]):=by
 have m:=Int.tmod_lt_of_pos a e
 have p:=Int.lt_tmod_of_pos a e
 have q:=Zn0 a b
 obtain⟨g,j⟩:=Zfy a b e
 refine Zaa Tryz.func118 rfl rfl rfl rfl ?_
 repeat' (first|(apply RL_pu;rfl;exact ZlF)|(apply RD_Q;rfl;rfl;decide +kernel;rfl;rfl;exact Zqx)|refine walk1 ?_|(refine RD_Lw ?_;intro F;(apply Zad;first|exact ZlF|exact PuA);refine⟨_,EndsA,Zxg,?_⟩)|(refine Zaf rfl (fun f=>?_) (fun f=>?_)))
 ·obtain⟨c,d⟩:=g (of_decide_eq_true f)
  exact ret_2 _ _ [] (.tmp rfl) (.tmp rfl) .nil ⟨by rw[<- c,<- d],rfl⟩
 ·obtain⟨c,d⟩:=j (of_decide_eq_false f)
  exact ret_2 _ _ [] (.tmp rfl) (.tmp rfl) .nil ⟨by rw[<- c,<- d],rfl⟩
theorem Zjy (a:Int)(g : -4611686018427387904<=a/\a<=4611686018427387904)(w:World):Does Tryz.prog 389 [.int .i64 a] w (fun v O=>v = .int .i64 (Zeb a)/\O=[]):=by
 have d:=Int.tmod_lt_of_pos a (b:=7) (by decide)
 have f:=Int.lt_tmod_of_pos a (b:=7) (by decide)
 refine Zaa Tryz.func389 rfl rfl rfl rfl ?_
 repeat (first|(apply RL_pu;rfl;exact Zq3)|(refine js ?_;(refine Zab (fun w' _=>ZcF (a.tmod 7+4) 7 (by decide) (by omega) (by decide) w') ?_))|refine walk1 ?_)
 refine ret_1 _ [] (.tmp rfl) .nil ⟨?_,rfl⟩
 have h:=Zfy a 7 (by decide)
 have e:(a.tmod 7+4) % 7=Zeb a:=by
  unfold Zeb
  by_cases c:a.tmod 7<0
  ·have:=(h.1 c).2
   omega
  ·have:=(h.2 c).2
   omega
 rw[e]
theorem Zlo {w:World}(b:Glob w)(k:Nat)(a:k<12):(ZaY.map fun n=>Value.int .i64 n)[k*1]?=some (.int .i64 (ZaY.getD k 0)):=by
 rw[Nat.mul_one,List.getElem?_map,List.getD_eq_getElem?_getD,List.getElem?_eq_getElem (show k<ZaY.length from a)]
 rfl
theorem ZdD {y m d:Int}(h:Za3 y m d=true):(-2000000000<=y/\y<=2000000000)/\(1<=m/\m<=12)/\1<=d/\d<=31:=by
 simp only[Za3,inY,Bool.and_eq_true,decide_eq_true_eq]at h
 obtain⟨⟨⟨b,c⟩,e⟩,a⟩:=h
 have f:=Zeu y m
 refine⟨⟨b,c⟩,?_,e,by omega⟩
 unfold lenM at a
 split at a <;> omega
theorem Zga {G:Prop}(h:G:=by(first|(apply Zdf;rfl;rfl;(constructor <;> omega))|(apply Pu_quo64;rfl;rfl;omega;omega;omega)|(apply Zbr;rfl;rfl;omega;omega)|(apply Pu_loadO1';rfl;exact hG.bef;exact hb))):G:=h
theorem Zqw {G:Prop}(h:G:=by first|(apply Qy_y;rfl;exact Zga)|exact QyA):G:=h
theorem Zxf {G:Prop}(h:G:=by repeat (first|exact QF.nil|(apply QF.mk;rfl;rfl;decide +kernel;exact Zqw))):G:=h
theorem ZiU (y m d:Int)(w:World)(hG:Glob w):Does Tryz.prog 107 [.int .i64 y,.int .i64 m,.int .i64 d] w (fun v O=>v = .tuple #[.int .i64 (if Za3 y m d then Za5 y m d else 0),.int .i64 (if Za3 y m d then 0 else 3)]/\O=[]):=by
 refine Zaa Tryz.func107 rfl rfl rfl rfl ?_
 by_cases b:Za3 y m d=true
 ·obtain⟨g,i,j⟩:=ZdD b
  have c:=b
  simp only[Za3,Bool.and_eq_true,decide_eq_true_eq]at c
  obtain⟨⟨r,_⟩,p⟩:=c
  rw[if_pos b,if_pos b]
  by_cases e:m<3
  ·have hb:=Zlo hG (m+12 - 3).toNat (by omega)
   have f:=ZbT (m+12 - 3).toNat
   rw[Za5,if_pos e,Zb2]
   generalize ZaY.getD (m+12 - 3).toNat 0=q at *
   repeat' (first|(apply RL_pu;rfl;exact Zga)|(refine js ?_;(first|(refine Zab (fun w' _=>ZgD y w') ?_)|(refine Zab (fun w' _=>ZbK y m w') ?_)|(refine Zab (fun w' _=>ZcF (y - 1) 400 (by decide) (by omega) (by decide) w') ?_)))|refine walk1 ?_|refine und ?_|(refine Zam rfl rfl rfl (fun a=>?_) (fun a=>?_))|(refine Zas rfl rfl rfl (fun a=>?_) (fun a=>?_))|(refine Zaf rfl (fun a=>?_) (fun a=>?_)))
   all_goals exact clo2
  ·have hb:=Zlo hG (m - 3).toNat (by omega)
   have f:=ZbT (m - 3).toNat
   rw[Za5,if_neg e,Zb2]
   generalize ZaY.getD (m - 3).toNat 0=q at *
   repeat' (first|(apply RL_pu;rfl;exact Zga)|(refine js ?_;(first|(refine Zab (fun w' _=>ZgD y w') ?_)|(refine Zab (fun w' _=>ZbK y m w') ?_)|(refine Zab (fun w' _=>ZcF y 400 (by decide) (by omega) (by decide) w') ?_)))|refine walk1 ?_|refine und ?_|(refine Zam rfl rfl rfl (fun a=>?_) (fun a=>?_))|(refine Zas rfl rfl rfl (fun a=>?_) (fun a=>?_))|(refine Zaf rfl (fun a=>?_) (fun a=>?_)))
   all_goals exact clo2
 ·rw[if_neg b,if_neg b]
  repeat' (first|(refine js ?_;(first|(refine Zab (fun w' _=>ZgD y w') ?_)|(refine Zab (fun w' _=>ZbK y m w') ?_)))|refine walk ?_|refine und ?_|(refine Zam rfl rfl rfl (fun a=>?_) (fun a=>?_))|(refine Zas rfl rfl rfl (fun a=>?_) (fun a=>?_))|(refine Zaf rfl (fun a=>?_) (fun a=>?_)))
  all_goals first|(refine ret_2 _ _ [] (.tmp rfl) (.tmp rfl) .nil ⟨?_,rfl⟩;first|rfl|(simp only[*,Bool.true_and,Bool.false_and,Bool.true_or,Bool.false_or,Bool.not_true,Bool.not_false];done)|(simp_all [Za3];done)|(simp_all [Za3];omega)|(simp_all [Za3];rw[Bool.eq_iff_iff];simp;omega))|(exfalso;simp_all [Za3];done)|(exfalso;simp_all [Za3];omega)|(exfalso;omega)
theorem Zss (n:Int):n / 146097+(n % 146097+719468) / 146097=(n+719468) / 146097/\(n % 146097+719468) % 146097=(n+719468) % 146097:=by omega
theorem Ztm (r:Int):∀ m,monN r m<=m
 | 0=>Nat.le_refl _
 | m+1=>by
  rw[monN]
  split
  ·exact Nat.le_refl _
  ·have:=Ztm r m;omega
theorem Ze4 {G:Prop}(h:G:=by(first|(apply Zdf;rfl;rfl;(constructor <;> omega))|(apply Pu_quo64;rfl;rfl;omega;omega;omega))):G:=h
theorem ZkK {G G':Prop}(k:G')(h:Hold G'->G:=by intro k9;(first|(apply RL_pu;rfl;exact Ze4)|(apply RD_Q;rfl;rfl;decide +kernel;rfl;rfl;exact QyCivil3)|refine walk1 ?_|(refine jn ?_;(try intro F);(apply Zad;first|exact Ze4|exact PuA);first|refine⟨_,EndsA,QFCivil3,?_⟩|refine fin ?_));exact k9.out):G:=h ⟨k⟩
theorem Zq2 {G:Prop}(h:G:=by(first|(apply Zbr;rfl;rfl;omega;omega)|(apply Pu_loadO1';rfl;exact hG.bef;exact hb))):G:=h
theorem Zt3 (n:Int)(R : -1000000000000000000<=n/\n<=1000000000000000000)(w:World)(hG:Glob w):Does Tryz.prog 119 [.int .i64 n] w (fun v O=>(∃ m d,v = .tuple #[.int .i64 (Zcs n),.int .i64 m,.int .i64 d])/\O=[]):=by
 obtain⟨x,D⟩:=Zss n
 have E:0<=(n+719468) % 146097/\(n+719468) % 146097<146097:=by omega
 obtain⟨T,U,W,X⟩:=ZpC _ E.1 E.2
 have t:Zcs n=if 10<=monN ((n+719468) % 146097 - (Zcz ((n+719468) % 146097)*365+Zcz ((n+719468) % 146097) / 4 - Zcz ((n+719468) % 146097) / 100)) 11 then (n+719468) / 146097*400+Zcz ((n+719468) % 146097)+1 else (n+719468) / 146097*400+Zcz ((n+719468) % 146097):=rfl
 refine Zaa Tryz.func119 rfl rfl rfl rfl ?_
 repeat (first|(apply RL_pu;rfl;exact Ze4)|(apply RD_Q;rfl;rfl;decide +kernel;rfl;rfl;exact QyCivil3)|refine walk1 ?_|(refine jg ?_;(try intro F);(refine Zab (fun w' _=>ZcF n 146097 (by decide) (by omega) (by decide) w') ?_);first|refine⟨_,EndsA,QFCivil3,?_⟩|refine fin ?_)|(refine jn ?_;(try intro F);(apply Zad;first|exact Ze4|exact PuA);first|refine⟨_,EndsA,QFCivil3,?_⟩|refine fin ?_))
 refine Zaf rfl (fun _=>?_) (fun h=>?_)
 rotate_left
 ·have:=of_decide_eq_false h
  omega
 repeat (first|refine walk ?_|(refine jg ?_;(try intro F);(refine Zab (fun w' _=>ZcF (n % 146097+719468) 146097 (by decide) (by omega) (by decide) w') ?_);refine fin ?_)|(refine jn ?_;(try intro F);(apply Zad;exact PuA);refine fin ?_))
 rw[x,D]
 clear x D
 generalize hcc:(n+719468) / 146097=c at *
 have M : -10000000000000<=c/\c<=10000000000000:=by omega
 generalize (n+719468) % 146097=r at *
 rw[show(r - r / 1460+r / 36524 - r / 146096) / 365=Zcz r from rfl]
 generalize Zcz r=y at *
 clear R hcc
 generalize hq:r - (y*365+y / 4 - y / 100)=q at *
 repeat (first|(apply RL_pu;rfl;exact Ze4)|(apply RD_Q;rfl;rfl;decide +kernel;rfl;rfl;exact QyCivil3)|refine walkB1 ?_|(refine jn ?_;(try intro F);(apply Zad;first|exact Ze4|exact PuA);first|refine⟨_,EndsA,QFCivil3,?_⟩|refine fin ?_))
 rw[hq]
 refine Zb6 (fun fr' O'=>Sub [(10,.int .i64 (monN q 11)),(5,.int .i64 c),(9,.int .i64 y),(6,.int .i64 q)] fr'/\SubO [] O') ?_ ?_
 ·apply W_block
  refine Zai [(5,.int .i64 c),(9,.int .i64 y),(6,.int .i64 q)] [] (fun k:Nat=>[(10,.int .i64 k)]) (fun _=>[]) (fun k=>k<=11/\monN q k=monN q 11) (fun k=>k) 11 SFA .nil ⟨Nat.le_refl _,rfl⟩ ?_
  rintro k ⟨S,J⟩
  have hb:=Zlo hG k (by omega)
  have f:∀ j,k=j+1->monN q k=if ZaY.getD k 0<=q then k else monN q j:=fun j h=>by subst h;rw[monN]
  have K:k=0->ZaY.getD k 0=0:=fun h=>by subst h;rfl
  generalize ZaY.getD k 0=z at *
  repeat (first|(apply RL_pu;rfl;exact Zq2)|(apply RD_Q;rfl;rfl;decide +kernel;rfl;rfl;exact QyCivil4)|refine walk1 ?_|(refine jn ?_;(try intro F);(apply Zad;first|exact Zq2|exact PuA);first|refine⟨_,EndsA,QFCivil4,?_⟩|refine fin ?_))
  refine Zaf rfl (fun h=>?_) (fun h=>?_)
  ·have u:=of_decide_eq_true h
   have N:k≠0:=fun e=>by have:=K e;omega
   obtain⟨j,rfl⟩:∃ j,k=j+1:=⟨k - 1,by omega⟩
   have s:=f j rfl
   rw[if_neg (by omega)]at s
   repeat refine ZkK ?_
   rw[show((j+1:Nat):Int) - 1=(j:Int) by omega]
   exact⟨j,OA,⟨OA,by rw[<- s];exact J⟩,SFA,.nil⟩
  ·have u:=of_decide_eq_false h
   have s:monN q k=k:=by
    cases k with
    | zero=>rfl
    | succ j =>
     have s:=f j rfl
     rw[if_pos (by omega)]at s
     exact s
   repeat (first|refine walk ?_|(refine jn ?_;(try intro F);(apply Zad;exact PuA);refine fin ?_))
   rw[<- J,s]
   exact⟨rfl,SFA,.nil⟩
 rintro fr' O' ⟨I,H⟩
 apply thenQ_n
 refine ZcV I H ?_
 clear I H fr' O'
 have Q:=Ztm q 11
 generalize monN q 11=k at *
 have hb:=Zlo hG k (by omega)
 have L:=ZbT k
 generalize ZaY.getD k 0=z at *
 repeat (first|(apply RL_pu;rfl;exact Zga)|(apply RD_Q;rfl;rfl;decide +kernel;rfl;rfl;exact Zqw)|refine walk1 ?_|(refine jn ?_;(try intro F);(apply Zad;first|exact Zga|exact PuA);first|refine⟨_,EndsA,Zxf,?_⟩|refine fin ?_))
 refine Zaf rfl (fun h=>?_) (fun h=>?_)
 ·have u:=of_decide_eq_true h
  rw[if_pos (by omega)]at t
  repeat refine ZkK ?_
  exact Zdl _ _ _ [] (.tmp rfl) (.tmp rfl) (.tmp rfl) .nil ⟨⟨_,_,by rw[t]⟩,rfl⟩
 ·have u:=of_decide_eq_false h
  rw[if_neg (by omega)]at t
  repeat refine ZkK ?_
  exact Zdl _ _ _ [] (.tmp rfl) (.tmp rfl) (.tmp rfl) .nil ⟨⟨_,_,by rw[t]⟩,rfl⟩
theorem ZlM (t:Int)(c : -4611686018427387904<=t/\t<=4611686018427387904)(w:World)(a:Glob w):Does Tryz.prog 78 [.int .i64 t] w (fun v O=>v = .int .i64 (ZaE t)/\O=[]):=by
 refine Zaa Tryz.func78 rfl rfl rfl rfl ?_
 repeat (first|(apply RL_pu;rfl;(first|(apply ZgO;rfl;rfl)|(apply Zph;rfl;rfl)))|(refine js ?_;(first|(refine Zab (fun w' _=>ZcF t 86400 (by decide) (by omega) (by decide) w') ?_)|(apply Zae (h:=fun w' b _=>Zt3 (t / 86400) (by omega) w' (a.up b));rfl;rintro v O' ⟨⟨m,d,rfl⟩,rfl⟩)))|refine walk1 ?_)
 refine ret_1 _ [] (.tmp rfl) .nil ⟨?_,rfl⟩
 unfold ZaE
 generalize Zcs (t / 86400)=y
 congr 1
 split <;> split <;> omega
theorem ZoY (x k:Int)(hx : -1000000000000000000<=x/\x<=1000000000000000000)(b:0<=k/\k<=6)(w:World):Does Tryz.prog 387 [.int .i64 x,.int .i64 k] w (fun v O=>v = .int .i64 (Zbt x k)/\O=[]):=by
 have c:=ZpD x
 refine Zaa Tryz.func387 rfl rfl rfl rfl ?_
 unfold Zbt
 repeat' (first|(apply RL_pu;rfl;exact PuDayf0)|(refine js ?_;(refine Zab (fun w' _=>Zjy x (by omega) w') ?_))|refine walk1 ?_|(refine Zaf rfl (fun a=>?_) (fun a=>?_)))
 all_goals exact clo1
theorem Zi0 (x k:Int)(hx : -1000000000000000000<=x/\x<=1000000000000000000)(b:0<=k/\k<=6)(w:World):Does Tryz.prog 385 [.int .i64 x,.int .i64 k] w (fun v O=>v = .int .i64 (ZaX x k)/\O=[]):=by
 have c:=ZpD x
 refine Zaa Tryz.func385 rfl rfl rfl rfl ?_
 unfold ZaX
 repeat' (first|(apply RL_pu;rfl;exact PuDayf0)|(refine js ?_;(refine Zab (fun w' _=>Zjy x (by omega) w') ?_))|refine walk1 ?_|(refine Zaf rfl (fun a=>?_) (fun a=>?_)))
 all_goals exact clo1
def ZmB (k:Int):FuncId:=if k=1 then 383 else if k=2 then 384 else if k=3 then 386 else 388
theorem ZrP (p q:Int)(d:DDay)(j : -100000000000000000<=p/\p<=100000000000000000)(m : -100000000000000000<=q/\q<=100000000000000000)(i:1<=d.kind/\d.kind<=4)(c:0<=d.week/\d.week<=6)(g:0<=d.day/\d.day<=31)(w:World) :
  Does Tryz.prog (ZmB d.kind) [.int .i64 p,.int .i64 q,.agg (DDay.enc d).toArray] w (fun v O=>v = .int .i64 (Ze9 p q d)/\O=[]):=by
 obtain⟨k,a,dd⟩:=d
 simp only at i c g ⊢
 have f:k=1\/k=2\/k=3\/k=4:=by omega
 rcases f with rfl|rfl|rfl|rfl
 ·rw[show Ze9 p q ⟨1,a,dd⟩=p+dd - 1 by simp[Ze9]]
  show Does _ 383 [.int .i64 p,.int .i64 q,.agg #[.int .i64 1,.int .i64 a,.int .i64 dd]] w _
  refine Zaa Tryz.func383 rfl rfl rfl rfl ?_
  repeat' (first|(apply RL_pu;rfl;exact PuDayf0)|(refine js ?_;(refine bx ?_;intro e))|refine walk1 ?_|(refine Zaf rfl (fun b=>?_) (fun b=>?_)))
  all_goals exact clo1
 ·rw[show Ze9 p q ⟨2,a,dd⟩=ZaX q a by simp[Ze9]]
  show Does _ 384 [.int .i64 p,.int .i64 q,.agg #[.int .i64 2,.int .i64 a,.int .i64 dd]] w _
  refine Zaa Tryz.func384 rfl rfl rfl rfl ?_
  repeat' (first|(apply RL_pu;rfl;exact PuDayf0)|(refine js ?_;(first|(refine Zab (fun w' _=>Zi0 q a (by omega) c w') ?_)|(refine bx ?_;intro e)))|refine walk1 ?_|(refine Zaf rfl (fun b=>?_) (fun b=>?_)))
  all_goals exact clo1
 ·rw[show Ze9 p q ⟨3,a,dd⟩=Zbt (p+dd - 1) a by simp[Ze9]]
  show Does _ 386 [.int .i64 p,.int .i64 q,.agg #[.int .i64 3,.int .i64 a,.int .i64 dd]] w _
  refine Zaa Tryz.func386 rfl rfl rfl rfl ?_
  repeat' (first|(apply RL_pu;rfl;exact PuDayf0)|(refine js ?_;(first|(refine Zab (fun w' _=>ZoY (p+dd - 1) a (by omega) c w') ?_)|(refine bx ?_;intro e)))|refine walk1 ?_|(refine Zaf rfl (fun b=>?_) (fun b=>?_)))
  all_goals exact clo1
 ·rw[show Ze9 p q ⟨4,a,dd⟩=ZaX (p+dd - 1) a by simp[Ze9]]
  show Does _ 388 [.int .i64 p,.int .i64 q,.agg #[.int .i64 4,.int .i64 a,.int .i64 dd]] w _
  refine Zaa Tryz.func388 rfl rfl rfl rfl ?_
  repeat' (first|(apply RL_pu;rfl;exact PuDayf0)|(refine js ?_;(first|(refine Zab (fun w' _=>Zi0 (p+dd - 1) a (by omega) c w') ?_)|(refine bx ?_;intro e)))|refine walk1 ?_|(refine Zaf rfl (fun b=>?_) (fun b=>?_)))
  all_goals exact clo1
theorem ZxD {w:World}(e:Glob w)(k:Int)(b:1<=k/\k<=4):Zau w ((⟨2,0,none⟩:Addr).add (k.toNat*3)) [.bool (Zq7 k),.bool (dayK k),fnV (ZmB k)]:=by
 intro j v a
 have b:=e.kin ((k.toNat - 1)*3+j) v
 have d:k=1\/k=2\/k=3\/k=4:=by omega
 have f:j<3:=(List.getElem?_eq_some_iff.1 a).1
 have c:j=0\/j=1\/j=2:=by omega
 rcases d with rfl|rfl|rfl|rfl <;> rcases c with rfl|rfl|rfl <;> exact b a
theorem ZiT (d:DDay)(w:World)(i:Glob w):Does Tryz.prog 72 [.agg (DDay.enc d).toArray] w (fun v O=>v = .int .i64 (if Zbv d then 0 else 2)/\O=[]):=by
 obtain⟨k,c,dd⟩:=d
 by_cases f:1<=k/\k<=4
 ·have b:=ZxD i k f
  have e:Zbv ⟨k,c,dd⟩ = !((!decide (c=0)&&!Zq7 k)||decide (c<0)||decide (6<c)||(dayK k==decide (dd=0))||decide (dd<0)||decide (31<dd)):=by simp[Zbv,f.1,f.2]
  rw[e]
  generalize Zq7 k=b1 at *
  generalize dayK k=b2 at *
  show Does _ _ [.agg #[.int .i64 k,.int .i64 c,.int .i64 dd]] w _
  refine Zaa Tryz.func72 rfl rfl rfl rfl ?_
  repeat' (first|(apply RL_pu;rfl;(first|exact PuDayf0|(apply Zbr;rfl;rfl;omega;omega)|(apply Pu_loadON;rfl;exact b;rfl)))|(refine js ?_;(refine bx ?_;intro g))|refine walk1 ?_|refine und ?_|(refine Zam rfl rfl rfl (fun a=>?_) (fun a=>?_))|(refine Zas rfl rfl rfl (fun a=>?_) (fun a=>?_))|(refine Zaf rfl (fun a=>?_) (fun a=>?_)))
  all_goals exact clo1
 ·have e:Zbv ⟨k,c,dd⟩=false:=by
   simp only[Zbv]
   have:(decide (1<=k)&&decide (k<=4))=false:=by simp;omega
   rw[this];rfl
  rw[e]
  show Does _ _ [.agg #[.int .i64 k,.int .i64 c,.int .i64 dd]] w _
  refine Zaa Tryz.func72 rfl rfl rfl rfl ?_
  repeat' (first|(refine js ?_;(refine bx ?_;intro g))|refine walk ?_|refine und ?_|(refine Zam rfl rfl rfl (fun a=>?_) (fun a=>?_))|(refine Zas rfl rfl rfl (fun a=>?_) (fun a=>?_))|(refine Zaf rfl (fun a=>?_) (fun a=>?_)))
  all_goals exact clo1
theorem ZdX (d:DClock)(w:World):Does Tryz.prog 73 [.agg (DClock.enc d).toArray] w (fun v O=>v = .int .i64 (if ZaI d then 0 else 2)/\O=[]):=by
 obtain⟨k,b⟩:=d
 show Does _ _ [.agg #[.int .i64 k,.int .i64 b]] w _
 refine Zaa Tryz.func73 rfl rfl rfl rfl ?_
 repeat' (first|(refine js ?_;(refine bx ?_;intro c))|refine walk ?_|refine und ?_|(refine Zam rfl rfl rfl (fun a=>?_) (fun a=>?_))|(refine Zas rfl rfl rfl (fun a=>?_) (fun a=>?_))|(refine Zaf rfl (fun a=>?_) (fun a=>?_)))
 all_goals first|(refine ret_1 _ [] (.tmp rfl) .nil ⟨?_,rfl⟩;first|rfl|(simp only[*,Bool.true_and,Bool.false_and,Bool.true_or,Bool.false_or,Bool.not_true,Bool.not_false];done)|(simp_all [ZaI];done)|(simp_all [ZaI];omega)|(simp_all [ZaI];rw[Bool.eq_iff_iff];simp;omega))|(exfalso;simp_all [ZaI];done)|(exfalso;simp_all [ZaI];omega)|(exfalso;omega)
theorem ZeB {d:DDay}(h:Zbv d=true):(1<=d.kind/\d.kind<=4)/\(0<=d.week/\d.week<=6)/\0<=d.day/\d.day<=31:=by
 simp only[Zbv,Bool.and_eq_true,Bool.not_eq_true',Bool.or_eq_false_iff,decide_eq_true_eq,decide_eq_false_iff_not]at h
 omega
theorem Zlf {y m d:Int}(h:Za3 y m d=true) : -1000000000000<=Za5 y m d/\Za5 y m d<=1000000000000:=by
 obtain⟨b,c,e⟩:=ZdD h
 unfold Za5 Zb2
 have a:=ZbT
 split
 ·have:=a (m+12 - 3).toNat
  omega
 ·have:=a (m - 3).toNat
  omega
theorem Zpp {G:Prop}(h:G:=by(first|exact PuDayf0|(apply Zbr;rfl;rfl;omega;omega)|(apply Pu_loadO1';rfl;exact hcell;rfl))):G:=h
theorem ZuL {G:Prop}(h:G:=by first|(apply Qy_y;rfl;exact Zpp)|exact QyA):G:=h
theorem ZAE {G:Prop}(h:G:=by repeat (first|exact QF.nil|(apply QF.mk;rfl;rfl;decide +kernel;exact ZuL))):G:=h
theorem Zos (y m:Int)(d:DDay)(w:World)(j:Glob w):Does Tryz.prog 120 [.int .i64 y,.int .i64 m,.agg (DDay.enc d).toArray] w (fun v O=>v = .tuple #[.int .i64 (onD y m d).1,.int .i64 (onD y m d).2]/\O=[]):=by
 have z:=Zeu y m
 have b:=fun w' a=>ZiT d w' (Glob.up (w':=w') j a)
 by_cases hok:Za3 y m 1=true
 ·have x:=Zlf hok
  by_cases g:Zbv d=true
  ·obtain⟨s,t,u⟩:=ZeB g
   have hcell:=ZxD j d.kind s
   have hks:=fun w'=>ZrP (Za5 y m 1) (Za5 y m 1+lenM y m - 1) d (by omega) (by omega) s t u w'
   haveI:Body Tryz.prog (ZmB d.kind):=by
    unfold ZmB
    split
    ·infer_instance
    ·split
     ·infer_instance
     ·split <;> infer_instance
   have e:onD y m d=if lenM y m<d.day then (0,4) else (Ze9 (Za5 y m 1) (Za5 y m 1+lenM y m - 1) d,0):=by simp[onD,hok,g]
   rw[e]
   clear e
   have c:=ZiU y m 1
   rw[if_pos hok,if_pos hok]at c
   rw[g]at b
   generalize Ze9 (Za5 y m 1) (Za5 y m 1+lenM y m - 1) d=res at *
   obtain⟨k,p,dd⟩:=d
   simp only at *
   generalize ZmB k=kf at *
   show Does _ _ [.int .i64 y,.int .i64 m,.agg #[.int .i64 k,.int .i64 p,.int .i64 dd]] w _
   refine Zaa Tryz.func120 rfl rfl rfl rfl ?_
   repeat' (first|(apply RL_pu;rfl;exact Zpp)|(refine js ?_;(first|(apply Zar (f:=kf) (us:=[]) (cs:=[]) (vs:=[.int .i64 (Za5 y m 1),.int .i64 (Za5 y m 1+lenM y m - 1),.agg #[.int .i64 k,.int .i64 p,.int .i64 dd]]) (h:=fun w' a _=>hks w');rfl;rfl;rintro v O' ⟨rfl,rfl⟩)|(refine Zab (fun w' a=>c w' (j.up a)) ?_)|(refine Zab b ?_)|(refine Zab (fun w' a=>ZbK y m w') ?_)|(refine bx ?_;intro q)))|(apply RD_Q;rfl;rfl;decide +kernel;rfl;rfl;exact ZuL)|refine walk1 ?_|(refine Zdc ?_;intro F;(first|(apply Zar (f:=kf) (us:=[]) (cs:=[]) (vs:=[.int .i64 (Za5 y m 1),.int .i64 (Za5 y m 1+lenM y m - 1),.agg #[.int .i64 k,.int .i64 p,.int .i64 dd]]) (h:=fun w' a _=>hks w');rfl;rfl;rintro v O' ⟨rfl,rfl⟩)|(refine Zab (fun w' a=>c w' (j.up a)) ?_)|(refine Zab b ?_)|(refine Zab (fun w' a=>ZbK y m w') ?_));refine⟨_,EndsA,SubO.right _ _,?_⟩)|(refine RD_Lw ?_;intro F;(first|(apply Zar (f:=kf) (us:=[]) (cs:=[]) (vs:=[.int .i64 (Za5 y m 1),.int .i64 (Za5 y m 1+lenM y m - 1),.agg #[.int .i64 k,.int .i64 p,.int .i64 dd]]) (h:=fun w' a _=>hks w');rfl;rfl;rintro v O' ⟨rfl,rfl⟩)|(refine Zab (fun w' a=>c w' (j.up a)) ?_)|(refine Zab b ?_)|(refine Zab (fun w' a=>ZbK y m w') ?_)|(refine bx ?_;intro q)|(apply Zad;first|exact Zpp|exact PuA));refine⟨_,EndsA,ZAE,?_⟩)|(refine Zaf rfl (fun g=>?_) (fun g=>?_)))
   ·have r:=g
    rw[if_pos (of_decide_eq_true r)]
    exact rtB
   ·have r:=g
    rw[if_neg (of_decide_eq_false r)]
    exact rtB
  ·have e:onD y m d=(0,2):=by simp[onD,hok,g]
   rw[e]
   have c:=ZiU y m 1
   rw[if_pos hok,if_pos hok]at c
   rw[Bool.not_eq_true]at g
   rw[g]at b
   obtain⟨k,p,dd⟩:=d
   show Does _ _ [.int .i64 y,.int .i64 m,.agg #[.int .i64 k,.int .i64 p,.int .i64 dd]] w _
   refine Zaa Tryz.func120 rfl rfl rfl rfl ?_
   repeat' (first|(refine js ?_;(first|(refine Zab (fun w' a=>c w' (j.up a)) ?_)|(refine Zab b ?_)|(refine bx ?_;intro q)))|refine walk ?_|(refine Zdc ?_;intro F;(first|(refine Zab (fun w' a=>c w' (j.up a)) ?_)|(refine Zab b ?_));refine⟨_,EndsA,SubO.right _ _,?_⟩)|(refine RD_Lw ?_;intro F;(first|(refine Zab (fun w' a=>c w' (j.up a)) ?_)|(refine Zab b ?_)|(refine bx ?_;intro q)|(apply Zad;exact PuA));refine⟨_,EndsA,QFA,?_⟩)|(refine Zaf rfl (fun g=>?_) (fun g=>?_)))
   all_goals exact clo2
 ·have e:onD y m d=(0,3):=by simp[onD,hok]
  rw[e]
  have c:=ZiU y m 1
  rw[if_neg hok,if_neg hok]at c
  refine Zaa Tryz.func120 rfl rfl rfl rfl ?_
  repeat' (first|(refine js ?_;(first|(refine Zab (fun w' a=>c w' (j.up a)) ?_)|(refine bx ?_;intro q)))|refine walk ?_|(refine Zdc ?_;intro F;(refine Zab (fun w' a=>c w' (j.up a)) ?_);refine⟨_,EndsA,SubO.right _ _,?_⟩)|(refine RD_Lw ?_;intro F;(first|(refine Zab (fun w' a=>c w' (j.up a)) ?_)|(refine bx ?_;intro q)|(apply Zad;exact PuA));refine⟨_,EndsA,QFA,?_⟩)|(refine Zaf rfl (fun g=>?_) (fun g=>?_)))
  all_goals exact clo2
theorem Zpo {G:Prop}(h:G:=by(apply Pu_rem;rfl;rfl;decide)):G:=h
theorem ZuK {G:Prop}(h:G:=by first|(apply Qy_y;rfl;exact Zpo)|exact QyA):G:=h
theorem ZAD {G:Prop}(h:G:=by repeat (first|exact QF.nil|(apply QF.mk;rfl;rfl;decide +kernel;exact ZuK))):G:=h
theorem Zo5 (a b m:Int)(d:DDay)(w:World)(p:Glob w):Does Tryz.prog 394 [.int .i64 a,.int .i64 b,.int .i64 m,.agg (DDay.enc d).toArray] w (fun v O=>v = .bool (Zb4 a b m d)/\O=[]):=by
 have e:=fun w' f=>ZiT d w' (Glob.up (w':=w') p f)
 unfold Zb4
 generalize Zbv d=c at *
 obtain⟨k,q,dd⟩:=d
 simp only at *
 show Does _ _ [.int .i64 a,.int .i64 b,.int .i64 m,.agg #[.int .i64 k,.int .i64 q,.int .i64 dd]] w _
 refine Zaa Tryz.func394 rfl rfl rfl rfl ?_
 repeat' (first|(apply RL_pu;rfl;exact Zpo)|(refine js ?_;(first|(refine Zab e ?_)|(refine Zab (fun w' f=>ZbK 1 m w') ?_)|(refine Zab (fun w' f=>ZbK (a.tmod 400) m w') ?_)|(refine bx ?_;intro j)))|(apply RD_Q;rfl;rfl;decide +kernel;rfl;rfl;exact ZuK)|refine walk1 ?_|(refine Zdc ?_;intro F;(first|(refine Zab e ?_)|(refine Zab (fun w' f=>ZbK 1 m w') ?_)|(refine Zab (fun w' f=>ZbK (a.tmod 400) m w') ?_));refine⟨_,EndsA,SubO.right _ _,?_⟩)|(refine RD_Lw ?_;intro F;(first|(refine Zab e ?_)|(refine Zab (fun w' f=>ZbK 1 m w') ?_)|(refine Zab (fun w' f=>ZbK (a.tmod 400) m w') ?_)|(refine bx ?_;intro j)|(apply Zad;first|exact Zpo|exact PuA));refine⟨_,EndsA,ZAD,?_⟩)|refine und ?_|(refine Zam rfl rfl rfl (fun g=>?_) (fun g=>?_))|(refine Zas rfl rfl rfl (fun g=>?_) (fun g=>?_))|(refine Zaf rfl (fun g=>?_) (fun g=>?_)))
 all_goals exact clo1
end Go.Proofs.YtpipekfmecikmaaGreatDoor
