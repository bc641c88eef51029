/- Parts of the proof. -/
import Derived.Test.YtbjomhdhkpgbaaaGreatDoorV06
import Derived.Orders
import Derived.Test.YtbjomhdhkpgbaaaGreatDoorV05
set_option maxHeartbeats 4000000
set_option linter.unusedVariables false
set_option linter.unusedSimpArgs false
namespace Go.Wk
open Go Go.RowKit
def Zak (P:Program)(f:FuncId)(args:List Value)(wr:World)(O:List It)(R:Value->List It->Prop):Prop :=
 ∀ w,Bel wr.heap.size wr w->Zau wr.heap.size O w->Calls P f args.toArray w fun e w'=>∃ v O',e = .returned v/\Bel wr.heap.size wr w'/\Zau wr.heap.size O' w'/\R v O'
theorem ZaD {P:Program}{f:FuncId}{fn:Func}{c:Code}{args:List Value}{wr:World}{O:List It}{R:Value->List It->Prop}{n:Nat}{rs:List ResultVar}(hf:P.funcs[f]?=some fn)(hb:fn.body=some c)(hn:fn.ntmps=n)(hr:fn.results=rs.toArray)
  (ha:Nat.ble args.length n=true) (h:W P n wr c (retQ P wr rs R) (ZeW 0 args) O):Zak P f args wr O R:=by
 intro w hB hH
 refine calls_of_wp hf hb ?_
 have hst:St n wr (ZeW 0 args) O { tmps:=args.toArray++Array.replicate (fn.ntmps - args.toArray.size) undef,defers:=[] } w:=by
  have ha':args.length<=n:=Nat.le_of_ble_eq_true ha
  refine⟨⟨rfl,by simp;omega,fun t v hv=>?_⟩,hB,hH⟩
  have:=(ZcD args 0 t v hv).2
  simp only[Nat.sub_zero]at this
  have hlt:t<args.length:=(List.getElem?_eq_some_iff.1 this).1
  rw[Array.getElem?_append_left (by simpa using hlt)]
  simpa using this
 refine wp_mono (h _ w hst) ?_
 rintro e a w' ⟨fr,O1,hs,hq⟩
 have fin:(∃ vs O',Zqh P wr fr O1 rs vs/\SubO O' O1/\R (tupV vs) O')->a.defers=[]/\∃ v,(results fn a.tmps).run P w' = .ok v w'/\∃ v' O,Ending.returned v = .returned v'/\Bel wr.heap.size wr w'/\Zau wr.heap.size O w'/\R v' O:=by
  rintro⟨vs,O',h1,h2,h3⟩
  refine⟨hs.sim.defers,(tupV vs),?_,_,O',rfl,hs.old,hs.own.sub h2,h3⟩
  unfold results
  rw[hr,List.mapM_toArray]
  simp only[Sem.run_bind,Sem.run_map]
  rw[ZbT (P:=P) hs _ (fun _=>rfl) (fun _ _=>rfl) rs vs h1]
  simp only[Result.andThen_ok,Sem.run_pure]
  congr 1
  clear h1 h3
  match vs with
  | []=>rfl
  | [v]=>rfl
  | v::u::r=>simp;rfl
 cases e with
 | ret=>exact fin hq
 | normal=>exact fin hq
 | _=>exact hq.elim
section
variable {P:Program}{n:Nat}{wr:World}{fr:Fr}{O:List It}{ty:TypeId}{pos:String}{af:Array Edge}{dst:Option Tmp}{g:Option (Nat × Bool)}{Kp:Value->List It->Prop}
theorem ZaM {f:FuncId}{xs:List Operand}{ts:Array TypeId}{vs:List Value}{O2:List It}{R:Value->List It->Prop}[Body P f](hx:evsO fr xs=some vs)(h:Zak P f vs wr O2 R)(hO:SubO O2 O)(k:∀ v O',R v O'->Kp v O') :
  Stp P n wr fr O ⟨dst,.call ⟨.value (.func f),xs.toArray,ts⟩,ty,pos,af,g⟩ Kp:=by
 intro a w hs Kn Q hk
 have hrun:(execOp a.eval ⟨dst,.call ⟨.value (.func f),xs.toArray,ts⟩,ty,pos,af,g⟩).run P w = .ok (.enter f vs.toArray) w:=by
  have:=hs.sim.evsO hx
  simp[execOp,resolve,Act.eval,Deferred.ofValue,invoke,ZbE,this]
 unfold Oper.wp
 rw[hrun,Oper.upon_enter]
 refine(h w hs.old (hs.own.sub hO)).mono ?_
 rintro e w' ⟨v,O',rfl,hB,hH,hR⟩
 exact hk v _ w' hB hH (k v O' hR)
theorem Zir (N:Nat):∀ (vs cs:List Value) (j:Nat),(lay cs j vs).take N=lay (cs.take N) j vs
 | [],_,_=>rfl
 | v::r,cs,j=>by rw[lay,lay,Zir N r,List.take_set]
theorem Zck {t sz e size m c p:Nat}{ag:Bool}{x y:Operand}{A:Option Addr}{xs xs' vs:List Value}{v:Value}{O':List It}[hT:Ty P t sz ag](hx:ev fr x=some (.pointer (some ((adr A).add p))))(hy:ev fr y=some v)
  (hu:Upd O (.row (.slice A m c) e size m xs) (.row (.slice A m c) e size m xs') O') (hvs:v.cells.toList=vs) (hl:vs.length=sz) (h1:vs.all Value.oneCell'=true) (hp:p+sz<=xs.length) (h0:0<sz) (hc:lay xs p vs=xs')
  (k:Kp undef O'):Stp P n wr fr O ⟨dst,.store t x y,ty,pos,af,g⟩ Kp:=by
 refine Ziz fun a w hs=>?_
 have hsat:=hs.own.sat _ hu.mem
 obtain⟨hxl,hnn|⟨b,cap,cur,hval,hb0,hg,hmc,hcm,hsz,hcur⟩⟩:=id hsat
 ·obtain⟨_,rfl⟩:=hnn
  simp at hxl
  rw[hxl]at hp
  simp at hp
  omega
 injection hval with hA _ hcc
 subst hA hcc
 have hb:=hs.own.inb _ hu.mem b (by simp[It.S,Value.ownBlock])
 have hxc:xs.length<=cur.size:=by rw[<- hcur,List.length_take,Array.length_toList];omega
 have hg':w.heap[b]?=some (.cells cur.toList.toArray e (0,0)):=by rw[Array.toArray_toList];exact hg
 have had:(adr (some (⟨b,0,none⟩:Addr))).add p=⟨b,p,none⟩:=by
  rw[show adr (some (⟨b,0,none⟩:Addr))=⟨b,0,none⟩ from rfl,Zcv,Nat.zero_add]
 rw[had]at hx
 have hcell:∀ i,w.cell? ⟨b,i,none⟩=cur.toList[i]?:=fun i=>by simp[World.cell?,hg]
 have hfz:∀ i,w.frozen? ⟨b,i,none⟩=false:=fun i=>by simp[World.frozen?,hg]
 have hrun:=ZcM (P:=P) (ad:=⟨b,p,none⟩) vs w 0 (fun u hu=>List.all_eq_true.1 h1 u hu) (fun i hi=>by
  rw[Zcv,hcell,hfz]
  refine⟨?_,rfl⟩
  rw[List.getElem?_eq_getElem (by rw[Array.length_toList];omega)]
  rfl)
 refine⟨Zbn w ⟨b,p,none⟩ vs 0,O',?_,?_,?_,k⟩
 ·have hvsz:v.cells.size=sz:=by rw[<- hl,<- hvs];simp
  simp only[execOp,hs.sim.ev hx,hs.sim.ev hy,Instr.storeAt,Instr.sureAddr,Sem.run_bind,Sem.run_pure,Result.andThen_ok,storeVar,Zdo,hvsz,ne_eq,not_true,if_false,hvs,hrun]
 ·refine hs.old.trans ⟨⟨(Zbq vs w 0).1,(Zbq vs w 0).2.1,(Zbq vs w 0).2.2,by rw[ZbK];exact Nat.le_refl _,fun i hi=>ZbL vs w 0 i (by show i≠b;omega)⟩⟩
 ·refine hs.own.upd hu hs.old.size (by rw[ZbK];exact Nat.le_refl _) (fun i _ hi=>ZbL vs w 0 i (fun e=>hi (by rw[e];simp[It.S,Value.ownBlock]))) ?_ (fun i hi=>Or.inl hi)
  have hblk:=ZdO (b:=b) (j:=p) (t:=e) vs cur.toList w 0 hg'
  simp only[Nat.add_zero]at hblk
  subst hc
  refine⟨by rw[lay_length];exact hxl,.inr ⟨b,c,_,rfl,Nat.zero_le _,hblk,hmc,hcm,?_,?_⟩⟩
  ·rw[List.size_toArray,lay_length,Array.length_toList];exact hsz
  ·rw[List.toList_toArray,Zir,hcur]
end
section
variable {P:Program}{n:Nat}{wr:World}{fr:Fr}{O:List It}{ty:TypeId}{pos:String}{af:Array Edge}{dst:Option Tmp}{g:Option (Nat × Bool)}{Kp:Value->List It->Prop}
theorem Zj7 {t:TypeId}{x ix:Operand}{s:ByteArray}{kk:IntKind}{i:Int}[hS:StringT P t](hx:ev fr x=some (.string s))(hi:ev fr ix=some (.int kk i))(h0:0<=i)(h1:i<s.size):Pu P n wr fr O (.index t x ix) ty (.int .u8 (s.data.toList.getD i.toNat 0).toNat) :=
 fun a w hs _ _ _ _=>by
  have h:=run_index_string (P:=P) (w:=w) t s kk i hS.h
  rw[dif_pos ⟨h0,h1⟩]at h
  have hlt:i.toNat<s.data.toList.length:=by
   have:s.data.size=s.size:=rfl
   rw[Array.length_toList,this]
   omega
  have e:s.data.toList.getD i.toNat 0=s[i.toNat]'(by omega):=by
   rw[List.getD_eq_getElem?_getD,List.getElem?_eq_getElem hlt]
   rfl
  simp only[execOp,hs.sim.ev hx,hs.sim.ev hi,Sem.run_bind,h,Result.andThen_ok,e]
  rfl
theorem ZwM {t e sz bytes:Nat}{x y:Operand}{A:Option Addr}{len cap:Nat}{l:Int}[hE:ElemZ P t e sz bytes](hx:ev fr x=some (.slice A len cap))(hy:ev fr y=some (.int .i64 l))(h0:0<=l)(h1:l<=len)(h2:l<cap) :
  Pu P n wr fr O (.slice t x (some y) none none) ty (.slice (A.map (·.add (l.toNat*sz))) (len - l.toNat) (cap - l.toNat)):=fun a w hs _ _ _ _=>by
 obtain⟨i,z,ht,hi,hz,hsz,hby,hzs,hpos⟩:=ElemZ.parts hE.h
 have hne:¬ (cap=l.toNat):=by omega
 simp[execOp,hs.sim.ev hx,hs.sim.ev hy,Instr.sliceAt,Instr.slice,run_underlying ht,Instr.sliceBounds,run_sliceBound,h0,h1,sizeOf,typeInfo,hi,hne,hsz]
end
section
variable {P:Program}{n:Nat}{wr:World}{fr:Fr}{O:List It}{ty:TypeId}{pos:String}{af:Array Edge}{dst:Option Tmp}{g:Option (Nat × Bool)}{Kp:Value->List It->Prop}
theorem Zkk {e size m c p:Nat}{A:Option Addr}{xs xs' vs:List Value}{O':List It}{a:Act}{w:World}(hs:St n wr fr O a w)
  (hu:Upd O (.row (.slice A m c) e size m xs) (.row (.slice A m c) e size m xs') O') (h1:vs.all Value.oneCell'=true) (hp:p+vs.length<=xs.length) (h0:0<vs.length) (hc:lay xs p vs=xs') :
  ∃ w',(storeCells ((adr A).add p) vs 0).run P w = .ok () w'/\Bel wr.heap.size wr w'/\Zau wr.heap.size O' w':=by
 have hsat:=hs.own.sat _ hu.mem
 obtain⟨hxl,hnn|⟨b,cap,cur,hval,hb0,hg,hmc,hcm,hsz,hcur⟩⟩:=id hsat
 ·obtain⟨_,rfl⟩:=hnn
  simp at hxl
  subst hxl
  simp only[List.length_nil]at hp
  omega
 injection hval with hA _ hcc
 subst hA hcc
 have hb:=hs.own.inb _ hu.mem b (by simp[It.S,Value.ownBlock])
 have hxc:xs.length<=cur.size:=by rw[<- hcur,List.length_take,Array.length_toList];omega
 have hg':w.heap[b]?=some (.cells cur.toList.toArray e (0,0)):=by rw[Array.toArray_toList];exact hg
 have had:(adr (some (⟨b,0,none⟩:Addr))).add p=⟨b,p,none⟩:=by
  rw[show adr (some (⟨b,0,none⟩:Addr))=⟨b,0,none⟩ from rfl,Zcv,Nat.zero_add]
 rw[had]
 have hcell:∀ i,w.cell? ⟨b,i,none⟩=cur.toList[i]?:=fun i=>by simp[World.cell?,hg]
 have hfz:∀ i,w.frozen? ⟨b,i,none⟩=false:=fun i=>by simp[World.frozen?,hg]
 have hrun:=ZcM (P:=P) (ad:=⟨b,p,none⟩) vs w 0 (fun u hu=>List.all_eq_true.1 h1 u hu) (fun i hi=>by
  rw[Zcv,hcell,hfz]
  refine⟨?_,rfl⟩
  rw[List.getElem?_eq_getElem (by rw[Array.length_toList];omega)]
  rfl)
 refine⟨Zbn w ⟨b,p,none⟩ vs 0,hrun,?_,?_⟩
 ·refine hs.old.trans ⟨⟨(Zbq vs w 0).1,(Zbq vs w 0).2.1,(Zbq vs w 0).2.2,by rw[ZbK];exact Nat.le_refl _,fun i hi=>ZbL vs w 0 i (by show i≠b;omega)⟩⟩
 ·refine hs.own.upd hu hs.old.size (by rw[ZbK];exact Nat.le_refl _) (fun i _ hi=>ZbL vs w 0 i (fun e=>hi (by rw[e];simp[It.S,Value.ownBlock]))) ?_ (fun i hi=>Or.inl hi)
  have hblk:=ZdO (b:=b) (j:=p) (t:=e) vs cur.toList w 0 hg'
  simp only[Nat.add_zero]at hblk
  subst hc
  refine⟨by rw[lay_length];exact hxl,.inr ⟨b,c,_,rfl,Nat.zero_le _,hblk,hmc,hcm,?_,?_⟩⟩
  ·rw[List.size_toArray,lay_length,Array.length_toList];exact hsz
  ·rw[List.toList_toArray,Zir,hcur]
theorem Zty {t e sz bytes p k m c cp:Nat}{x:Operand}{ad:Addr}{xs:List Value}{z:Value}{O':List It}[hE:ElemZ P t e sz bytes][hz:ZeroV P e z](hx:ev fr x=some (.slice (some (ad.add p)) k cp))
  (hu:Upd O (.row (.slice (some ad) m c) e sz m xs) (.row (.slice (some ad) m c) e sz m (lay xs p (Builtin.zeroCells z.cells k).toList)) O') (h1:(Builtin.zeroCells z.cells k).toList.all Value.oneCell'=true) (hk:0<k) (hp:p+k*sz<=xs.length)
  (kk:Kp (.tuple #[]) O'):Stp P n wr fr O ⟨dst,.call ⟨.builtin .clear,#[x],#[t]⟩,ty,pos,af,g⟩ Kp:=by
 refine Zb6 fun a w hs=>?_
 obtain⟨i,z',ht,hi,hz',hsz,hby,hzs,hpos⟩:=ElemZ.parts hE.h
 have hzz:z'=z:=by
  have h:=hz.h
  unfold ZAw at h
  rw[hi]at h
  exact Option.some.inj (hz'.symm.trans h)
 subst hzz
 have hlen:(Builtin.zeroCells z'.cells k).toList.length=k*sz:=by rw[Array.length_toList,size_zeroCells,hzs]
 obtain⟨w',hr,h2,h3⟩:=Zkk (P:=P) hs hu h1 (by rw[hlen];exact hp) (by rw[hlen];exact Nat.mul_pos hk hpos) rfl
 refine⟨.tuple #[],w',O',?_,h2,h3,kk⟩
 obtain⟨k,rfl⟩:∃ k',k=k'+1:=⟨k - 1,by omega⟩
 have hr':(storeCells (ad.add p) (Builtin.zeroCells z'.cells (k+1)).toList 0).run P w = .ok () w':=hr
 simp[execOp,resolve,invoke,builtin,Builtin.clear_,hs.sim.ev hx,run_underlying ht,ZgG,hr']
theorem Zwq {ops:Array Oper}{l0:List Oper}{K:Fr->List It->Prop}{e size m c:Nat}{A:Option Addr}{xs:List Value}{O':List It}(k:Nat)(hk:k<=m)(hu:Upd O (.row (.slice A m c) e size m xs) (.row (.slice A k c) e size k (xs.take (k*size))) O')
  (h:RL P n wr ops l0 K fr O'):RL P n wr ops l0 K fr O:=fun a w hs=>h a w ⟨hs.sim,hs.old,by
 refine hs.own.upd hu hs.old.size (Nat.le_refl _) (fun _ _ _=>rfl) ?_ (fun i hi=>?_)
 ·have hsat:=hs.own.sat _ hu.mem
  obtain⟨hxl,hnn|⟨b,cap,cur,hval,hb0,hg,hmc,hcm,hsz,hcur⟩⟩:=hsat
  ·obtain⟨hv,rfl⟩:=hnn
   obtain rfl:k=0:=by omega
   injection hv with h1 _ h3
   subst h1 h3
   exact⟨by simp,.inl ⟨rfl,rfl⟩⟩
  ·injection hval with hA _ hcc
   subst hA hcc
   refine⟨?_,.inr ⟨b,c,cur,rfl,Nat.zero_le _,hg,by omega,hcm,hsz,?_⟩⟩
   ·have hle:k*size<=m*size:=Nat.mul_le_mul_right size hk
    rw[List.length_take,hxl]
    omega
   ·have hle:k*size<=m*size:=Nat.mul_le_mul_right size hk
    rw[<- hcur,List.take_take,Nat.min_eq_left hle]
 ·left
  simp only[It.S,Value.ownBlock]at hi ⊢
  cases A with
  | none=>exact hi
  | some a=>exact hi⟩
end
theorem ZxF {P:Program}{o:Oper}{a:Act}{w:World}{K K':Act->World->Prop}{Q Q':Exit->Act->World->Prop}(h:∀ a w,K a w->K' a w)(hq:∀ e a w,Q e a w->Q' e a w)(hh:o.wp P a w K Q):o.wp P a w K' Q':=by
 unfold Oper.wp at *
 generalize (execOp a.eval o).run P w=r at *
 cases r with
 | ok n w' =>
  cases n <;> simp only[Oper.upon]at hh ⊢ <;>
   first
    | exact h _ _ hh
    | exact Calls.mono hh (fun e w'' he=>by cases e <;> first|exact h _ _ he|exact hq _ _ _ he|exact(fun⟨a,w,h⟩=>⟨a,w,hq _ _ _ h⟩:LetsOut Q->LetsOut Q') he)
    | exact Rows.mono hh (fun _ _ he=>h _ _ he)
 | halt x w'=>cases x <;> simp only[Oper.upon]at hh ⊢ <;> first|exact hq _ _ _ hh|exact hh
theorem Zgh {P:Program}{ops:Array Oper}{Q Q':Exit->Act->World->Prop}(hq:∀ e a w,Q e a w->Q' e a w):∀ (l:List Oper) (a:Act) (w:World),wpList P ops Q l a w->wpList P ops Q' l a w
 | [],a,w,h=>hq _ _ _ h
 | o::l,a,w,h=>by
  unfold wpList at h ⊢
  split
  ·rename_i hw
   rw[if_pos hw]at h
   exact h.imp (ZxF (Zgh hq l) hq) (fun⟨h1,a,w,h2⟩=>⟨h1,a,w,hq _ _ _ h2⟩)
  ·rename_i hw
   rw[if_neg hw]at h
   exact Zgh hq l _ _ h
section
variable {P:Program}{n:Nat}{wr:World}{ops:Array Oper}{fr:Fr}{O:List It}{K:Fr->List It->Prop}{ty:TypeId}
theorem ZBF {l:List Oper}(I:Fr->List It->Prop)(h1:RL P n wr ops l I fr O)(h2:∀ fr' O',I fr' O'->K fr' O'):RL P n wr ops l K fr O :=
 fun a w hs=>Zgh (fun _ _ _ ⟨h3,fr',O',h4,h5⟩=>⟨h3,fr',O',h4,h2 fr' O' h5⟩) l a w (h1 a w hs)
theorem Zzb {t t':TypeId}{x:Operand}{kk:IntKind}{i:Int}{sz:Nat}{ag:Bool}[Ty P t sz ag][IntT P t' .u8](hx:ev fr x=some (.int kk i))(h0:0<=i)(h1:i<=255):Pu P n wr fr O (.convert t t' x) ty (.int .u8 i):=by
 have:=Pu_convI (P:=P) (n:=n) (wr:=wr) (O:=O) (ty:=ty) (t:=t) (t':=t') hx
 rwa[show IntKind.u8.wrap i=i from IntWalk.u8_in i ⟨h0,h1⟩]at this
end
theorem ZbZ {P:Program}{n:Nat}{wr:World}{fr:Fr}{O:List It}{ty:TypeId}{t sz e size p m c:Nat}{x:Operand}{A:Option Addr}{xs vs:List Value}{R:List It}[Ty P t sz true](hx:ev fr x=some (.pointer (some ((adr A).add p))))
  (hp:Pick (.row (.slice A m c) e size m xs) O R) (hv:∀ j v,vs[j]?=some v->xs[p+j]?=some v) (hl:vs.length=sz):Pu P n wr fr O (.load t x) ty (.agg vs.toArray) :=
 ZfU hx hl fun w _ hO j v hj=>by
  rw[Zbe]
  exact(Zcb (hO.of hp) (hv j v hj)).2
theorem ZaB {P:Program}{n:Nat}{wr:World}{fr:Fr}{O:List It}{ty:TypeId}{t e sz bytes:Nat}{x ix:Operand}{A:Option Addr}{len cap:Nat}{kk:IntKind}{i:Int}[hE:ElemT P t e sz bytes](hx:ev fr x=some (.slice A len cap))(hi:ev fr ix=some (.int kk i))
  (h0:0<=i) (h1:i<len) (hA:∀ w,Bel wr.heap.size wr w->Zau wr.heap.size O w->A≠none):Pu P n wr fr O (.indexAddr t x ix) ty (.pointer (some ((adr A).add (i.toNat*sz)))) :=
 fun a w hs=>Pu_indexAddr hx hi h0 h1 (hA w hs.old hs.own) a w hs
section
variable {P:Program}{n:Nat}{wr:World}{fr:Fr}{O:List It}{ty:TypeId}{pos:String}{af:Array Edge}{dst:Option Tmp}{g:Option (Nat × Bool)}{Kp:Value->List It->Prop}
theorem ZbX {f:FuncId}{gx:Operand}{xs:List Operand}{ts:Array TypeId}{us vs cs:List Value}{O2:List It}{R:Value->List It->Prop}[Body P f](hg:ev fr gx=some (.func (.func f) us.toArray cs.toArray))(hx:evsO fr xs=some vs)(h:Zak P f (us++vs++cs) wr O2 R)(hO:SubO O2 O)(k:∀ v O',R v O'->Kp v O') :
  Stp P n wr fr O ⟨dst,.call ⟨.value gx,xs.toArray,ts⟩,ty,pos,af,g⟩ Kp:=by
 intro a w hs Kn Q hk
 have hrun:(execOp a.eval ⟨dst,.call ⟨.value gx,xs.toArray,ts⟩,ty,pos,af,g⟩).run P w = .ok (.enter f (us++vs++cs).toArray) w:=by
  have:=hs.sim.evsO hx
  simp[execOp,resolve,hs.sim.ev hg,Deferred.ofValue,invoke,ZbE,this]
 unfold Oper.wp
 rw[hrun,Oper.upon_enter]
 refine(h w hs.old (hs.own.sub hO)).mono ?_
 rintro e w' ⟨v,O',rfl,hB,hH,hR⟩
 exact hk v _ w' hB hH (k v O' hR)
end
theorem Zfy {P:Program}{n:Nat}{wr:World}{fr:Fr}{O:List It}{ty:TypeId}{x y:Operand}{ts:Array TypeId}{k:IntKind}{i j:Int}(hx:ev fr x=some (.int k i))(hy:ev fr y=some (.int k j)):Pu P n wr fr O (.call ⟨.builtin .min,#[x,y],ts⟩) ty (.int k (if j<i then j else i)) :=
 fun a w hs _ _ _ _=>by simp[execOp,resolve,invoke,builtin,Builtin.min_,Builtin.min2,hs.sim.ev hx,hs.sim.ev hy]
section
variable {P:Program}{n:Nat}{wr:World}{fr:Fr}{O:List It}{ty:TypeId}
theorem ZBS {t t':TypeId}{x y:Operand}{kk:IntKind}{i j:Int}(hx:ev fr x=some (.int kk i))(hy:ev fr y=some (.int kk j)):Pu P n wr fr O (.binOp .and t x y t') ty (.int kk (kk.wrap (BitVec.ofInt kk.bits i &&& BitVec.ofInt kk.bits j).toNat)) :=
 fun a w hs _ _ _ _=>by simp[execOp,hs.sim.ev hx,hs.sim.ev hy,eqGuard,binOp,Op.intBits]
end
theorem Does.monoO {P:Program}{f:FuncId}{args:List Value}{w:World}{R R':Value->List It->Prop}(h:Does P f args w R)(hr:∀ v O,R v O->∃ O',R' v O'/\∀ base w',Zau base O w'->Zau base O' w'):Does P f args w R' :=
 Calls.mono h fun _ _ ⟨v,O,h1,h2,h3,h4⟩=>by
  obtain⟨O',h5,h6⟩:=hr v O h4
  exact⟨v,O',h1,h2,h6 _ _ h3,h5⟩
section
variable {P:Program}{n:Nat}{wr:World}{fr:Fr}{O:List It}{ty:TypeId}
theorem ZwO {t t':TypeId}{x y:Operand}{i j:Int}(hx:ev fr x=some (.int .u8 i))(hy:ev fr y=some (.int .u8 j))(h:0<=i+j/\i+j<=255):Pu P n wr fr O (.binOp .add t x y t') ty (.int .u8 (i+j)):=by
 have:=Zj9 (P:=P) (n:=n) (wr:=wr) (O:=O) (ty:=ty) (t:=t) (t':=t') hx hy
 rwa[IntWalk.u8_in _ h]at this
end
section
variable {P:Program}{n:Nat}{wr:World}{fr:Fr}{O:List It}{ty:TypeId}{pos:String}{af:Array Edge}{dst:Option Tmp}{g:Option (Nat × Bool)}{Kp:Value->List It->Prop}
end
theorem Zms {P:Program}{n:Nat}{wr:World}{fr:Fr}{O:List It}{ty:TypeId}{s f off sz p:Nat}{ag:Bool}{x:Operand}{A:Option Addr}[FieldAt P s f off sz ag](hx:ev fr x=some (.pointer (some ((adr A).add p)))):Pu P n wr fr O (.fieldAddr s x f) ty (.pointer (some ((adr A).add (p+off)))):=by
 have h:=Pu_fieldAddr (P:=P) (n:=n) (wr:=wr) (O:=O) (ty:=ty) (s:=s) (f:=f) hx
 rwa[Zbe]at h
section
variable {P:Program}{n:Nat}{wr:World}{fr:Fr}{O:List It}{ty:TypeId}{pos:String}{af:Array Edge}{dst:Option Tmp}{g:Option (Nat × Bool)}{Kp:Value->List It->Prop}
theorem Zek {t sz e size p q m c:Nat}{x:Operand}{A:Option Addr}{xs:List Value}{v:Value}{R:List It}[Ty P t sz false](hx:ev fr x=some (.pointer (some (((adr A).add p).add q))))
  (hp:Pick (.row (.slice A m c) e size m xs) O R) (hv:xs[p+q]?=some v):Pu P n wr fr O (.load t x) ty v :=
 ZdU (by rw[<- Zbe];exact hx) hp hv
theorem ZcI {t sz e size m c p q:Nat}{ag:Bool}{x y:Operand}{A:Option Addr}{xs xs' vs:List Value}{v:Value}{O':List It}[hT:Ty P t sz ag](hx:ev fr x=some (.pointer (some (((adr A).add p).add q))))(hy:ev fr y=some v)
  (hu:Upd O (.row (.slice A m c) e size m xs) (.row (.slice A m c) e size m xs') O') (hvs:v.cells.toList=vs) (hl:vs.length=sz) (h1:vs.all Value.oneCell'=true) (hp:p+q+sz<=xs.length) (h0:0<sz) (hc:lay xs (p+q) vs=xs')
  (k:Kp undef O'):Stp P n wr fr O ⟨dst,.store t x y,ty,pos,af,g⟩ Kp:=Zck (by rw[<- Zbe];exact hx) hy hu hvs hl h1 hp h0 hc k
end
end Go.Wk
namespace Go.Proofs.YtbjomhdhkpgbaaaGreatDoor
open Go Go.RowKit Go.Wk
def fnV (f:Nat):Value := .func (.func f) #[] #[]
def ZnI:List Value:=[.bool false,.bool true,fnV 325,.bool true,.bool false,fnV 326,.bool true,.bool true,fnV 328,.bool true,.bool true,fnV 330]
def Zg2:List Value:=[fnV 315,.int .i64 3,fnV 317,.int .i64 12,fnV 318,.int .i64 3,fnV 320,.int .i64 3,fnV 322,.int .i64 14,fnV 323,.int .i64 15]
def Zlx:List Value:=[.string ByteArray.empty,.bool false,.bool false,.bool false,.bool false,.string ⟨#[118,97,110,103,117,97,114,100]⟩,.bool true,.bool true,.bool false,.bool false,.string ⟨#[109,97,105,110]⟩,.bool true,.bool false,.bool true,.bool false,.string ⟨#[114,101,97,114,103,117,97,114,100]⟩,.bool false,.bool false,.bool true,.bool true]
structure Glob (w:World):Prop where
 bef:Zam w ⟨8,0,none⟩ (Zbr.map fun n => .int .i64 n)
 kin:Zam w ⟨4,3,none⟩ ZnI
 con:Zam w ⟨2,0,none⟩ Zg2
 var:Zam w ⟨1,0,none⟩ Zlx
theorem Glob.up {w w':World}(h:Glob w)(hb:Bel w.heap.size w w'):Glob w' :=
 ⟨h.bef.up hb (Nat.le_refl _),h.kin.up hb (Nat.le_refl _),h.con.up hb (Nat.le_refl _),h.var.up hb (Nat.le_refl _)⟩
end Go.Proofs.YtbjomhdhkpgbaaaGreatDoor
namespace Go.Wk
open Go Go.RowKit
theorem ZqS (a b:Int)(hb:0<b):(a.tmod b<0->a.tdiv b - 1=a / b/\a.tmod b+b=a % b)/\(¬ a.tmod b<0->a.tdiv b=a / b/\a.tmod b=a % b):=by
 have h1:=Int.mul_tdiv_add_tmod a b
 have h2:=Int.tmod_lt_of_pos a hb
 have h3:=Int.lt_tmod_of_pos a hb
 have key:∀ q r:Int,b*q+r=a->0<=r->r<b->q=a / b/\r=a % b:=fun q r h0 h4 h5=>by
  have:=(Int.ediv_emod_unique (a:=a) (r:=r) (q:=q) hb).2 ⟨by omega,h4,h5⟩
  exact⟨this.1.symm,this.2.symm⟩
 constructor
 ·intro h
  exact key _ _ (by rw[Int.mul_sub];omega) (by omega) (by omega)
 ·intro h
  exact key _ _ h1 (by omega) h2
theorem Zt3 (a b:Int):a.tmod b=0↔a % b=0:=by rw[<- Int.dvd_iff_tmod_eq_zero,<- Int.dvd_iff_emod_eq_zero]
theorem Zt6 (a b:Int) : -(a.natAbs:Int)<=a.tdiv b/\a.tdiv b<=a.natAbs:=by
 have h1:=Int.natAbs_tdiv_le_natAbs a b
 omega
section
variable {P:Program}{n:Nat}{wr:World}{fr:Fr}{O:List It}{ty:TypeId}
theorem ZBM {t t':TypeId}{x y:Operand}{i j:Int}(hx:ev fr x=some (.int .i64 i))(hy:ev fr y=some (.int .i64 j))(hj:j≠0)(hn:i.natAbs<=9223372036854775807):Pu P n wr fr O (.binOp .quo t x y t') ty (.int .i64 (i.tdiv j)):=by
 have:=Pu_quo (P:=P) (n:=n) (wr:=wr) (O:=O) (ty:=ty) (t:=t) (t':=t') hx hy hj
 have hb:=Zt6 i j
 rwa[ZbS (by omega)]at this
theorem Zqq {x y:Operand}{ts:Array TypeId}{k:IntKind}{i j:Int}(hx:ev fr x=some (.int k i))(hy:ev fr y=some (.int k j)):Pu P n wr fr O (.call ⟨.builtin .max,#[x,y],ts⟩) ty (.int k (if i<j then j else i)) :=
 fun a w hs _ _ _ _=>by simp[execOp,resolve,invoke,builtin,Builtin.max_,Builtin.max2,hs.sim.ev hx,hs.sim.ev hy]
theorem Zbs {t len e sz:Nat}{ag:Bool}{x ix:Operand}{ad:Addr}{kk:IntKind}{i:Int}[hA:ArrT P t len e sz ag](hx:ev fr x=some (.pointer (some ad)))(hi:ev fr ix=some (.int kk i))(h0:0<=i)(h1:i<len) :
  Pu P n wr fr O (.indexAddr t x ix) ty (.pointer (some (ad.add (i.toNat*sz)))) :=
 fun a w hs _ _ _ _=>by
  have h:=hA.h
  unfold Zlf at h
  split at h
  ·rename_i len' e' hu
   split at h
   ·rename_i sz' ag' ht
    simp only[Option.some.injEq,Prod.mk.injEq]at h
    obtain⟨rfl,rfl,rfl,rfl⟩:=h
    obtain⟨inf,dd,hinf,hsz,_,_⟩:=Ty.parts ht
    simp[execOp,hs.sim.ev hx,hs.sim.ev hi,Instr.indexAt,asIntOf,run_underlying hu,Instr.sureAddr,h0,h1,sizeOf,ZaR hinf,hsz]
   ·cases h
  ·cases h
end
section
variable {P:Program}{n:Nat}{wr:World}{ops:Array Oper}{rest:List Oper}{K:Fr->List It->Prop}{fr:Fr}{O:List It}{ty:TypeId}{pos:String}{af:Array Edge}
theorem RL_und {d':Nat}{op:Op}{j:Nat}{b:Bool}{oj:Oper}{d:Nat}(hj:ops[j]?=some oj)(hd:oj.dst=some d)(hb:look fr d=some undef)(hdn:Nat.ble (d'+1) n=true)
  (k:RL P n wr ops rest K ((d',undef)::fr) O):RL P n wr ops (⟨some d',op,ty,pos,af,some (j,b)⟩::rest) K fr O:=by
 intro a w hs
 have:=k (a.put (some d') undef) w ⟨hs.sim.put hdn undef,hs.old,hs.own⟩
 have hw:Region.wanted (⟨some d',op,ty,pos,af,some (j,b)⟩:Oper) (yielded ops a.tmps)=false:=by
  have hy:yielded ops a.tmps j=none:=by simp[yielded,hj,hd,hs.sim.at_ d _ hb,undef]
  simp only[Region.wanted,hy]
  cases b <;> rfl
 simp only[wpList,hw]
 exact this
end
def yN (r:Nat):Nat:=(r - r / 1460+r / 36524 - r / 146096) / 365
def okYN (r:Nat):Bool:=Nat.ble (yN r) 399&&Nat.ble (yN r*365+yN r / 4 - yN r / 100) r&&Nat.ble (r - (yN r*365+yN r / 4 - yN r / 100)) 366&&(Nat.blt r ((yN r+1)*365+(yN r+1) / 4 - (yN r+1) / 100)||Nat.beq (yN r) 399)
def ZyY:Nat->Nat->Bool
 | 0,_=>true
 | k+1,r=>okYN r&&ZyY k (r+1)
theorem Zoj:∀ (k r i:Nat),ZyY k r=true->i<k->okYN (r+i)=true
 | 0,_,_,_,h=>by omega
 | k+1,r,i,h,hi=>by
  rw[ZyY,Bool.and_eq_true]at h
  cases i with
  | zero=>exact h.1
  | succ i =>
   have:=Zoj k (r+1) i h.2 (by omega)
   rwa[show r+1+i=r+(i+1) by omega]at this
theorem Zwf:∀ c,c<1461->ZyY (if c=1460 then 97 else 100) (100*c)=true:=by decide +kernel
theorem ZtJ (r:Nat):ZeY (r:Int)=(yN r:Nat):=by
 unfold ZeY yN
 omega
theorem ZtK (k:Nat)(h1:k<146097):okYN k=true:=by
 have h:=Zoj _ (100*(k / 100)) (k % 100) (Zwf _ (by omega)) (by split <;> omega)
 rwa[show 100*(k / 100)+k % 100=k by omega]at h
theorem ZxC (r:Int)(h0:0<=r)(h1:r<146097):0<=ZeY r/\ZeY r<=399/\0<=r - (ZeY r*365+ZeY r / 4 - ZeY r / 100)/\r - (ZeY r*365+ZeY r / 4 - ZeY r / 100)<=366:=by
 obtain⟨k,rfl⟩:=Int.eq_ofNat_of_zero_le h0
 have h:=ZtK k (by omega)
 simp only[okYN,Bool.and_eq_true,Nat.ble_eq]at h
 rw[ZtJ]
 omega
end Go.Wk
namespace Go.Proofs.YtbjomhdhkpgbaaaGreatDoor
open Go Go.RowKit Go.Wk
attribute [local irreducible] W RL Does Zar Zal retQ Calls Pu Stp RD Qy Ay Zak
theorem ZhJ (y:Int)(w:World):Does Tryz.prog 247 [.int .i64 y] w (fun v O=>v = .bool (inY y)/\O=[]):=by
 refine Zaa Tryz.func247 rfl rfl rfl rfl ?_
 repeat' (first|refine walk ?_|refine und ?_|(refine Zax rfl rfl rfl (fun hc=>?_) (fun hc=>?_))|(refine Zaw rfl rfl rfl (fun hc=>?_) (fun hc=>?_))|(refine Zah rfl (fun hc=>?_) (fun hc=>?_)))
 all_goals first|(refine ret_1 _ [] (.tmp rfl) .nil ⟨?_,rfl⟩;first|rfl|(simp only[*,Bool.true_and,Bool.false_and,Bool.true_or,Bool.false_or,Bool.not_true,Bool.not_false];done)|(simp_all [inY];done)|(simp_all [inY];omega)|(simp_all [inY];rw[Bool.eq_iff_iff];simp;omega))|(exfalso;simp_all [inY];done)|(exfalso;simp_all [inY];omega)|(exfalso;omega)
theorem Zsi {G:Prop}(h:G:=by(apply Pu_rem;rfl;rfl;decide)):G:=h
theorem Zve (y:Int)(w:World):Does Tryz.prog 249 [.int .i64 y] w (fun v O=>v = .bool (Zyq y)/\O=[]):=by
 rw[show Zyq y=(decide (y.tmod 4=0)&&(!decide (y.tmod 100=0)||decide (y.tmod 400=0))) by simp only[Zyq,Zt3]]
 refine Zaa Tryz.func249 rfl rfl rfl rfl ?_
 repeat' (first|(apply RL_pu;rfl;exact Zsi)|refine walk1 ?_|refine und ?_|(refine Zax rfl rfl rfl (fun hc=>?_) (fun hc=>?_))|(refine Zaw rfl rfl rfl (fun hc=>?_) (fun hc=>?_))|(refine Zah rfl (fun hc=>?_) (fun hc=>?_)))
 all_goals exact clo1
theorem Zcc (y m:Int)(w:World):Does Tryz.prog 209 [.int .i64 y,.int .i64 m] w (fun v O=>v = .int .i64 (lenM y m)/\O=[]):=by
 refine Zaa Tryz.func209 rfl rfl rfl rfl ?_
 repeat' (first|(refine js ?_;(refine Zae (fun w' _=>Zve y w') ?_))|refine walk ?_|refine und ?_|(refine Zax rfl rfl rfl (fun hc=>?_) (fun hc=>?_))|(refine Zaw rfl rfl rfl (fun hc=>?_) (fun hc=>?_))|(refine Zah rfl (fun hc=>?_) (fun hc=>?_)))
 all_goals first|(refine ret_1 _ [] (.tmp rfl) .nil ⟨?_,rfl⟩;first|rfl|(simp only[*,Bool.true_and,Bool.false_and,Bool.true_or,Bool.false_or,Bool.not_true,Bool.not_false];done)|(simp_all [lenM];done)|(simp_all [lenM];omega)|(simp_all [lenM];rw[Bool.eq_iff_iff];simp;omega))|(exfalso;simp_all [lenM];done)|(exfalso;simp_all [lenM];omega)|(exfalso;omega)
theorem ZmA {G:Prop}(h:G:=by(first|(apply ZBM;rfl;rfl;omega;omega)|(apply Pu_rem;rfl;rfl;omega))):G:=h
theorem Zr2 {G:Prop}(h:G:=by first|(apply Qy_y;rfl;exact ZmA)|exact QyA):G:=h
theorem Zy8 {G:Prop}(h:G:=by repeat (first|exact QF.nil|(apply QF.mk;rfl;rfl;decide +kernel;exact Zr2))):G:=h
theorem Zdn (a b:Int)(h0:0<b)(ha : -4611686018427387904<=a/\a<=4611686018427387904)(hb:b<=4611686018427387904)(w:World):Does Tryz.prog 248 [.int .i64 a,.int .i64 b] w (fun v O=>v = .tuple #[.int .i64 (a / b),.int .i64 (a % b)]/\O=[]):=by
 have h2:=Int.tmod_lt_of_pos a h0
 have h3:=Int.lt_tmod_of_pos a h0
 have h4:=Zt6 a b
 obtain⟨h5,h6⟩:=ZqS a b h0
 refine Zaa Tryz.func248 rfl rfl rfl rfl ?_
 repeat' (first|(apply RL_pu;rfl;exact ZmA)|(apply RD_Q;rfl;rfl;decide +kernel;rfl;rfl;exact Zr2)|refine walk1 ?_|(refine RD_Lw ?_;intro F;(apply Zag;first|exact ZmA|exact PuA);refine⟨_,EndsA,Zy8,?_⟩)|(refine Zah rfl (fun hc=>?_) (fun hc=>?_)))
 ·obtain⟨e1,e2⟩:=h5 (of_decide_eq_true hc)
  exact ret_2 _ _ [] (.tmp rfl) (.tmp rfl) .nil ⟨by rw[<- e1,<- e2],rfl⟩
 ·obtain⟨e1,e2⟩:=h6 (of_decide_eq_false hc)
  exact ret_2 _ _ [] (.tmp rfl) (.tmp rfl) .nil ⟨by rw[<- e1,<- e2],rfl⟩
theorem Zky (a:Int)(ha : -4611686018427387904<=a/\a<=4611686018427387904)(w:World):Does Tryz.prog 331 [.int .i64 a] w (fun v O=>v = .int .i64 (ZmK a)/\O=[]):=by
 have h2:=Int.tmod_lt_of_pos a (b:=7) (by decide)
 have h3:=Int.lt_tmod_of_pos a (b:=7) (by decide)
 refine Zaa Tryz.func331 rfl rfl rfl rfl ?_
 repeat (first|(apply RL_pu;rfl;exact Zsi)|(refine js ?_;(refine Zae (fun w' _=>Zdn (a.tmod 7+4) 7 (by decide) (by omega) (by decide) w') ?_))|refine walk1 ?_)
 refine ret_1 _ [] (.tmp rfl) .nil ⟨?_,rfl⟩
 have h:=ZqS a 7 (by decide)
 have e:(a.tmod 7+4) % 7=ZmK a:=by
  unfold ZmK
  by_cases hn:a.tmod 7<0
  ·have:=(h.1 hn).2
   omega
  ·have:=(h.2 hn).2
   omega
 rw[e]
theorem Zmf {w:World}(hG:Glob w)(k:Nat)(hk:k<12):(Zbr.map fun n=>Value.int .i64 n)[k*1]?=some (.int .i64 (Zbr.getD k 0)):=by
 rw[Nat.mul_one,List.getElem?_map,List.getD_eq_getElem?_getD,List.getElem?_eq_getElem (show k<Zbr.length from hk)]
 rfl
theorem Zn2 {y m d:Int}(h:Zci y m d=true):(-2000000000<=y/\y<=2000000000)/\(1<=m/\m<=12)/\1<=d/\d<=31:=by
 simp only[Zci,inY,Bool.and_eq_true,decide_eq_true_eq]at h
 obtain⟨⟨⟨h1,h2⟩,h3⟩,h4⟩:=h
 have h5:=ZlS y m
 refine⟨⟨h1,h2⟩,?_,h3,by omega⟩
 unfold lenM at h4
 split at h4 <;> omega
theorem Zhj {G:Prop}(h:G:=by(first|(apply ZeX;rfl;rfl;(constructor <;> omega))|(apply Pu_quo64;rfl;rfl;omega;omega;omega)|(apply Zbs;rfl;rfl;omega;omega)|(apply Pu_loadO1';rfl;exact hG.bef;exact hb))):G:=h
theorem Zr1 {G:Prop}(h:G:=by first|(apply Qy_y;rfl;exact Zhj)|exact QyA):G:=h
theorem Zy7 {G:Prop}(h:G:=by repeat (first|exact QF.nil|(apply QF.mk;rfl;rfl;decide +kernel;exact Zr1))):G:=h
theorem ZjL (y m d:Int)(w:World)(hG:Glob w):Does Tryz.prog 207 [.int .i64 y,.int .i64 m,.int .i64 d] w (fun v O=>v = .tuple #[.int .i64 (if Zci y m d then Zb7 y m d else 0),.int .i64 (if Zci y m d then 0 else 3)]/\O=[]):=by
 refine Zaa Tryz.func207 rfl rfl rfl rfl ?_
 by_cases hok:Zci y m d=true
 ·obtain⟨h1,h2,h3⟩:=Zn2 hok
  have hl:=hok
  simp only[Zci,Bool.and_eq_true,decide_eq_true_eq]at hl
  obtain⟨⟨hy,_⟩,hd⟩:=hl
  rw[if_pos hok,if_pos hok]
  by_cases hm:m<3
  ·have hb:=Zmf hG (m+12 - 3).toNat (by omega)
   have hq:=ZfP (m+12 - 3).toNat
   rw[Zb7,if_pos hm,Zh8]
   generalize Zbr.getD (m+12 - 3).toNat 0=q at *
   repeat' (first|(apply RL_pu;rfl;exact Zhj)|(refine js ?_;(first|(refine Zae (fun w' _=>ZhJ y w') ?_)|(refine Zae (fun w' _=>Zcc y m w') ?_)|(refine Zae (fun w' _=>Zdn (y - 1) 400 (by decide) (by omega) (by decide) w') ?_)))|refine walk1 ?_|refine und ?_|(refine Zax rfl rfl rfl (fun hc=>?_) (fun hc=>?_))|(refine Zaw rfl rfl rfl (fun hc=>?_) (fun hc=>?_))|(refine Zah rfl (fun hc=>?_) (fun hc=>?_)))
   all_goals exact clo2
  ·have hb:=Zmf hG (m - 3).toNat (by omega)
   have hq:=ZfP (m - 3).toNat
   rw[Zb7,if_neg hm,Zh8]
   generalize Zbr.getD (m - 3).toNat 0=q at *
   repeat' (first|(apply RL_pu;rfl;exact Zhj)|(refine js ?_;(first|(refine Zae (fun w' _=>ZhJ y w') ?_)|(refine Zae (fun w' _=>Zcc y m w') ?_)|(refine Zae (fun w' _=>Zdn y 400 (by decide) (by omega) (by decide) w') ?_)))|refine walk1 ?_|refine und ?_|(refine Zax rfl rfl rfl (fun hc=>?_) (fun hc=>?_))|(refine Zaw rfl rfl rfl (fun hc=>?_) (fun hc=>?_))|(refine Zah rfl (fun hc=>?_) (fun hc=>?_)))
   all_goals exact clo2
 ·rw[if_neg hok,if_neg hok]
  repeat' (first|(refine js ?_;(first|(refine Zae (fun w' _=>ZhJ y w') ?_)|(refine Zae (fun w' _=>Zcc y m w') ?_)))|refine walk ?_|refine und ?_|(refine Zax rfl rfl rfl (fun hc=>?_) (fun hc=>?_))|(refine Zaw rfl rfl rfl (fun hc=>?_) (fun hc=>?_))|(refine Zah rfl (fun hc=>?_) (fun hc=>?_)))
  all_goals first|(refine ret_2 _ _ [] (.tmp rfl) (.tmp rfl) .nil ⟨?_,rfl⟩;first|rfl|(simp only[*,Bool.true_and,Bool.false_and,Bool.true_or,Bool.false_or,Bool.not_true,Bool.not_false];done)|(simp_all [Zci];done)|(simp_all [Zci];omega)|(simp_all [Zci];rw[Bool.eq_iff_iff];simp;omega))|(exfalso;simp_all [Zci];done)|(exfalso;simp_all [Zci];omega)|(exfalso;omega)
theorem ZtI (n:Int):n / 146097+(n % 146097+719468) / 146097=(n+719468) / 146097/\(n % 146097+719468) % 146097=(n+719468) % 146097:=by omega
theorem ZuW (r:Int):∀ m,monN r m<=m
 | 0=>Nat.le_refl _
 | m+1=>by
  rw[monN]
  split
  ·exact Nat.le_refl _
  ·have:=ZuW r m;omega
theorem ZfV {G:Prop}(h:G:=by(first|(apply ZeX;rfl;rfl;(constructor <;> omega))|(apply Pu_quo64;rfl;rfl;omega;omega;omega))):G:=h
theorem Zlv {G G':Prop}(k:G')(h:Hold G'->G:=by intro k9;(first|(apply RL_pu;rfl;exact ZfV)|(apply RD_Q;rfl;rfl;decide +kernel;rfl;rfl;exact QyCivil3)|refine walk1 ?_|(refine jn ?_;(try intro F);(apply Zag;first|exact ZfV|exact PuA);first|refine⟨_,EndsA,QFCivil3,?_⟩|refine fin ?_));exact k9.out):G:=h ⟨k⟩
theorem Zsh {G:Prop}(h:G:=by(first|(apply Zbs;rfl;rfl;omega;omega)|(apply Pu_loadO1';rfl;exact hG.bef;exact hb))):G:=h
theorem ZvU (n:Int)(hn : -1000000000000000000<=n/\n<=1000000000000000000)(w:World)(hG:Glob w):Does Tryz.prog 250 [.int .i64 n] w (fun v O=>(∃ m d,v = .tuple #[.int .i64 (ZyQ n),.int .i64 m,.int .i64 d])/\O=[]):=by
 obtain⟨c1,c2⟩:=ZtI n
 have c3:0<=(n+719468) % 146097/\(n+719468) % 146097<146097:=by omega
 obtain⟨y1,y2,y3,y4⟩:=ZxC _ c3.1 c3.2
 have hD:ZyQ n=if 10<=monN ((n+719468) % 146097 - (ZeY ((n+719468) % 146097)*365+ZeY ((n+719468) % 146097) / 4 - ZeY ((n+719468) % 146097) / 100)) 11 then (n+719468) / 146097*400+ZeY ((n+719468) % 146097)+1 else (n+719468) / 146097*400+ZeY ((n+719468) % 146097):=rfl
 refine Zaa Tryz.func250 rfl rfl rfl rfl ?_
 repeat (first|(apply RL_pu;rfl;exact ZfV)|(apply RD_Q;rfl;rfl;decide +kernel;rfl;rfl;exact QyCivil3)|refine walk1 ?_|(refine jg ?_;(try intro F);(refine Zae (fun w' _=>Zdn n 146097 (by decide) (by omega) (by decide) w') ?_);first|refine⟨_,EndsA,QFCivil3,?_⟩|refine fin ?_)|(refine jn ?_;(try intro F);(apply Zag;first|exact ZfV|exact PuA);first|refine⟨_,EndsA,QFCivil3,?_⟩|refine fin ?_))
 refine Zah rfl (fun _=>?_) (fun h=>?_)
 rotate_left
 ·have:=of_decide_eq_false h
  omega
 repeat (first|refine walk ?_|(refine jg ?_;(try intro F);(refine Zae (fun w' _=>Zdn (n % 146097+719468) 146097 (by decide) (by omega) (by decide) w') ?_);refine fin ?_)|(refine jn ?_;(try intro F);(apply Zag;exact PuA);refine fin ?_))
 rw[c1,c2]
 clear c1 c2
 generalize hcc:(n+719468) / 146097=c at *
 have hcb : -10000000000000<=c/\c<=10000000000000:=by omega
 generalize (n+719468) % 146097=r at *
 rw[show(r - r / 1460+r / 36524 - r / 146096) / 365=ZeY r from rfl]
 generalize ZeY r=y at *
 clear hn hcc
 generalize hq:r - (y*365+y / 4 - y / 100)=q at *
 repeat (first|(apply RL_pu;rfl;exact ZfV)|(apply RD_Q;rfl;rfl;decide +kernel;rfl;rfl;exact QyCivil3)|refine walkB1 ?_|(refine jn ?_;(try intro F);(apply Zag;first|exact ZfV|exact PuA);first|refine⟨_,EndsA,QFCivil3,?_⟩|refine fin ?_))
 rw[hq]
 refine Zcw (fun fr' O'=>Sub [(10,.int .i64 (monN q 11)),(5,.int .i64 c),(9,.int .i64 y),(6,.int .i64 q)] fr'/\SubO [] O') ?_ ?_
 ·apply W_block
  refine Zaq [(5,.int .i64 c),(9,.int .i64 y),(6,.int .i64 q)] [] (fun k:Nat=>[(10,.int .i64 k)]) (fun _=>[]) (fun k=>k<=11/\monN q k=monN q 11) (fun k=>k) 11 SFA .nil ⟨Nat.le_refl _,rfl⟩ ?_
  rintro k ⟨hk,hm⟩
  have hb:=Zmf hG k (by omega)
  have hstp:∀ j,k=j+1->monN q k=if Zbr.getD k 0<=q then k else monN q j:=fun j h=>by subst h;rw[monN]
  have h0:k=0->Zbr.getD k 0=0:=fun h=>by subst h;rfl
  generalize Zbr.getD k 0=z at *
  repeat (first|(apply RL_pu;rfl;exact Zsh)|(apply RD_Q;rfl;rfl;decide +kernel;rfl;rfl;exact QyCivil4)|refine walk1 ?_|(refine jn ?_;(try intro F);(apply Zag;first|exact Zsh|exact PuA);first|refine⟨_,EndsA,QFCivil4,?_⟩|refine fin ?_))
  refine Zah rfl (fun h=>?_) (fun h=>?_)
  ·have h1:=of_decide_eq_true h
   have hk1:k≠0:=fun e=>by have:=h0 e;omega
   obtain⟨j,rfl⟩:∃ j,k=j+1:=⟨k - 1,by omega⟩
   have h2:=hstp j rfl
   rw[if_neg (by omega)]at h2
   repeat refine Zlv ?_
   rw[show((j+1:Nat):Int) - 1=(j:Int) by omega]
   exact⟨j,OA,⟨OA,by rw[<- h2];exact hm⟩,SFA,.nil⟩
  ·have h1:=of_decide_eq_false h
   have h2:monN q k=k:=by
    cases k with
    | zero=>rfl
    | succ j =>
     have h2:=hstp j rfl
     rw[if_pos (by omega)]at h2
     exact h2
   repeat (first|refine walk ?_|(refine jn ?_;(try intro F);(apply Zag;exact PuA);refine fin ?_))
   rw[<- hm,h2]
   exact⟨rfl,SFA,.nil⟩
 rintro fr' O' ⟨hf,hO⟩
 apply thenQ_n
 refine ZcH hf hO ?_
 clear hf hO fr' O'
 have hml:=ZuW q 11
 generalize monN q 11=k at *
 have hb:=Zmf hG k (by omega)
 have hbb:=ZfP k
 generalize Zbr.getD k 0=z at *
 repeat (first|(apply RL_pu;rfl;exact Zhj)|(apply RD_Q;rfl;rfl;decide +kernel;rfl;rfl;exact Zr1)|refine walk1 ?_|(refine jn ?_;(try intro F);(apply Zag;first|exact Zhj|exact PuA);first|refine⟨_,EndsA,Zy7,?_⟩|refine fin ?_))
 refine Zah rfl (fun h=>?_) (fun h=>?_)
 ·have h1:=of_decide_eq_true h
  rw[if_pos (by omega)]at hD
  repeat refine Zlv ?_
  exact Zgn _ _ _ [] (.tmp rfl) (.tmp rfl) (.tmp rfl) .nil ⟨⟨_,_,by rw[hD]⟩,rfl⟩
 ·have h1:=of_decide_eq_false h
  rw[if_neg (by omega)]at hD
  repeat refine Zlv ?_
  exact Zgn _ _ _ [] (.tmp rfl) (.tmp rfl) (.tmp rfl) .nil ⟨⟨_,_,by rw[hD]⟩,rfl⟩
theorem ZmG (t:Int)(ht : -4611686018427387904<=t/\t<=4611686018427387904)(w:World)(hG:Glob w):Does Tryz.prog 210 [.int .i64 t] w (fun v O=>v = .int .i64 (Zd6 t)/\O=[]):=by
 refine Zaa Tryz.func210 rfl rfl rfl rfl ?_
 repeat (first|(apply RL_pu;rfl;(first|(apply Zfy;rfl;rfl)|(apply Zqq;rfl;rfl)))|(refine js ?_;(first|(refine Zae (fun w' _=>Zdn t 86400 (by decide) (by omega) (by decide) w') ?_)|(apply Zad (h:=fun w' hw _=>ZvU (t / 86400) (by omega) w' (hG.up hw));rfl;rintro v O' ⟨⟨m,d,rfl⟩,rfl⟩)))|refine walk1 ?_)
 refine ret_1 _ [] (.tmp rfl) .nil ⟨?_,rfl⟩
 unfold Zd6
 generalize ZyQ (t / 86400)=y
 congr 1
 split <;> split <;> omega
end Go.Proofs.YtbjomhdhkpgbaaaGreatDoor
