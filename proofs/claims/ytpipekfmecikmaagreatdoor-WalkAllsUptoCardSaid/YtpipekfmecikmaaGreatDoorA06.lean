/- Parts of the proof. -/
import Derived.Sort.LotA
import Derived.Test.YtpipekfmecikmaaGreatDoorA05
set_option maxHeartbeats 0
set_option linter.all false
namespace Go.Proofs.YtpipekfmecikmaaGreatDoor
open Go Go.RowKit Go.Wk
theorem Zd3 (a b:Zac):ordE a b<0↔a.nominal<b.nominal\/(a.nominal=b.nominal/\(a.rule<b.rule\/(a.rule=b.rule/\a.year<b.year))):=by
 unfold ordE
 repeat' split
 all_goals omega
def ltE (x y:Zac):Bool:=decide (ordE x y<0)
theorem swoE:Go.Sort.SWO ltE where
 irrefl x:=by simp only[ltE,Zd3,decide_eq_false_iff_not];omega
 trans x y z h1 h2:=by simp only[ltE,Zd3,decide_eq_true_eq]at *;omega
 ntrans x y z h1 h2:=by simp only[ltE,Zd3,decide_eq_false_iff_not]at *;omega
theorem totE (x y:Zac)(g:ltE x y=false)(h:ltE y x=false):x=y:=by
 simp only[ltE,Zd3,decide_eq_false_iff_not]at g h
 obtain⟨a,b,c⟩:=x
 obtain⟨d,e,f⟩:=y
 simp only[Zac.mk.injEq]
 simp only at g h
 omega
def Zb6 (least y:Int):List DRule->Nat->List Zac
 | [],_=>[]
 | r::l,i=>(onR least r i y).toList++Zb6 least y l (i+1)
def allC (l:List DRule)(least from_:Int):Nat->List Zac
 | 0=>[]
 | k+1=>allC l least from_ k++Zb6 least (from_+k) l 0
def insF (a:List Zac)(e:Zac):List Zac:=insE e a
theorem ZgE (least y:Int):∀ (l:List DRule) (i:Nat) (a:List Zac),ZkH least y l i a=(Zb6 least y l i).foldl insF a
 | [],_,_=>rfl
 | r::l,i,a=>by
  rw[ZkH,Zb6,ZgE least y l]
  cases onR least r i y with
  | none=>rfl
  | some e=>rfl
theorem Ziu (e:Zac):∀ l,(insE e l).Perm (e::l)
 | [] => .refl _
 | x::l=>by
  rw[insE]
  split
  ·exact .refl _
  ·exact((Ziu e l).cons x).trans (.swap _ _ _)
theorem ZmR:∀ (xs a:List Zac),(xs.foldl insF a).Perm (xs++a)
 | [],_ => .refl _
 | x::xs,a=>by
  rw[List.foldl_cons]
  refine(ZmR xs _).trans ?_
  refine((Ziu x a).append_left xs).trans ?_
  exact List.perm_middle
theorem Zcr (l:List DRule)(least a:Int):∀ k,(Zdb l least a k).Perm (allC l least a k)
 | 0 => .refl _
 | k+1=>by
  rw[Zdb,allC,ZgE]
  refine(ZmR _ _).trans ?_
  refine List.perm_append_comm.trans ?_
  exact(Zcr l least a k).append_right _
def ZpD (l:List Zac):Prop:=l.Pairwise fun a b=>ltE a b=false
theorem ZmT (e:Zac):∀ l,ZpD l->ZpD (insE e l)
 | [],_=>List.pairwise_singleton _ _
 | x::l,h=>by
  obtain⟨g,i⟩:=List.pairwise_cons.1 h
  rw[insE]
  split
  ·rename_i c
   have f:ltE x e=true:=dT_ c
   have d:ltE e x=false:=by
    cases h3:ltE e x
    ·rfl
    ·have:=swoE.trans x e x f h3
     rw[swoE.irrefl]at this
     cases this
   refine List.pairwise_cons.2 ⟨fun b a=>?_,h⟩
   rcases List.mem_cons.1 a with rfl|a
   ·exact d
   ·exact swoE.ntrans e x b d (g b a)
  ·rename_i c
   have f:ltE x e=false:=dF_ c
   refine List.pairwise_cons.2 ⟨fun b a=>?_,ZmT e l i⟩
   rcases List.mem_cons.1 ((Ziu e l).mem_iff.1 a) with rfl|a
   ·exact f
   ·exact g b a
theorem ZmS:∀ (xs a:List Zac),ZpD a->ZpD (xs.foldl insF a)
 | [],_,h=>h
 | x::xs,a,h=>ZmS xs _ (ZmT x a h)
theorem Zec (l:List DRule)(least a:Int):∀ k,ZpD (Zdb l least a k)
 | 0=>List.Pairwise.nil
 | k+1=>by
  rw[Zdb,ZgE]
  exact ZmS _ _ (Zec l least a k)
theorem Zwn (l:List DRule)(least d:Int)(k:Nat):(allC l least d k).mergeSort (fun x y => !ltE y x)=(Zdb l least d k).reverse:=by
 refine List.Perm.eq_of_pairwise (le:=fun x y=>(!ltE y x)=true) ?_ ?_ ?_ ?_
 ·intro a b _ _ e f
  simp only[Bool.not_eq_true']at e f
  exact totE a b f e
 ·refine List.pairwise_mergeSort ?_ ?_ _
  ·intro a b c e f
   simp only[Bool.not_eq_true']at e f ⊢
   exact swoE.ntrans c b a f e
  ·intro a b
   cases h:ltE b a with
   | false=>simp
   | true =>
    have:ltE a b=false:=by
     cases h3:ltE a b
     ·rfl
     ·have:=swoE.trans a b a h3 h
      rw[swoE.irrefl]at this
      cases this
    simp[this]
 ·rw[List.pairwise_reverse]
  exact(Zec l least d k).imp fun h=>by rw[h];rfl
 ·exact(List.mergeSort_perm _ _).trans ((Zcr l least d k).symm.trans (List.reverse_perm _).symm)
def ZcM:List Zac->Option Zac
 | a::b::l=>if b.nominal - a.nominal<259200 then some b else ZcM (b::l)
 | _=>none
theorem ZiY (x y:Zac):∀ l:List Zac,ZcM (l++[x,y])=(ZcM (l++[x])).or (if y.nominal - x.nominal<259200 then some y else none)
 | []=>by simp[ZcM]
 | [a]=>by
  simp only[List.cons_append,List.nil_append,ZcM]
  by_cases h:x.nominal - a.nominal<259200 <;> simp[h]
 | a::b::l=>by
  have c:=ZiY x y (b::l)
  simp only[List.cons_append,ZcM]at c ⊢
  by_cases h:b.nominal - a.nominal<259200
  ·simp[h]
  ·simp only[if_neg h]
   exact c
theorem Zkl:∀ l:List Zac,ZcM l.reverse=Ze0 l
 | []=>rfl
 | [_]=>rfl
 | a::b::l=>by
  have c:=Zkl (b::l)
  rw[List.reverse_cons]at c
  rw[Ze0,<- c,List.reverse_cons,List.reverse_cons,List.append_assoc]
  exact ZiY b a l.reverse
theorem Znw (l:List DRule):ZcM ((allC l (Zae l) 1850 701).mergeSort fun x y => !ltE y x)=Zen l:=by
 rw[Zwn,Zkl];rfl
end Go.Proofs.YtpipekfmecikmaaGreatDoor
namespace Go.Wk
open Go Go.RowKit
def beIn (least nominal:Int)(r:DRule)(i y:Int):Nat->Option Zac
 | 0=>none
 | k+1=>match onR least r i y with
  | some e=>if e.nominal<nominal then some e else beIn least nominal r i (y - 1) k
  | none=>beIn least nominal r i (y - 1) k
def Zfn (least nominal yr:Int):List DRule->Nat->Option Zac->Option Zac
 | [],_,best=>best
 | r::l,i,best =>
  Zfn least nominal yr l (i+1) (match beIn least nominal r i (min (lastY r) (yr+2)) 20 with
   | none=>best
   | some e=>match best with|none=>some e|some b=>if ordE b e<0 then some e else some b)
def befD (l:List DRule)(nominal:Int):Option Zac:=Zfn (Zae l) nominal (Zay nominal) l 0 none
def fiIn (least:Int)(r:DRule)(i y:Int):Nat->Option Zac
 | 0=>none
 | k+1=>match onR least r i y with
  | some e=>some e
  | none=>fiIn least r i (y+1) k
def firL (least:Int):List DRule->Nat->List Zac
 | [],_=>[]
 | r::l,i=>(fiIn least r i (max r.from_ (-2000000000)) 9).toList++firL least l (i+1)
def dR0:DRule:=⟨ByteArray.empty,0,0,0,⟨0,0,0⟩,⟨0,0⟩,0,ByteArray.empty⟩
def ruE (l:List DRule)(e:Zac):DRule:=l.getD e.rule.toNat dR0
def fstB (l:List DRule)(all:Bool)(but:Int)(best:Option Zac)(e:Zac):Option Zac :=
 if (!all&&decide ((ruE l e).save=but))||(match best with|some b=>decide (b.nominal<=e.nominal)|none=>false) then best else some e
def fstD (l:List DRule)(all:Bool)(but:Int):Option Zac:=(firL (Zae l) l 0).foldl (fstB l all but) none
def behS (l:List DRule)(e:Zac):Int × ByteArray:=((ruE l e).save,(ruE l e).letter)
def iniS (l:List DRule):Int × ByteArray :=
 match fstD l true 0 with
 | none=>(0,ByteArray.empty)
 | some e=>match fstD l false (ruE l e).save with
  | some o=>behS l o
  | none=>behS l e
def befS (l:List DRule)(nominal:Int):Int × ByteArray :=
 match befD l nominal with
 | some e=>behS l e
 | none=>iniS l
def Zcc (l:List DRule)(e:Zac)(off:Int):Int :=
 if (ruE l e).at_.base=1 then e.nominal - max (Zae l) (-10800) - off
 else if (ruE l e).at_.base=0 then e.nominal - (befS l e.nominal).1 - off
 else e.nominal
theorem walkB1 {G G':Prop}(k:G')(h:Hold G'->G:=by intro k;(first|(apply Go.Wk.RL_pu;rfl;exact Go.Wk.PuA)|(apply Go.Wk.RL_st0;refine Go.Wk.stA ?_)|apply Go.Wk.W_seq|apply Go.Wk.W_region|apply Go.Wk.RL_nil|apply Go.Wk.thenQ_n|apply Go.Wk.W_skip|apply Go.Wk.W_ret|apply Go.Wk.W_exit|apply Go.Wk.thenQ_r|apply Go.Wk.thenQ_e|apply Go.Wk.blockQ_n|apply Go.Wk.blockQ_r|apply Go.Wk.blockQ_hit|(apply Go.Wk.blockQ_miss;rfl)|(apply Go.Wk.W_true;rfl)|(apply Go.Wk.W_false;rfl)|(apply Go.Wk.RL_yes;rfl;rfl;rfl)|(apply Go.Wk.RL_no;rfl;rfl;rfl;rfl;rfl)|(apply Go.Wk.W_draw;rfl;decide +kernel)|apply Go.Wk.RD_done|(apply Go.Wk.RD_Q;rfl;rfl;decide +kernel;rfl;rfl;exact Go.Wk.QyA)|(apply Go.Wk.RD_N;rfl;rfl;decide +kernel;rfl;rfl;rfl)|(apply Go.Wk.RD_A;rfl;rfl;decide +kernel;rfl;rfl;first|exact Go.Wk.Ay_alloc|exact Go.Wk.Ay_buildSlice0|(apply Go.Wk.Ay_buildSliceC;rfl;rfl;rfl;rfl;exact Go.Wk.NfA)|(apply Go.Wk.Ay_buildSliceNf;rfl;rfl;rfl;exact Go.Wk.NfA)));exact k.out):G:=h ⟨k⟩
theorem ZlY {G G':Prop}(k:G')(h:Hold G'->G:=by intro k;refine Go.Wk.walkB1 ?_;(repeat refine Go.Wk.walkB1 ?_);exact k.out):G:=h ⟨k⟩
def Zaj (P:Program)(f:FuncId)(args:List Value)(wr:World)(O:List It)(R:Value->List It->Prop):Prop :=
 ∀ w,Bel wr.heap.size wr w->Zaz wr.heap.size O w->Calls P f args.toArray w fun e w'=>∃ v O',e = .returned v/\Bel wr.heap.size wr w'/\Zaz wr.heap.size O' w'/\R v O'
theorem ZbA {P:Program}{f:FuncId}{fn:Func}{c:Code}{args:List Value}{wr:World}{O:List It}{R:Value->List It->Prop}{n:Nat}{rs:List ResultVar}(y:P.funcs[f]?=some fn)(x:fn.body=some c)(E:fn.ntmps=n)(z:fn.results=rs.toArray)
  (q:Nat.ble args.length n=true) (h:W P n wr c (retQ P wr rs R) (Ze1 0 args) O):Zaj P f args wr O R:=by
 intro w m p
 refine calls_of_wp y x ?_
 have i:St n wr (Ze1 0 args) O { tmps:=args.toArray++Array.replicate (fn.ntmps - args.toArray.size) undef,defers:=[] } w:=by
  have s:args.length<=n:=Nat.le_of_ble_eq_true q
  refine⟨⟨rfl,by simp;omega,fun t v D=>?_⟩,m,p⟩
  have:=(Zc7 args 0 t v D).2
  simp only[Nat.sub_zero]at this
  have d:t<args.length:=(List.getElem?_eq_some_iff.1 this).1
  rw[Array.getElem?_append_left (by simpa using d)]
  simpa using this
 refine wp_mono (h _ w i) ?_
 rintro e a w' ⟨fr,O1,b,g⟩
 have fin:(∃ vs O',Zpg P wr fr O1 rs vs/\SubO O' O1/\R (tupV vs) O')->a.defers=[]/\∃ v,(results fn a.tmps).run P w' = .ok v w'/\∃ j O,Ending.returned v = .returned j/\Bel wr.heap.size wr w'/\Zaz wr.heap.size O w'/\R j O:=by
  rintro⟨vs,O',h1,h2,h3⟩
  refine⟨b.sim.defers,(tupV vs),?_,_,O',rfl,b.old,b.own.sub h2,h3⟩
  unfold results
  rw[z,List.mapM_toArray]
  simp only[Sem.run_bind,Sem.run_map]
  rw[Zcn (P:=P) b _ (fun _=>rfl) (fun _ _=>rfl) rs vs h1]
  simp only[Result.andThen_ok,Sem.run_pure]
  congr 1
  clear h1 h3
  match vs with
  | []=>rfl
  | [v]=>rfl
  | v::u::r=>simp;rfl
 cases e with
 | ret=>exact fin g
 | normal=>exact fin g
 | _=>exact g.elim
section
variable {P:Program}{n:Nat}{wr:World}{fr:Fr}{O:List It}{ty:TypeId}{pos:String}{af:Array Edge}{dst:Option Tmp}{g:Option (Nat × Bool)}{Kp:Value->List It->Prop}
theorem Zg3 {f:FuncId}{xs:List Operand}{d:Array TypeId}{vs:List Value}{O2:List It}{R:Value->List It->Prop}[Body P f](p:evsO fr xs=some vs)(h:Zaj P f vs wr O2 R)(l:SubO O2 O)(k:∀ v O',R v O'->Kp v O') :
  Stp P n wr fr O ⟨dst,.call ⟨.value (.func f),xs.toArray,d⟩,ty,pos,af,g⟩ Kp:=by
 intro a w c Kn Q o
 have b:(execOp a.eval ⟨dst,.call ⟨.value (.func f),xs.toArray,d⟩,ty,pos,af,g⟩).run P w = .ok (.enter f vs.toArray) w:=by
  have:=c.sim.evsO p
  simp[execOp,resolve,Act.eval,Deferred.ofValue,invoke,ZbI,this]
 unfold Oper.wp
 rw[b,Oper.upon_enter]
 refine(h w c.old (c.own.sub l)).mono ?_
 rintro e w' ⟨v,O',rfl,i,j,m⟩
 exact o v _ w' i j (k v O' m)
theorem ZhE (N:Nat):∀ (vs cs:List Value) (j:Nat),(lay cs j vs).take N=lay (cs.take N) j vs
 | [],_,_=>rfl
 | v::r,cs,j=>by rw[lay,lay,ZhE N r,List.take_set]
theorem Zkw {t sz e size m c p:Nat}{T:Bool}{x y:Operand}{A:Option Addr}{xs F vs:List Value}{v:Value}{O':List It}[hT:Ty P t sz T](R:ev fr x=some (.pointer (some ((adr A).add p))))(Z:ev fr y=some v)
  (B:Upd O (.row (.slice A m c) e size m xs) (.row (.slice A m c) e size m F) O') (D:v.cells.toList=vs) (X:vs.length=sz) (U:vs.all Value.oneCell'=true) (Q:p+sz<=xs.length) (h0:0<sz) (W:lay xs p vs=F)
  (k:Kp undef O'):Stp P n wr fr O ⟨dst,.store t x y,ty,pos,af,g⟩ Kp:=by
 refine Zfj fun a w o=>?_
 have z:=o.own.sat _ B.mem
 obtain⟨q,M|⟨b,cap,d,C,V,J,L,H,N,h⟩⟩:=id z
 ·obtain⟨_,rfl⟩:=M
  simp at q
  rw[q]at Q
  simp at Q
  omega
 injection C with hA _ hcc
 subst hA hcc
 have hb:=o.own.inb _ B.mem b (by simp[It.S,Value.ownBlock])
 have Y:xs.length<=d.size:=by rw[<- h,List.length_take,Array.length_toList];omega
 have K:w.heap[b]?=some (.cells d.toList.toArray e (0,0)):=by rw[Array.toArray_toList];exact J
 have G:(adr (some (⟨b,0,none⟩:Addr))).add p=⟨b,p,none⟩:=by
  rw[show adr (some (⟨b,0,none⟩:Addr))=⟨b,0,none⟩ from rfl,Zcl,Nat.zero_add]
 rw[G]at R
 have l:∀ i,w.cell? ⟨b,i,none⟩=d.toList[i]?:=fun i=>by simp[World.cell?,J]
 have I:∀ i,w.frozen? ⟨b,i,none⟩=false:=fun i=>by simp[World.frozen?,J]
 have s:=Zct (P:=P) (ad:=⟨b,p,none⟩) vs w 0 (fun u B=>List.all_eq_true.1 U u B) (fun i r=>by
  rw[Zcl,l,I]
  refine⟨?_,rfl⟩
  rw[List.getElem?_eq_getElem (by rw[Array.length_toList];omega)]
  rfl)
 refine⟨Zbg w ⟨b,p,none⟩ vs 0,O',?_,?_,?_,k⟩
 ·have E:v.cells.size=sz:=by rw[<- X,<- D];simp
  simp only[execOp,o.sim.ev R,o.sim.ev Z,Instr.storeAt,Instr.sureAddr,Sem.run_bind,Sem.run_pure,Result.andThen_ok,storeVar,ZdE,E,ne_eq,not_true,if_false,D,s]
 ·refine o.old.trans ⟨⟨(Zbi vs w 0).1,(Zbi vs w 0).2.1,(Zbi vs w 0).2.2,by rw[Zbs];exact Nat.le_refl _,fun i r=>Zbt vs w 0 i (by show i≠b;omega)⟩⟩
 ·refine o.own.upd B o.old.size (by rw[Zbs];exact Nat.le_refl _) (fun i _ r=>Zbt vs w 0 i (fun e=>r (by rw[e];simp[It.S,Value.ownBlock]))) ?_ (fun i r=>Or.inl r)
  have f:=Zdj (b:=b) (j:=p) (t:=e) vs d.toList w 0 K
  simp only[Nat.add_zero]at f
  subst W
  refine⟨by rw[lay_length];exact q,.inr ⟨b,c,_,rfl,Nat.zero_le _,f,L,H,?_,?_⟩⟩
  ·rw[List.size_toArray,lay_length,Array.length_toList];exact N
  ·rw[List.toList_toArray,ZhE,h]
end
section
variable {P:Program}{n:Nat}{wr:World}{fr:Fr}{O:List It}{ty:TypeId}{pos:String}{af:Array Edge}{dst:Option Tmp}{g:Option (Nat × Bool)}{Kp:Value->List It->Prop}
theorem ZnJ {t:TypeId}{x d:Operand}{s:ByteArray}{f:IntKind}{i:Int}[hS:StringT P t](l:ev fr x=some (.string s))(k:ev fr d=some (.int f i))(g:0<=i)(j:i<s.size):Pu P n wr fr O (.index t x d) ty (.int .u8 (s.data.toList.getD i.toNat 0).toNat) :=
 fun a w c _ _ _ _=>by
  have h:=run_index_string (P:=P) (w:=w) t s f i hS.h
  rw[dif_pos ⟨g,j⟩]at h
  have b:i.toNat<s.data.toList.length:=by
   have:s.data.size=s.size:=rfl
   rw[Array.length_toList,this]
   omega
  have e:s.data.toList.getD i.toNat 0=s[i.toNat]'(by omega):=by
   rw[List.getD_eq_getElem?_getD,List.getElem?_eq_getElem b]
   rfl
  simp only[execOp,c.sim.ev l,c.sim.ev k,Sem.run_bind,h,Result.andThen_ok,e]
  rfl
theorem Zu8 {t e sz b:Nat}{x y:Operand}{A:Option Addr}{len cap:Nat}{l:Int}[hE:ElemZ P t e sz b](q:ev fr x=some (.slice A len cap))(r:ev fr y=some (.int .i64 l))(j:0<=l)(k:l<=len)(u:l<cap) :
  Pu P n wr fr O (.slice t x (some y) none none) ty (.slice (A.map (·.add (l.toNat*sz))) (len - l.toNat) (cap - l.toNat)):=fun a w g _ _ _ _=>by
 obtain⟨i,z,p,o,v,d,m,s,f⟩:=ElemZ.parts hE.h
 have c:¬ (cap=l.toNat):=by omega
 simp[execOp,g.sim.ev q,g.sim.ev r,Instr.sliceAt,Instr.slice,run_underlying p,Instr.sliceBounds,run_sliceBound,j,k,sizeOf,typeInfo,o,c,d]
end
section
variable {P:Program}{n:Nat}{wr:World}{fr:Fr}{O:List It}{ty:TypeId}{pos:String}{af:Array Edge}{dst:Option Tmp}{g:Option (Nat × Bool)}{Kp:Value->List It->Prop}
theorem Zjn {e size m c p:Nat}{A:Option Addr}{xs x vs:List Value}{O':List It}{a:Act}{w:World}(q:St n wr fr O a w)
  (s:Upd O (.row (.slice A m c) e size m xs) (.row (.slice A m c) e size m x) O') (H:vs.all Value.oneCell'=true) (K:p+vs.length<=xs.length) (M:0<vs.length) (J:lay xs p vs=x) :
  ∃ w',(storeCells ((adr A).add p) vs 0).run P w = .ok () w'/\Bel wr.heap.size wr w'/\Zaz wr.heap.size O' w':=by
 have r:=q.own.sat _ s.mem
 obtain⟨k,F|⟨b,cap,d,v,I,C,E,z,G,g⟩⟩:=id r
 ·obtain⟨_,rfl⟩:=F
  simp at k
  subst k
  simp only[List.length_nil]at K
  omega
 injection v with hA _ hcc
 subst hA hcc
 have N:=q.own.inb _ s.mem b (by simp[It.S,Value.ownBlock])
 have L:xs.length<=d.size:=by rw[<- g,List.length_take,Array.length_toList];omega
 have D:w.heap[b]?=some (.cells d.toList.toArray e (0,0)):=by rw[Array.toArray_toList];exact C
 have y:(adr (some (⟨b,0,none⟩:Addr))).add p=⟨b,p,none⟩:=by
  rw[show adr (some (⟨b,0,none⟩:Addr))=⟨b,0,none⟩ from rfl,Zcl,Nat.zero_add]
 rw[y]
 have h:∀ i,w.cell? ⟨b,i,none⟩=d.toList[i]?:=fun i=>by simp[World.cell?,C]
 have B:∀ i,w.frozen? ⟨b,i,none⟩=false:=fun i=>by simp[World.frozen?,C]
 have o:=Zct (P:=P) (ad:=⟨b,p,none⟩) vs w 0 (fun u s=>List.all_eq_true.1 H u s) (fun i l=>by
  rw[Zcl,h,B]
  refine⟨?_,rfl⟩
  rw[List.getElem?_eq_getElem (by rw[Array.length_toList];omega)]
  rfl)
 refine⟨Zbg w ⟨b,p,none⟩ vs 0,o,?_,?_⟩
 ·refine q.old.trans ⟨⟨(Zbi vs w 0).1,(Zbi vs w 0).2.1,(Zbi vs w 0).2.2,by rw[Zbs];exact Nat.le_refl _,fun i l=>Zbt vs w 0 i (by show i≠b;omega)⟩⟩
 ·refine q.own.upd s q.old.size (by rw[Zbs];exact Nat.le_refl _) (fun i _ l=>Zbt vs w 0 i (fun e=>l (by rw[e];simp[It.S,Value.ownBlock]))) ?_ (fun i l=>Or.inl l)
  have f:=Zdj (b:=b) (j:=p) (t:=e) vs d.toList w 0 D
  simp only[Nat.add_zero]at f
  subst J
  refine⟨by rw[lay_length];exact k,.inr ⟨b,c,_,rfl,Nat.zero_le _,f,E,z,?_,?_⟩⟩
  ·rw[List.size_toArray,lay_length,Array.length_toList];exact G
  ·rw[List.toList_toArray,ZhE,g]
theorem Zsc {t e sz d p k m c u:Nat}{x:Operand}{ad:Addr}{xs:List Value}{z:Value}{O':List It}[hE:ElemZ P t e sz d][hz:ZeroV P e z](J:ev fr x=some (.slice (some (ad.add p)) k u))
  (I:Upd O (.row (.slice (some ad) m c) e sz m xs) (.row (.slice (some ad) m c) e sz m (lay xs p (Builtin.zeroCells z.cells k).toList)) O') (v:(Builtin.zeroCells z.cells k).toList.all Value.oneCell'=true) (D:0<k) (E:p+k*sz<=xs.length)
  (L:Kp (.tuple #[]) O'):Stp P n wr fr O ⟨dst,.call ⟨.builtin .clear,#[x],#[t]⟩,ty,pos,af,g⟩ Kp:=by
 refine ZbZ fun a w s=>?_
 obtain⟨i,r,H,C,l,G,B,o,f⟩:=ElemZ.parts hE.h
 have q:r=z:=by
  have h:=hz.h
  unfold Zz9 at h
  rw[C]at h
  exact Option.some.inj (l.symm.trans h)
 subst q
 have b:(Builtin.zeroCells r.cells k).toList.length=k*sz:=by rw[Array.length_toList,size_zeroCells,o]
 obtain⟨w',F,y,A⟩:=Zjn (P:=P) s I v (by rw[b];exact E) (by rw[b];exact Nat.mul_pos D f) rfl
 refine⟨.tuple #[],w',O',?_,y,A,L⟩
 obtain⟨k,rfl⟩:∃ K,k=K+1:=⟨k - 1,by omega⟩
 have j:(storeCells (ad.add p) (Builtin.zeroCells r.cells (k+1)).toList 0).run P w = .ok () w':=F
 simp[execOp,resolve,invoke,builtin,Builtin.clear_,s.sim.ev J,run_underlying H,ZeA,j]
theorem ZuJ {ops:Array Oper}{x:List Oper}{K:Fr->List It->Prop}{e size m c:Nat}{A:Option Addr}{xs:List Value}{O':List It}(k:Nat)(u:k<=m)(v:Upd O (.row (.slice A m c) e size m xs) (.row (.slice A k c) e size k (xs.take (k*size))) O')
  (h:RL P n wr ops x K fr O'):RL P n wr ops x K fr O:=fun a w g=>h a w ⟨g.sim,g.old,by
 refine g.own.upd v g.old.size (Nat.le_refl _) (fun _ _ _=>rfl) ?_ (fun i q=>?_)
 ·have j:=g.own.sat _ v.mem
  obtain⟨t,r|⟨b,cap,o,l,y,z,B,p,s,d⟩⟩:=j
  ·obtain⟨C,rfl⟩:=r
   obtain rfl:k=0:=by omega
   injection C with h1 _ h3
   subst h1 h3
   exact⟨by simp,.inl ⟨rfl,rfl⟩⟩
  ·injection l with hA _ hcc
   subst hA hcc
   refine⟨?_,.inr ⟨b,c,o,rfl,Nat.zero_le _,z,by omega,p,s,?_⟩⟩
   ·have f:k*size<=m*size:=Nat.mul_le_mul_right size u
    rw[List.length_take,t]
    omega
   ·have f:k*size<=m*size:=Nat.mul_le_mul_right size u
    rw[<- d,List.take_take,Nat.min_eq_left f]
 ·left
  simp only[It.S,Value.ownBlock]at q ⊢
  cases A with
  | none=>exact q
  | some a=>exact q⟩
end
section
variable {P:Program}{n:Nat}{wr:World}{ops:Array Oper}{fr:Fr}{O:List It}{K:Fr->List It->Prop}{ty:TypeId}
theorem Zxu {t t':TypeId}{x:Operand}{e:IntKind}{i:Int}{sz:Nat}{a:Bool}[Ty P t sz a][IntT P t' .u8](d:ev fr x=some (.int e i))(b:0<=i)(c:i<=255):Pu P n wr fr O (.convert t t' x) ty (.int .u8 i):=by
 have:=Pu_convI (P:=P) (n:=n) (wr:=wr) (O:=O) (ty:=ty) (t:=t) (t':=t') d
 rwa[show IntKind.u8.wrap i=i from IntWalk.u8_in i ⟨b,c⟩]at this
end
theorem Zch {P:Program}{n:Nat}{wr:World}{fr:Fr}{O:List It}{ty:TypeId}{t sz e a p m c:Nat}{x:Operand}{A:Option Addr}{xs vs:List Value}{R:List It}[Ty P t sz true](i:ev fr x=some (.pointer (some ((adr A).add p))))
  (g:Pick (.row (.slice A m c) e a m xs) O R) (h:∀ j v,vs[j]?=some v->xs[p+j]?=some v) (f:vs.length=sz):Pu P n wr fr O (.load t x) ty (.agg vs.toArray) :=
 ZgA i f fun w _ b j v d=>by
  rw[ZbK]
  exact(Zbc (b.of g) (h j v d)).2
theorem ZaG {P:Program}{n:Nat}{wr:World}{fr:Fr}{O:List It}{ty:TypeId}{t e sz b:Nat}{x d:Operand}{A:Option Addr}{len cap:Nat}{l:IntKind}{i:Int}[hE:ElemT P t e sz b](k:ev fr x=some (.slice A len cap))(j:ev fr d=some (.int l i))
  (f:0<=i) (g:i<len) (h:∀ w,Bel wr.heap.size wr w->Zaz wr.heap.size O w->A≠none):Pu P n wr fr O (.indexAddr t x d) ty (.pointer (some ((adr A).add (i.toNat*sz)))) :=
 fun a w c=>Pu_indexAddr k j f g (h w c.old c.own) a w c
section
variable {P:Program}{n:Nat}{wr:World}{fr:Fr}{O:List It}{ty:TypeId}{pos:String}{af:Array Edge}{dst:Option Tmp}{g:Option (Nat × Bool)}{Kp:Value->List It->Prop}
theorem Zeg {f:FuncId}{d:Operand}{xs:List Operand}{i:Array TypeId}{us vs cs:List Value}{O2:List It}{R:Value->List It->Prop}[Body P f](p:ev fr d=some (.func (.func f) us.toArray cs.toArray))(r:evsO fr xs=some vs)(h:Zaj P f (us++vs++cs) wr O2 R)(m:SubO O2 O)(k:∀ v O',R v O'->Kp v O') :
  Stp P n wr fr O ⟨dst,.call ⟨.value d,xs.toArray,i⟩,ty,pos,af,g⟩ Kp:=by
 intro a w c Kn Q q
 have b:(execOp a.eval ⟨dst,.call ⟨.value d,xs.toArray,i⟩,ty,pos,af,g⟩).run P w = .ok (.enter f (us++vs++cs).toArray) w:=by
  have:=c.sim.evsO r
  simp[execOp,resolve,c.sim.ev p,Deferred.ofValue,invoke,ZbI,this]
 unfold Oper.wp
 rw[b,Oper.upon_enter]
 refine(h w c.old (c.own.sub m)).mono ?_
 rintro e w' ⟨v,O',rfl,j,l,o⟩
 exact q v _ w' j l (k v O' o)
end
theorem ZfP {P:Program}{n:Nat}{wr:World}{fr:Fr}{O:List It}{ty:TypeId}{x y:Operand}{e:Array TypeId}{k:IntKind}{i j:Int}(c:ev fr x=some (.int k i))(d:ev fr y=some (.int k j)):Pu P n wr fr O (.call ⟨.builtin .min,#[x,y],e⟩) ty (.int k (if j<i then j else i)) :=
 fun a w b _ _ _ _=>by simp[execOp,resolve,invoke,builtin,Builtin.min_,Builtin.min2,b.sim.ev c,b.sim.ev d]
section
variable {P:Program}{n:Nat}{wr:World}{fr:Fr}{O:List It}{ty:TypeId}
theorem ZBm {t t':TypeId}{x y:Operand}{b:IntKind}{i j:Int}(d:ev fr x=some (.int b i))(e:ev fr y=some (.int b j)):Pu P n wr fr O (.binOp .and t x y t') ty (.int b (b.wrap (BitVec.ofInt b.bits i &&& BitVec.ofInt b.bits j).toNat)) :=
 fun a w c _ _ _ _=>by simp[execOp,c.sim.ev d,c.sim.ev e,eqGuard,binOp,Op.intBits]
end
theorem Does.monoO {P:Program}{f:FuncId}{args:List Value}{w:World}{R R':Value->List It->Prop}(h:Does P f args w R)(i:∀ v O,R v O->∃ O',R' v O'/\∀ base w',Zaz base O w'->Zaz base O' w'):Does P f args w R' :=
 Calls.mono h fun _ _ ⟨v,O,a,b,c,d⟩=>by
  obtain⟨O',e,g⟩:=i v O d
  exact⟨v,O',a,b,g _ _ c,e⟩
section
variable {P:Program}{n:Nat}{wr:World}{fr:Fr}{O:List It}{ty:TypeId}
theorem ZBn {t t':TypeId}{x y:Operand}{i j:Int}(a:ev fr x=some (.int .u8 i))(b:ev fr y=some (.int .u8 j))(h:0<=i+j/\i+j<=255):Pu P n wr fr O (.binOp .add t x y t') ty (.int .u8 (i+j)):=by
 have:=ZlJ (P:=P) (n:=n) (wr:=wr) (O:=O) (ty:=ty) (t:=t) (t':=t') a b
 rwa[IntWalk.u8_in _ h]at this
end
section
variable {P:Program}{n:Nat}{wr:World}{fr:Fr}{O:List It}{ty:TypeId}{pos:String}{af:Array Edge}{dst:Option Tmp}{g:Option (Nat × Bool)}{Kp:Value->List It->Prop}
theorem Ze3 {t sz e a p q m c:Nat}{x:Operand}{A:Option Addr}{xs:List Value}{v:Value}{R:List It}[Ty P t sz false](f:ev fr x=some (.pointer (some (((adr A).add p).add q))))
  (b:Pick (.row (.slice A m c) e a m xs) O R) (d:xs[p+q]?=some v):Pu P n wr fr O (.load t x) ty v :=
 ZcU (by rw[<- ZbK];exact f) b d
end
end Go.Wk
namespace Go.Proofs.YtpipekfmecikmaaGreatDoor
open Go Go.RowKit Go.Wk
def fnV (f:Nat):Value := .func (.func f) #[] #[]
def ZmO:List Value:=[.bool false,.bool true,fnV 383,.bool true,.bool false,fnV 384,.bool true,.bool true,fnV 386,.bool true,.bool true,fnV 388]
def Zgo:List Value:=[fnV 390,.int .i64 3,fnV 392,.int .i64 12,fnV 393,.int .i64 3,fnV 395,.int .i64 3,fnV 397,.int .i64 14,fnV 398,.int .i64 15]
structure Glob (w:World):Prop where
 bef:Zat w ⟨3,0,none⟩ (Za2.map fun n => .int .i64 n)
 kin:Zat w ⟨2,3,none⟩ ZmO
 con:Zat w ⟨4,0,none⟩ Zgo
theorem Glob.up {w w':World}(h:Glob w)(a:Bel w.heap.size w w'):Glob w' :=
 ⟨h.bef.up a (Nat.le_refl _),h.kin.up a (Nat.le_refl _),h.con.up a (Nat.le_refl _)⟩
end Go.Proofs.YtpipekfmecikmaaGreatDoor
namespace Go.Wk
open Go Go.RowKit
theorem ZfU (a b:Int)(c:0<b):(a.tmod b<0->a.tdiv b - 1=a / b/\a.tmod b+b=a % b)/\(¬ a.tmod b<0->a.tdiv b=a / b/\a.tmod b=a % b):=by
 have d:=Int.mul_tdiv_add_tmod a b
 have e:=Int.tmod_lt_of_pos a c
 have j:=Int.lt_tmod_of_pos a c
 have key:∀ q r:Int,b*q+r=a->0<=r->r<b->q=a / b/\r=a % b:=fun q r i f g=>by
  have:=(Int.ediv_emod_unique (a:=a) (r:=r) (q:=q) c).2 ⟨by omega,f,g⟩
  exact⟨this.1.symm,this.2.symm⟩
 constructor
 ·intro h
  exact key _ _ (by rw[Int.mul_sub];omega) (by omega) (by omega)
 ·intro h
  exact key _ _ d (by omega) e
theorem ZhU (a b:Int):a.tmod b=0↔a % b=0:=by rw[<- Int.dvd_iff_tmod_eq_zero,<- Int.dvd_iff_emod_eq_zero]
theorem Zn1 (a b:Int) : -(a.natAbs:Int)<=a.tdiv b/\a.tdiv b<=a.natAbs:=by
 have c:=Int.natAbs_tdiv_le_natAbs a b
 omega
section
variable {P:Program}{n:Nat}{wr:World}{fr:Fr}{O:List It}{ty:TypeId}
theorem Zu9 {t t':TypeId}{x y:Operand}{i j:Int}(b:ev fr x=some (.int .i64 i))(c:ev fr y=some (.int .i64 j))(a:j≠0)(e:i.natAbs<=9223372036854775807):Pu P n wr fr O (.binOp .quo t x y t') ty (.int .i64 (i.tdiv j)):=by
 have:=Pu_quo (P:=P) (n:=n) (wr:=wr) (O:=O) (ty:=ty) (t:=t) (t':=t') b c a
 have d:=Zn1 i j
 rwa[Zcw (by omega)]at this
theorem Zpm {x y:Operand}{e:Array TypeId}{k:IntKind}{i j:Int}(c:ev fr x=some (.int k i))(d:ev fr y=some (.int k j)):Pu P n wr fr O (.call ⟨.builtin .max,#[x,y],e⟩) ty (.int k (if i<j then j else i)) :=
 fun a w b _ _ _ _=>by simp[execOp,resolve,invoke,builtin,Builtin.max_,Builtin.max2,b.sim.ev c,b.sim.ev d]
theorem Zbz {t len e sz:Nat}{j:Bool}{x f:Operand}{ad:Addr}{u:IntKind}{i:Int}[hA:ArrT P t len e sz j](r:ev fr x=some (.pointer (some ad)))(o:ev fr f=some (.int u i))(l:0<=i)(m:i<len) :
  Pu P n wr fr O (.indexAddr t x f) ty (.pointer (some (ad.add (i.toNat*sz)))) :=
 fun a w d _ _ _ _=>by
  have h:=hA.h
  unfold Zks at h
  split at h
  ·rename_i g y q
   split at h
   ·rename_i v k p
    simp only[Option.some.injEq,Prod.mk.injEq]at h
    obtain⟨rfl,rfl,rfl,rfl⟩:=h
    obtain⟨s,dd,b,c,_,_⟩:=Ty.parts p
    simp[execOp,d.sim.ev r,d.sim.ev o,Instr.indexAt,asIntOf,run_underlying q,Instr.sureAddr,l,m,sizeOf,ZaN b,c]
   ·cases h
  ·cases h
end
section
variable {P:Program}{n:Nat}{wr:World}{ops:Array Oper}{rest:List Oper}{K:Fr->List It->Prop}{fr:Fr}{O:List It}{ty:TypeId}{pos:String}{af:Array Edge}
theorem RL_und {c:Nat}{h:Op}{j:Nat}{b:Bool}{g:Oper}{d:Nat}(m:ops[j]?=some g)(l:g.dst=some d)(i:look fr d=some undef)(f:Nat.ble (c+1) n=true)
  (k:RL P n wr ops rest K ((c,undef)::fr) O):RL P n wr ops (⟨some c,h,ty,pos,af,some (j,b)⟩::rest) K fr O:=by
 intro a w e
 have:=k (a.put (some c) undef) w ⟨e.sim.put f undef,e.old,e.own⟩
 have o:Region.wanted (⟨some c,h,ty,pos,af,some (j,b)⟩:Oper) (yielded ops a.tmps)=false:=by
  have p:yielded ops a.tmps j=none:=by simp[yielded,m,l,e.sim.at_ d _ i,undef]
  simp only[Region.wanted,p]
  cases b <;> rfl
 simp only[wpList,o]
 exact this
end
def yN (r:Nat):Nat:=(r - r / 1460+r / 36524 - r / 146096) / 365
def okYN (r:Nat):Bool:=Nat.ble (yN r) 399&&Nat.ble (yN r*365+yN r / 4 - yN r / 100) r&&Nat.ble (r - (yN r*365+yN r / 4 - yN r / 100)) 366&&(Nat.blt r ((yN r+1)*365+(yN r+1) / 4 - (yN r+1) / 100)||Nat.beq (yN r) 399)
def Zxd:Nat->Nat->Bool
 | 0,_=>true
 | k+1,r=>okYN r&&Zxd k (r+1)
theorem Zny:∀ (k r i:Nat),Zxd k r=true->i<k->okYN (r+i)=true
 | 0,_,_,_,h=>by omega
 | k+1,r,i,h,hi=>by
  rw[Zxd,Bool.and_eq_true]at h
  cases i with
  | zero=>exact h.1
  | succ i =>
   have:=Zny k (r+1) i h.2 (by omega)
   rwa[show r+1+i=r+(i+1) by omega]at this
theorem Zuw:∀ c,c<1461->Zxd (if c=1460 then 97 else 100) (100*c)=true:=by decide +kernel
theorem Zsj (r:Nat):ZcO (r:Int)=(yN r:Nat):=by
 unfold ZcO yN
 omega
theorem Zsk (k:Nat)(a:k<146097):okYN k=true:=by
 have h:=Zny _ (100*(k / 100)) (k % 100) (Zuw _ (by omega)) (by split <;> omega)
 rwa[show 100*(k / 100)+k % 100=k by omega]at h
theorem ZpE (r:Int)(a:0<=r)(b:r<146097):0<=ZcO r/\ZcO r<=399/\0<=r - (ZcO r*365+ZcO r / 4 - ZcO r / 100)/\r - (ZcO r*365+ZcO r / 4 - ZcO r / 100)<=366:=by
 obtain⟨k,rfl⟩:=Int.eq_ofNat_of_zero_le a
 have h:=Zsk k (by omega)
 simp only[okYN,Bool.and_eq_true,Nat.ble_eq]at h
 rw[Zsj]
 omega
end Go.Wk
namespace Go.Proofs.YtpipekfmecikmaaGreatDoor
open Go Go.RowKit Go.Wk Tryz
attribute [local irreducible] W RL Does Zaq Zai retQ Calls Pu Stp RD Qy Ay Zaj
theorem ZgX (y:Int)(w:World):Does prog 164 [.int .i64 y] w (fun v O=>v = .bool (inY y)/\O=[]):=by
 refine Zaa func164 rfl rfl rfl rfl ?_
 repeat' (first|refine walk ?_|(refine Zas rfl rfl rfl (fun a=>?_) (fun a=>?_)))
 all_goals (refine ret_1 _ [] (.tmp rfl) .nil ⟨?_,rfl⟩;first|(simp_all [inY];done)|(simp_all [inY];omega))
theorem Zq0 {G:Prop}(h:G:=by(apply Pu_rem;rfl;rfl;decide)):G:=h
theorem ZtD (y:Int)(w:World):Does prog 219 [.int .i64 y] w (fun v O=>v = .bool (ZbQ y)/\O=[]):=by
 rw[show ZbQ y=(decide (y.tmod 4=0)&&(!decide (y.tmod 100=0)||decide (y.tmod 400=0))) by simp only[ZbQ,ZhU]]
 refine Zaa func219 rfl rfl rfl rfl ?_
 repeat' (first|(apply RL_pu;rfl;exact Zq0)|refine walk1 ?_|refine und ?_|(refine Zas rfl rfl rfl (fun a=>?_) (fun a=>?_)))
 all_goals exact clo1
theorem ZbT (y m:Int)(w:World):Does prog 165 [.int .i64 y,.int .i64 m] w (fun v O=>v = .int .i64 (lenM y m)/\O=[]):=by
 refine Zaa func165 rfl rfl rfl rfl ?_
 repeat' (first|(refine js ?_;(refine Zab (fun w' _=>ZtD y w') ?_))|refine walk ?_|(refine Zas rfl rfl rfl (fun a=>?_) (fun a=>?_))|(refine Zaf rfl (fun a=>?_) (fun a=>?_)))
 all_goals (refine ret_1 _ [] (.tmp rfl) .nil ⟨?_,rfl⟩;(simp_all [lenM];done))
theorem Zxz {G:Prop}(h:G:=by(first|(apply Zu9;rfl;rfl;omega;omega)|(apply Pu_rem;rfl;rfl;omega))):G:=h
theorem ZqA {G:Prop}(h:G:=by first|(apply Qy_y;rfl;exact Zxz)|exact QyA):G:=h
theorem Zxs {G:Prop}(h:G:=by repeat (first|exact QF.nil|(apply QF.mk;rfl;rfl;decide +kernel;exact ZqA))):G:=h
theorem ZcV (a b:Int)(e:0<b)(r : -4611686018427387904<=a/\a<=4611686018427387904)(s:b<=4611686018427387904)(w:World):Does prog 118 [.int .i64 a,.int .i64 b] w (fun v O=>v = .tuple #[.int .i64 (a / b),.int .i64 (a % b)]/\O=[]):=by
 have m:=Int.tmod_lt_of_pos a e
 have p:=Int.lt_tmod_of_pos a e
 have q:=Zn1 a b
 obtain⟨g,j⟩:=ZfU a b e
 refine Zaa func118 rfl rfl rfl rfl ?_
 repeat' (first|(apply RD_Q;rfl;rfl;decide +kernel;rfl;rfl;exact ZqA)|refine walk1 ?_|(refine RD_Lw ?_;intro F;(apply Zan;exact PuA);refine⟨_,EndsA,Zxs,?_⟩)|(refine Zaf rfl (fun f=>?_) (fun f=>?_)))
 ·obtain⟨c,d⟩:=g (of_decide_eq_true f)
  exact ret_2 _ _ [] (.tmp rfl) (.tmp rfl) .nil ⟨by rw[<- c,<- d],rfl⟩
 ·obtain⟨c,d⟩:=j (of_decide_eq_false f)
  exact ret_2 _ _ [] (.tmp rfl) (.tmp rfl) .nil ⟨by rw[<- c,<- d],rfl⟩
theorem Zjv (a:Int)(g : -4611686018427387904<=a/\a<=4611686018427387904)(w:World):Does prog 389 [.int .i64 a] w (fun v O=>v = .int .i64 (Zep a)/\O=[]):=by
 have d:=Int.tmod_lt_of_pos a (b:=7) (by decide)
 have f:=Int.lt_tmod_of_pos a (b:=7) (by decide)
 refine Zaa func389 rfl rfl rfl rfl ?_
 repeat (first|(apply RL_pu;rfl;exact Zq0)|(refine js ?_;(refine Zab (fun w' _=>ZcV (a.tmod 7+4) 7 (by decide) (by omega) (by decide) w') ?_))|refine walk1 ?_)
 refine ret_1 _ [] (.tmp rfl) .nil ⟨?_,rfl⟩
 have h:=ZfU a 7 (by decide)
 have e:(a.tmod 7+4) % 7=Zep a:=by
  unfold Zep
  by_cases c:a.tmod 7<0
  ·have:=(h.1 c).2
   omega
  ·have:=(h.2 c).2
   omega
 rw[e]
theorem Zlw {w:World}(b:Glob w)(k:Nat)(a:k<12):(Za2.map fun n=>Value.int .i64 n)[k*1]?=some (.int .i64 (Za2.getD k 0)):=by
 rw[Nat.mul_one,List.getElem?_map,List.getD_eq_getElem?_getD,List.getElem?_eq_getElem (show k<Za2.length from a)]
 rfl
theorem ZdQ {y m d:Int}(h:Zbh y m d=true):(-2000000000<=y/\y<=2000000000)/\(1<=m/\m<=12)/\1<=d/\d<=31:=by
 simp only[Zbh,inY,Bool.and_eq_true,decide_eq_true_eq]at h
 obtain⟨⟨⟨b,c⟩,e⟩,a⟩:=h
 have f:=ZeO y m
 refine⟨⟨b,c⟩,?_,e,by omega⟩
 unfold lenM at a
 split at a <;> omega
theorem ZgB {G:Prop}(h:G:=by(first|(apply Zeo;rfl;rfl;(constructor <;> omega))|(apply Pu_quo64;rfl;rfl;omega;omega;omega)|(apply Zbz;rfl;rfl;omega;omega)|(apply Pu_loadO1';rfl;exact hG.bef;exact hb))):G:=h
theorem Zqz {G:Prop}(h:G:=by first|(apply Qy_y;rfl;exact ZgB)|exact QyA):G:=h
theorem Zxr {G:Prop}(h:G:=by repeat (first|exact QF.nil|(apply QF.mk;rfl;rfl;decide +kernel;exact Zqz))):G:=h
theorem Zgl (y m d:Int)(w:World)(hG:Glob w):Does prog 107 [.int .i64 y,.int .i64 m,.int .i64 d] w (fun v O=>v = .tuple #[.int .i64 (if Zbh y m d then ZaW y m d else 0),.int .i64 (if Zbh y m d then 0 else 3)]/\O=[]):=by
 refine Zaa func107 rfl rfl rfl rfl ?_
 by_cases a:Zbh y m d=true
 ·obtain⟨g,i,j⟩:=ZdQ a
  have c:=a
  simp only[Zbh,Bool.and_eq_true,decide_eq_true_eq]at c
  obtain⟨⟨r,_⟩,p⟩:=c
  rw[if_pos a,if_pos a]
  by_cases e:m<3
  ·have hb:=Zlw hG (m+12 - 3).toNat (by omega)
   have f:=Zb3 (m+12 - 3).toNat
   rw[ZaW,if_pos e,Zb2]
   generalize Za2.getD (m+12 - 3).toNat 0=q at *
   repeat' (first|(apply RL_pu;rfl;exact ZgB)|(refine js ?_;(first|(refine Zab (fun w' _=>ZgX y w') ?_)|(refine Zab (fun w' _=>ZbT y m w') ?_)|(refine Zab (fun w' _=>ZcV (y - 1) 400 (by decide) (by omega) (by decide) w') ?_)))|refine walk1 ?_|(refine Zas rfl rfl rfl (fun b=>?_) (fun b=>?_))|(refine Zaf rfl (fun b=>?_) (fun b=>?_)))
   all_goals exact clo2
  ·have hb:=Zlw hG (m - 3).toNat (by omega)
   have f:=Zb3 (m - 3).toNat
   rw[ZaW,if_neg e,Zb2]
   generalize Za2.getD (m - 3).toNat 0=q at *
   repeat' (first|(apply RL_pu;rfl;exact ZgB)|(refine js ?_;(first|(refine Zab (fun w' _=>ZgX y w') ?_)|(refine Zab (fun w' _=>ZbT y m w') ?_)|(refine Zab (fun w' _=>ZcV y 400 (by decide) (by omega) (by decide) w') ?_)))|refine walk1 ?_|(refine Zas rfl rfl rfl (fun b=>?_) (fun b=>?_))|(refine Zaf rfl (fun b=>?_) (fun b=>?_)))
   all_goals exact clo2
 ·rw[if_neg a,if_neg a]
  repeat' (first|(refine js ?_;(first|(refine Zab (fun w' _=>ZgX y w') ?_)|(refine Zab (fun w' _=>ZbT y m w') ?_)))|refine walk ?_|(refine Zas rfl rfl rfl (fun b=>?_) (fun b=>?_))|(refine Zaf rfl (fun b=>?_) (fun b=>?_)))
  all_goals first|(refine ret_2 _ _ [] (.tmp rfl) (.tmp rfl) .nil ⟨?_,rfl⟩;rfl)|(exfalso;simp_all [Zbh];done)
theorem Zsi (n:Int):n / 146097+(n % 146097+719468) / 146097=(n+719468) / 146097/\(n % 146097+719468) % 146097=(n+719468) % 146097:=by omega
theorem Zto (r:Int):∀ m,monN r m<=m
 | 0=>Nat.le_refl _
 | m+1=>by
  rw[monN]
  split
  ·exact Nat.le_refl _
  ·have:=Zto r m;omega
theorem ZlM {G:Prop}(h:G:=by(first|(apply Zeo;rfl;rfl;(constructor <;> omega))|(apply Pu_quo64;rfl;rfl;omega;omega;omega))):G:=h
theorem ZkL {G G':Prop}(k:G')(h:Hold G'->G:=by intro k9;(first|(apply RL_pu;rfl;exact ZlM)|(apply RD_Q;rfl;rfl;decide +kernel;rfl;rfl;exact QyCivil3)|refine walk1 ?_|(refine jn ?_;(try intro F);(apply Zan;first|exact ZlM|exact PuA);first|refine⟨_,EndsA,QFCivil3,?_⟩|refine fin ?_));exact k9.out):G:=h ⟨k⟩
theorem ZqZ {G:Prop}(h:G:=by(first|(apply Zbz;rfl;rfl;omega;omega)|(apply Pu_loadO1';rfl;exact hG.bef;exact hb))):G:=h
theorem Zub (n:Int)(Q : -1000000000000000000<=n/\n<=1000000000000000000)(w:World)(hG:Glob w):Does prog 119 [.int .i64 n] w (fun v O=>(∃ m d,v = .tuple #[.int .i64 (ZcA n),.int .i64 m,.int .i64 d])/\O=[]):=by
 obtain⟨u,x⟩:=Zsi n
 have D:0<=(n+719468) % 146097/\(n+719468) % 146097<146097:=by omega
 obtain⟨S,T,U,W⟩:=ZpE _ D.1 D.2
 have s:ZcA n=if 10<=monN ((n+719468) % 146097 - (ZcO ((n+719468) % 146097)*365+ZcO ((n+719468) % 146097) / 4 - ZcO ((n+719468) % 146097) / 100)) 11 then (n+719468) / 146097*400+ZcO ((n+719468) % 146097)+1 else (n+719468) / 146097*400+ZcO ((n+719468) % 146097):=rfl
 refine Zaa func119 rfl rfl rfl rfl ?_
 repeat (first|refine walk1 ?_|(refine jg ?_;(try intro F);(refine Zab (fun w' _=>ZcV n 146097 (by decide) (by omega) (by decide) w') ?_);refine fin ?_))
 refine Zaf rfl (fun _=>?_) (fun h=>?_)
 rotate_left
 ·have:=of_decide_eq_false h
  omega
 repeat (first|refine walk ?_|(refine jg ?_;(try intro F);(refine Zab (fun w' _=>ZcV (n % 146097+719468) 146097 (by decide) (by omega) (by decide) w') ?_);refine fin ?_))
 rw[u,x]
 clear u x
 generalize hcc:(n+719468) / 146097=c at *
 have L : -10000000000000<=c/\c<=10000000000000:=by omega
 generalize (n+719468) % 146097=r at *
 rw[show(r - r / 1460+r / 36524 - r / 146096) / 365=ZcO r from rfl]
 generalize ZcO r=y at *
 clear Q hcc
 generalize hq:r - (y*365+y / 4 - y / 100)=q at *
 repeat (first|(apply RL_pu;rfl;exact ZlM)|refine walkB1 ?_)
 rw[hq]
 refine Zb4 (fun fr' O'=>Sub [(10,.int .i64 (monN q 11)),(5,.int .i64 c),(9,.int .i64 y),(6,.int .i64 q)] fr'/\SubO [] O') ?_ ?_
 ·apply W_block
  refine Zah [(5,.int .i64 c),(9,.int .i64 y),(6,.int .i64 q)] [] (fun k:Nat=>[(10,.int .i64 k)]) (fun _=>[]) (fun k=>k<=11/\monN q k=monN q 11) (fun k=>k) 11 SFA .nil ⟨Nat.le_refl _,rfl⟩ ?_
  rintro k ⟨R,I⟩
  have hb:=Zlw hG k (by omega)
  have f:∀ j,k=j+1->monN q k=if Za2.getD k 0<=q then k else monN q j:=fun j h=>by subst h;rw[monN]
  have J:k=0->Za2.getD k 0=0:=fun h=>by subst h;rfl
  generalize Za2.getD k 0=z at *
  repeat (first|(apply RL_pu;rfl;exact ZqZ)|(apply RD_Q;rfl;rfl;decide +kernel;rfl;rfl;exact QyCivil4)|refine walk1 ?_|(refine jn ?_;(try intro F);(apply Zan;first|exact ZqZ|exact PuA);first|refine⟨_,EndsA,QFCivil4,?_⟩|refine fin ?_))
  refine Zaf rfl (fun h=>?_) (fun h=>?_)
  ·have t:=of_decide_eq_true h
   have M:k≠0:=fun e=>by have:=J e;omega
   obtain⟨j,rfl⟩:∃ j,k=j+1:=⟨k - 1,by omega⟩
   have g:=f j rfl
   rw[if_neg (by omega)]at g
   repeat refine ZkL ?_
   rw[show((j+1:Nat):Int) - 1=(j:Int) by omega]
   exact⟨j,OA,⟨OA,by rw[<- g];exact I⟩,SFA,.nil⟩
  ·have t:=of_decide_eq_false h
   have g:monN q k=k:=by
    cases k with
    | zero=>rfl
    | succ j =>
     have g:=f j rfl
     rw[if_pos (by omega)]at g
     exact g
   repeat (refine walk ?_)
   rw[<- I,g]
   exact⟨rfl,SFA,.nil⟩
 rintro fr' O' ⟨H,E⟩
 apply thenQ_n
 refine ZcG H E ?_
 clear H E fr' O'
 have N:=Zto q 11
 generalize monN q 11=k at *
 have hb:=Zlw hG k (by omega)
 have K:=Zb3 k
 generalize Za2.getD k 0=z at *
 repeat (first|(apply RL_pu;rfl;exact ZgB)|(apply RD_Q;rfl;rfl;decide +kernel;rfl;rfl;exact Zqz)|refine walk1 ?_|(refine jn ?_;(try intro F);(apply Zan;first|exact ZgB|exact PuA);first|refine⟨_,EndsA,Zxr,?_⟩|refine fin ?_))
 refine Zaf rfl (fun h=>?_) (fun h=>?_)
 ·have t:=of_decide_eq_true h
  rw[if_pos (by omega)]at s
  repeat refine ZkL ?_
  exact Zcj _ _ _ [] (.tmp rfl) (.tmp rfl) (.tmp rfl) .nil ⟨⟨_,_,by rw[s]⟩,rfl⟩
 ·have t:=of_decide_eq_false h
  rw[if_neg (by omega)]at s
  repeat refine ZkL ?_
  exact Zcj _ _ _ [] (.tmp rfl) (.tmp rfl) (.tmp rfl) .nil ⟨⟨_,_,by rw[s]⟩,rfl⟩
theorem ZlS (t:Int)(c : -4611686018427387904<=t/\t<=4611686018427387904)(w:World)(a:Glob w):Does prog 78 [.int .i64 t] w (fun v O=>v = .int .i64 (Zay t)/\O=[]):=by
 refine Zaa func78 rfl rfl rfl rfl ?_
 repeat (first|(apply RL_pu;rfl;(first|(apply ZfP;rfl;rfl)|(apply Zpm;rfl;rfl)))|(refine js ?_;(first|(refine Zab (fun w' _=>ZcV t 86400 (by decide) (by omega) (by decide) w') ?_)|(apply Zad (h:=fun w' b _=>Zub (t / 86400) (by omega) w' (a.up b));rfl;rintro v O' ⟨⟨m,d,rfl⟩,rfl⟩)))|refine walk1 ?_)
 refine ret_1 _ [] (.tmp rfl) .nil ⟨?_,rfl⟩
 unfold Zay
 generalize ZcA (t / 86400)=y
 congr 1
 split <;> split <;> omega
