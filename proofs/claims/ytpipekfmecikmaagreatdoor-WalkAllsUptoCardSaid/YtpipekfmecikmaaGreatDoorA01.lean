/- Parts of the proof. -/
import Derived.Test.YtpipekfmecikmaaGreatDoorA00
set_option maxHeartbeats 0
set_option linter.all false
namespace Go.Wk
open Go Go.RowKit
def evsO (fr:Fr):List Operand->Option (List Value)
 | []=>some []
 | x::xs=>match ev fr x,evsO fr xs with|some v,some r=>some (v::r)|_,_=>none
def evpO (fr:Fr):List (Nat × Operand)->Option (List (Nat × Value))
 | []=>some []
 | (i,x)::xs=>match ev fr x,evpO fr xs with|some v,some r=>some ((i,v)::r)|_,_=>none
theorem Sim.evsO {n:Nat}{fr:Fr}{a:Act}(h:Sim n fr a):∀ {xs:List Operand} {vs:List Value},evsO fr xs=some vs->xs.map a.eval=vs
 | [],vs,hx=>by simpa[Wk.evsO] using hx
 | x::xs,vs,hx=>by
  simp only[Wk.evsO]at hx
  split at hx
  ·rename_i v r c b
   simp only[Option.some.injEq]at hx
   subst hx
   simp[h.ev c,h.evsO b]
  ·cases hx
theorem Sim.evpO {n:Nat}{fr:Fr}{a:Act}(h:Sim n fr a):∀ {xs:List (Nat × Operand)} {vs:List (Nat × Value)},evpO fr xs=some vs->xs.map (fun(p:Nat × Operand)=>(p.1,a.eval p.2))=vs
 | [],vs,hx=>by simpa[Wk.evpO] using hx
 | (i,x)::xs,vs,hx=>by
  simp only[Wk.evpO]at hx
  split at hx
  ·rename_i v r c b
   simp only[Option.some.injEq]at hx
   subst hx
   simp[h.ev c,h.evpO b]
  ·cases hx
def ZxU (P:Program)(t:TypeId):Option (List (Nat × Nat)) :=
 match P.underlying t with
 | some (.struct fs)=>fs.toList.mapM fun f=>match P.info? f.type with|some i=>some (f.offset,i.size)|none=>none
 | _=>none
class LayT (P:Program) (t:TypeId) (ls:outParam (List (Nat × Nat))):Prop where
 h:ZxU P t=some ls:=by kernel_rfl
def bld (ls:List (Nat × Nat)):List Value->List (Nat × Value)->Option (List Value)
 | cs,[]=>some cs
 | cs,(i,v)::r =>
  match ls[i]? with
  | none=>none
  | some (off,sz)=>bif Nat.beq v.cells.toList.length sz&&Nat.ble (off+sz) cs.length then bld ls (lay cs off v.cells.toList) r else none
theorem ZgS (a:Nat):∀ (vs:List Value) (cs:List Value) (i:Nat),
  (vs.zipIdx i).foldl (fun(cs:Array Value) (p:Value × Nat)=>cs.setIfInBounds (a+p.2) p.1) cs.toArray=(lay cs (a+i) vs).toArray
 | [],cs,i=>by simp[lay]
 | v::r,cs,i=>by
  simp only[List.zipIdx_cons,List.foldl_cons,lay,List.setIfInBounds_toArray]
  rw[show a+i+1=a+(i+1) from rfl]
  exact ZgS a r (cs.set (a+i) v) (i+1)
theorem Zqc (ls:List (Nat × Nat))(e:Nat->Option (Nat × Nat))(c:∀ i,e i=ls[i]?):∀ (f:List (Nat × Value)) (cs a:List Value),bld ls cs f=some a->Instr.fill e cs.toArray f=some a.toArray
 | [],cs,a,h=>by simp only[bld,Option.some.injEq]at h;subst h;rfl
 | (i,v)::r,cs,a,h=>by
  simp only[bld]at h
  split at h
  ·cases h
  ·rename_i b sz j
   cases hb:(Nat.beq v.cells.toList.length sz&&Nat.ble (b+sz) cs.length) with
   | false=>rw[hb]at h;cases h
   | true =>
    rw[hb]at h
    simp only[Bool.and_eq_true]at hb
    have g:=Nat.eq_of_beq_eq_true hb.1
    have m:=Nat.le_of_ble_eq_true hb.2
    simp only[Instr.fill,c,j]
    have d:v.cells.size=sz:=by simpa using g
    rw[if_neg (by simp[d];omega)]
    have:=ZgS b v.cells.toList cs 0
    have k:(Array.zipIdx v.cells).foldl (fun(cs:Array Value) (p:Value × Nat)=>cs.setIfInBounds (b+p.2) p.1) cs.toArray=(lay cs b v.cells.toList).toArray:=by
     rw[<- Array.foldl_toList,Array.toList_zipIdx]
     simpa using this
    have l:=Zqc ls e c r (lay cs b v.cells.toList) a (by simpa using h)
    rw[<- l,<- k]
theorem Zin {P:Program}{w:World}:∀ (a:List Field) (ls:List (Nat × Nat)),(a.mapM fun f=>match P.info? f.type with|some i=>some (f.offset,i.size)|none=>none)=some ls ->
  (a.mapM (m:=Sem) fun f=>do pure (f.offset,<- sizeOf f.type)).run P w = .ok ls w
 | [],ls,h=>by simp at h;subst h;simp
 | f::a,ls,h=>by
  simp only[List.mapM_cons]at h ⊢
  split at h
  ·rename_i i c
   simp only[Option.pure_def,Option.bind_eq_bind,Option.bind_some,Option.bind_eq_some_iff,Option.some.injEq]at h
   obtain⟨r,d,rfl⟩:=h
   have b:=Zin (P:=P) (w:=w) a r d
   simp only[Sem.run_bind,sizeOf,ZaN c,Result.andThen_ok,Sem.run_pure,b]at b ⊢
  ·simp at h
section
variable {P:Program}{n:Nat}{wr:World}{ops:Array Oper}{rest:List Oper}{K:Fr->List It->Prop}{fr:Fr}{O:List It}{ty:TypeId}{pos:String}{af:Array Edge}{d:Nat}
theorem Zxw {t:TypeId}{e:List (Nat × Operand)}{vs:List (Nat × Value)}{z cs:List Value}{ls:List (Nat × Nat)}[hz:ZeroT P t z][hl:LayT P t ls](q:evpO fr e=some vs)
  (j:bld ls z vs=some cs):Pu P n wr fr O (.build t e.toArray) ty (.agg cs.toArray) :=
 fun a w o _ _ _ _=>by
  have h:=hz.h
  unfold ZfA at h
  split at h
  ·rename_i i l
   split at h
   ·rename_i g d
    simp only[Option.some.injEq]at h
    subst h
    have h:=hl.h
    unfold ZxU at h
    split at h
    ·rename_i f p
     have m:=Zin (P:=P) (w:=w) f.toList ls h
     have k:=Zqc ls (fun i=>ls[i]?) (fun _=>rfl) vs g.cells.toList cs j
     have c:(Array.map (fun(x:Nat × Operand)=>(x.1,a.eval x.2)) e.toArray).toList=vs:=by simpa using o.sim.evpO q
     simp only[execOp,Instr.build,Sem.run_bind,zeroValue,ZaN l,Result.andThen_ok,d,Sem.run_pure,run_underlying p]
     rw[<- Array.toArray_toList (xs:=f),List.mapM_toArray]
     simp only[Sem.run_map,m,Result.andThen_ok]
     have b:Instr.fill (fun i=>ls[i]?) g.cells vs=some cs.toArray:=by simpa using k
     rw[c]
     simp[b]
    ·cases h
   ·cases h
  ·cases h
theorem Pu_field1 {s f b sz:Nat}{x:Operand}{cs:List Value}{v:Value}[hF:FieldAt P s f b sz false](o:ev fr x=some (.agg cs.toArray))(m:cs[b]?=some v):Pu P n wr fr O (.field s x f) ty (v) :=
 fun a w j _ _ _ _=>by
  have h:=hF.h
  unfold Zlh at h
  split at h
  ·rename_i p l
   split at h
   ·rename_i c g
    split at h
    ·rename_i d e k
     split at h
     ·cases h
     ·rename_i i
      simp only[Option.some.injEq,Prod.mk.injEq]at h
      obtain⟨rfl,rfl,rfl⟩:=h
      have:Ty P c.type d false:=⟨k⟩
      simp only[execOp,j.sim.ev o,Instr.field,Sem.run_bind,run_underlying l,Result.andThen_ok,g,asAgg,Sem.run_pure,part,ZeC,Bool.false_eq_true,if_false]
      simp[m]
    ·cases h
   ·cases h
  ·cases h
def adr (A:Option Addr):Addr:=A.getD ⟨0,0,none⟩
theorem Pu_indexAddr {t e sz b:Nat}{x f:Operand}{A:Option Addr}{len cap:Nat}{q:IntKind}{i:Int}[hE:ElemT P t e sz b](o:ev fr x=some (.slice A len cap))(l:ev fr f=some (.int q i))
  (g:0<=i) (j:i<len) (k:A≠none):Pu P n wr fr O (.indexAddr t x f) ty (.pointer (some ((adr A).add (i.toNat*sz)))) :=
 fun a w d _ _ _ _=>by
  have h:=hE.h
  unfold ZiQ at h
  split at h
  ·rename_i r m
   split at h
   ·rename_i p c
    simp only[Option.some.injEq,Prod.mk.injEq]at h
    obtain⟨rfl,rfl,rfl⟩:=h
    obtain⟨ad,rfl⟩:=Option.ne_none_iff_exists'.1 k
    simp only[execOp,d.sim.ev o,d.sim.ev l,Instr.indexAt,asIntOf,Sem.run_bind,Sem.run_pure,run_underlying m,Result.andThen_ok,g,j,and_self,if_true,sizeOf,ZaN c,adr,Option.getD_some]
   ·cases h
  ·cases h
theorem Pu_extract {x:Operand}{i:Nat}{vs:List Value}{v:Value}(d:ev fr x=some (.tuple vs.toArray))(c:vs[i]?=some v):Pu P n wr fr O (.extract x i) ty (v) :=
 fun a w b _ _ _ _=>by simp[execOp,b.sim.ev d,Instr.extract,c]
theorem Pu_makeFunc {fn:Fn}{xs c:List Operand}{us vs:List Value}(d:evsO fr xs=some us)(e:evsO fr c=some vs):Pu P n wr fr O (.makeFunc fn xs.toArray c.toArray) ty (.func fn us.toArray vs.toArray) :=
 fun a w b _ _ _ _=>by simp[execOp,b.sim.evsO d,b.sim.evsO e,Instr.makeFunc]
theorem Pu_lss {t t':TypeId}{x y:Operand}{c:IntKind}{i j:Int}(d:ev fr x=some (.int c i))(e:ev fr y=some (.int c j)):Pu P n wr fr O (.binOp .lss t x y t') ty (.bool (decide (i<j))) :=
 fun a w b _ _ _ _=>by simp[execOp,b.sim.ev d,b.sim.ev e,eqGuard,binOp,Op.intCmp]
theorem Pu_leq {t t':TypeId}{x y:Operand}{c:IntKind}{i j:Int}(d:ev fr x=some (.int c i))(e:ev fr y=some (.int c j)):Pu P n wr fr O (.binOp .leq t x y t') ty (.bool (decide (i<=j))) :=
 fun a w b _ _ _ _=>by simp[execOp,b.sim.ev d,b.sim.ev e,eqGuard,binOp,Op.intCmp]
theorem Pu_gtr {t t':TypeId}{x y:Operand}{c:IntKind}{i j:Int}(d:ev fr x=some (.int c i))(e:ev fr y=some (.int c j)):Pu P n wr fr O (.binOp .gtr t x y t') ty (.bool (decide (j<i))) :=
 fun a w b _ _ _ _=>by simp[execOp,b.sim.ev d,b.sim.ev e,eqGuard,binOp,Op.intCmp]
theorem Pu_geq {t t':TypeId}{x y:Operand}{c:IntKind}{i j:Int}(d:ev fr x=some (.int c i))(e:ev fr y=some (.int c j)):Pu P n wr fr O (.binOp .geq t x y t') ty (.bool (decide (j<=i))) :=
 fun a w b _ _ _ _=>by simp[execOp,b.sim.ev d,b.sim.ev e,eqGuard,binOp,Op.intCmp]
theorem Pu_eql {t t':TypeId}{x y:Operand}{c:IntKind}{i j:Int}(d:ev fr x=some (.int c i))(e:ev fr y=some (.int c j)):Pu P n wr fr O (.binOp .eql t x y t') ty (.bool (decide (i=j))) :=
 fun a w b _ _ _ _=>by simp[execOp,b.sim.ev d,b.sim.ev e,eqGuard,binOp,Op.intCmp];rfl
theorem Pu_neq {t t':TypeId}{x y:Operand}{c:IntKind}{i j:Int}(d:ev fr x=some (.int c i))(e:ev fr y=some (.int c j)):Pu P n wr fr O (.binOp .neq t x y t') ty (.bool (!decide (i=j))) :=
 fun a w b _ _ _ _=>by simp[execOp,b.sim.ev d,b.sim.ev e,eqGuard,binOp,Op.intCmp];rfl
theorem Zcw {i:Int}(h : -9223372036854775808<=i/\i<=9223372036854775807):IntKind.i64.wrap i=i:=IntWalk.i64_in i h
theorem ZlJ {t t':TypeId}{x y:Operand}{b:IntKind}{i j:Int}(d:ev fr x=some (.int b i))(e:ev fr y=some (.int b j)):Pu P n wr fr O (.binOp .add t x y t') ty (.int b (b.wrap (i+j))) :=
 fun a w c _ _ _ _=>by simp[execOp,c.sim.ev d,c.sim.ev e,eqGuard,binOp,Op.intArith]
theorem Zpl {t t':TypeId}{x y:Operand}{b:IntKind}{i j:Int}(d:ev fr x=some (.int b i))(e:ev fr y=some (.int b j)):Pu P n wr fr O (.binOp .sub t x y t') ty (.int b (b.wrap (i - j))) :=
 fun a w c _ _ _ _=>by simp[execOp,c.sim.ev d,c.sim.ev e,eqGuard,binOp,Op.intArith]
theorem ZBj {t t':TypeId}{x y:Operand}{b:IntKind}{i j:Int}(d:ev fr x=some (.int b i))(e:ev fr y=some (.int b j)):Pu P n wr fr O (.binOp .mul t x y t') ty (.int b (b.wrap (i*j))) :=
 fun a w c _ _ _ _=>by simp[execOp,c.sim.ev d,c.sim.ev e,eqGuard,binOp,Op.intArith]
theorem Pu_add {t t':TypeId}{x y:Operand}{i j:Int}(a:ev fr x=some (.int .i64 i))(b:ev fr y=some (.int .i64 j))(h : -9223372036854775808<=i+j/\i+j<=9223372036854775807):Pu P n wr fr O (.binOp .add t x y t') ty (.int .i64 (i+j)) :=
 by have:=ZlJ (P:=P) (n:=n) (wr:=wr) (O:=O) (ty:=ty) (t:=t) (t':=t') a b;rwa[Zcw h]at this
theorem Pu_sub' {t t':TypeId}{x y:Operand}{i j:Int}(a:ev fr x=some (.int .i64 i))(b:ev fr y=some (.int .i64 j))(h : -9223372036854775808<=i - j/\i - j<=9223372036854775807):Pu P n wr fr O (.binOp .sub t x y t') ty (.int .i64 (i - j)) :=
 by have:=Zpl (P:=P) (n:=n) (wr:=wr) (O:=O) (ty:=ty) (t:=t) (t':=t') a b;rwa[Zcw h]at this
theorem Zeo {t t':TypeId}{x y:Operand}{i j:Int}(a:ev fr x=some (.int .i64 i))(b:ev fr y=some (.int .i64 j))(h : -9223372036854775808<=i*j/\i*j<=9223372036854775807):Pu P n wr fr O (.binOp .mul t x y t') ty (.int .i64 (i*j)) :=
 by have:=ZBj (P:=P) (n:=n) (wr:=wr) (O:=O) (ty:=ty) (t:=t) (t':=t') a b;rwa[Zcw h]at this
theorem Pu_quo {t t':TypeId}{x y:Operand}{b:IntKind}{i j:Int}(e:ev fr x=some (.int b i))(f:ev fr y=some (.int b j))(d:j≠0):Pu P n wr fr O (.binOp .quo t x y t') ty (.int b (b.wrap (i.tdiv j))) :=
 fun a w c _ _ _ _=>by simp[execOp,c.sim.ev e,c.sim.ev f,eqGuard,binOp,Op.intDiv,d]
theorem Pu_rem {t t':TypeId}{x y:Operand}{b:IntKind}{i j:Int}(e:ev fr x=some (.int b i))(f:ev fr y=some (.int b j))(d:j≠0):Pu P n wr fr O (.binOp .rem t x y t') ty (.int b (i.tmod j)) :=
 fun a w c _ _ _ _=>by simp[execOp,c.sim.ev e,c.sim.ev f,eqGuard,binOp,Op.intDiv,d]
theorem toList_eq (a b:ByteArray):(a.toList==b.toList)=decide (a=b):=by
 rw[ByteArray.toList_eq,ByteArray.toList_eq]
 obtain⟨⟨x⟩⟩:=a
 obtain⟨⟨y⟩⟩:=b
 simp only[ByteArray.mk.injEq,Array.mk.injEq]
 by_cases h:x=y <;> simp[h]
theorem Pu_eqlS {t t':TypeId}{x y:Operand}{i j:ByteArray}(c:ev fr x=some (.string i))(d:ev fr y=some (.string j)):Pu P n wr fr O (.binOp .eql t x y t') ty (.bool (decide (i=j))) :=
 fun a w b _ _ _ _=>by simp[execOp,b.sim.ev c,b.sim.ev d,eqGuard,binOp,Op.stringOp,toList_eq]
theorem Pu_neqS {t t':TypeId}{x y:Operand}{i j:ByteArray}(c:ev fr x=some (.string i))(d:ev fr y=some (.string j)):Pu P n wr fr O (.binOp .neq t x y t') ty (.bool (!decide (i=j))) :=
 fun a w b _ _ _ _=>by simp[execOp,b.sim.ev c,b.sim.ev d,eqGuard,binOp,Op.stringOp,toList_eq]
theorem Zg9 {t t':TypeId}{x y:Operand}{i j:ByteArray}(c:ev fr x=some (.string i))(d:ev fr y=some (.string j))(h:i.size+j.size<=9223372036854775807):Pu P n wr fr O (.binOp .add t x y t') ty (.string (i++j)) :=
 fun a w b _ _ _ _=>by
  have:¬ (((i.size+j.size:Nat):Int)>IntKind.i64.max):=by simp only[IntKind.max,IntKind.signed,IntKind.bits];omega
  simp only[execOp,b.sim.ev c,b.sim.ev d,eqGuard,binOp,Op.stringOp,if_neg this]
  simp
theorem Pu_not {t:TypeId}{x:Operand}{b:Bool}(d:ev fr x=some (.bool b)):Pu P n wr fr O (.unOp .not t x) ty (.bool (!b)) :=
 fun a w c _ _ _ _=>by simp[execOp,c.sim.ev d,Op.unary]
theorem Pu_negW {t:TypeId}{x:Operand}{b:IntKind}{i:Int}(d:ev fr x=some (.int b i)):Pu P n wr fr O (.unOp .neg t x) ty (.int b (b.wrap (0 - i))) :=
 fun a w c _ _ _ _=>by simp[execOp,c.sim.ev d,Op.unary,Op.intArith]
theorem Pu_convI {t t':TypeId}{x:Operand}{f b:IntKind}{i:Int}{sz:Nat}{c:Bool}[hS:Ty P t sz c][hT:IntT P t' b](e:ev fr x=some (.int f i)):Pu P n wr fr O (.convert t t' x) ty (.int b (b.wrap i)) :=
 fun a w h _ _ _ _=>by
  obtain⟨_,g,_,_,d,_⟩:=Ty.parts hS.h
  simp[execOp,h.sim.ev e,convert,run_underlying d,run_underlying hT.h,Conv.intToInt]
theorem Pu_lenL {t e sz b:Nat}{x:Operand}{A:Option Addr}{len cap:Nat}[hE:ElemT P t e sz b](f:ev fr x=some (.slice A len cap)):Pu P n wr fr O (.call ⟨.builtin .len,#[x],#[t]⟩) ty (.int .i64 len) :=
 fun a w c _ _ _ _=>by
  have h:=hE.h
  unfold ZiQ at h
  split at h
  ·rename_i g d
   simp[execOp,resolve,invoke,builtin,Builtin.len_,c.sim.ev f,run_underlying d,goInt]
  ·cases h
theorem Pu_lenS {t:TypeId}{x:Operand}{s:ByteArray}[hT:StringT P t](c:ev fr x=some (.string s)):Pu P n wr fr O (.call ⟨.builtin .len,#[x],#[t]⟩) ty (.int .i64 s.size) :=
 fun a w b _ _ _ _=>by simp[execOp,resolve,invoke,builtin,Builtin.len_,b.sim.ev c,run_underlying hT.h,goInt]
def Does (P:Program)(f:FuncId)(args:List Value)(w:World)(R:Value->List It->Prop):Prop :=
 Calls P f args.toArray w fun e w'=>∃ v O,e = .returned v/\Bel w.heap.size w w'/\Zaz w.heap.size O w'/\R v O
def ZtN (P:Program) (f:FuncId):Bool:=match P.funcs[f]? with|some fn=>fn.body.isSome&&!(fn.name == "runtime.NumGoroutine")|none=>false
class Body (P:Program) (f:FuncId):Prop where
 h:ZtN P f=true:=by kernel_rfl
theorem ZbI {P:Program}{f:FuncId}[hB:Body P f](args:Array Value)(w:World):(callFunc f args).run P w = .ok (.enter f args) w:=by
 have h:=hB.h
 unfold ZtN at h
 split at h
 ·rename_i fn c
  simp only[Bool.and_eq_true,Bool.not_eq_true',Option.isSome_iff_ne_none]at h
  have a:¬ fn.name = "runtime.NumGoroutine" := by simpa using h.2
  have b:¬ fn.body=none:=h.1
  simp[callFunc,program,Sem.run,c,a,b]
 ·cases h
theorem Zkz {o:Oper}{f:FuncId}{vs:List Value}{R:Value->List It->Prop}{Kp:Value->List It->Prop}
  (c:∀ a w,Sim n fr a->(execOp a.eval o).run P w = .ok (.enter f vs.toArray) w)
  (h:∀ w,Bel wr.heap.size wr w->Zaz wr.heap.size O w->Does P f vs w R)
  (k:∀ v O',R v O'->Kp v (O'++O)):Stp P n wr fr O o Kp:=by
 intro a w b Kn Q j
 unfold Oper.wp
 rw[c a w b.sim,Oper.upon_enter]
 refine(h w b.old b.own).mono ?_
 rintro e w' ⟨v,O',rfl,d,g,i⟩
 exact j v _ w' (b.old.trans (d.mono b.old.size)) (b.own.grow d b.old.size g) (k v O' i)
theorem Zad {f:FuncId}{xs:List Operand}{e:Array TypeId}{vs:List Value}{b:Option Tmp}{g:Option (Nat × Bool)}{R:Value->List It->Prop}{Kp:Value->List It->Prop}[Body P f](d:evsO fr xs=some vs)
  (h:∀ w,Bel wr.heap.size wr w->Zaz wr.heap.size O w->Does P f vs w R)
  (k:∀ v O',R v O'->Kp v (O'++O)):Stp P n wr fr O ⟨b,.call ⟨.value (.func f),xs.toArray,e⟩,ty,pos,af,g⟩ Kp :=
 Zkz (fun a w c=>by
  have:=c.evsO d
  simp[execOp,resolve,Act.eval,Deferred.ofValue,invoke,ZbI,this]) h k
theorem Zax {f:FuncId}{c:Operand}{xs:List Operand}{j:Array TypeId}{us vs cs:List Value}{b:Option Tmp}{g:Option (Nat × Bool)}{R:Value->List It->Prop}{Kp:Value->List It->Prop}[Body P f](e:ev fr c=some (.func (.func f) us.toArray cs.toArray))(i:evsO fr xs=some vs)
  (h:∀ w,Bel wr.heap.size wr w->Zaz wr.heap.size O w->Does P f (us++vs++cs) w R)
  (k:∀ v O',R v O'->Kp v (O'++O)):Stp P n wr fr O ⟨b,.call ⟨.value c,xs.toArray,j⟩,ty,pos,af,g⟩ Kp :=
 Zkz (fun a w d=>by
  have:=d.evsO i
  simp[execOp,resolve,d.ev e,Deferred.ofValue,invoke,ZbI,this]) h k
end
def Ze1:Nat->List Value->Fr
 | _,[]=>[]
 | i,v::r=>(i,v)::Ze1 (i+1) r
theorem Zc7:∀ (vs:List Value) (i t:Nat) (v:Value),look (Ze1 i vs) t=some v->i<=t/\vs[t - i]?=some v
 | [],_,_,_,h=>by simp[Ze1,look]at h
 | u::r,i,t,v,h=>by
  simp only[Ze1,look]at h
  cases hb:Nat.beq i t with
  | true =>
   rw[hb]at h
   have e:=Nat.eq_of_beq_eq_true hb
   subst e
   simp at h
   subst h
   simp
  | false =>
   rw[hb]at h
   have:=Zc7 r (i+1) t v (by simpa using h)
   refine⟨by omega,?_⟩
   rw[show t - i=(t - (i+1))+1 from by omega]
   simpa using this.2
def ResV (P:Program)(wr:World)(fr:Fr)(O:List It)(r:ResultVar)(v:Value):Prop :=
 match r with
 | .tmp t=>look fr t=some v
 | .cell a t=>∃ ad,look fr a=some (.pointer (some ad))/\∀ w,Bel wr.heap.size wr w->Zaz wr.heap.size O w->(loadVar t ad).run P w = .ok v w
theorem ResV.cellB {P:Program}{wr:World}{fr:Fr}{O R:List It}{a t b sz:Nat}{cs vs:List Value}{d:TypeId}[Ty P t sz true](f:look fr a=some (.pointer (some ⟨b,0,none⟩)))(h:Pick (.blk b cs d) O R)(j:cs.take sz=vs)(g:vs.length=sz) :
  ResV P wr fr O (.cell a t) (.agg vs.toArray) :=
 ⟨_,f,fun w _ e=>ZeB g fun i v c=>by
  rw[Zcl,ZcR (e.sat _ (h.perm.mem_iff.2 List.mem_cons_self))]
  subst j
  rw[List.getElem?_take]at c
  split at c
  ·rw[<- c,Nat.zero_add]
  ·cases c⟩
def Zpg (P:Program)(wr:World)(fr:Fr)(O:List It):List ResultVar->List Value->Prop
 | [],vs=>vs=[]
 | r::rs,vs=>∃ v us,vs=v::us/\ResV P wr fr O r v/\Zpg P wr fr O rs us
theorem Zcn {P:Program}{n:Nat}{wr:World}{fr:Fr}{O:List It}{a:Act}{w:World}(b:St n wr fr O a w)(f:ResultVar->Sem Value)(c:∀ t,f (.tmp t)=pure (a.tmps.getD t undef))
  (d:∀ x t,f (.cell x t)=(asAddr (a.tmps.getD x undef) >>= fun y=>loadVar t y)):∀ (rs:List ResultVar) (vs:List Value),Zpg P wr fr O rs vs->(rs.mapM f).run P w = .ok vs w
 | [],vs,h=>by simp only[Zpg]at h;subst h;simp
 | r::rs,vs,h=>by
  obtain⟨v,us,rfl,g,l⟩:=h
  have m:=Zcn b f c d rs us l
  have k:(f r).run P w = .ok v w:=by
   cases r with
   | tmp t =>
    have e:a.tmps.getD t undef=v:=by simp[Array.getD_eq_getD_getElem?,b.sim.at_ t v g]
    rw[c,e,Sem.run_pure]
   | cell x t =>
    obtain⟨ad,i,j⟩:=g
    have e:a.tmps.getD x undef = .pointer (some ad):=by simp[Array.getD_eq_getD_getElem?,b.sim.at_ x _ i]
    rw[d,e]
    simp only[asAddr,Sem.run_bind,Sem.run_pure,Result.andThen_ok,j w b.old b.own]
  simp only[List.mapM_cons,Sem.run_bind,k,m,Result.andThen_ok,Sem.run_pure]
def tupV:List Value->Value
 | [v]=>v
 | vs => .tuple vs.toArray
def retQ (P:Program)(wr:World)(rs:List ResultVar)(R:Value->List It->Prop):Exit->Fr->List It->Prop
 | .ret=>fun fr O=>∃ vs O',Zpg P wr fr O rs vs/\SubO O' O/\R (tupV vs) O'
 | .normal=>fun fr O=>∃ vs O',Zpg P wr fr O rs vs/\SubO O' O/\R (tupV vs) O'
 | _=>fun _ _=>False
theorem Zaa {P:Program}{f:FuncId}{fn:Func}{c:Code}{args:List Value}{w:World}{R:Value->List It->Prop}{n:Nat}{rs:List ResultVar}(s:P.funcs[f]?=some fn)(q:fn.body=some c)(z:fn.ntmps=n)(x:fn.results=rs.toArray)
  (m:Nat.ble args.length n=true) (h:W P n w c (retQ P w rs R) (Ze1 0 args) []):Does P f args w R:=by
 refine calls_of_wp s q ?_
 have i:St n w (Ze1 0 args) [] { tmps:=args.toArray++Array.replicate (fn.ntmps - args.toArray.size) undef,defers:=[] } w:=by
  have p:args.length<=n:=Nat.le_of_ble_eq_true m
  refine⟨⟨rfl,by simp;omega,fun t v y=>?_⟩,Bel.refl _ _,Zaz.nil _ _⟩
  have:=(Zc7 args 0 t v y).2
  simp only[Nat.sub_zero]at this
  have d:t<args.length:=(List.getElem?_eq_some_iff.1 this).1
  rw[Array.getElem?_append_left (by simpa using d)]
  simpa using this
 refine wp_mono (h _ w i) ?_
 rintro e a w' ⟨fr,O,b,g⟩
 have fin:(∃ vs O',Zpg P w fr O rs vs/\SubO O' O/\R (tupV vs) O')->a.defers=[]/\∃ v,(results fn a.tmps).run P w' = .ok v w'/\∃ j O,Ending.returned v = .returned j/\Bel w.heap.size w w'/\Zaz w.heap.size O w'/\R j O:=by
  rintro⟨vs,O',h1,h2,h3⟩
  refine⟨b.sim.defers,(tupV vs),?_,_,O',rfl,b.old,b.own.sub h2,h3⟩
  unfold results
  rw[x,List.mapM_toArray]
  simp only[Sem.run_bind,Sem.run_map]
  rw[Zcn (P:=P) b _ (fun _=>rfl) (fun _ _=>rfl) rs vs h1]
  simp only[Result.andThen_ok,Sem.run_pure]
  congr 1
  clear h1 h3
  match vs with
  | []=>rfl
  | [v]=>rfl
  | v::u::r=>simp;rfl
 cases e with
 | ret=>exact fin g
 | normal=>exact fin g
 | _=>exact g.elim
def Zks (P:Program)(t:TypeId):Option (Nat × TypeId × Nat × Bool) :=
 match P.underlying t with
 | some (.array len e)=>match Zsw P e with|some (sz,ag)=>some (len,e,sz,ag)|none=>none
 | _=>none
class ArrT (P:Program) (t:TypeId) (len:outParam Nat) (e:outParam TypeId) (sz:outParam Nat) (ag:outParam Bool):Prop where
 h:Zks P t=some (len,e,sz,ag):=by kernel_rfl
def Zts (P:Program)(t:TypeId):Option (TypeId × TypeId) :=
 match P.underlying t with
 | some (.map k e)=>some (k,e)
 | _=>none
class MapT (P:Program) (t:TypeId) (k e:outParam TypeId):Prop where
 h:Zts P t=some (k,e):=by kernel_rfl
section
variable {P:Program}{n:Nat}{wr:World}{Q:Exit->Fr->List It->Prop}{fr:Fr}{O:List It}{K:Fr->List It->Prop}
theorem thenQ_n (h:K fr O):Zaq K Q .normal fr O:=h
theorem thenQ_r (h:Q .ret fr O):Zaq K Q .ret fr O:=h
theorem thenQ_e {k:Nat}(h:Q (.exit k) fr O):Zaq K Q (.exit k) fr O:=h
theorem blockQ_n {a:Nat}(h:Q .normal fr O):Zai a Q .normal fr O:=h
theorem blockQ_r {a:Nat}(h:Q .ret fr O):Zai a Q .ret fr O:=h
theorem blockQ_hit {a:Nat}(h:Q .normal fr O):Zai a Q (.exit a) fr O:=by simpa[Zai] using h
theorem blockQ_miss {b k:Nat}(a:Nat.beq k b=false)(h:Q (.exit k) fr O):Zai b Q (.exit k) fr O:=by
 have:k≠b:=Nat.ne_of_beq_eq_false a
 simpa[Zai,this] using h
theorem Zah {c:Code}{G:Type}(d:Fr)(a:List It)(e:G->Fr)(b:G->List It)(Inv:G->Prop)(μ:G->Nat)(i:G)(k:Sub (e i++d) fr)(j:SubO (b i++a) O)(l:Inv i)
  (f:∀ g,Inv g->W P n wr c (Zaq (fun fr' O'=>∃ h,μ h<μ g/\Inv h/\Sub (e h++d) fr'/\SubO (b h++a) O') Q) (e g++d) (b g++a)):W P n wr (.loop c) Q fr O :=
 ZCi (fun g=>e g++d) (fun g=>b g++a) Inv μ i k j l f
end
theorem ret_1 {P:Program}{wr:World}{fr:Fr}{O:List It}{r:ResultVar}{R:Value->List It->Prop}(v:Value)(O':List It)(c:ResV P wr fr O r v)(a:SubO O' O)(b:R v O'):retQ P wr [r] R .ret fr O :=
 ⟨[v],O',⟨v,[],rfl,c,rfl⟩,a,b⟩
theorem ret_2 {P:Program}{wr:World}{fr:Fr}{O:List It}{r b:ResultVar}{R:Value->List It->Prop}(v v2:Value)(O':List It)(e:ResV P wr fr O r v)(a:ResV P wr fr O b v2)(c:SubO O' O)(d:R (.tuple #[v,v2]) O'):retQ P wr [r,b] R .ret fr O :=
 ⟨[v,v2],O',⟨v,_,rfl,e,v2,[],rfl,a,rfl⟩,c,d⟩
theorem Zcj {P:Program}{wr:World}{fr:Fr}{O:List It}{r c d:ResultVar}{R:Value->List It->Prop}(v v2 v3:Value)(O':List It)(g:ResV P wr fr O r v)(a:ResV P wr fr O c v2)(b:ResV P wr fr O d v3)(e:SubO O' O)(f:R (.tuple #[v,v2,v3]) O'):retQ P wr [r,c,d] R .ret fr O :=
 ⟨[v,v2,v3],O',⟨v,_,rfl,g,v2,_,rfl,a,v3,[],rfl,b,rfl⟩,e,f⟩
theorem ZsT {P:Program}{wr:World}{fr:Fr}{O:List It}{R:Value->List It->Prop}(O':List It)(a:SubO O' O)(b:R (.tuple #[]) O'):retQ P wr [] R .normal fr O :=
 ⟨[],O',rfl,a,b⟩
theorem ResV.tmp {P:Program}{wr:World}{fr:Fr}{O:List It}{t:Nat}{v:Value}(h:look fr t=some v):ResV P wr fr O (.tmp t) v:=h
section
variable {P:Program}{n:Nat}{wr:World}{ops:Array Oper}{rest:List Oper}{K:Fr->List It->Prop}{fr:Fr}{O:List It}{ty:TypeId}{pos:String}{af:Array Edge}
theorem Sim.over {d:Nat}{v:Value}{a:Act}(h:Sim n fr a)(c:look fr d=some v):Sim n ((d,v)::fr) a :=
 ⟨h.defers,h.size,fun t u b=>by
  simp only[look]at b
  cases hb:Nat.beq d t with
  | true =>
   rw[hb]at b
   have e:=Nat.eq_of_beq_eq_true hb
   subst e
   simp at b
   subst b
   exact h.at_ _ _ c
  | false =>
   rw[hb]at b
   exact h.at_ t u (by simpa using b)⟩
theorem Zxo {l:List Oper}(d:Nat){c:Bool}(e:look fr d=some (.bool c))(g:c=true->RL P n wr ops l K ((d,.bool true)::fr) O)(f:c=false->RL P n wr ops l K ((d,.bool false)::fr) O):RL P n wr ops l K fr O:=by
 intro a w b
 cases c with
 | true=>exact g rfl a w ⟨b.sim.over e,b.old,b.own⟩
 | false=>exact f rfl a w ⟨b.sim.over e,b.old,b.own⟩
theorem Zas {dst:Option Tmp}{a:Op}{j:Nat}{b c:Bool}{e:Oper}{d:Nat}(g:ops[j]?=some e)(f:e.dst=some d)(k:look fr d=some (.bool c))
  (i:c=true->RL P n wr ops (⟨dst,a,ty,pos,af,some (j,b)⟩::rest) K ((d,.bool true)::fr) O) (h:c=false->RL P n wr ops (⟨dst,a,ty,pos,af,some (j,b)⟩::rest) K ((d,.bool false)::fr) O) :
  RL P n wr ops (⟨dst,a,ty,pos,af,some (j,b)⟩::rest) K fr O:=Zxo d k i h
end
theorem Does.mono {P:Program}{f:FuncId}{args:List Value}{w:World}{R R':Value->List It->Prop}(h:Does P f args w R)(e:∀ v O,R v O->R' v O):Does P f args w R' :=
 Calls.mono h fun _ _ ⟨v,O,a,b,c,d⟩=>⟨v,O,a,b,c,e v O d⟩
structure DDay where
 kind:Int
 week:Int
 day:Int
 deriving DecidableEq
structure DClock where
 sec:Int
 base:Int
 deriving DecidableEq
structure DRule where
 name:ByteArray
 from_:Int
 to:Int
 month:Int
 day:DDay
 at_:DClock
 save:Int
 letter:ByteArray
 deriving DecidableEq
structure DUntil where
 is:Bool
 year:Int
 month:Int
 day:DDay
 at_:DClock
 deriving DecidableEq
structure DEra where
 off:Int
 kind:Int
 save:Int
 set:ByteArray
 format:ByteArray
 til:DUntil
 deriving DecidableEq
structure DZone where
 name:ByteArray
 eras:List DEra
 deriving DecidableEq
structure DLink where
 target:ByteArray
 name:ByteArray
 deriving DecidableEq
structure DSource where
 rules:List DRule
 zones:List DZone
 links:List DLink
 shifts:List ByteArray
 deriving DecidableEq
structure Zar where
 part:Int
 index:Int
 era:Int
 deriving DecidableEq
def DDay.enc (d:DDay):List Value:=[.int .i64 d.kind,.int .i64 d.week,.int .i64 d.day]
def DClock.enc (c:DClock):List Value:=[.int .i64 c.sec,.int .i64 c.base]
def DRule.enc (r:DRule):List Value :=
 [.string r.name,.int .i64 r.from_,.int .i64 r.to,.int .i64 r.month,.int .i64 r.day.kind,.int .i64 r.day.week,.int .i64 r.day.day,.int .i64 r.at_.sec,.int .i64 r.at_.base,.int .i64 r.save,.string r.letter]
def DUntil.enc (u:DUntil):List Value:=[.bool u.is,.int .i64 u.year,.int .i64 u.month,.int .i64 u.day.kind,.int .i64 u.day.week,.int .i64 u.day.day,.int .i64 u.at_.sec,.int .i64 u.at_.base]
def DEra.enc (e:DEra):List Value :=
 [.int .i64 e.off,.int .i64 e.kind,.int .i64 e.save,.string e.set,.string e.format,.bool e.til.is,.int .i64 e.til.year,.int .i64 e.til.month,.int .i64 e.til.day.kind,.int .i64 e.til.day.week,.int .i64 e.til.day.day,.int .i64 e.til.at_.sec,.int .i64 e.til.at_.base]
def DLink.enc (l:DLink):List Value:=[.string l.target,.string l.name]
def Zar.enc (p:Zar):List Value:=[.int .i64 p.part,.int .i64 p.index,.int .i64 p.era]
def ZaR (s:ByteArray):List Value:=[.string s]
def RdL {α:Type}(w:World)(A:Option Addr)(enc:α->List Value)(sz:Nat)(xs:List α):Prop :=
 ∀ k x,xs[k]?=some x->A≠none/\Zat w ((adr A).add (k*sz)) (enc x)
structure RdSl {α:Type}(w:World)(A:Option Addr)(c:Nat)(enc:α->List Value)(sz:Nat)(xs:List α):Prop where
 le:xs.length<=c
 cap:c<=maxLen
 rd:RdL w A enc sz xs
def ZkA (w:World)(z:DZone)(cs:List Value):Prop:=∃ A c,RdSl w A c DEra.enc 13 z.eras/\cs=[.string z.name,.slice A z.eras.length c]
def RdZ (w:World)(A:Option Addr)(zs:List DZone):Prop :=
 ∀ k z,zs[k]?=some z->A≠none/\∃ cs,ZkA w z cs/\Zat w ((adr A).add (k*2)) cs
structure Zam (w:World)(Ar Az Al As:Option Addr)(cr cz cl cs:Nat)(s:DSource):Prop where
 r:RdSl w Ar cr DRule.enc 11 s.rules
 zle:s.zones.length<=cz
 zcap:cz<=maxLen
 z:RdZ w Az s.zones
 l:RdSl w Al cl DLink.enc 2 s.links
 s:RdSl w As cs ZaR 1 s.shifts
theorem Zat.up {w w':World}{ad:Addr}{cs:List Value}{B:Nat}(h:Zat w ad cs)(c:Bel B w w')(b:w.heap.size<=B):Zat w' ad cs :=
 fun j v a=>(c.cell (Nat.lt_of_lt_of_le (World.block_lt_of_cell? w _ (h j v a)) b)).trans (h j v a)
theorem RdL.up {α:Type}{w w':World}{A:Option Addr}{enc:α->List Value}{sz:Nat}{xs:List α}(h:RdL w A enc sz xs)(b:Bel w.heap.size w w'):RdL w' A enc sz xs :=
 fun k x a=>⟨(h k x a).1,(h k x a).2.up b (Nat.le_refl _)⟩
theorem RdSl.up {α:Type}{w w':World}{A:Option Addr}{c:Nat}{enc:α->List Value}{sz:Nat}{xs:List α}(h:RdSl w A c enc sz xs)(a:Bel w.heap.size w w'):RdSl w' A c enc sz xs :=
 ⟨h.le,h.cap,h.rd.up a⟩
theorem ZkA.up {w w':World}{z:DZone}{cs:List Value}(h:ZkA w z cs)(d:Bel w.heap.size w w'):ZkA w' z cs:=by
 obtain⟨A,c,a,b⟩:=h
 exact⟨A,c,a.up d,b⟩
theorem RdZ.up {w w':World}{A:Option Addr}{zs:List DZone}(h:RdZ w A zs)(a:Bel w.heap.size w w'):RdZ w' A zs:=fun k z e=>by
 obtain⟨b,cs,c,d⟩:=h k z e
 exact⟨b,cs,c.up a,d.up a (Nat.le_refl _)⟩
theorem Zam.up {w w':World}{Ar Az Al As:Option Addr}{c d b cs:Nat}{s:DSource}(h:Zam w Ar Az Al As c d b cs s)(a:Bel w.heap.size w w'):Zam w' Ar Az Al As c d b cs s :=
 ⟨h.r.up a,h.zle,h.zcap,h.z.up a,h.l.up a,h.s.up a⟩
section
variable {P:Program}{n:Nat}{wr:World}{ops:Array Oper}{rest:List Oper}{K:Fr->List It->Prop}{fr:Fr}{O:List It}{ty:TypeId}{pos:String}{af:Array Edge}{d:Nat}
theorem Pu_loadO1 {t sz:Nat}{x:Operand}{ad:Addr}{v:Value}[Ty P t sz false](b:ev fr x=some (.pointer (some ad)))
  (h:wr.cell? ad=some v):Pu P n wr fr O (.load t x) ty (v) :=
 ZlH b (fun _ a _=>(a.cell (World.block_lt_of_cell? wr _ h)).trans h)
theorem Pu_loadO1' {t sz j:Nat}{x:Operand}{ad:Addr}{cs:List Value}{v:Value}[Ty P t sz false](b:ev fr x=some (.pointer (some (ad.add j))))
  (h:Zat wr ad cs) (a:cs[j]?=some v):Pu P n wr fr O (.load t x) ty v :=
 Pu_loadO1 b (h j v a)
theorem Pu_loadON {t sz:Nat}{x:Operand}{ad:Addr}{cs:List Value}[Ty P t sz true](c:ev fr x=some (.pointer (some ad)))
  (h:Zat wr ad cs) (b:cs.length=sz):Pu P n wr fr O (.load t x) ty (.agg cs.toArray) :=
 ZgA c b (fun _ a _=>h.up a (Nat.le_refl _))
end
def ZbQ (y:Int):Bool:=decide (y % 4=0)&&(!decide (y % 100=0)||decide (y % 400=0))
def lenM (y m:Int):Int:=if m<1\/12<m then 0 else if m=2 then (if ZbQ y then 29 else 28) else if m=4\/m=6\/m=9\/m=11 then 30 else 31
def inY (y:Int):Bool:=decide (-2000000000<=y)&&decide (y<=2000000000)
def Za2:List Int:=[0,31,61,92,122,153,184,214,245,275,306,337]
def Zb2 (y m d:Int):Int:=y / 400*146097+y % 400*365+y % 400 / 4 - y % 400 / 100+Za2.getD (m - 3).toNat 0+d - 1 - 719468
def ZaW (y m d:Int):Int:=if m<3 then Zb2 (y - 1) (m+12) d else Zb2 y m d
def Zbh (y m d:Int):Bool:=inY y&&decide (1<=d)&&decide (d<=lenM y m)
def Zep (n:Int):Int:=(n+4) % 7
theorem ZeO (y m:Int):0<=lenM y m/\lenM y m<=31:=by
 unfold lenM
 split
 ·omega
 ·split
  ·split <;> omega
  ·split <;> omega
theorem ZpF (n:Int):0<=Zep n/\Zep n<=6:=by unfold Zep;omega
theorem Zb3 (k:Nat):0<=Za2.getD k 0/\Za2.getD k 0<=337:=by
 by_cases h:k<12
 ·have:k=0\/k=1\/k=2\/k=3\/k=4\/k=5\/k=6\/k=7\/k=8\/k=9\/k=10\/k=11:=by omega
  rcases this with rfl|rfl|rfl|rfl|rfl|rfl|rfl|rfl|rfl|rfl|rfl|rfl <;> decide
 ·rw[List.getD_eq_getElem?_getD,List.getElem?_eq_none (by simp[Za2];omega)]
  decide
def ZcO (r:Int):Int:=(r - r / 1460+r / 36524 - r / 146096) / 365
def monN (r:Int):Nat->Nat
 | 0=>0
 | m+1=>if Za2.getD (m+1) 0<=r then m+1 else monN r m
def ZcA (n:Int):Int :=
 let c:=(n+719468) / 146097
 let r:=(n+719468) % 146097
 let y:=ZcO r
 let q:=r - (y*365+y / 4 - y / 100)
 if 10<=monN q 11 then c*400+y+1 else c*400+y
def Zay (t:Int):Int:=min (max (ZcA (t / 86400)) (-2000000000)) 2000000000
def Zq2 (k:Int):Bool := !decide (k=1)
def dayK (k:Int):Bool := !decide (k=2)
def ZbH (d:DDay):Bool:=decide (1<=d.kind)&&decide (d.kind<=4)&&!((!decide (d.week=0)&&!Zq2 d.kind)||decide (d.week<0)||decide (6<d.week)||(dayK d.kind==decide (d.day=0))||decide (d.day<0)||decide (31<d.day))
def Zbx (x w:Int):Int:=x+(w - Zep x+7) % 7
def ZaX (x w:Int):Int:=x - (Zep x - w+7) % 7
def Zd8 (first last:Int)(d:DDay):Int:=if d.kind=1 then first+d.day - 1 else if d.kind=2 then ZaX last d.week else if d.kind=3 then Zbx (first+d.day - 1) d.week else ZaX (first+d.day - 1) d.week
def onD (y m:Int)(d:DDay):Int × Int :=
 if Zbh y m 1=false then (0,3) else if ZbH d=false then (0,2) else if lenM y m<d.day then (0,4) else (Zd8 (ZaW y m 1) (ZaW y m 1+lenM y m - 1) d,0)
def Zcf (from_ to m:Int)(d:DDay):Bool :=
 if m<1\/12<m\/ZbH d=false then false
 else if (to<1048576/\to<from_)\/d.day<=lenM 1 m then true
 else if 1048576<=to\/from_≠to\/m≠2 then false
 else decide (d.day<=lenM (from_.tmod 400) m)
def ZaL (c:DClock):Bool:=decide (-604799<=c.sec)&&decide (c.sec<=604799)&&decide (0<=c.base)&&decide (c.base<=2)
def ZbX (c:Nat):Nat:=if (65<=c/\c<=90)\/(97<=c/\c<=122) then 1 else if 48<=c/\c<=57 then 2 else if c=95 then 4 else if c=45 then 8 else if c=46\/c=43 then 16 else 0
def ZbO (some_:Nat)(l:List UInt8):Bool:=l.all fun c => !decide (ZbX c.toNat &&& some_=0)
def Zb7 (least most some_:Nat)(l:List UInt8):Bool:=decide (least<=l.length)&&decide (l.length<=most)&&ZbO some_ l
def Zer:List UInt8->List UInt8->List (List UInt8)
 | [],acc=>[acc]
 | c::l,acc=>if c=47 then acc::Zer l [] else Zer l (acc++[c])
def ZgM (l:List UInt8):Bool:=Zb7 1 14 31 l&&!(match l with|c::_=>decide (c=46)||decide (c=45)|[]=>false)
def Zfl (s:ByteArray):Bool:=decide (s.size<=60)&&(Zer s.data.toList []).all ZgM
def setB (s:ByteArray):Bool:=Zb7 1 30 15 s.data.toList&&Zb7 1 1 1 (s.data.toList.take 1)
def ZeN (s:ByteArray):Bool:=Zb7 1 4 1 s.data.toList
def ZhB (s:ByteArray):Bool:=Zb7 3 6 1 s.data.toList
def Zae (l:List DRule):Int:=l.foldl (fun m r=>min m r.save) 0
def Zcp:List DRule->Int->Int × Bool
 | [],x=>(x,!decide (x=0))
 | r::l,x=>if r.save=0 then Zcp l x else if x≠0/\r.save≠x then (0,false) else Zcp l r.save
def Zb1 (l:List DRule):Int × Bool:=Zcp l 0
def ZbJ (y:Int):Bool:=decide (1850<=y)&&decide (y<=2149)
def Zek (c:DClock)(least:Int):Bool:=ZaL c&&(let n:=if c.base=1 then c.sec+least else c.sec;decide (-86400<=n)&&decide (n<=172800))
def Zbu (r:DRule)(least:Int):Int :=
 if (ZbJ r.from_&&(ZbJ r.to||decide (r.to=1048576)))=false then 3
 else if r.to<r.from_ then 12
 else if Zcf r.from_ r.to r.month r.day=false then 3
 else if Zek r.at_ least=false then 3
 else if (decide (-10800<=r.save)&&decide (r.save<=10800))=false then 14
 else if (decide (r.letter=ByteArray.empty)||ZeN r.letter)=false then 15
 else 0
def Zhl (r:DRule):Bool:=if r.day.kind=2 then true else if r.day.kind=3 then decide (r.day.day.tmod 7=1)&&decide (r.day.day<29) else if r.day.kind=1 then !decide (r.month=2)||!decide (r.day.day=29) else false
def ZgQ (l:List DRule):Bool :=
 match l.filter fun r=>decide (r.to=1048576) with
 | []=>true
 | [a,b]=>(decide (a.save=0) != decide (b.save=0))&&!decide (a.month=b.month)&&Zhl a&&Zhl b
 | _=>false
def ZaS (least:Int):List DRule->Nat->Option (Nat × Int)
 | [],_=>none
 | r::l,k=>if Zbu r least=0 then ZaS least l (k+1) else some (k,Zbu r least)
def ZcE (l:List DRule):Nat × Int :=
 match ZaS (Zae l) l 0 with
 | some x=>x
 | none =>
  if (l.any fun r=>decide (r.save=0))=false\/(Zae l<0/\(l.any fun r => !decide (r.save=0)&&!decide (r.save=Zae l))=true) then (0,14)
  else if ZgQ l=false then (0,16)
  else (0,0)
def dig2 (n:Int):List UInt8:=[UInt8.ofNat (48+(n / 10).toNat),UInt8.ofNat (48+(n % 10).toNat)]
def ZaM (off:Int):List UInt8 :=
 if off <= -86400\/86400<=off then []
 else
  let x:=if off<0 then -off else off
  (if off<0 then (45:UInt8) else 43)::(dig2 (x / 3600)++(if x % 3600=0 then [] else dig2 (x / 60 % 60))++(if x % 60=0 then [] else dig2 (x % 60)))
def numU (l:List UInt8):Option Int:=if l.isEmpty then none else if l.all (fun c=>decide (48<=c)&&decide (c<=57)) then some (l.foldl (fun n c=>n*10+((c.toNat:Int) - 48)) 0) else none
def Zc6 (l:List UInt8):List Int->Nat->Int->Option Int
 | [],_,off=>some off
 | u::us,i,off=>if l.length<=1+2*i then some off else match numU ((l.drop (1+2*i)).take 2) with|none=>none|some n=>Zc6 l us (i+1) (off+n*u)
def ZaV (l:List UInt8):Option Int :=
 match Zc6 l [3600,60,1] 0 0 with
 | none=>none
 | some o=>let off:=if l.head?=some 45 then -o else o
  if l.isEmpty\/ZaM off≠l then none else some off
def ZcQ (n:Int):Bool:=decide (-9223372036854775808<=n)&&decide (n<=9223372036854775807)
def Zd5 (off:Int):List Int->Option (List (List UInt8))
 | []=>some []
 | x::l=>if ZcQ (off+x)=false\/ZaM (off+x)=[] then none else match Zd5 off l with|none=>none|some r=>some (ZaM (off+x)::r)
def Zc2:List (List UInt8)->List UInt8
 | []=>[]
 | [x]=>x
 | x::l=>x++47::Zc2 l
def Zd9 (e:DEra)(l:List DRule):List UInt8 × Int :=
 let j:=fun s=>match Zd5 e.off s with|none=>([],(3:Int))|some r=>(Zc2 r,0)
 if e.kind=0 then j [0]
 else if e.kind=1 then j [e.save]
 else if e.kind=2 then (if (Zb1 l).2 then j [0,(Zb1 l).1] else if (l.any fun r => !decide (r.save=0)) then ([],14) else j [0])
 else ([],2)
def Zbn (p:List UInt8):List UInt8->List UInt8->Option (List UInt8 × List UInt8)
 | [],acc=>if p=[] then some (acc,[]) else none
 | c::l,acc=>if p.isPrefixOf (c::l) then some (acc,(c::l).drop p.length) else Zbn p l (acc++[c])
def Zcq (l:List UInt8):Bool:=l.all fun c=>decide (ZbX c.toNat=1)
def Zbq (f:List UInt8):Option (List UInt8 × List UInt8) :=
 match Zbn [37,115] f [] with
 | none=>none
 | some (a,b)=>if Zcq (a++b)/\(a++b).length<=5 then some (a,b) else none
def ZbD (l:List UInt8):Bool:=Zb7 3 6 1 l
def ZaP (f:List UInt8):Int :=
 let two:=Zbn [47] f []
 if ZbD f then 1
 else if (match two with|some (a,b)=>ZbD a&&ZbD b|none=>false) then 2
 else if (Zbq f).isSome then 3
 else if f=[37,122] then 4
 else if (ZaV f).isSome||(match two with|some (a,b)=>(ZaV a).isSome&&(ZaV b).isSome|none=>false) then 5
 else 0
def Zc5 (f:List UInt8):Option (List UInt8 × List UInt8) :=
 match Zbn [47] f [] with
 | none=>none
 | some (a,b)=>if ZaP f=2\/ZaP f=5 then some (a,b) else none
def Zdx (f:List UInt8)(off save:Int)(letter:List UInt8):List UInt8 × Int :=
 match Zc5 f with
 | some (a,b)=>(if save=0 then a else b,0)
 | none =>
  if ZaP f=3 then (match Zbq f with|some (a,b)=>if ZbD (a++letter++b) then (a++letter++b,0) else ([],15)|none=>([],15))
  else if ZaP f=4 then (if ZcQ (off+save)=true/\ZaM (off+save)≠[] then (ZaM (off+save),0) else ([],15))
  else if ZaP f=1\/ZaP f=5 then (f,0)
  else ([],15)
def ZbG (f:List UInt8):List (List UInt8)->Int
 | []=>0
 | x::l=>if (Zdx f 0 0 x).2=0 then ZbG f l else (Zdx f 0 0 x).2
def Zem (e:DEra)(l:List DRule):Int :=
 let f:=e.format.data.toList
 if ZaP f=0 then 15
 else if ZaP f=3 then ZbG f (if e.kind=2 then l.map (fun r=>r.letter.data.toList) else [[]])
 else if ZaP f=4\/ZaP f=5 then (if (Zd9 e l).2≠0\/(ZaP f=5/\(Zd9 e l).1≠f) then 15 else 0)
 else 0
def ZaF (u:DUntil)(least:Int):Int :=
 if least < -10800\/0<least then 2
 else if u.is=false then 4
 else if u.year<1850\/2149<u.year\/ZaL u.at_=false then 3
 else
  let sec:=if u.at_.base=1 then u.at_.sec+least else u.at_.sec
  if (onD u.year u.month u.day).2≠0\/sec < -86400\/172800<sec then 3 else 0
def Zao (u:DUntil)(least:Int):Int × Int :=
 if ZaF u least≠0 then (0,ZaF u least) else (86400*(onD u.year u.month u.day).1+u.at_.sec+(if u.at_.base=1 then least else 0),0)
structure Zac where
 year:Int
 rule:Int
 nominal:Int
 deriving DecidableEq
def Zac.enc (e:Zac):List Value:=[.int .i64 e.year,.int .i64 e.rule,.int .i64 e.nominal]
def dEv0:Zac:=⟨0,0,0⟩
def lastY (r:DRule):Int:=if r.to=1048576 then 2000000000 else min r.to 2000000000
def onR (least:Int)(r:DRule)(i y:Int):Option Zac :=
 if y<max r.from_ (-2000000000)\/lastY r<y\/ZaL r.at_=false then none
 else if (onD y r.month r.day).2≠0 then none
 else some ⟨y,i,86400*(onD y r.month r.day).1+r.at_.sec+(if r.at_.base=1 then max least (-10800) else 0)⟩
def ordE (a b:Zac):Int:=if a.nominal<b.nominal then -1 else if b.nominal<a.nominal then 1 else if a.rule<b.rule then -1 else if b.rule<a.rule then 1 else if a.year<b.year then -1 else if b.year<a.year then 1 else 0
