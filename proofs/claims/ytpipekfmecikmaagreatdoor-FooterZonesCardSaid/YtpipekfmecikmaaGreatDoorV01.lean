/- Parts of the proof. -/
import Derived.Test.YtpipekfmecikmaaGreatDoorV00
set_option maxHeartbeats 4000000
set_option linter.unusedVariables false
set_option linter.unusedSimpArgs false
namespace Go.Wk
open Go Go.RowKit
def evsO (fr:Fr):List Operand->Option (List Value)
 | []=>some []
 | x::xs=>match ev fr x,evsO fr xs with|some v,some r=>some (v::r)|_,_=>none
def evpO (fr:Fr):List (Nat × Operand)->Option (List (Nat × Value))
 | []=>some []
 | (i,x)::xs=>match ev fr x,evpO fr xs with|some v,some r=>some ((i,v)::r)|_,_=>none
theorem Sim.evsO {n:Nat}{fr:Fr}{a:Act}(h:Sim n fr a):∀ {xs:List Operand} {vs:List Value},evsO fr xs=some vs->xs.map a.eval=vs
 | [],vs,hx=>by simpa[Wk.evsO] using hx
 | x::xs,vs,hx=>by
  simp only[Wk.evsO]at hx
  split at hx
  ·rename_i v r hv hr
   simp only[Option.some.injEq]at hx
   subst hx
   simp[h.ev hv,h.evsO hr]
  ·cases hx
theorem Sim.evpO {n:Nat}{fr:Fr}{a:Act}(h:Sim n fr a):∀ {xs:List (Nat × Operand)} {vs:List (Nat × Value)},evpO fr xs=some vs->xs.map (fun(p:Nat × Operand)=>(p.1,a.eval p.2))=vs
 | [],vs,hx=>by simpa[Wk.evpO] using hx
 | (i,x)::xs,vs,hx=>by
  simp only[Wk.evpO]at hx
  split at hx
  ·rename_i v r hv hr
   simp only[Option.some.injEq]at hx
   subst hx
   simp[h.ev hv,h.evpO hr]
  ·cases hx
def Zv9 (P:Program)(t:TypeId):Option (List (Nat × Nat)) :=
 match P.underlying t with
 | some (.struct fs)=>fs.toList.mapM fun f=>match P.info? f.type with|some i=>some (f.offset,i.size)|none=>none
 | _=>none
class LayT (P:Program) (t:TypeId) (ls:outParam (List (Nat × Nat))):Prop where
 h:Zv9 P t=some ls:=by kernel_rfl
def bld (ls:List (Nat × Nat)):List Value->List (Nat × Value)->Option (List Value)
 | cs,[]=>some cs
 | cs,(i,v)::r =>
  match ls[i]? with
  | none=>none
  | some (off,sz)=>bif Nat.beq v.cells.toList.length sz&&Nat.ble (off+sz) cs.length then bld ls (lay cs off v.cells.toList) r else none
theorem Zf8 (off:Nat):∀ (vs:List Value) (cs:List Value) (i:Nat),
  (vs.zipIdx i).foldl (fun(cs:Array Value) (p:Value × Nat)=>cs.setIfInBounds (off+p.2) p.1) cs.toArray=(lay cs (off+i) vs).toArray
 | [],cs,i=>by simp[lay]
 | v::r,cs,i=>by
  simp only[List.zipIdx_cons,List.foldl_cons,lay,List.setIfInBounds_toArray]
  rw[show off+i+1=off+(i+1) from rfl]
  exact Zf8 off r (cs.set (off+i) v) (i+1)
theorem Zo6 (ls:List (Nat × Nat))(pl:Nat->Option (Nat × Nat))(hpl:∀ i,pl i=ls[i]?):∀ (ps:List (Nat × Value)) (cs cs':List Value),bld ls cs ps=some cs'->Instr.fill pl cs.toArray ps=some cs'.toArray
 | [],cs,cs',h=>by simp only[bld,Option.some.injEq]at h;subst h;rfl
 | (i,v)::r,cs,cs',h=>by
  simp only[bld]at h
  split at h
  ·cases h
  ·rename_i off sz hi
   cases hb:(Nat.beq v.cells.toList.length sz&&Nat.ble (off+sz) cs.length) with
   | false=>rw[hb]at h;cases h
   | true =>
    rw[hb]at h
    simp only[Bool.and_eq_true]at hb
    have h1:=Nat.eq_of_beq_eq_true hb.1
    have h2:=Nat.le_of_ble_eq_true hb.2
    simp only[Instr.fill,hpl,hi]
    have h1':v.cells.size=sz:=by simpa using h1
    rw[if_neg (by simp[h1'];omega)]
    have:=Zf8 off v.cells.toList cs 0
    have hz:(Array.zipIdx v.cells).foldl (fun(cs:Array Value) (p:Value × Nat)=>cs.setIfInBounds (off+p.2) p.1) cs.toArray=(lay cs off v.cells.toList).toArray:=by
     rw[<- Array.foldl_toList,Array.toList_zipIdx]
     simpa using this
    have ih:=Zo6 ls pl hpl r (lay cs off v.cells.toList) cs' (by simpa using h)
    rw[<- ih,<- hz]
theorem ZhP {P:Program}{w:World}:∀ (fs:List Field) (ls:List (Nat × Nat)),(fs.mapM fun f=>match P.info? f.type with|some i=>some (f.offset,i.size)|none=>none)=some ls ->
  (fs.mapM (m:=Sem) fun f=>do pure (f.offset,<- sizeOf f.type)).run P w = .ok ls w
 | [],ls,h=>by simp at h;subst h;simp
 | f::fs,ls,h=>by
  simp only[List.mapM_cons]at h ⊢
  split at h
  ·rename_i i hi
   simp only[Option.pure_def,Option.bind_eq_bind,Option.bind_some,Option.bind_eq_some_iff,Option.some.injEq]at h
   obtain⟨r,hr,rfl⟩:=h
   have ih:=ZhP (P:=P) (w:=w) fs r hr
   simp only[Sem.run_bind,sizeOf,ZaK hi,Result.andThen_ok,Sem.run_pure,ih]at ih ⊢
  ·simp at h
section
variable {P:Program}{n:Nat}{wr:World}{ops:Array Oper}{rest:List Oper}{K:Fr->List It->Prop}{fr:Fr}{O:List It}{ty:TypeId}{pos:String}{af:Array Edge}{d:Nat}
theorem ZvR {t:TypeId}{ps:List (Nat × Operand)}{vs:List (Nat × Value)}{z cs:List Value}{ls:List (Nat × Nat)}[hz:ZeroT P t z][hl:LayT P t ls](hx:evpO fr ps=some vs)
  (hb:bld ls z vs=some cs):Pu P n wr fr O (.build t ps.toArray) ty (.agg cs.toArray) :=
 fun a w hs _ _ _ _=>by
  have h:=hz.h
  unfold Ze8 at h
  split at h
  ·rename_i i hi
   split at h
   ·rename_i zv hzv
    simp only[Option.some.injEq]at h
    subst h
    have h:=hl.h
    unfold Zv9 at h
    split at h
    ·rename_i fs hu
     have hm:=ZhP (P:=P) (w:=w) fs.toList ls h
     have hf:=Zo6 ls (fun i=>ls[i]?) (fun _=>rfl) vs zv.cells.toList cs hb
     have hps:(Array.map (fun(x:Nat × Operand)=>(x.1,a.eval x.2)) ps.toArray).toList=vs:=by simpa using hs.sim.evpO hx
     simp only[execOp,Instr.build,Sem.run_bind,zeroValue,ZaK hi,Result.andThen_ok,hzv,Sem.run_pure,run_underlying hu]
     rw[<- Array.toArray_toList (xs:=fs),List.mapM_toArray]
     simp only[Sem.run_map,hm,Result.andThen_ok]
     have hf':Instr.fill (fun i=>ls[i]?) zv.cells vs=some cs.toArray:=by simpa using hf
     rw[hps]
     simp[hf']
    ·cases h
   ·cases h
  ·cases h
theorem Pu_field1 {s f off sz:Nat}{x:Operand}{cs:List Value}{v:Value}[hF:FieldAt P s f off sz false](hx:ev fr x=some (.agg cs.toArray))(hv:cs[off]?=some v):Pu P n wr fr O (.field s x f) ty (v) :=
 fun a w hs _ _ _ _=>by
  have h:=hF.h
  unfold Zg2 at h
  split at h
  ·rename_i fs hu
   split at h
   ·rename_i fld hf
    split at h
    ·rename_i sz' ag' ht
     split at h
     ·cases h
     ·rename_i hne
      simp only[Option.some.injEq,Prod.mk.injEq]at h
      obtain⟨rfl,rfl,rfl⟩:=h
      have:Ty P fld.type sz' false:=⟨ht⟩
      simp only[execOp,hs.sim.ev hx,Instr.field,Sem.run_bind,run_underlying hu,Result.andThen_ok,hf,asAgg,Sem.run_pure,part,Zdd,Bool.false_eq_true,if_false]
      simp[hv]
    ·cases h
   ·cases h
  ·cases h
theorem ZtC {s f off sz:Nat}{x:Operand}{cs vs:List Value}[hF:FieldAt P s f off sz true](hx:ev fr x=some (.agg cs.toArray))(hv:(cs.drop off).take sz=vs):Pu P n wr fr O (.field s x f) ty (.agg vs.toArray) :=
 fun a w hs _ _ _ _=>by
  have h:=hF.h
  unfold Zg2 at h
  split at h
  ·rename_i fs hu
   split at h
   ·rename_i fld hf
    split at h
    ·rename_i sz' ag' ht
     split at h
     ·cases h
     ·rename_i hne
      simp only[Option.some.injEq,Prod.mk.injEq]at h
      obtain⟨rfl,rfl,rfl⟩:=h
      have:Ty P fld.type sz' true:=⟨ht⟩
      subst hv
      simp only[execOp,hs.sim.ev hx,Instr.field,Sem.run_bind,run_underlying hu,Result.andThen_ok,hf,asAgg,Sem.run_pure,part,Zdd,if_true,ZcA]
      simp[List.take_drop]
    ·cases h
   ·cases h
  ·cases h
def adr (A:Option Addr):Addr:=A.getD ⟨0,0,none⟩
theorem Pu_indexAddr {t e sz bytes:Nat}{x ix:Operand}{A:Option Addr}{len cap:Nat}{kk:IntKind}{i:Int}[hE:ElemT P t e sz bytes](hx:ev fr x=some (.slice A len cap))(hi:ev fr ix=some (.int kk i))
  (h0:0<=i) (h1:i<len) (hA:A≠none):Pu P n wr fr O (.indexAddr t x ix) ty (.pointer (some ((adr A).add (i.toNat*sz)))) :=
 fun a w hs _ _ _ _=>by
  have h:=hE.h
  unfold Zgd at h
  split at h
  ·rename_i e' hu
   split at h
   ·rename_i inf hinf
    simp only[Option.some.injEq,Prod.mk.injEq]at h
    obtain⟨rfl,rfl,rfl⟩:=h
    obtain⟨ad,rfl⟩:=Option.ne_none_iff_exists'.1 hA
    simp only[execOp,hs.sim.ev hx,hs.sim.ev hi,Instr.indexAt,asIntOf,Sem.run_bind,Sem.run_pure,run_underlying hu,Result.andThen_ok,h0,h1,and_self,if_true,sizeOf,ZaK hinf,adr,Option.getD_some]
   ·cases h
  ·cases h
theorem Pu_extract {x:Operand}{i:Nat}{vs:List Value}{v:Value}(hx:ev fr x=some (.tuple vs.toArray))(hv:vs[i]?=some v):Pu P n wr fr O (.extract x i) ty (v) :=
 fun a w hs _ _ _ _=>by simp[execOp,hs.sim.ev hx,Instr.extract,hv]
theorem Pu_nilCheck {x:Operand}{ad:Addr}(hx:ev fr x=some (.pointer (some ad))):Pu P n wr fr O (.nilCheck x) ty (.pointer (some ad)) :=
 fun a w hs _ _ _ _=>by simp[execOp,hs.sim.ev hx]
theorem Pu_nilCheckF {x:Operand}{f:FuncId}{cs1 cs2:Array Value}(hx:ev fr x=some (.func (.func f) cs1 cs2)):Pu P n wr fr O (.nilCheck x) ty (.func (.func f) cs1 cs2) :=
 fun a w hs _ _ _ _=>by simp[execOp,hs.sim.ev hx]
theorem Pu_makeFunc {fn:Fn}{xs ys:List Operand}{us vs:List Value}(hx:evsO fr xs=some us)(hy:evsO fr ys=some vs):Pu P n wr fr O (.makeFunc fn xs.toArray ys.toArray) ty (.func fn us.toArray vs.toArray) :=
 fun a w hs _ _ _ _=>by simp[execOp,hs.sim.evsO hx,hs.sim.evsO hy,Instr.makeFunc]
theorem Pu_lss {t t':TypeId}{x y:Operand}{kk:IntKind}{i j:Int}(hx:ev fr x=some (.int kk i))(hy:ev fr y=some (.int kk j)):Pu P n wr fr O (.binOp .lss t x y t') ty (.bool (decide (i<j))) :=
 fun a w hs _ _ _ _=>by simp[execOp,hs.sim.ev hx,hs.sim.ev hy,eqGuard,binOp,Op.intCmp]
theorem Pu_leq {t t':TypeId}{x y:Operand}{kk:IntKind}{i j:Int}(hx:ev fr x=some (.int kk i))(hy:ev fr y=some (.int kk j)):Pu P n wr fr O (.binOp .leq t x y t') ty (.bool (decide (i<=j))) :=
 fun a w hs _ _ _ _=>by simp[execOp,hs.sim.ev hx,hs.sim.ev hy,eqGuard,binOp,Op.intCmp]
theorem Pu_gtr {t t':TypeId}{x y:Operand}{kk:IntKind}{i j:Int}(hx:ev fr x=some (.int kk i))(hy:ev fr y=some (.int kk j)):Pu P n wr fr O (.binOp .gtr t x y t') ty (.bool (decide (j<i))) :=
 fun a w hs _ _ _ _=>by simp[execOp,hs.sim.ev hx,hs.sim.ev hy,eqGuard,binOp,Op.intCmp]
theorem Pu_geq {t t':TypeId}{x y:Operand}{kk:IntKind}{i j:Int}(hx:ev fr x=some (.int kk i))(hy:ev fr y=some (.int kk j)):Pu P n wr fr O (.binOp .geq t x y t') ty (.bool (decide (j<=i))) :=
 fun a w hs _ _ _ _=>by simp[execOp,hs.sim.ev hx,hs.sim.ev hy,eqGuard,binOp,Op.intCmp]
theorem Pu_eql {t t':TypeId}{x y:Operand}{kk:IntKind}{i j:Int}(hx:ev fr x=some (.int kk i))(hy:ev fr y=some (.int kk j)):Pu P n wr fr O (.binOp .eql t x y t') ty (.bool (decide (i=j))) :=
 fun a w hs _ _ _ _=>by simp[execOp,hs.sim.ev hx,hs.sim.ev hy,eqGuard,binOp,Op.intCmp];rfl
theorem Pu_neq {t t':TypeId}{x y:Operand}{kk:IntKind}{i j:Int}(hx:ev fr x=some (.int kk i))(hy:ev fr y=some (.int kk j)):Pu P n wr fr O (.binOp .neq t x y t') ty (.bool (!decide (i=j))) :=
 fun a w hs _ _ _ _=>by simp[execOp,hs.sim.ev hx,hs.sim.ev hy,eqGuard,binOp,Op.intCmp];rfl
theorem Zcd {i:Int}(h : -9223372036854775808<=i/\i<=9223372036854775807):IntKind.i64.wrap i=i:=IntWalk.i64_in i h
theorem ZkN {t t':TypeId}{x y:Operand}{kk:IntKind}{i j:Int}(hx:ev fr x=some (.int kk i))(hy:ev fr y=some (.int kk j)):Pu P n wr fr O (.binOp .add t x y t') ty (.int kk (kk.wrap (i+j))) :=
 fun a w hs _ _ _ _=>by simp[execOp,hs.sim.ev hx,hs.sim.ev hy,eqGuard,binOp,Op.intArith]
theorem Zog {t t':TypeId}{x y:Operand}{kk:IntKind}{i j:Int}(hx:ev fr x=some (.int kk i))(hy:ev fr y=some (.int kk j)):Pu P n wr fr O (.binOp .sub t x y t') ty (.int kk (kk.wrap (i - j))) :=
 fun a w hs _ _ _ _=>by simp[execOp,hs.sim.ev hx,hs.sim.ev hy,eqGuard,binOp,Op.intArith]
theorem ZyY {t t':TypeId}{x y:Operand}{kk:IntKind}{i j:Int}(hx:ev fr x=some (.int kk i))(hy:ev fr y=some (.int kk j)):Pu P n wr fr O (.binOp .mul t x y t') ty (.int kk (kk.wrap (i*j))) :=
 fun a w hs _ _ _ _=>by simp[execOp,hs.sim.ev hx,hs.sim.ev hy,eqGuard,binOp,Op.intArith]
theorem Pu_add {t t':TypeId}{x y:Operand}{i j:Int}(hx:ev fr x=some (.int .i64 i))(hy:ev fr y=some (.int .i64 j))(h : -9223372036854775808<=i+j/\i+j<=9223372036854775807):Pu P n wr fr O (.binOp .add t x y t') ty (.int .i64 (i+j)) :=
 by have:=ZkN (P:=P) (n:=n) (wr:=wr) (O:=O) (ty:=ty) (t:=t) (t':=t') hx hy;rwa[Zcd h]at this
theorem Pu_sub' {t t':TypeId}{x y:Operand}{i j:Int}(hx:ev fr x=some (.int .i64 i))(hy:ev fr y=some (.int .i64 j))(h : -9223372036854775808<=i - j/\i - j<=9223372036854775807):Pu P n wr fr O (.binOp .sub t x y t') ty (.int .i64 (i - j)) :=
 by have:=Zog (P:=P) (n:=n) (wr:=wr) (O:=O) (ty:=ty) (t:=t) (t':=t') hx hy;rwa[Zcd h]at this
theorem Zc0 {t t':TypeId}{x y:Operand}{i j:Int}(hx:ev fr x=some (.int .i64 i))(hy:ev fr y=some (.int .i64 j))(h : -9223372036854775808<=i*j/\i*j<=9223372036854775807):Pu P n wr fr O (.binOp .mul t x y t') ty (.int .i64 (i*j)) :=
 by have:=ZyY (P:=P) (n:=n) (wr:=wr) (O:=O) (ty:=ty) (t:=t) (t':=t') hx hy;rwa[Zcd h]at this
theorem Pu_quo {t t':TypeId}{x y:Operand}{kk:IntKind}{i j:Int}(hx:ev fr x=some (.int kk i))(hy:ev fr y=some (.int kk j))(hj:j≠0):Pu P n wr fr O (.binOp .quo t x y t') ty (.int kk (kk.wrap (i.tdiv j))) :=
 fun a w hs _ _ _ _=>by simp[execOp,hs.sim.ev hx,hs.sim.ev hy,eqGuard,binOp,Op.intDiv,hj]
theorem Pu_rem {t t':TypeId}{x y:Operand}{kk:IntKind}{i j:Int}(hx:ev fr x=some (.int kk i))(hy:ev fr y=some (.int kk j))(hj:j≠0):Pu P n wr fr O (.binOp .rem t x y t') ty (.int kk (i.tmod j)) :=
 fun a w hs _ _ _ _=>by simp[execOp,hs.sim.ev hx,hs.sim.ev hy,eqGuard,binOp,Op.intDiv,hj]
theorem toList_eq (a b:ByteArray):(a.toList==b.toList)=decide (a=b):=by
 rw[ByteArray.toList_eq,ByteArray.toList_eq]
 obtain⟨⟨x⟩⟩:=a
 obtain⟨⟨y⟩⟩:=b
 simp only[ByteArray.mk.injEq,Array.mk.injEq]
 by_cases h:x=y <;> simp[h]
theorem Pu_eqlS {t t':TypeId}{x y:Operand}{i j:ByteArray}(hx:ev fr x=some (.string i))(hy:ev fr y=some (.string j)):Pu P n wr fr O (.binOp .eql t x y t') ty (.bool (decide (i=j))) :=
 fun a w hs _ _ _ _=>by simp[execOp,hs.sim.ev hx,hs.sim.ev hy,eqGuard,binOp,Op.stringOp,toList_eq]
theorem Pu_neqS {t t':TypeId}{x y:Operand}{i j:ByteArray}(hx:ev fr x=some (.string i))(hy:ev fr y=some (.string j)):Pu P n wr fr O (.binOp .neq t x y t') ty (.bool (!decide (i=j))) :=
 fun a w hs _ _ _ _=>by simp[execOp,hs.sim.ev hx,hs.sim.ev hy,eqGuard,binOp,Op.stringOp,toList_eq]
theorem Pu_lssS {t t':TypeId}{x y:Operand}{i j:ByteArray}(hx:ev fr x=some (.string i))(hy:ev fr y=some (.string j)):Pu P n wr fr O (.binOp .lss t x y t') ty (.bool (Op.bytesLess i.toList j.toList)) :=
 fun a w hs _ _ _ _=>by simp[execOp,hs.sim.ev hx,hs.sim.ev hy,eqGuard,binOp,Op.stringOp]
theorem Zgr {t t':TypeId}{x y:Operand}{i j:ByteArray}(hx:ev fr x=some (.string i))(hy:ev fr y=some (.string j))(h:i.size+j.size<=9223372036854775807):Pu P n wr fr O (.binOp .add t x y t') ty (.string (i++j)) :=
 fun a w hs _ _ _ _=>by
  have:¬ (((i.size+j.size:Nat):Int)>IntKind.i64.max):=by simp only[IntKind.max,IntKind.signed,IntKind.bits];omega
  simp only[execOp,hs.sim.ev hx,hs.sim.ev hy,eqGuard,binOp,Op.stringOp,if_neg this]
  simp
theorem Pu_not {t:TypeId}{x:Operand}{b:Bool}(hx:ev fr x=some (.bool b)):Pu P n wr fr O (.unOp .not t x) ty (.bool (!b)) :=
 fun a w hs _ _ _ _=>by simp[execOp,hs.sim.ev hx,Op.unary]
theorem Pu_negW {t:TypeId}{x:Operand}{kk:IntKind}{i:Int}(hx:ev fr x=some (.int kk i)):Pu P n wr fr O (.unOp .neg t x) ty (.int kk (kk.wrap (0 - i))) :=
 fun a w hs _ _ _ _=>by simp[execOp,hs.sim.ev hx,Op.unary,Op.intArith]
theorem Pu_convI {t t':TypeId}{x:Operand}{kk k':IntKind}{i:Int}{sz:Nat}{ag:Bool}[hS:Ty P t sz ag][hT:IntT P t' k'](hx:ev fr x=some (.int kk i)):Pu P n wr fr O (.convert t t' x) ty (.int k' (k'.wrap i)) :=
 fun a w h _ _ _ _=>by
  obtain⟨_,td,_,_,hs,_⟩:=Ty.parts hS.h
  simp[execOp,h.sim.ev hx,convert,run_underlying hs,run_underlying hT.h,Conv.intToInt]
theorem Pu_lenL {t e sz bytes:Nat}{x:Operand}{A:Option Addr}{len cap:Nat}[hE:ElemT P t e sz bytes](hx:ev fr x=some (.slice A len cap)):Pu P n wr fr O (.call ⟨.builtin .len,#[x],#[t]⟩) ty (.int .i64 len) :=
 fun a w hs _ _ _ _=>by
  have h:=hE.h
  unfold Zgd at h
  split at h
  ·rename_i e' hu
   simp[execOp,resolve,invoke,builtin,Builtin.len_,hs.sim.ev hx,run_underlying hu,goInt]
  ·cases h
theorem Pu_lenS {t:TypeId}{x:Operand}{s:ByteArray}[hT:StringT P t](hx:ev fr x=some (.string s)):Pu P n wr fr O (.call ⟨.builtin .len,#[x],#[t]⟩) ty (.int .i64 s.size) :=
 fun a w hs _ _ _ _=>by simp[execOp,resolve,invoke,builtin,Builtin.len_,hs.sim.ev hx,run_underlying hT.h,goInt]
def Does (P:Program)(f:FuncId)(args:List Value)(w:World)(R:Value->List It->Prop):Prop :=
 Calls P f args.toArray w fun e w'=>∃ v O,e = .returned v/\Bel w.heap.size w w'/\ZaA w.heap.size O w'/\R v O
def Zst (P:Program) (f:FuncId):Bool:=match P.funcs[f]? with|some fn=>fn.body.isSome&&!(fn.name == "runtime.NumGoroutine")|none=>false
class Body (P:Program) (f:FuncId):Prop where
 h:Zst P f=true:=by kernel_rfl
theorem Zci {P:Program}{f:FuncId}[hB:Body P f](args:Array Value)(w:World):(callFunc f args).run P w = .ok (.enter f args) w:=by
 have h:=hB.h
 unfold Zst at h
 split at h
 ·rename_i fn hf
  simp only[Bool.and_eq_true,Bool.not_eq_true',Option.isSome_iff_ne_none]at h
  have h2:¬ fn.name = "runtime.NumGoroutine" := by simpa using h.2
  have h3:¬ fn.body=none:=h.1
  simp[callFunc,program,Sem.run,hf,h2,h3]
 ·cases h
theorem ZjR {o:Oper}{f:FuncId}{vs:List Value}{R:Value->List It->Prop}{Kp:Value->List It->Prop}
  (hrun:∀ a w,Sim n fr a->(execOp a.eval o).run P w = .ok (.enter f vs.toArray) w)
  (h:∀ w,Bel wr.heap.size wr w->ZaA wr.heap.size O w->Does P f vs w R)
  (k:∀ v O',R v O'->Kp v (O'++O)):Stp P n wr fr O o Kp:=by
 intro a w hs Kn Q hk
 unfold Oper.wp
 rw[hrun a w hs.sim,Oper.upon_enter]
 refine(h w hs.old hs.own).mono ?_
 rintro e w' ⟨v,O',rfl,hB,hH,hR⟩
 exact hk v _ w' (hs.old.trans (hB.mono hs.old.size)) (hs.own.grow hB hs.old.size hH) (k v O' hR)
theorem Zae {f:FuncId}{xs:List Operand}{ts:Array TypeId}{vs:List Value}{dst:Option Tmp}{g:Option (Nat × Bool)}{R:Value->List It->Prop}{Kp:Value->List It->Prop}[Body P f](hx:evsO fr xs=some vs)
  (h:∀ w,Bel wr.heap.size wr w->ZaA wr.heap.size O w->Does P f vs w R)
  (k:∀ v O',R v O'->Kp v (O'++O)):Stp P n wr fr O ⟨dst,.call ⟨.value (.func f),xs.toArray,ts⟩,ty,pos,af,g⟩ Kp :=
 ZjR (fun a w hs=>by
  have:=hs.evsO hx
  simp[execOp,resolve,Act.eval,Deferred.ofValue,invoke,Zci,this]) h k
theorem Zay {f:FuncId}{gx:Operand}{xs:List Operand}{ts:Array TypeId}{us vs cs:List Value}{dst:Option Tmp}{g:Option (Nat × Bool)}{R:Value->List It->Prop}{Kp:Value->List It->Prop}[Body P f](hg:ev fr gx=some (.func (.func f) us.toArray cs.toArray))(hx:evsO fr xs=some vs)
  (h:∀ w,Bel wr.heap.size wr w->ZaA wr.heap.size O w->Does P f (us++vs++cs) w R)
  (k:∀ v O',R v O'->Kp v (O'++O)):Stp P n wr fr O ⟨dst,.call ⟨.value gx,xs.toArray,ts⟩,ty,pos,af,g⟩ Kp :=
 ZjR (fun a w hs=>by
  have:=hs.evsO hx
  simp[execOp,resolve,hs.ev hg,Deferred.ofValue,invoke,Zci,this]) h k
end
def ZfK:Nat->List Value->Fr
 | _,[]=>[]
 | i,v::r=>(i,v)::ZfK (i+1) r
theorem ZdB:∀ (vs:List Value) (i t:Nat) (v:Value),look (ZfK i vs) t=some v->i<=t/\vs[t - i]?=some v
 | [],_,_,_,h=>by simp[ZfK,look]at h
 | u::r,i,t,v,h=>by
  simp only[ZfK,look]at h
  cases hb:Nat.beq i t with
  | true =>
   rw[hb]at h
   have e:=Nat.eq_of_beq_eq_true hb
   subst e
   simp at h
   subst h
   simp
  | false =>
   rw[hb]at h
   have:=ZdB r (i+1) t v (by simpa using h)
   refine⟨by omega,?_⟩
   rw[show t - i=(t - (i+1))+1 from by omega]
   simpa using this.2
def ResV (P:Program)(wr:World)(fr:Fr)(O:List It)(r:ResultVar)(v:Value):Prop :=
 match r with
 | .tmp t=>look fr t=some v
 | .cell a t=>∃ ad,look fr a=some (.pointer (some ad))/\∀ w,Bel wr.heap.size wr w->ZaA wr.heap.size O w->(loadVar t ad).run P w = .ok v w
theorem ResV.cellB {P:Program}{wr:World}{fr:Fr}{O R:List It}{a t b sz:Nat}{cs vs:List Value}{bt:TypeId}[Ty P t sz true](ha:look fr a=some (.pointer (some ⟨b,0,none⟩)))(hp:Pick (.blk b cs bt) O R)(hv:cs.take sz=vs)(hl:vs.length=sz) :
  ResV P wr fr O (.cell a t) (.agg vs.toArray) :=
 ⟨_,ha,fun w _ hO=>Zd9 hl fun i v hi=>by
  rw[ZbV,Zcy (hO.sat _ (hp.perm.mem_iff.2 List.mem_cons_self))]
  subst hv
  rw[List.getElem?_take]at hi
  split at hi
  ·rw[<- hi,Nat.zero_add]
  ·cases hi⟩
def Zn9 (P:Program)(wr:World)(fr:Fr)(O:List It):List ResultVar->List Value->Prop
 | [],vs=>vs=[]
 | r::rs,vs=>∃ v us,vs=v::us/\ResV P wr fr O r v/\Zn9 P wr fr O rs us
theorem Zdy {P:Program}{n:Nat}{wr:World}{fr:Fr}{O:List It}{a:Act}{w:World}(hs:St n wr fr O a w)(f:ResultVar->Sem Value)(h1:∀ t,f (.tmp t)=pure (a.tmps.getD t undef))
  (h2:∀ x t,f (.cell x t)=(asAddr (a.tmps.getD x undef) >>= fun y=>loadVar t y)):∀ (rs:List ResultVar) (vs:List Value),Zn9 P wr fr O rs vs->(rs.mapM f).run P w = .ok vs w
 | [],vs,h=>by simp only[Zn9]at h;subst h;simp
 | r::rs,vs,h=>by
  obtain⟨v,us,rfl,hv,hr⟩:=h
  have ih:=Zdy hs f h1 h2 rs us hr
  have hd:(f r).run P w = .ok v w:=by
   cases r with
   | tmp t =>
    have e:a.tmps.getD t undef=v:=by simp[Array.getD_eq_getD_getElem?,hs.sim.at_ t v hv]
    rw[h1,e,Sem.run_pure]
   | cell x t =>
    obtain⟨ad,h3,h4⟩:=hv
    have e:a.tmps.getD x undef = .pointer (some ad):=by simp[Array.getD_eq_getD_getElem?,hs.sim.at_ x _ h3]
    rw[h2,e]
    simp only[asAddr,Sem.run_bind,Sem.run_pure,Result.andThen_ok,h4 w hs.old hs.own]
  simp only[List.mapM_cons,Sem.run_bind,hd,ih,Result.andThen_ok,Sem.run_pure]
def tupV:List Value->Value
 | [v]=>v
 | vs => .tuple vs.toArray
def retQ (P:Program)(wr:World)(rs:List ResultVar)(R:Value->List It->Prop):Exit->Fr->List It->Prop
 | .ret=>fun fr O=>∃ vs O',Zn9 P wr fr O rs vs/\SubO O' O/\R (tupV vs) O'
 | .normal=>fun fr O=>∃ vs O',Zn9 P wr fr O rs vs/\SubO O' O/\R (tupV vs) O'
 | _=>fun _ _=>False
theorem Zaa {P:Program}{f:FuncId}{fn:Func}{c:Code}{args:List Value}{w:World}{R:Value->List It->Prop}{n:Nat}{rs:List ResultVar}(hf:P.funcs[f]?=some fn)(hb:fn.body=some c)(hn:fn.ntmps=n)(hr:fn.results=rs.toArray)
  (ha:Nat.ble args.length n=true) (h:W P n w c (retQ P w rs R) (ZfK 0 args) []):Does P f args w R:=by
 refine calls_of_wp hf hb ?_
 have hst:St n w (ZfK 0 args) [] { tmps:=args.toArray++Array.replicate (fn.ntmps - args.toArray.size) undef,defers:=[] } w:=by
  have ha':args.length<=n:=Nat.le_of_ble_eq_true ha
  refine⟨⟨rfl,by simp;omega,fun t v hv=>?_⟩,Bel.refl _ _,ZaA.nil _ _⟩
  have:=(ZdB args 0 t v hv).2
  simp only[Nat.sub_zero]at this
  have hlt:t<args.length:=(List.getElem?_eq_some_iff.1 this).1
  rw[Array.getElem?_append_left (by simpa using hlt)]
  simpa using this
 refine wp_mono (h _ w hst) ?_
 rintro e a w' ⟨fr,O,hs,hq⟩
 have fin:(∃ vs O',Zn9 P w fr O rs vs/\SubO O' O/\R (tupV vs) O')->a.defers=[]/\∃ v,(results fn a.tmps).run P w' = .ok v w'/\∃ v' O,Ending.returned v = .returned v'/\Bel w.heap.size w w'/\ZaA w.heap.size O w'/\R v' O:=by
  rintro⟨vs,O',h1,h2,h3⟩
  refine⟨hs.sim.defers,(tupV vs),?_,_,O',rfl,hs.old,hs.own.sub h2,h3⟩
  unfold results
  rw[hr,List.mapM_toArray]
  simp only[Sem.run_bind,Sem.run_map]
  rw[Zdy (P:=P) hs _ (fun _=>rfl) (fun _ _=>rfl) rs vs h1]
  simp only[Result.andThen_ok,Sem.run_pure]
  congr 1
  clear h1 h3
  match vs with
  | []=>rfl
  | [v]=>rfl
  | v::u::r=>simp;rfl
 cases e with
 | ret=>exact fin hq
 | normal=>exact fin hq
 | _=>exact hq.elim
def ZjM (P:Program)(t:TypeId):Option (Nat × TypeId × Nat × Bool) :=
 match P.underlying t with
 | some (.array len e)=>match Zrp P e with|some (sz,ag)=>some (len,e,sz,ag)|none=>none
 | _=>none
class ArrT (P:Program) (t:TypeId) (len:outParam Nat) (e:outParam TypeId) (sz:outParam Nat) (ag:outParam Bool):Prop where
 h:ZjM P t=some (len,e,sz,ag):=by kernel_rfl
def Zsa (P:Program)(t:TypeId):Option (TypeId × TypeId) :=
 match P.underlying t with
 | some (.map k e)=>some (k,e)
 | _=>none
class MapT (P:Program) (t:TypeId) (k e:outParam TypeId):Prop where
 h:Zsa P t=some (k,e):=by kernel_rfl
section
variable {P:Program}{n:Nat}{wr:World}{Q:Exit->Fr->List It->Prop}{fr:Fr}{O:List It}{K:Fr->List It->Prop}
theorem thenQ_n (h:K fr O):Zat K Q .normal fr O:=h
theorem thenQ_r (h:Q .ret fr O):Zat K Q .ret fr O:=h
theorem thenQ_e {k:Nat}(h:Q (.exit k) fr O):Zat K Q (.exit k) fr O:=h
theorem blockQ_n {id:Nat}(h:Q .normal fr O):Zaj id Q .normal fr O:=h
theorem blockQ_r {id:Nat}(h:Q .ret fr O):Zaj id Q .ret fr O:=h
theorem blockQ_hit {id:Nat}(h:Q .normal fr O):Zaj id Q (.exit id) fr O:=by simpa[Zaj] using h
theorem blockQ_miss {id k:Nat}(hne:Nat.beq k id=false)(h:Q (.exit k) fr O):Zaj id Q (.exit k) fr O:=by
 have:k≠id:=Nat.ne_of_beq_eq_false hne
 simpa[Zaj,this] using h
theorem Zai {c:Code}{G:Type}(fix:Fr)(ofix:List It)(var:G->Fr)(ovar:G->List It)(Inv:G->Prop)(μ:G->Nat)(g₀:G)(hf:Sub (var g₀++fix) fr)(hO:SubO (ovar g₀++ofix) O)(h₀:Inv g₀)
  (round:∀ g,Inv g->W P n wr c (Zat (fun fr' O'=>∃ g',μ g'<μ g/\Inv g'/\Sub (var g'++fix) fr'/\SubO (ovar g'++ofix) O') Q) (var g++fix) (ovar g++ofix)):W P n wr (.loop c) Q fr O :=
 ZzN (fun g=>var g++fix) (fun g=>ovar g++ofix) Inv μ g₀ hf hO h₀ round
end
theorem ret_1 {P:Program}{wr:World}{fr:Fr}{O:List It}{r:ResultVar}{R:Value->List It->Prop}(v:Value)(O':List It)(hv:ResV P wr fr O r v)(hO:SubO O' O)(hR:R v O'):retQ P wr [r] R .ret fr O :=
 ⟨[v],O',⟨v,[],rfl,hv,rfl⟩,hO,hR⟩
theorem ret_2 {P:Program}{wr:World}{fr:Fr}{O:List It}{r r2:ResultVar}{R:Value->List It->Prop}(v v2:Value)(O':List It)(hv:ResV P wr fr O r v)(hv2:ResV P wr fr O r2 v2)(hO:SubO O' O)(hR:R (.tuple #[v,v2]) O'):retQ P wr [r,r2] R .ret fr O :=
 ⟨[v,v2],O',⟨v,_,rfl,hv,v2,[],rfl,hv2,rfl⟩,hO,hR⟩
theorem Zck {P:Program}{wr:World}{fr:Fr}{O:List It}{r r2 r3:ResultVar}{R:Value->List It->Prop}(v v2 v3:Value)(O':List It)(hv:ResV P wr fr O r v)(hv2:ResV P wr fr O r2 v2)(hv3:ResV P wr fr O r3 v3)(hO:SubO O' O)(hR:R (.tuple #[v,v2,v3]) O'):retQ P wr [r,r2,r3] R .ret fr O :=
 ⟨[v,v2,v3],O',⟨v,_,rfl,hv,v2,_,rfl,hv2,v3,[],rfl,hv3,rfl⟩,hO,hR⟩
theorem ZAq {P:Program}{wr:World}{fr:Fr}{O:List It}{R:Value->List It->Prop}(O':List It)(hO:SubO O' O)(hR:R (.tuple #[]) O'):retQ P wr [] R .normal fr O :=
 ⟨[],O',rfl,hO,hR⟩
theorem ResV.tmp {P:Program}{wr:World}{fr:Fr}{O:List It}{t:Nat}{v:Value}(h:look fr t=some v):ResV P wr fr O (.tmp t) v:=h
section
variable {P:Program}{n:Nat}{wr:World}{ops:Array Oper}{rest:List Oper}{K:Fr->List It->Prop}{fr:Fr}{O:List It}{ty:TypeId}{pos:String}{af:Array Edge}
theorem Sim.over {d:Nat}{v:Value}{a:Act}(h:Sim n fr a)(hv:look fr d=some v):Sim n ((d,v)::fr) a :=
 ⟨h.defers,h.size,fun t u hu=>by
  simp only[look]at hu
  cases hb:Nat.beq d t with
  | true =>
   rw[hb]at hu
   have e:=Nat.eq_of_beq_eq_true hb
   subst e
   simp at hu
   subst hu
   exact h.at_ _ _ hv
  | false =>
   rw[hb]at hu
   exact h.at_ t u (by simpa using hu)⟩
theorem ZvJ {l:List Oper}(d:Nat){c:Bool}(hv:look fr d=some (.bool c))(ht:c=true->RL P n wr ops l K ((d,.bool true)::fr) O)(hf:c=false->RL P n wr ops l K ((d,.bool false)::fr) O):RL P n wr ops l K fr O:=by
 intro a w hs
 cases c with
 | true=>exact ht rfl a w ⟨hs.sim.over hv,hs.old,hs.own⟩
 | false=>exact hf rfl a w ⟨hs.sim.over hv,hs.old,hs.own⟩
theorem Zam {dst:Option Tmp}{op:Op}{j:Nat}{b c:Bool}{oj:Oper}{d:Nat}(_hj:ops[j]?=some oj)(_hd:oj.dst=some d)(hv:look fr d=some (.bool c))
  (ht:c=true->RL P n wr ops (⟨dst,op,ty,pos,af,some (j,b)⟩::rest) K ((d,.bool true)::fr) O) (hf:c=false->RL P n wr ops (⟨dst,op,ty,pos,af,some (j,b)⟩::rest) K ((d,.bool false)::fr) O) :
  RL P n wr ops (⟨dst,op,ty,pos,af,some (j,b)⟩::rest) K fr O:=ZvJ d hv ht hf
end
theorem Does.mono {P:Program}{f:FuncId}{args:List Value}{w:World}{R R':Value->List It->Prop}(h:Does P f args w R)(hr:∀ v O,R v O->R' v O):Does P f args w R' :=
 Calls.mono h fun _ _ ⟨v,O,h1,h2,h3,h4⟩=>⟨v,O,h1,h2,h3,hr v O h4⟩
structure DDay where
 kind:Int
 week:Int
 day:Int
 deriving DecidableEq
structure DClock where
 sec:Int
 base:Int
 deriving DecidableEq
structure DRule where
 name:ByteArray
 from_:Int
 to:Int
 month:Int
 day:DDay
 at_:DClock
 save:Int
 letter:ByteArray
 deriving DecidableEq
structure DUntil where
 is:Bool
 year:Int
 month:Int
 day:DDay
 at_:DClock
 deriving DecidableEq
structure DEra where
 off:Int
 kind:Int
 save:Int
 set:ByteArray
 format:ByteArray
 til:DUntil
 deriving DecidableEq
structure DZone where
 name:ByteArray
 eras:List DEra
 deriving DecidableEq
structure DLink where
 target:ByteArray
 name:ByteArray
 deriving DecidableEq
structure DSource where
 rules:List DRule
 zones:List DZone
 links:List DLink
 shifts:List ByteArray
 deriving DecidableEq
structure Zaq where
 part:Int
 index:Int
 era:Int
 deriving DecidableEq
def DDay.enc (d:DDay):List Value:=[.int .i64 d.kind,.int .i64 d.week,.int .i64 d.day]
def DClock.enc (c:DClock):List Value:=[.int .i64 c.sec,.int .i64 c.base]
def DRule.enc (r:DRule):List Value :=
 [.string r.name,.int .i64 r.from_,.int .i64 r.to,.int .i64 r.month,.int .i64 r.day.kind,.int .i64 r.day.week,.int .i64 r.day.day,.int .i64 r.at_.sec,.int .i64 r.at_.base,.int .i64 r.save,.string r.letter]
def DUntil.enc (u:DUntil):List Value:=[.bool u.is,.int .i64 u.year,.int .i64 u.month,.int .i64 u.day.kind,.int .i64 u.day.week,.int .i64 u.day.day,.int .i64 u.at_.sec,.int .i64 u.at_.base]
def DEra.enc (e:DEra):List Value :=
 [.int .i64 e.off,.int .i64 e.kind,.int .i64 e.save,.string e.set,.string e.format,.bool e.til.is,.int .i64 e.til.year,.int .i64 e.til.month,.int .i64 e.til.day.kind,.int .i64 e.til.day.week,.int .i64 e.til.day.day,.int .i64 e.til.at_.sec,.int .i64 e.til.at_.base]
def DLink.enc (l:DLink):List Value:=[.string l.target,.string l.name]
def Zaq.enc (p:Zaq):List Value:=[.int .i64 p.part,.int .i64 p.index,.int .i64 p.era]
def ZaU (s:ByteArray):List Value:=[.string s]
def RdL {α:Type}(w:World)(A:Option Addr)(enc:α->List Value)(sz:Nat)(xs:List α):Prop :=
 ∀ k x,xs[k]?=some x->A≠none/\Zau w ((adr A).add (k*sz)) (enc x)
structure RdSl {α:Type}(w:World)(A:Option Addr)(c:Nat)(enc:α->List Value)(sz:Nat)(xs:List α):Prop where
 le:xs.length<=c
 cap:c<=maxLen
 rd:RdL w A enc sz xs
def ZjS (w:World)(z:DZone)(cs:List Value):Prop:=∃ A c,RdSl w A c DEra.enc 13 z.eras/\cs=[.string z.name,.slice A z.eras.length c]
def RdZ (w:World)(A:Option Addr)(zs:List DZone):Prop :=
 ∀ k z,zs[k]?=some z->A≠none/\∃ cs,ZjS w z cs/\Zau w ((adr A).add (k*2)) cs
structure Zar (w:World)(Ar Az Al As:Option Addr)(cr cz cl cs:Nat)(s:DSource):Prop where
 r:RdSl w Ar cr DRule.enc 11 s.rules
 zle:s.zones.length<=cz
 zcap:cz<=maxLen
 z:RdZ w Az s.zones
 l:RdSl w Al cl DLink.enc 2 s.links
 s:RdSl w As cs ZaU 1 s.shifts
theorem Zau.up {w w':World}{ad:Addr}{cs:List Value}{B:Nat}(h:Zau w ad cs)(hb:Bel B w w')(hB:w.heap.size<=B):Zau w' ad cs :=
 fun j v hj=>(hb.cell (Nat.lt_of_lt_of_le (World.block_lt_of_cell? w _ (h j v hj)) hB)).trans (h j v hj)
theorem RdL.up {α:Type}{w w':World}{A:Option Addr}{enc:α->List Value}{sz:Nat}{xs:List α}(h:RdL w A enc sz xs)(hb:Bel w.heap.size w w'):RdL w' A enc sz xs :=
 fun k x hk=>⟨(h k x hk).1,(h k x hk).2.up hb (Nat.le_refl _)⟩
theorem RdSl.up {α:Type}{w w':World}{A:Option Addr}{c:Nat}{enc:α->List Value}{sz:Nat}{xs:List α}(h:RdSl w A c enc sz xs)(hb:Bel w.heap.size w w'):RdSl w' A c enc sz xs :=
 ⟨h.le,h.cap,h.rd.up hb⟩
theorem ZjS.up {w w':World}{z:DZone}{cs:List Value}(h:ZjS w z cs)(hb:Bel w.heap.size w w'):ZjS w' z cs:=by
 obtain⟨A,c,h1,h2⟩:=h
 exact⟨A,c,h1.up hb,h2⟩
theorem RdZ.up {w w':World}{A:Option Addr}{zs:List DZone}(h:RdZ w A zs)(hb:Bel w.heap.size w w'):RdZ w' A zs:=fun k z hk=>by
 obtain⟨h1,cs,h2,h3⟩:=h k z hk
 exact⟨h1,cs,h2.up hb,h3.up hb (Nat.le_refl _)⟩
theorem Zar.up {w w':World}{Ar Az Al As:Option Addr}{cr cz cl cs:Nat}{s:DSource}(h:Zar w Ar Az Al As cr cz cl cs s)(hb:Bel w.heap.size w w'):Zar w' Ar Az Al As cr cz cl cs s :=
 ⟨h.r.up hb,h.zle,h.zcap,h.z.up hb,h.l.up hb,h.s.up hb⟩
section
variable {P:Program}{n:Nat}{wr:World}{ops:Array Oper}{rest:List Oper}{K:Fr->List It->Prop}{fr:Fr}{O:List It}{ty:TypeId}{pos:String}{af:Array Edge}{d:Nat}
theorem Pu_loadO1 {t sz:Nat}{x:Operand}{ad:Addr}{v:Value}[Ty P t sz false](hx:ev fr x=some (.pointer (some ad)))
  (h:wr.cell? ad=some v):Pu P n wr fr O (.load t x) ty (v) :=
 Zhc hx (fun _ hb _=>(hb.cell (World.block_lt_of_cell? wr _ h)).trans h)
theorem Pu_loadO1' {t sz j:Nat}{x:Operand}{ad:Addr}{cs:List Value}{v:Value}[Ty P t sz false](hx:ev fr x=some (.pointer (some (ad.add j))))
  (h:Zau wr ad cs) (hv:cs[j]?=some v):Pu P n wr fr O (.load t x) ty v :=
 Pu_loadO1 hx (h j v hv)
theorem Pu_loadON {t sz:Nat}{x:Operand}{ad:Addr}{cs:List Value}[Ty P t sz true](hx:ev fr x=some (.pointer (some ad)))
  (h:Zau wr ad cs) (hl:cs.length=sz):Pu P n wr fr O (.load t x) ty (.agg cs.toArray) :=
 Zhb hx hl (fun _ hb _=>h.up hb (Nat.le_refl _))
end
def ZbP (y:Int):Bool:=decide (y % 4=0)&&(!decide (y % 100=0)||decide (y % 400=0))
def lenM (y m:Int):Int:=if m<1\/12<m then 0 else if m=2 then (if ZbP y then 29 else 28) else if m=4\/m=6\/m=9\/m=11 then 30 else 31
def inY (y:Int):Bool:=decide (-2000000000<=y)&&decide (y<=2000000000)
def Za2:List Int:=[0,31,61,92,122,153,184,214,245,275,306,337]
def ZbI (y m d:Int):Int:=y / 400*146097+y % 400*365+y % 400 / 4 - y % 400 / 100+Za2.getD (m - 3).toNat 0+d - 1 - 719468
def ZaP (y m d:Int):Int:=if m<3 then ZbI (y - 1) (m+12) d else ZbI y m d
def ZaN (y m d:Int):Bool:=inY y&&decide (1<=d)&&decide (d<=lenM y m)
def Zd1 (n:Int):Int:=(n+4) % 7
theorem Zc4 (y m:Int):0<=lenM y m/\lenM y m<=31:=by
 unfold lenM
 split
 ·omega
 ·split
  ·split <;> omega
  ·split <;> omega
theorem ZoC (n:Int):0<=Zd1 n/\Zd1 n<=6:=by unfold Zd1;omega
theorem ZbJ (k:Nat):0<=Za2.getD k 0/\Za2.getD k 0<=337:=by
 by_cases h:k<12
 ·have:k=0\/k=1\/k=2\/k=3\/k=4\/k=5\/k=6\/k=7\/k=8\/k=9\/k=10\/k=11:=by omega
  rcases this with rfl|rfl|rfl|rfl|rfl|rfl|rfl|rfl|rfl|rfl|rfl|rfl <;> decide
 ·rw[List.getD_eq_getElem?_getD,List.getElem?_eq_none (by simp[Za2];omega)]
  decide
def Zcw (r:Int):Int:=(r - r / 1460+r / 36524 - r / 146096) / 365
def monN (r:Int):Nat->Nat
 | 0=>0
 | m+1=>if Za2.getD (m+1) 0<=r then m+1 else monN r m
def ZbD (n:Int):Int :=
 let c:=(n+719468) / 146097
 let r:=(n+719468) % 146097
 let y:=Zcw r
 let q:=r - (y*365+y / 4 - y / 100)
 if 10<=monN q 11 then c*400+y+1 else c*400+y
def ZaC (t:Int):Int:=min (max (ZbD (t / 86400)) (-2000000000)) 2000000000
def Zp4 (k:Int):Bool := !decide (k=1)
def dayK (k:Int):Bool := !decide (k=2)
def Za8 (d:DDay):Bool:=decide (1<=d.kind)&&decide (d.kind<=4)&&!((!decide (d.week=0)&&!Zp4 d.kind)||decide (d.week<0)||decide (6<d.week)||(dayK d.kind==decide (d.day=0))||decide (d.day<0)||decide (31<d.day))
def Zbp (x w:Int):Int:=x+(w - Zd1 x+7) % 7
def Za1 (x w:Int):Int:=x - (Zd1 x - w+7) % 7
def ZeV (first last:Int)(d:DDay):Int:=if d.kind=1 then first+d.day - 1 else if d.kind=2 then Za1 last d.week else if d.kind=3 then Zbp (first+d.day - 1) d.week else Za1 (first+d.day - 1) d.week
def onD (y m:Int)(d:DDay):Int × Int :=
 if ZaN y m 1=false then (0,3) else if Za8 d=false then (0,2) else if lenM y m<d.day then (0,4) else (ZeV (ZaP y m 1) (ZaP y m 1+lenM y m - 1) d,0)
def ZbU (from_ to m:Int)(d:DDay):Bool :=
 if m<1\/12<m\/Za8 d=false then false
 else if (to<1048576/\to<from_)\/d.day<=lenM 1 m then true
 else if 1048576<=to\/from_≠to\/m≠2 then false
 else decide (d.day<=lenM (from_.tmod 400) m)
def ZaH (c:DClock):Bool:=decide (-604799<=c.sec)&&decide (c.sec<=604799)&&decide (0<=c.base)&&decide (c.base<=2)
def ZbE (c:Nat):Nat:=if (65<=c/\c<=90)\/(97<=c/\c<=122) then 1 else if 48<=c/\c<=57 then 2 else if c=95 then 4 else if c=45 then 8 else if c=46\/c=43 then 16 else 0
def Zby (some_:Nat)(l:List UInt8):Bool:=l.all fun c => !decide (ZbE c.toNat &&& some_=0)
def ZbK (least most some_:Nat)(l:List UInt8):Bool:=decide (least<=l.length)&&decide (l.length<=most)&&Zby some_ l
def ZdY:List UInt8->List UInt8->List (List UInt8)
 | [],acc=>[acc]
 | c::l,acc=>if c=47 then acc::ZdY l [] else ZdY l (acc++[c])
def Zf3 (l:List UInt8):Bool:=ZbK 1 14 31 l&&!(match l with|c::_=>decide (c=46)||decide (c=45)|[]=>false)
def ZeS (s:ByteArray):Bool:=decide (s.size<=60)&&(ZdY s.data.toList []).all Zf3
def setB (s:ByteArray):Bool:=ZbK 1 30 15 s.data.toList&&ZbK 1 1 1 (s.data.toList.take 1)
def Zeg (s:ByteArray):Bool:=ZbK 1 4 1 s.data.toList
def ZgU (s:ByteArray):Bool:=ZbK 3 6 1 s.data.toList
def Zah (l:List DRule):Int:=l.foldl (fun m r=>min m r.save) 0
def Zb2:List DRule->Int->Int × Bool
 | [],x=>(x,!decide (x=0))
 | r::l,x=>if r.save=0 then Zb2 l x else if x≠0/\r.save≠x then (0,false) else Zb2 l r.save
def ZbH (l:List DRule):Int × Bool:=Zb2 l 0
def Zbj (y:Int):Bool:=decide (1850<=y)&&decide (y<=2149)
def ZdR (c:DClock)(least:Int):Bool:=ZaH c&&(let n:=if c.base=1 then c.sec+least else c.sec;decide (-86400<=n)&&decide (n<=172800))
def Zbm (r:DRule)(least:Int):Int :=
 if (Zbj r.from_&&(Zbj r.to||decide (r.to=1048576)))=false then 3
 else if r.to<r.from_ then 12
 else if ZbU r.from_ r.to r.month r.day=false then 3
 else if ZdR r.at_ least=false then 3
 else if (decide (-10800<=r.save)&&decide (r.save<=10800))=false then 14
 else if (decide (r.letter=ByteArray.empty)||Zeg r.letter)=false then 15
 else 0
def Zgy (r:DRule):Bool:=if r.day.kind=2 then true else if r.day.kind=3 then decide (r.day.day.tmod 7=1)&&decide (r.day.day<29) else if r.day.kind=1 then !decide (r.month=2)||!decide (r.day.day=29) else false
def Zff (l:List DRule):Bool :=
 match l.filter fun r=>decide (r.to=1048576) with
 | []=>true
 | [a,b]=>(decide (a.save=0) != decide (b.save=0))&&!decide (a.month=b.month)&&Zgy a&&Zgy b
 | _=>false
def ZaW (least:Int):List DRule->Nat->Option (Nat × Int)
 | [],_=>none
 | r::l,k=>if Zbm r least=0 then ZaW least l (k+1) else some (k,Zbm r least)
def Zcq (l:List DRule):Nat × Int :=
 match ZaW (Zah l) l 0 with
 | some x=>x
 | none =>
  if (l.any fun r=>decide (r.save=0))=false\/(Zah l<0/\(l.any fun r => !decide (r.save=0)&&!decide (r.save=Zah l))=true) then (0,14)
  else if Zff l=false then (0,16)
  else (0,0)
def dig2 (n:Int):List UInt8:=[UInt8.ofNat (48+(n / 10).toNat),UInt8.ofNat (48+(n % 10).toNat)]
def ZaL (off:Int):List UInt8 :=
 if off <= -86400\/86400<=off then []
 else
  let x:=if off<0 then -off else off
  (if off<0 then (45:UInt8) else 43)::(dig2 (x / 3600)++(if x % 3600=0 then [] else dig2 (x / 60 % 60))++(if x % 60=0 then [] else dig2 (x % 60)))
def numU (l:List UInt8):Option Int:=if l.isEmpty then none else if l.all (fun c=>decide (48<=c)&&decide (c<=57)) then some (l.foldl (fun n c=>n*10+((c.toNat:Int) - 48)) 0) else none
def ZcG (l:List UInt8):List Int->Nat->Int->Option Int
 | [],_,off=>some off
 | u::us,i,off=>if l.length<=1+2*i then some off else match numU ((l.drop (1+2*i)).take 2) with|none=>none|some n=>ZcG l us (i+1) (off+n*u)
def ZaY (l:List UInt8):Option Int :=
 match ZcG l [3600,60,1] 0 0 with
 | none=>none
 | some o=>let off:=if l.head?=some 45 then -o else o
  if l.isEmpty\/ZaL off≠l then none else some off
def ZcH (n:Int):Bool:=decide (-9223372036854775808<=n)&&decide (n<=9223372036854775807)
def ZdE (off:Int):List Int->Option (List (List UInt8))
 | []=>some []
 | x::l=>if ZcH (off+x)=false\/ZaL (off+x)=[] then none else match ZdE off l with|none=>none|some r=>some (ZaL (off+x)::r)
def ZcD:List (List UInt8)->List UInt8
 | []=>[]
 | [x]=>x
 | x::l=>x++47::ZcD l
def ZdH (e:DEra)(l:List DRule):List UInt8 × Int :=
 let j:=fun s=>match ZdE e.off s with|none=>([],(3:Int))|some r=>(ZcD r,0)
 if e.kind=0 then j [0]
 else if e.kind=1 then j [e.save]
 else if e.kind=2 then (if (ZbH l).2 then j [0,(ZbH l).1] else if (l.any fun r => !decide (r.save=0)) then ([],14) else j [0])
 else ([],2)
def Zbg (p:List UInt8):List UInt8->List UInt8->Option (List UInt8 × List UInt8)
 | [],acc=>if p=[] then some (acc,[]) else none
 | c::l,acc=>if p.isPrefixOf (c::l) then some (acc,(c::l).drop p.length) else Zbg p l (acc++[c])
def Zb3 (l:List UInt8):Bool:=l.all fun c=>decide (ZbE c.toNat=1)
def Zbh (f:List UInt8):Option (List UInt8 × List UInt8) :=
 match Zbg [37,115] f [] with
 | none=>none
 | some (a,b)=>if Zb3 (a++b)/\(a++b).length<=5 then some (a,b) else none
def Zbq (l:List UInt8):Bool:=ZbK 3 6 1 l
def Za6 (f:List UInt8):Int :=
 let two:=Zbg [47] f []
 if Zbq f then 1
 else if (match two with|some (a,b)=>Zbq a&&Zbq b|none=>false) then 2
 else if (Zbh f).isSome then 3
 else if f=[37,122] then 4
 else if (ZaY f).isSome||(match two with|some (a,b)=>(ZaY a).isSome&&(ZaY b).isSome|none=>false) then 5
 else 0
def ZdU (f:List UInt8):Option (List UInt8 × List UInt8) :=
 match Zbg [47] f [] with
 | none=>none
 | some (a,b)=>if Za6 f=2\/Za6 f=5 then some (a,b) else none
def ZeW (f:List UInt8)(off save:Int)(letter:List UInt8):List UInt8 × Int :=
 match ZdU f with
 | some (a,b)=>(if save=0 then a else b,0)
 | none =>
  if Za6 f=3 then (match Zbh f with|some (a,b)=>if Zbq (a++letter++b) then (a++letter++b,0) else ([],15)|none=>([],15))
  else if Za6 f=4 then (if ZcH (off+save)=true/\ZaL (off+save)≠[] then (ZaL (off+save),0) else ([],15))
  else if Za6 f=1\/Za6 f=5 then (f,0)
  else ([],15)
def ZbB (f:List UInt8):List (List UInt8)->Int
 | []=>0
 | x::l=>if (ZeW f 0 0 x).2=0 then ZbB f l else (ZeW f 0 0 x).2
def Zek (e:DEra)(l:List DRule):Int :=
 let f:=e.format.data.toList
 if Za6 f=0 then 15
 else if Za6 f=3 then ZbB f (if e.kind=2 then l.map (fun r=>r.letter.data.toList) else [[]])
 else if Za6 f=4\/Za6 f=5 then (if (ZdH e l).2≠0\/(Za6 f=5/\(ZdH e l).1≠f) then 15 else 0)
 else 0
def ZaI (u:DUntil)(least:Int):Int :=
 if least < -10800\/0<least then 2
 else if u.is=false then 4
 else if u.year<1850\/2149<u.year\/ZaH u.at_=false then 3
 else
  let sec:=if u.at_.base=1 then u.at_.sec+least else u.at_.sec
  if (onD u.year u.month u.day).2≠0\/sec < -86400\/172800<sec then 3 else 0
def ZaB (u:DUntil)(least:Int):Int × Int :=
 if ZaI u least≠0 then (0,ZaI u least) else (86400*(onD u.year u.month u.day).1+u.at_.sec+(if u.at_.base=1 then least else 0),0)
structure Zad where
 year:Int
 rule:Int
 nominal:Int
 deriving DecidableEq
def Zad.enc (e:Zad):List Value:=[.int .i64 e.year,.int .i64 e.rule,.int .i64 e.nominal]
def dEv0:Zad:=⟨0,0,0⟩
def lastY (r:DRule):Int:=if r.to=1048576 then 2000000000 else min r.to 2000000000
def onR (least:Int)(r:DRule)(i y:Int):Option Zad :=
 if y<max r.from_ (-2000000000)\/lastY r<y\/ZaH r.at_=false then none
 else if (onD y r.month r.day).2≠0 then none
 else some ⟨y,i,86400*(onD y r.month r.day).1+r.at_.sec+(if r.at_.base=1 then max least (-10800) else 0)⟩
def ordE (a b:Zad):Int:=if a.nominal<b.nominal then -1 else if b.nominal<a.nominal then 1 else if a.rule<b.rule then -1 else if b.rule<a.rule then 1 else if a.year<b.year then -1 else if b.year<a.year then 1 else 0
end Go.Wk
