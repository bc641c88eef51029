/- Parts of the proof. -/
import Derived.Test.YtdlmhmmhdbbliaaGreatDoorV06
import Derived.Test.YtdlmhmmhdbbliaaGreatDoorV05
import Derived.Test.YtdlmhmmhdbbliaaGreatDoorV02
import Derived.Orders
import Derived.Test.YtdlmhmmhdbbliaaGreatDoorV01
set_option maxHeartbeats 4000000
set_option linter.unusedVariables false
set_option linter.unusedSimpArgs false
namespace Go.Proofs.YtdlmhmmhdbbliaaGreatDoor
open Go Go.RowKit Go.Wk
attribute [local irreducible] W RL Does Zau Zak retQ Calls Pu Stp RD Qy Ay
def ofB (l:List Zab)(x:ByteArray):List Zab:=l.filter fun r=>decide (r.name=x)
def Zr7 {α:Type}(e sz:Nat)(enc:α->List Value)(l:List α)(v:Value)(O:List It):Prop:=∃ A c,v = .slice A l.length c/\O=[.row (.slice A l.length c) e sz l.length (l.flatMap enc)]
def Zb8:List Zab->List ByteArray->List ByteArray
 | [],acc=>acc
 | r::l,acc=>if memB r.name acc then Zb8 l acc else Zb8 l (acc++[r.name])
theorem Zmu (x y:ByteArray):∀ l:List ByteArray,memB x (l++[y])=(memB x l||decide (y=x))
 | []=>by simp[memB]
 | z::l=>by simp[memB,Zmu x y l,Bool.or_assoc]
end Go.Proofs.YtdlmhmmhdbbliaaGreatDoor
namespace Go.Proofs.YtdlmhmmhdbbliaaGreatDoor
open Go Go.RowKit Go.Wk
def Zbu (x:ByteArray):List Za5->Nat->Option Nat
 | [],_=>none
 | z::l,k=>if z.name=x then some k else Zbu x l (k+1)
def Zcm (x:ByteArray):List Zcj->Nat->Option Nat
 | [],_=>none
 | z::l,k=>if z.name=x then some k else Zcm x l (k+1)
def Zbd (s:Zai):Nat->List ByteArray->ByteArray->Nat × Int
 | 0,_,_=>(0,11)
 | fuel+1,seen,x =>
  match Zbu x s.zones 0 with
  | some i=>(i,0)
  | none=>match Zcm x s.links 0 with
   | none=>(0,9)
   | some i=>if memB x seen then (0,11) else Zbd s fuel (x::seen) ((s.links[i]?).map (·.target) |>.getD ByteArray.empty)
def ZaU (s:Zai):List Za5->Nat->Option (ZaB × Int)
 | [],_=>none
 | z::l,i=>if ZgU z.name=false then some (⟨2,i,0⟩,9) else if Zbu z.name s.zones 0≠some i then some (⟨2,i,0⟩,10) else ZaU s l (i+1)
def Zbj (s:Zai):List Zcj->Nat->Option (ZaB × Int)
 | [],_=>none
 | l::ls,i =>
  if ZgU l.name=false then some (⟨3,i,0⟩,9)
  else if (Zbu l.name s.zones 0).isSome\/Zcm l.name s.links 0≠some i then some (⟨3,i,0⟩,10)
  else if (Zbu l.target s.zones 0).isNone/\(Zcm l.target s.links 0).isNone then some (⟨3,i,0⟩,9)
  else Zbj s ls (i+1)
def Zbi (s:Zai):List Zcj->Nat->Option (ZaB × Int)
 | [],_=>none
 | l::ls,i=>if (Zbd s (s.links.length+1) [] l.name).2=11 then some (⟨3,i,0⟩,11) else Zbi s ls (i+1)
def ZcD (s:Zai):Option (ZaB × Int):=(ZaU s s.zones 0).or ((Zbj s s.links 0).or (Zbi s s.links 0))
def insE (e:Zad):List Zad->List Zad
 | []=>[e]
 | x::l=>if ordE x e<0 then e::x::l else x::insE e l
def ZkW (least y:Int):List Zab->Nat->List Zad->List Zad
 | [],_,acc=>acc
 | r::l,i,acc=>ZkW least y l (i+1) (match onR least r i y with|some e=>insE e acc|none=>acc)
def ZfM (l:List Zab)(least from_:Int):Nat->List Zad
 | 0=>[]
 | k+1=>ZkW least (from_+k) l 0 (ZfM l least from_ k)
def ZhM:List Zad->Option Zad
 | []=>none
 | [_]=>none
 | a::b::l=>(ZhM (b::l)).or (if a.nominal - b.nominal<259200 then some a else none)
def Zjk (l:List Zab):Option Zad:=ZhM (ZfM l (Zah l) 1850 701)
def evIn (least nominal:Int)(r:Zab)(i y:Int):Nat->Option Zad
 | 0=>none
 | k+1=>match onR least r i y with
  | some e=>if nominal<e.nominal then some e else evIn least nominal r i (y+1) k
  | none=>evIn least nominal r i (y+1) k
def ZcN (least nominal yr:Int):List Zab->Nat->Option Zad->Option Zad
 | [],_,best=>best
 | r::l,i,best =>
  ZcN least nominal yr l (i+1) (match evIn least nominal r i (max (max r.from_ (-2000000000)) (yr - 2)) 20 with
   | none=>best
   | some e=>match best with|none=>some e|some b=>if ordE e b<0 then some e else some b)
def ZgH (l:List Zab)(nominal:Int):Option Zad:=ZcN (Zah l) nominal (ZaA nominal) l 0 none
def farD (l:List Zab)(nominal:Int):Bool :=
 match ZgH l (nominal - 259200) with
 | none=>true
 | some e=>decide (259200<=e.nominal - nominal)
def ZfE (s:Zai):Option (ZaB × Int) :=
 if 2000<s.rules.length then some (⟨1,2000,0⟩,7)
 else if 500<s.zones.length then some (⟨2,500,0⟩,7)
 else match s.zones.findIdx? fun z=>decide (60<z.eras.length) with
  | some i=>some (⟨2,i,60⟩,7)
  | none=>if 1000<s.links.length then some (⟨3,1000,0⟩,7) else if 2000<s.shifts.length then some (⟨4,2000,0⟩,7) else none
def ZdL (set:ByteArray):List Zab->Nat->Nat->ZaB
 | [],_,_=>⟨0,0,0⟩
 | r::l,i,k=>if r.name=set then (match i with|0=>⟨1,k,0⟩|i+1=>ZdL set l i (k+1)) else ZdL set l i (k+1)
def ZcS (rs:List Zab)(x:ByteArray):Option (Nat × Int) :=
 if setB x=false then some (0,9)
 else if (Zfx (ofB rs x)).2≠0 then some (Zfx (ofB rs x))
 else match Zjk (ofB rs x) with|some e=>some (e.rule.toNat,13)|none=>none
def ZdI (rs:List Zab):List ByteArray->Option (ZaB × Int)
 | []=>none
 | x::l=>match ZcS rs x with|some (i,e)=>some (ZdL x rs i 0,e)|none=>ZdI rs l
def ZjL (s:Zai):Option (ZaB × Int):=ZdI s.rules (Zb8 s.rules [])
def ZbK (s:Zai):List ByteArray->List ByteArray->Nat->Option (ZaB × Int)
 | [],_,_=>none
 | x::l,seen,i =>
  let r:=ofB s.rules x
  if r=[] then some (⟨4,i,0⟩,9)
  else if memB x seen then some (⟨4,i,0⟩,10)
  else if Zah r≠0\/(Zdc r).2=false then some (⟨4,i,0⟩,14)
  else ZbK s l (seen++[x]) (i+1)
def Zbb (rs:List Zab)(e:DEra):List Zab:=if e.kind=2 then ofB rs e.set else []
def ZaR (rs:List Zab)(e:DEra):List (Int × ByteArray):=if e.kind=1 then [(e.save,ByteArray.empty)] else if e.kind=2 then (Zbb rs e).map fun r=>(r.save,r.letter) else [(0,ByteArray.empty)]
def Zcl (off save:Int):Bool:=decide (-54000<=off+save)&&decide (off+save<=54000)
def dU0:ZaY:=⟨false,0,0,⟨0,0,0⟩,⟨0,0⟩⟩
def ZgY (e:DEra):Bool:=(!decide (e.kind=1)&&!decide (e.save=0))||(!decide (e.kind=2)&&!decide (e.set=ByteArray.empty))||(!e.til.is&&!decide ({ e.til with is:=false }=dU0))
def ZeV (rs:List Zab)(e:DEra)(first:Bool):Int :=
 if e.kind<0\/2<e.kind then 2
 else if first=true/\e.kind=2 then 12
 else if e.kind=2/\Zbb rs e=[] then 9
 else if e.kind=1/\(e.save<1\/10800<e.save) then 14
 else if Zcl e.off 0=false\/((ZaR rs e).any fun x => !Zcl e.off x.1)=true then 3
 else if ZgY e then 2
 else ZiP e (Zbb rs e)
def dE0:DEra:=⟨0,0,0,ByteArray.empty,ByteArray.empty,dU0⟩
def Zi6 (rs:List Zab)(l:List DEra)(k:Nat):Int :=
 let e:=l.getD k dE0
 if e.til.is≠decide (k+1<l.length) then 12
 else if e.til.is=false then 0
 else
  let least:=Zah (Zbb rs e)
  if ZaW e.til least≠0 then ZaW e.til least
  else
   let n:=(ZaH e.til least).1
   let b:=l.getD (k - 1) dE0
   if 0<k/\((ZaH b.til (Zah (Zbb rs b))).2≠0\/n - (ZaH b.til (Zah (Zbb rs b))).1<259200) then 12
   else if e.kind=2/\farD (Zbb rs e) n=false then 13
   else 0
def addP (x:Int × List UInt8)(l:List (Int × List UInt8)):List (Int × List UInt8):=if x∈l then l else l++[x]
def addA (x:List UInt8)(l:List (List UInt8)):List (List UInt8):=if x∈l then l else l++[x]
def stGo (e:DEra):List (Int × ByteArray)->List (Int × List UInt8) × List (List UInt8)->List (Int × List UInt8) × List (List UInt8)
 | [],acc=>acc
 | x::l,acc =>
  let a:=(ZbR e.format.data.toList e.off x.1 x.2.data.toList).1
  stGo e l (addP (e.off+x.1,a) acc.1,addA a acc.2)
def erGo (rs:List Zab):List DEra->List (Int × List UInt8) × List (List UInt8)->List (Int × List UInt8) × List (List UInt8)
 | [],acc=>acc
 | e::l,acc=>erGo rs l (stGo e (ZaR rs e) acc)
def Zc6:List (List UInt8)->Nat
 | []=>0
 | x::l=>x.length+1+Zc6 l
def Zi0 (rs:List Zab)(z:Za5):Bool:=decide ((erGo rs z.eras ([],[])).1.length<=120)&&decide (Zc6 (erGo rs z.eras ([],[])).2<=250)
def ZdU (rs:List Zab)(l:List DEra)(i:Nat):Nat->Nat->Option (ZaB × Int)
 | 0,_=>none
 | f+1,k =>
  if ZeV rs (l.getD k dE0) (decide (k=0))≠0 then some (⟨2,i,k⟩,ZeV rs (l.getD k dE0) (decide (k=0)))
  else if Zi6 rs l k≠0 then some (⟨2,i,k⟩,Zi6 rs l k)
  else ZdU rs l i f (k+1)
def Zb7 (rs:List Zab):List Za5->Nat->Option (ZaB × Int)
 | [],_=>none
 | z::l,i =>
  if z.eras=[] then some (⟨2,i,0⟩,4)
  else match ZdU rs z.eras i z.eras.length 0 with
   | some x=>some x
   | none=>if Zi0 rs z=false then some (⟨2,i,0⟩,7) else Zb7 rs l (i+1)
def accD (s:Zai):Option (ZaB × Int):=(ZfE s).or ((ZjL s).or ((ZbK s s.shifts [] 0).or ((ZcD s).or (Zb7 s.rules s.zones 0))))
end Go.Proofs.YtdlmhmmhdbbliaaGreatDoor
namespace Go.Wk
open Go Go.RowKit
theorem walkB1 {G G':Prop}(k:G')(h:Hold G'->G:=by intro k;(first|(apply Go.Wk.RL_pu;rfl;exact Go.Wk.PuA)|(apply Go.Wk.RL_st0;refine Go.Wk.stA ?_)|apply Go.Wk.W_seq|apply Go.Wk.W_region|apply Go.Wk.RL_nil|apply Go.Wk.thenQ_n|apply Go.Wk.W_skip|apply Go.Wk.W_ret|apply Go.Wk.W_exit|apply Go.Wk.thenQ_r|apply Go.Wk.thenQ_e|apply Go.Wk.blockQ_n|apply Go.Wk.blockQ_r|apply Go.Wk.blockQ_hit|(apply Go.Wk.blockQ_miss;rfl)|(apply Go.Wk.W_true;rfl)|(apply Go.Wk.W_false;rfl)|(apply Go.Wk.RL_yes;rfl;rfl;rfl)|(apply Go.Wk.RL_no;rfl;rfl;rfl;rfl;rfl)|(apply Go.Wk.W_draw;rfl;decide +kernel)|apply Go.Wk.RD_done|(apply Go.Wk.RD_Q;rfl;rfl;decide +kernel;rfl;rfl;exact Go.Wk.QyA)|(apply Go.Wk.RD_N;rfl;rfl;decide +kernel;rfl;rfl;rfl)|(apply Go.Wk.RD_A;rfl;rfl;decide +kernel;rfl;rfl;first|exact Go.Wk.Ay_alloc|exact Go.Wk.Ay_buildSlice0|(apply Go.Wk.Ay_buildSliceC;rfl;rfl;rfl;rfl;exact Go.Wk.NfA)|(apply Go.Wk.Ay_buildSliceNf;rfl;rfl;rfl;exact Go.Wk.NfA)));exact k.out):G:=h ⟨k⟩
theorem ZhQ {G G':Prop}(k:G')(h:Hold G'->G:=by intro k;refine Go.Wk.walkB1 ?_;(repeat refine Go.Wk.walkB1 ?_);exact k.out):G:=h ⟨k⟩
def Zaj (P:Program)(f:FuncId)(args:List Value)(wr:World)(O:List It)(R:Value->List It->Prop):Prop :=
 ∀ w,Bel wr.heap.size wr w->Zay wr.heap.size O w->Calls P f args.toArray w fun e w'=>∃ v O',e = .returned v/\Bel wr.heap.size wr w'/\Zay wr.heap.size O' w'/\R v O'
theorem ZaG {P:Program}{f:FuncId}{fn:Func}{c:Code}{args:List Value}{wr:World}{O:List It}{R:Value->List It->Prop}{n:Nat}{rs:List ResultVar}(hf:P.funcs[f]?=some fn)(hb:fn.body=some c)(hn:fn.ntmps=n)(hr:fn.results=rs.toArray)
  (ha:Nat.ble args.length n=true) (h:W P n wr c (retQ P wr rs R) (ZfL 0 args) O):Zaj P f args wr O R:=by
 intro w hB hH
 refine calls_of_wp hf hb ?_
 have hst:St n wr (ZfL 0 args) O { tmps:=args.toArray++Array.replicate (fn.ntmps - args.toArray.size) undef,defers:=[] } w:=by
  have ha':args.length<=n:=Nat.le_of_ble_eq_true ha
  refine⟨⟨rfl,by simp;omega,fun t v hv=>?_⟩,hB,hH⟩
  have:=(Zde args 0 t v hv).2
  simp only[Nat.sub_zero]at this
  have hlt:t<args.length:=(List.getElem?_eq_some_iff.1 this).1
  rw[Array.getElem?_append_left (by simpa using hlt)]
  simpa using this
 refine wp_mono (h _ w hst) ?_
 rintro e a w' ⟨fr,O1,hs,hq⟩
 have fin:(∃ vs O',Zo4 P wr fr O1 rs vs/\SubO O' O1/\R (tupV vs) O')->a.defers=[]/\∃ v,(results fn a.tmps).run P w' = .ok v w'/\∃ v' O,Ending.returned v = .returned v'/\Bel wr.heap.size wr w'/\Zay wr.heap.size O w'/\R v' O:=by
  rintro⟨vs,O',h1,h2,h3⟩
  refine⟨hs.sim.defers,(tupV vs),?_,_,O',rfl,hs.old,hs.own.sub h2,h3⟩
  unfold results
  rw[hr,List.mapM_toArray]
  simp only[Sem.run_bind,Sem.run_map]
  rw[Zc8 (P:=P) hs _ (fun _=>rfl) (fun _ _=>rfl) rs vs h1]
  simp only[Result.andThen_ok,Sem.run_pure]
  congr 1
  clear h1 h3
  match vs with
  | []=>rfl
  | [v]=>rfl
  | v::u::r=>simp;rfl
 cases e with
 | ret=>exact fin hq
 | normal=>exact fin hq
 | _=>exact hq.elim
section
variable {P:Program}{n:Nat}{wr:World}{fr:Fr}{O:List It}{ty:TypeId}{pos:String}{af:Array Edge}{dst:Option Tmp}{g:Option (Nat × Bool)}{Kp:Value->List It->Prop}
theorem Zam {f:FuncId}{xs:List Operand}{ts:Array TypeId}{vs:List Value}{O2:List It}{R:Value->List It->Prop}[Body P f](hx:evsO fr xs=some vs)(h:Zaj P f vs wr O2 R)(hO:SubO O2 O)(k:∀ v O',R v O'->Kp v O') :
  Stp P n wr fr O ⟨dst,.call ⟨.value (.func f),xs.toArray,ts⟩,ty,pos,af,g⟩ Kp:=by
 intro a w hs Kn Q hk
 have hrun:(execOp a.eval ⟨dst,.call ⟨.value (.func f),xs.toArray,ts⟩,ty,pos,af,g⟩).run P w = .ok (.enter f vs.toArray) w:=by
  have:=hs.sim.evsO hx
  simp[execOp,resolve,Act.eval,Deferred.ofValue,invoke,Zb1,this]
 unfold Oper.wp
 rw[hrun,Oper.upon_enter]
 refine(h w hs.old (hs.own.sub hO)).mono ?_
 rintro e w' ⟨v,O',rfl,hB,hH,hR⟩
 exact hk v _ w' hB hH (k v O' hR)
theorem ZhZ (N:Nat):∀ (vs cs:List Value) (j:Nat),(lay cs j vs).take N=lay (cs.take N) j vs
 | [],_,_=>rfl
 | v::r,cs,j=>by rw[lay,lay,ZhZ N r,List.take_set]
theorem ZkH {t sz e size m c p:Nat}{ag:Bool}{x y:Operand}{A:Option Addr}{xs xs' vs:List Value}{v:Value}{O':List It}[hT:Ty P t sz ag](hx:ev fr x=some (.pointer (some ((adr A).add p))))(hy:ev fr y=some v)
  (hu:Upd O (.row (.slice A m c) e size m xs) (.row (.slice A m c) e size m xs') O') (hvs:v.cells.toList=vs) (hl:vs.length=sz) (h1:vs.all Value.oneCell'=true) (hp:p+sz<=xs.length) (h0:0<sz) (hc:lay xs p vs=xs')
  (k:Kp undef O'):Stp P n wr fr O ⟨dst,.store t x y,ty,pos,af,g⟩ Kp:=by
 refine Zh6 fun a w hs=>?_
 have hsat:=hs.own.sat _ hu.mem
 obtain⟨hxl,hnn|⟨b,cap,cur,hval,hb0,hg,hmc,hcm,hsz,hcur⟩⟩:=id hsat
 ·obtain⟨_,rfl⟩:=hnn
  simp at hxl
  rw[hxl]at hp
  simp at hp
  omega
 injection hval with hA _ hcc
 subst hA hcc
 have hb:=hs.own.inb _ hu.mem b (by simp[It.S,Value.ownBlock])
 have hxc:xs.length<=cur.size:=by rw[<- hcur,List.length_take,Array.length_toList];omega
 have hg':w.heap[b]?=some (.cells cur.toList.toArray e (0,0)):=by rw[Array.toArray_toList];exact hg
 have had:(adr (some (⟨b,0,none⟩:Addr))).add p=⟨b,p,none⟩:=by
  rw[show adr (some (⟨b,0,none⟩:Addr))=⟨b,0,none⟩ from rfl,Zcd,Nat.zero_add]
 rw[had]at hx
 have hcell:∀ i,w.cell? ⟨b,i,none⟩=cur.toList[i]?:=fun i=>by simp[World.cell?,hg]
 have hfz:∀ i,w.frozen? ⟨b,i,none⟩=false:=fun i=>by simp[World.frozen?,hg]
 have hrun:=Zct (P:=P) (ad:=⟨b,p,none⟩) vs w 0 (fun u hu=>List.all_eq_true.1 h1 u hu) (fun i hi=>by
  rw[Zcd,hcell,hfz]
  refine⟨?_,rfl⟩
  rw[List.getElem?_eq_getElem (by rw[Array.length_toList];omega)]
  rfl)
 refine⟨Za8 w ⟨b,p,none⟩ vs 0,O',?_,?_,?_,k⟩
 ·have hvsz:v.cells.size=sz:=by rw[<- hl,<- hvs];simp
  simp only[execOp,hs.sim.ev hx,hs.sim.ev hy,Instr.storeAt,Instr.sureAddr,Sem.run_bind,Sem.run_pure,Result.andThen_ok,storeVar,Zc0,hvsz,ne_eq,not_true,if_false,hvs,hrun]
 ·refine hs.old.trans ⟨⟨(Zbc vs w 0).1,(Zbc vs w 0).2.1,(Zbc vs w 0).2.2,by rw[Zbp];exact Nat.le_refl _,fun i hi=>Zbq vs w 0 i (by show i≠b;omega)⟩⟩
 ·refine hs.own.upd hu hs.old.size (by rw[Zbp];exact Nat.le_refl _) (fun i _ hi=>Zbq vs w 0 i (fun e=>hi (by rw[e];simp[It.S,Value.ownBlock]))) ?_ (fun i hi=>Or.inl hi)
  have hblk:=Zdt (b:=b) (j:=p) (t:=e) vs cur.toList w 0 hg'
  simp only[Nat.add_zero]at hblk
  subst hc
  refine⟨by rw[lay_length];exact hxl,.inr ⟨b,c,_,rfl,Nat.zero_le _,hblk,hmc,hcm,?_,?_⟩⟩
  ·rw[List.size_toArray,lay_length,Array.length_toList];exact hsz
  ·rw[List.toList_toArray,ZhZ,hcur]
end
section
variable {P:Program}{n:Nat}{wr:World}{fr:Fr}{O:List It}{ty:TypeId}{pos:String}{af:Array Edge}{dst:Option Tmp}{g:Option (Nat × Bool)}{Kp:Value->List It->Prop}
theorem ZnC {t:TypeId}{x ix:Operand}{s:ByteArray}{kk:IntKind}{i:Int}[hS:StringT P t](hx:ev fr x=some (.string s))(hi:ev fr ix=some (.int kk i))(h0:0<=i)(h1:i<s.size):Pu P n wr fr O (.index t x ix) ty (.int .u8 (s.data.toList.getD i.toNat 0).toNat) :=
 fun a w hs _ _ _ _=>by
  have h:=run_index_string (P:=P) (w:=w) t s kk i hS.h
  rw[dif_pos ⟨h0,h1⟩]at h
  have hlt:i.toNat<s.data.toList.length:=by
   have:s.data.size=s.size:=rfl
   rw[Array.length_toList,this]
   omega
  have e:s.data.toList.getD i.toNat 0=s[i.toNat]'(by omega):=by
   rw[List.getD_eq_getElem?_getD,List.getElem?_eq_getElem hlt]
   rfl
  simp only[execOp,hs.sim.ev hx,hs.sim.ev hi,Sem.run_bind,h,Result.andThen_ok,e]
  rfl
theorem Zu5 {t e sz bytes:Nat}{x y:Operand}{A:Option Addr}{len cap:Nat}{l:Int}[hE:ElemZ P t e sz bytes](hx:ev fr x=some (.slice A len cap))(hy:ev fr y=some (.int .i64 l))(h0:0<=l)(h1:l<=len)(h2:l<cap) :
  Pu P n wr fr O (.slice t x (some y) none none) ty (.slice (A.map (·.add (l.toNat*sz))) (len - l.toNat) (cap - l.toNat)):=fun a w hs _ _ _ _=>by
 obtain⟨i,z,ht,hi,hz,hsz,hby,hzs,hpos⟩:=ElemZ.parts hE.h
 have hne:¬ (cap=l.toNat):=by omega
 simp[execOp,hs.sim.ev hx,hs.sim.ev hy,Instr.sliceAt,Instr.slice,run_underlying ht,Instr.sliceBounds,run_sliceBound,h0,h1,sizeOf,typeInfo,hi,hne,hsz]
end
section
variable {P:Program}{n:Nat}{wr:World}{fr:Fr}{O:List It}{ty:TypeId}{pos:String}{af:Array Edge}{dst:Option Tmp}{g:Option (Nat × Bool)}{Kp:Value->List It->Prop}
theorem ZjM {e size m c p:Nat}{A:Option Addr}{xs xs' vs:List Value}{O':List It}{a:Act}{w:World}(hs:St n wr fr O a w)
  (hu:Upd O (.row (.slice A m c) e size m xs) (.row (.slice A m c) e size m xs') O') (h1:vs.all Value.oneCell'=true) (hp:p+vs.length<=xs.length) (h0:0<vs.length) (hc:lay xs p vs=xs') :
  ∃ w',(storeCells ((adr A).add p) vs 0).run P w = .ok () w'/\Bel wr.heap.size wr w'/\Zay wr.heap.size O' w':=by
 have hsat:=hs.own.sat _ hu.mem
 obtain⟨hxl,hnn|⟨b,cap,cur,hval,hb0,hg,hmc,hcm,hsz,hcur⟩⟩:=id hsat
 ·obtain⟨_,rfl⟩:=hnn
  simp at hxl
  subst hxl
  simp only[List.length_nil]at hp
  omega
 injection hval with hA _ hcc
 subst hA hcc
 have hb:=hs.own.inb _ hu.mem b (by simp[It.S,Value.ownBlock])
 have hxc:xs.length<=cur.size:=by rw[<- hcur,List.length_take,Array.length_toList];omega
 have hg':w.heap[b]?=some (.cells cur.toList.toArray e (0,0)):=by rw[Array.toArray_toList];exact hg
 have had:(adr (some (⟨b,0,none⟩:Addr))).add p=⟨b,p,none⟩:=by
  rw[show adr (some (⟨b,0,none⟩:Addr))=⟨b,0,none⟩ from rfl,Zcd,Nat.zero_add]
 rw[had]
 have hcell:∀ i,w.cell? ⟨b,i,none⟩=cur.toList[i]?:=fun i=>by simp[World.cell?,hg]
 have hfz:∀ i,w.frozen? ⟨b,i,none⟩=false:=fun i=>by simp[World.frozen?,hg]
 have hrun:=Zct (P:=P) (ad:=⟨b,p,none⟩) vs w 0 (fun u hu=>List.all_eq_true.1 h1 u hu) (fun i hi=>by
  rw[Zcd,hcell,hfz]
  refine⟨?_,rfl⟩
  rw[List.getElem?_eq_getElem (by rw[Array.length_toList];omega)]
  rfl)
 refine⟨Za8 w ⟨b,p,none⟩ vs 0,hrun,?_,?_⟩
 ·refine hs.old.trans ⟨⟨(Zbc vs w 0).1,(Zbc vs w 0).2.1,(Zbc vs w 0).2.2,by rw[Zbp];exact Nat.le_refl _,fun i hi=>Zbq vs w 0 i (by show i≠b;omega)⟩⟩
 ·refine hs.own.upd hu hs.old.size (by rw[Zbp];exact Nat.le_refl _) (fun i _ hi=>Zbq vs w 0 i (fun e=>hi (by rw[e];simp[It.S,Value.ownBlock]))) ?_ (fun i hi=>Or.inl hi)
  have hblk:=Zdt (b:=b) (j:=p) (t:=e) vs cur.toList w 0 hg'
  simp only[Nat.add_zero]at hblk
  subst hc
  refine⟨by rw[lay_length];exact hxl,.inr ⟨b,c,_,rfl,Nat.zero_le _,hblk,hmc,hcm,?_,?_⟩⟩
  ·rw[List.size_toArray,lay_length,Array.length_toList];exact hsz
  ·rw[List.toList_toArray,ZhZ,hcur]
theorem Zr2 {t e sz bytes p k m c cp:Nat}{x:Operand}{ad:Addr}{xs:List Value}{z:Value}{O':List It}[hE:ElemZ P t e sz bytes][hz:ZeroV P e z](hx:ev fr x=some (.slice (some (ad.add p)) k cp))
  (hu:Upd O (.row (.slice (some ad) m c) e sz m xs) (.row (.slice (some ad) m c) e sz m (lay xs p (Builtin.zeroCells z.cells k).toList)) O') (h1:(Builtin.zeroCells z.cells k).toList.all Value.oneCell'=true) (hk:0<k) (hp:p+k*sz<=xs.length)
  (kk:Kp (.tuple #[]) O'):Stp P n wr fr O ⟨dst,.call ⟨.builtin .clear,#[x],#[t]⟩,ty,pos,af,g⟩ Kp:=by
 refine Zce fun a w hs=>?_
 obtain⟨i,z',ht,hi,hz',hsz,hby,hzs,hpos⟩:=ElemZ.parts hE.h
 have hzz:z'=z:=by
  have h:=hz.h
  unfold ZyK at h
  rw[hi]at h
  exact Option.some.inj (hz'.symm.trans h)
 subst hzz
 have hlen:(Builtin.zeroCells z'.cells k).toList.length=k*sz:=by rw[Array.length_toList,size_zeroCells,hzs]
 obtain⟨w',hr,h2,h3⟩:=ZjM (P:=P) hs hu h1 (by rw[hlen];exact hp) (by rw[hlen];exact Nat.mul_pos hk hpos) rfl
 refine⟨.tuple #[],w',O',?_,h2,h3,kk⟩
 obtain⟨k,rfl⟩:∃ k',k=k'+1:=⟨k - 1,by omega⟩
 have hr':(storeCells (ad.add p) (Builtin.zeroCells z'.cells (k+1)).toList 0).run P w = .ok () w':=hr
 simp[execOp,resolve,invoke,builtin,Builtin.clear_,hs.sim.ev hx,run_underlying ht,Zgg,hr']
theorem ZuH {ops:Array Oper}{l0:List Oper}{K:Fr->List It->Prop}{e size m c:Nat}{A:Option Addr}{xs:List Value}{O':List It}(k:Nat)(hk:k<=m)(hu:Upd O (.row (.slice A m c) e size m xs) (.row (.slice A k c) e size k (xs.take (k*size))) O')
  (h:RL P n wr ops l0 K fr O'):RL P n wr ops l0 K fr O:=fun a w hs=>h a w ⟨hs.sim,hs.old,by
 refine hs.own.upd hu hs.old.size (Nat.le_refl _) (fun _ _ _=>rfl) ?_ (fun i hi=>?_)
 ·have hsat:=hs.own.sat _ hu.mem
  obtain⟨hxl,hnn|⟨b,cap,cur,hval,hb0,hg,hmc,hcm,hsz,hcur⟩⟩:=hsat
  ·obtain⟨hv,rfl⟩:=hnn
   obtain rfl:k=0:=by omega
   injection hv with h1 _ h3
   subst h1 h3
   exact⟨by simp,.inl ⟨rfl,rfl⟩⟩
  ·injection hval with hA _ hcc
   subst hA hcc
   refine⟨?_,.inr ⟨b,c,cur,rfl,Nat.zero_le _,hg,by omega,hcm,hsz,?_⟩⟩
   ·have hle:k*size<=m*size:=Nat.mul_le_mul_right size hk
    rw[List.length_take,hxl]
    omega
   ·have hle:k*size<=m*size:=Nat.mul_le_mul_right size hk
    rw[<- hcur,List.take_take,Nat.min_eq_left hle]
 ·left
  simp only[It.S,Value.ownBlock]at hi ⊢
  cases A with
  | none=>exact hi
  | some a=>exact hi⟩
end
theorem Zv1 {P:Program}{o:Oper}{a:Act}{w:World}{K K':Act->World->Prop}{Q Q':Exit->Act->World->Prop}(h:∀ a w,K a w->K' a w)(hq:∀ e a w,Q e a w->Q' e a w)(hh:o.wp P a w K Q):o.wp P a w K' Q':=by
 unfold Oper.wp at *
 generalize (execOp a.eval o).run P w=r at *
 cases r with
 | ok n w' =>
  cases n <;> simp only[Oper.upon]at hh ⊢ <;>
   first
    | exact h _ _ hh
    | exact Calls.mono hh (fun e w'' he=>by cases e <;> first|exact h _ _ he|exact hq _ _ _ he|exact(fun⟨a,w,h⟩=>⟨a,w,hq _ _ _ h⟩:LetsOut Q->LetsOut Q') he)
    | exact Rows.mono hh (fun _ _ he=>h _ _ he)
 | halt x w'=>cases x <;> simp only[Oper.upon]at hh ⊢ <;> first|exact hq _ _ _ hh|exact hh
theorem ZfQ {P:Program}{ops:Array Oper}{Q Q':Exit->Act->World->Prop}(hq:∀ e a w,Q e a w->Q' e a w):∀ (l:List Oper) (a:Act) (w:World),wpList P ops Q l a w->wpList P ops Q' l a w
 | [],a,w,h=>hq _ _ _ h
 | o::l,a,w,h=>by
  unfold wpList at h ⊢
  split
  ·rename_i hw
   rw[if_pos hw]at h
   exact h.imp (Zv1 (ZfQ hq l) hq) (fun⟨h1,a,w,h2⟩=>⟨h1,a,w,hq _ _ _ h2⟩)
  ·rename_i hw
   rw[if_neg hw]at h
   exact ZfQ hq l _ _ h
section
variable {P:Program}{n:Nat}{wr:World}{ops:Array Oper}{fr:Fr}{O:List It}{K:Fr->List It->Prop}{ty:TypeId}
theorem ZzO {l:List Oper}(I:Fr->List It->Prop)(h1:RL P n wr ops l I fr O)(h2:∀ fr' O',I fr' O'->K fr' O'):RL P n wr ops l K fr O :=
 fun a w hs=>ZfQ (fun _ _ _ ⟨h3,fr',O',h4,h5⟩=>⟨h3,fr',O',h4,h2 fr' O' h5⟩) l a w (h1 a w hs)
theorem Zxh {t t':TypeId}{x:Operand}{kk:IntKind}{i:Int}{sz:Nat}{ag:Bool}[Ty P t sz ag][IntT P t' .u8](hx:ev fr x=some (.int kk i))(h0:0<=i)(h1:i<=255):Pu P n wr fr O (.convert t t' x) ty (.int .u8 i):=by
 have:=Pu_convI (P:=P) (n:=n) (wr:=wr) (O:=O) (ty:=ty) (t:=t) (t':=t') hx
 rwa[show IntKind.u8.wrap i=i from IntWalk.u8_in i ⟨h0,h1⟩]at this
end
theorem Zba {P:Program}{n:Nat}{wr:World}{fr:Fr}{O:List It}{ty:TypeId}{t sz e size p m c:Nat}{x:Operand}{A:Option Addr}{xs vs:List Value}{R:List It}[Ty P t sz true](hx:ev fr x=some (.pointer (some ((adr A).add p))))
  (hp:Pick (.row (.slice A m c) e size m xs) O R) (hv:∀ j v,vs[j]?=some v->xs[p+j]?=some v) (hl:vs.length=sz):Pu P n wr fr O (.load t x) ty (.agg vs.toArray) :=
 ZgP hx hl fun w _ hO j v hj=>by
  rw[Za6]
  exact(Za0 (hO.of hp) (hv j v hj)).2
theorem ZaI {P:Program}{n:Nat}{wr:World}{fr:Fr}{O:List It}{ty:TypeId}{t e sz bytes:Nat}{x ix:Operand}{A:Option Addr}{len cap:Nat}{kk:IntKind}{i:Int}[hE:ElemT P t e sz bytes](hx:ev fr x=some (.slice A len cap))(hi:ev fr ix=some (.int kk i))
  (h0:0<=i) (h1:i<len) (hA:∀ w,Bel wr.heap.size wr w->Zay wr.heap.size O w->A≠none):Pu P n wr fr O (.indexAddr t x ix) ty (.pointer (some ((adr A).add (i.toNat*sz)))) :=
 fun a w hs=>Pu_indexAddr hx hi h0 h1 (hA w hs.old hs.own) a w hs
section
variable {P:Program}{n:Nat}{wr:World}{fr:Fr}{O:List It}{ty:TypeId}{pos:String}{af:Array Edge}{dst:Option Tmp}{g:Option (Nat × Bool)}{Kp:Value->List It->Prop}
theorem ZbG {f:FuncId}{gx:Operand}{xs:List Operand}{ts:Array TypeId}{us vs cs:List Value}{O2:List It}{R:Value->List It->Prop}[Body P f](hg:ev fr gx=some (.func (.func f) us.toArray cs.toArray))(hx:evsO fr xs=some vs)(h:Zaj P f (us++vs++cs) wr O2 R)(hO:SubO O2 O)(k:∀ v O',R v O'->Kp v O') :
  Stp P n wr fr O ⟨dst,.call ⟨.value gx,xs.toArray,ts⟩,ty,pos,af,g⟩ Kp:=by
 intro a w hs Kn Q hk
 have hrun:(execOp a.eval ⟨dst,.call ⟨.value gx,xs.toArray,ts⟩,ty,pos,af,g⟩).run P w = .ok (.enter f (us++vs++cs).toArray) w:=by
  have:=hs.sim.evsO hx
  simp[execOp,resolve,hs.sim.ev hg,Deferred.ofValue,invoke,Zb1,this]
 unfold Oper.wp
 rw[hrun,Oper.upon_enter]
 refine(h w hs.old (hs.own.sub hO)).mono ?_
 rintro e w' ⟨v,O',rfl,hB,hH,hR⟩
 exact hk v _ w' hB hH (k v O' hR)
end
theorem Ze2 {P:Program}{n:Nat}{wr:World}{fr:Fr}{O:List It}{ty:TypeId}{x y:Operand}{ts:Array TypeId}{k:IntKind}{i j:Int}(hx:ev fr x=some (.int k i))(hy:ev fr y=some (.int k j)):Pu P n wr fr O (.call ⟨.builtin .min,#[x,y],ts⟩) ty (.int k (if j<i then j else i)) :=
 fun a w hs _ _ _ _=>by simp[execOp,resolve,invoke,builtin,Builtin.min_,Builtin.min2,hs.sim.ev hx,hs.sim.ev hy]
section
variable {P:Program}{n:Nat}{wr:World}{fr:Fr}{O:List It}{ty:TypeId}
theorem Zz0 {t t':TypeId}{x y:Operand}{kk:IntKind}{i j:Int}(hx:ev fr x=some (.int kk i))(hy:ev fr y=some (.int kk j)):Pu P n wr fr O (.binOp .and t x y t') ty (.int kk (kk.wrap (BitVec.ofInt kk.bits i &&& BitVec.ofInt kk.bits j).toNat)) :=
 fun a w hs _ _ _ _=>by simp[execOp,hs.sim.ev hx,hs.sim.ev hy,eqGuard,binOp,Op.intBits]
end
theorem Does.monoO {P:Program}{f:FuncId}{args:List Value}{w:World}{R R':Value->List It->Prop}(h:Does P f args w R)(hr:∀ v O,R v O->∃ O',R' v O'/\∀ base w',Zay base O w'->Zay base O' w'):Does P f args w R' :=
 Calls.mono h fun _ _ ⟨v,O,h1,h2,h3,h4⟩=>by
  obtain⟨O',h5,h6⟩:=hr v O h4
  exact⟨v,O',h1,h2,h6 _ _ h3,h5⟩
section
variable {P:Program}{n:Nat}{wr:World}{fr:Fr}{O:List It}{ty:TypeId}
theorem Zu8 {t t':TypeId}{x y:Operand}{i j:Int}(hx:ev fr x=some (.int .u8 i))(hy:ev fr y=some (.int .u8 j))(h:0<=i+j/\i+j<=255):Pu P n wr fr O (.binOp .add t x y t') ty (.int .u8 (i+j)):=by
 have:=ZlJ (P:=P) (n:=n) (wr:=wr) (O:=O) (ty:=ty) (t:=t) (t':=t') hx hy
 rwa[IntWalk.u8_in _ h]at this
end
section
variable {P:Program}{n:Nat}{wr:World}{fr:Fr}{O:List It}{ty:TypeId}{pos:String}{af:Array Edge}{dst:Option Tmp}{g:Option (Nat × Bool)}{Kp:Value->List It->Prop}
end
theorem ZlH {P:Program}{n:Nat}{wr:World}{fr:Fr}{O:List It}{ty:TypeId}{s f off sz p:Nat}{ag:Bool}{x:Operand}{A:Option Addr}[FieldAt P s f off sz ag](hx:ev fr x=some (.pointer (some ((adr A).add p)))):Pu P n wr fr O (.fieldAddr s x f) ty (.pointer (some ((adr A).add (p+off)))):=by
 have h:=Pu_fieldAddr (P:=P) (n:=n) (wr:=wr) (O:=O) (ty:=ty) (s:=s) (f:=f) hx
 rwa[Za6]at h
section
variable {P:Program}{n:Nat}{wr:World}{fr:Fr}{O:List It}{ty:TypeId}{pos:String}{af:Array Edge}{dst:Option Tmp}{g:Option (Nat × Bool)}{Kp:Value->List It->Prop}
theorem Zju {t sz e size p q m c:Nat}{x:Operand}{A:Option Addr}{xs:List Value}{v:Value}{R:List It}[Ty P t sz false](hx:ev fr x=some (.pointer (some (((adr A).add p).add q))))
  (hp:Pick (.row (.slice A m c) e size m xs) O R) (hv:xs[p+q]?=some v):Pu P n wr fr O (.load t x) ty v :=
 ZlG (by rw[<- Za6];exact hx) hp hv
end
end Go.Wk
namespace Go.Proofs.YtdlmhmmhdbbliaaGreatDoor
open Go Go.RowKit Go.Wk
def fnV (f:Nat):Value := .func (.func f) #[] #[]
def ZmL:List Value:=[.bool false,.bool true,fnV 299,.bool true,.bool false,fnV 300,.bool true,.bool true,fnV 302,.bool true,.bool true,fnV 304]
def ZgA:List Value:=[fnV 306,.int .i64 3,fnV 308,.int .i64 12,fnV 309,.int .i64 3,fnV 311,.int .i64 3,fnV 313,.int .i64 14,fnV 314,.int .i64 15]
structure Glob (w:World):Prop where
 bef:Zal w ⟨0,0,none⟩ (ZaN.map fun n => .int .i64 n)
 kin:Zal w ⟨3,3,none⟩ ZmL
 con:Zal w ⟨6,0,none⟩ ZgA
theorem Glob.up {w w':World}(h:Glob w)(hb:Bel w.heap.size w w'):Glob w' :=
 ⟨h.bef.up hb (Nat.le_refl _),h.kin.up hb (Nat.le_refl _),h.con.up hb (Nat.le_refl _)⟩
end Go.Proofs.YtdlmhmmhdbbliaaGreatDoor
namespace Go.Wk
open Go Go.RowKit
theorem ZpJ (a b:Int)(hb:0<b):(a.tmod b<0->a.tdiv b - 1=a / b/\a.tmod b+b=a % b)/\(¬ a.tmod b<0->a.tdiv b=a / b/\a.tmod b=a % b):=by
 have h1:=Int.mul_tdiv_add_tmod a b
 have h2:=Int.tmod_lt_of_pos a hb
 have h3:=Int.lt_tmod_of_pos a hb
 have key:∀ q r:Int,b*q+r=a->0<=r->r<b->q=a / b/\r=a % b:=fun q r h0 h4 h5=>by
  have:=(Int.ediv_emod_unique (a:=a) (r:=r) (q:=q) hb).2 ⟨by omega,h4,h5⟩
  exact⟨this.1.symm,this.2.symm⟩
 constructor
 ·intro h
  exact key _ _ (by rw[Int.mul_sub];omega) (by omega) (by omega)
 ·intro h
  exact key _ _ h1 (by omega) h2
theorem Zsu (a b:Int):a.tmod b=0↔a % b=0:=by rw[<- Int.dvd_iff_tmod_eq_zero,<- Int.dvd_iff_emod_eq_zero]
theorem Zsx (a b:Int) : -(a.natAbs:Int)<=a.tdiv b/\a.tdiv b<=a.natAbs:=by
 have h1:=Int.natAbs_tdiv_le_natAbs a b
 omega
section
variable {P:Program}{n:Nat}{wr:World}{fr:Fr}{O:List It}{ty:TypeId}
theorem ZzU {t t':TypeId}{x y:Operand}{i j:Int}(hx:ev fr x=some (.int .i64 i))(hy:ev fr y=some (.int .i64 j))(hj:j≠0)(hn:i.natAbs<=9223372036854775807):Pu P n wr fr O (.binOp .quo t x y t') ty (.int .i64 (i.tdiv j)):=by
 have:=Pu_quo (P:=P) (n:=n) (wr:=wr) (O:=O) (ty:=ty) (t:=t) (t':=t') hx hy hj
 have hb:=Zsx i j
 rwa[ZbB (by omega)]at this
theorem Zpe {x y:Operand}{ts:Array TypeId}{k:IntKind}{i j:Int}(hx:ev fr x=some (.int k i))(hy:ev fr y=some (.int k j)):Pu P n wr fr O (.call ⟨.builtin .max,#[x,y],ts⟩) ty (.int k (if i<j then j else i)) :=
 fun a w hs _ _ _ _=>by simp[execOp,resolve,invoke,builtin,Builtin.max_,Builtin.max2,hs.sim.ev hx,hs.sim.ev hy]
theorem ZaT {t len e sz:Nat}{ag:Bool}{x ix:Operand}{ad:Addr}{kk:IntKind}{i:Int}[hA:ArrT P t len e sz ag](hx:ev fr x=some (.pointer (some ad)))(hi:ev fr ix=some (.int kk i))(h0:0<=i)(h1:i<len) :
  Pu P n wr fr O (.indexAddr t x ix) ty (.pointer (some (ad.add (i.toNat*sz)))) :=
 fun a w hs _ _ _ _=>by
  have h:=hA.h
  unfold ZkF at h
  split at h
  ·rename_i len' e' hu
   split at h
   ·rename_i sz' ag' ht
    simp only[Option.some.injEq,Prod.mk.injEq]at h
    obtain⟨rfl,rfl,rfl,rfl⟩:=h
    obtain⟨inf,dd,hinf,hsz,_,_⟩:=Ty.parts ht
    simp[execOp,hs.sim.ev hx,hs.sim.ev hi,Instr.indexAt,asIntOf,run_underlying hu,Instr.sureAddr,h0,h1,sizeOf,ZaK hinf,hsz]
   ·cases h
  ·cases h
end
section
variable {P:Program}{n:Nat}{wr:World}{ops:Array Oper}{rest:List Oper}{K:Fr->List It->Prop}{fr:Fr}{O:List It}{ty:TypeId}{pos:String}{af:Array Edge}
theorem RL_und {d':Nat}{op:Op}{j:Nat}{b:Bool}{oj:Oper}{d:Nat}(hj:ops[j]?=some oj)(hd:oj.dst=some d)(hb:look fr d=some undef)(hdn:Nat.ble (d'+1) n=true)
  (k:RL P n wr ops rest K ((d',undef)::fr) O):RL P n wr ops (⟨some d',op,ty,pos,af,some (j,b)⟩::rest) K fr O:=by
 intro a w hs
 have:=k (a.put (some d') undef) w ⟨hs.sim.put hdn undef,hs.old,hs.own⟩
 have hw:Region.wanted (⟨some d',op,ty,pos,af,some (j,b)⟩:Oper) (yielded ops a.tmps)=false:=by
  have hy:yielded ops a.tmps j=none:=by simp[yielded,hj,hd,hs.sim.at_ d _ hb,undef]
  simp only[Region.wanted,hy]
  cases b <;> rfl
 simp only[wpList,hw]
 exact this
end
def yN (r:Nat):Nat:=(r - r / 1460+r / 36524 - r / 146096) / 365
def okYN (r:Nat):Bool:=Nat.ble (yN r) 399&&Nat.ble (yN r*365+yN r / 4 - yN r / 100) r&&Nat.ble (r - (yN r*365+yN r / 4 - yN r / 100)) 366&&(Nat.blt r ((yN r+1)*365+(yN r+1) / 4 - (yN r+1) / 100)||Nat.beq (yN r) 399)
def Zw6:Nat->Nat->Bool
 | 0,_=>true
 | k+1,r=>okYN r&&Zw6 k (r+1)
theorem Znq:∀ (k r i:Nat),Zw6 k r=true->i<k->okYN (r+i)=true
 | 0,_,_,_,h=>by omega
 | k+1,r,i,h,hi=>by
  rw[Zw6,Bool.and_eq_true]at h
  cases i with
  | zero=>exact h.1
  | succ i =>
   have:=Znq k (r+1) i h.2 (by omega)
   rwa[show r+1+i=r+(i+1) by omega]at this
theorem Zuw:∀ c,c<1461->Zw6 (if c=1460 then 97 else 100) (100*c)=true:=by decide +kernel
theorem Zsg (r:Nat):ZcR (r:Int)=(yN r:Nat):=by
 unfold ZcR yN
 omega
theorem Zsh (k:Nat)(h1:k<146097):okYN k=true:=by
 have h:=Znq _ (100*(k / 100)) (k % 100) (Zuw _ (by omega)) (by split <;> omega)
 rwa[show 100*(k / 100)+k % 100=k by omega]at h
theorem ZpA (r:Int)(h0:0<=r)(h1:r<146097):0<=ZcR r/\ZcR r<=399/\0<=r - (ZcR r*365+ZcR r / 4 - ZcR r / 100)/\r - (ZcR r*365+ZcR r / 4 - ZcR r / 100)<=366:=by
 obtain⟨k,rfl⟩:=Int.eq_ofNat_of_zero_le h0
 have h:=Zsh k (by omega)
 simp only[okYN,Bool.and_eq_true,Nat.ble_eq]at h
 rw[Zsg]
 omega
end Go.Wk
