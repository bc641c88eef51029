/- Parts of the proof. -/
import Derived.Test.YtpipekfmecikmaaGreatDoorV09
import Derived.Laws.Externs
import Derived.Test.YtpipekfmecikmaaGreatDoorV06
import Derived.Scope
import Derived.Laws.IdiomStrings
import Derived.RangeFuncIn
import Derived.RangeFuncLeaves
import Derived.RangeFuncRecord
import Derived.RangeFuncSeq
import Derived.TacticsIn
import Derived.ControlIn
import Derived.RangeFuncCalls
import Derived.Maps.RangeRun
import Derived.ChangeMaps4
set_option maxHeartbeats 4000000
set_option linter.unusedVariables false
set_option linter.unusedSimpArgs false
namespace Go.Proofs.YtpipekfmecikmaaGreatDoor
open Go Go.RowKit Go.Wk
attribute [local irreducible] W RL Does Zat Zaj retQ Calls Pu Stp RD Qy Ay Zak
theorem Zmg (a b:Zad)(w:World):Does Tryz.prog 83 [.agg (Zad.enc a).toArray,.agg (Zad.enc b).toArray] w (fun v O=>v = .int .i64 (ordE b a)/\O=[]):=by
 have h:=fun w'=>Zjg b a w'
 obtain⟨y,r,n⟩:=a
 obtain⟨y2,r2,n2⟩:=b
 show Does _ _ [.agg #[.int .i64 y,.int .i64 r,.int .i64 n],.agg #[.int .i64 y2,.int .i64 r2,.int .i64 n2]] w _
 refine Zaa Tryz.func83 rfl rfl rfl rfl ?_
 repeat (first|(refine js ?_;(first|(refine Zab (fun w' _=>h w') ?_)|(refine bx ?_;intro bk)))|refine walk ?_)
 exact rtA
theorem Zq1 (A:Option Addr)(c:Nat)(l:List DRule)(yr nominal:Int)(b1 b2 b3:Nat)(w:World)(hG:Glob w)(hA:RdSl w A c DRule.enc 11 l)(hn:l.length<=1000000)(hR:∀ r∈l,(-4611686018427387904<=r.save/\r.save<=4611686018427387904)/\(r.from_<=4611686018427387904/\-4611686018427387904<=r.to))
  (hy : -2000000000<=yr/\yr<=2000000000) (c1:Zau w ⟨b1,0,none⟩ [.slice A l.length c]) (c2:Zau w ⟨b2,0,none⟩ [.int .i64 yr]) (c3:Zau w ⟨b3,0,none⟩ [.int .i64 nominal]) :
  Does Tryz.prog 79 [.slice A l.length c,.func (.func 80) #[] #[.pointer (some ⟨b1,0,none⟩),.pointer (some ⟨b2,0,none⟩),.pointer (some ⟨b3,0,none⟩)],.func (.func 83) #[] #[]] w
   (fun v O=>v = .tuple #[evV (Zer (Zah l) nominal yr l 0 none),.bool (Zer (Zah l) nominal yr l 0 none).isSome]/\O=[]):=by
 have haf:=fun(i:Nat) r (hi:l[i]?=some r) w' (hw:Bel w.heap.size w w')=>Zmh A c l i r yr nominal b1 b2 b3 w' (hG.up hw) (hA.up hw) hi hn (fun r hr=>(hR r hr).1) hy (hR r (List.mem_of_getElem? hi)).2.2 (c1.up hw (Nat.le_refl _)) (c2.up hw (Nat.le_refl _)) (c3.up hw (Nat.le_refl _))
 obtain⟨res,hres⟩:∃ res,Zer (Zah l) nominal yr l 0 none=res:=⟨_,rfl⟩
 rw[hres]
 generalize Zah l=least at *
 clear hA hR c1 c2 c3
 refine Zaa Tryz.func79 rfl rfl rfl rfl ?_
 repeat (first|(refine js ?_;(refine bx ?_;intro bk))|refine walk ?_)
 rename_i b6
 refine Zai [(13,.slice A l.length c),(1,.func (.func 80) #[] #[.pointer (some ⟨b1,0,none⟩),.pointer (some ⟨b2,0,none⟩),.pointer (some ⟨b3,0,none⟩)]),(2,.func (.func 83) #[] #[]),(8,.pointer (some ⟨bk,0,none⟩)),(6,.pointer (some ⟨b6,0,none⟩)),(14,.int .i64 l.length)] [.blk b6 [.int .i64 0,.int .i64 0,.int .i64 0] 91]
  (fun g:BG=>[(15,.int .i64 g.k),(9,.bool g.b.isSome)]) (fun g=>[.blk bk (evC g.b) 91]) (fun g=>g.k<=l.length/\Zer least nominal yr (l.drop g.k) g.k g.b=res) (fun g=>l.length - g.k) ⟨0,none⟩ SFA SOA ⟨Nat.zero_le _,hres⟩ ?_
 rintro⟨k,b⟩ ⟨hk,hi⟩
 dsimp only at hk hi ⊢
 repeat (first|(refine js ?_;(refine bx ?_;intro bk))|refine walk ?_)
 refine Zaf rfl (fun h=>?_) (fun h=>?_)
 ·have hlt:k<l.length:=by simpa using h
  have ho:=haf k _ (List.getElem?_eq_getElem hlt)
  rw[Zag hlt,Zer]at hi
  generalize beIn least nominal l[k] k (min (lastY l[k]) (yr+2)) 20=o at *
  have hord:=fun e e2 w'=>Zmg e e2 w'
  rcases o with _|⟨ey,er,en⟩ <;> rcases b with _|⟨by_,br,bn⟩ <;> simp only[evV,evC,Zad.enc,dEv0,Option.isSome]at ho hi ⊢
  ·repeat (first|refine und ?_|(refine js ?_;(first|(apply Zay (f:=80) (us:=[]) (vs:=[.int .i64 k]) (cs:=[.pointer (some ⟨b1,0,none⟩),.pointer (some ⟨b2,0,none⟩),.pointer (some ⟨b3,0,none⟩)]) (h:=fun w' hw _=>ho w' hw);rfl;rfl;rintro v O' ⟨rfl,rfl⟩)|(refine bx ?_;intro bk)))|refine walk ?_)
   exact⟨⟨k+1,none⟩,OA,⟨OA,hi⟩,SFA,SOA⟩
  ·repeat (first|refine und ?_|(refine js ?_;(first|(apply Zay (f:=80) (us:=[]) (vs:=[.int .i64 k]) (cs:=[.pointer (some ⟨b1,0,none⟩),.pointer (some ⟨b2,0,none⟩),.pointer (some ⟨b3,0,none⟩)]) (h:=fun w' hw _=>ho w' hw);rfl;rfl;rintro v O' ⟨rfl,rfl⟩)|(refine bx ?_;intro bk)))|refine walk ?_)
   exact⟨⟨k+1,some ⟨by_,br,bn⟩⟩,OA,⟨OA,hi⟩,SFA,SOA⟩
  ·repeat (first|refine und ?_|(refine js ?_;(first|(apply Zay (f:=80) (us:=[]) (vs:=[.int .i64 k]) (cs:=[.pointer (some ⟨b1,0,none⟩),.pointer (some ⟨b2,0,none⟩),.pointer (some ⟨b3,0,none⟩)]) (h:=fun w' hw _=>ho w' hw);rfl;rfl;rintro v O' ⟨rfl,rfl⟩)|(refine bx ?_;intro bk)))|refine walk ?_)
   exact⟨⟨k+1,some ⟨ey,er,en⟩⟩,OA,⟨OA,hi⟩,SFA,SOA⟩
  ·repeat (first|refine und ?_|(refine js ?_;(first|(apply Zay (f:=80) (us:=[]) (vs:=[.int .i64 k]) (cs:=[.pointer (some ⟨b1,0,none⟩),.pointer (some ⟨b2,0,none⟩),.pointer (some ⟨b3,0,none⟩)]) (h:=fun w' hw _=>ho w' hw);rfl;rfl;rintro v O' ⟨rfl,rfl⟩)|(apply Zay (f:=83) (us:=[]) (cs:=[]) (vs:=[.agg #[.int .i64 ey,.int .i64 er,.int .i64 en],.agg #[.int .i64 by_,.int .i64 br,.int .i64 bn]]) (h:=fun w' hw _=>hord ⟨ey,er,en⟩ ⟨by_,br,bn⟩ w');rfl;rfl;rintro v O' ⟨rfl,rfl⟩)|(refine bx ?_;intro bk)))|refine walk ?_)
   refine Zaf rfl (fun h2=>?_) (fun h2=>?_)
   ·rw[if_pos (of_decide_eq_true h2)]at hi
    repeat (first|(refine js ?_;(refine bx ?_;intro bk))|refine walk ?_)
    exact⟨⟨k+1,some ⟨ey,er,en⟩⟩,OA,⟨OA,hi⟩,SFA,SOA⟩
   ·rw[if_neg (of_decide_eq_false h2)]at hi
    repeat (first|(refine js ?_;(refine bx ?_;intro bk))|refine walk ?_)
    exact⟨⟨k+1,some ⟨by_,br,bn⟩⟩,OA,⟨OA,hi⟩,SFA,SOA⟩
 ·obtain rfl:k=l.length:=by have:=of_decide_eq_false h;omega
  rw[List.drop_length,Zer]at hi
  subst hi
  rcases b with _|⟨by_,br,bn⟩ <;> simp only[evC,Zad.enc,dEv0]
  ·repeat (first|(refine js ?_;(refine bx ?_;intro bk))|refine walk ?_)
   exact rtC
  ·repeat (first|(refine js ?_;(refine bx ?_;intro bk))|refine walk ?_)
   exact rtC
def ZyP (l:List DRule):Prop:=∀ r∈l,(-4611686018427387904<=r.save/\r.save<=4611686018427387904)/\(r.from_<=4611686018427387904/\-4611686018427387904<=r.to)
theorem Zkv (A:Option Addr)(c:Nat)(l:List DRule)(nominal:Int)(w:World)(hG:Glob w)(hA:RdSl w A c DRule.enc 11 l)(hn:l.length<=1000000)(hR:ZyP l)(ht : -4611686018427387904<=nominal/\nominal<=4611686018427387904) :
  Does Tryz.prog 42 [.slice A l.length c,.int .i64 nominal] w (fun v O=>v = .tuple #[evV (befD l nominal),.bool (befD l nominal).isSome]/\O=[]):=by
 have hb:=fun(b1 b2 b3:Nat) w' (hw:Bel w.heap.size w w') c1 c2 c3=>Zq1 A c l (ZaC nominal) nominal b1 b2 b3 w' (hG.up hw) (hA.up hw) hn hR (Zfm nominal) c1 c2 c3
 change ∀ (b1 b2 b3:Nat) w' (hw:Bel w.heap.size w w') c1 c2 c3,Does _ _ _ w' (fun v O=>v = .tuple #[evV (befD l nominal),.bool (befD l nominal).isSome]/\O=[]) at hb
 have hyr:=fun w' (hw:Bel w.heap.size w w')=>ZkY nominal ht w' (hG.up hw)
 generalize befD l nominal=res at *
 generalize ZaC nominal=yr at *
 refine Zaa Tryz.func42 rfl rfl rfl rfl ?_
 rcases res with _|⟨ey,er,en⟩ <;> simp only[evV,Zad.enc,dEv0,Option.isSome]at hb ⊢
 ·repeat (first|(refine js ?_;(first|(refine Zab hyr ?_)|(apply Zae (h:=fun w' hw hH=>hb _ _ _ w' hw (hH.cells (by repeat' constructor)) (hH.cells (by repeat' constructor)) (hH.cells (by repeat' constructor)));rfl;rintro v O' ⟨rfl,rfl⟩)|(refine bx ?_;intro bk)))|refine walk ?_)
  exact rtC
 ·repeat (first|(refine js ?_;(first|(refine Zab hyr ?_)|(apply Zae (h:=fun w' hw hH=>hb _ _ _ w' hw (hH.cells (by repeat' constructor)) (hH.cells (by repeat' constructor)) (hH.cells (by repeat' constructor)));rfl;rintro v O' ⟨rfl,rfl⟩)|(refine bx ?_;intro bk)))|refine walk ?_)
  exact rtC
end Go.Proofs.YtpipekfmecikmaaGreatDoor
namespace Go.Wk
open Go Go.RowKit
section
variable {P:Program}{n:Nat}{wr:World}{fr:Fr}{O:List It}{ty:TypeId}{pos:String}{af:Array Edge}{dst:Option Tmp}{g:Option (Nat × Bool)}{Kp:Value->List It->Prop}
theorem ZgL {t kt et:Nat}{x:Operand}{kk:IntKind}{i:Int}[hM:MapT P t kt et](hx:ev fr x=some (.int kk i))(k:∀ b,Kp (.map (some b)) (.mp b []::O)):Stp P n wr fr O ⟨dst,.makeMap t (some x),ty,pos,af,g⟩ Kp :=
 ZbG fun a w hs=>by
  have hB:Bel w.heap.size w (w.alloc (.map #[] 0)):=(Bel.refl _ _).alloc (Nat.le_refl _) _
  have hu:=MapT.parts hM.h
  refine⟨.map (some w.heap.size),w.alloc (.map #[] 0),_,?_,hs.old.trans (hB.mono hs.old.size),hs.own.grow (O':=[.mp w.heap.size []]) hB hs.old.size ⟨fun i hi=>?_,fun i hi b hb=>?_,List.pairwise_singleton _ _⟩,k _⟩
  ·simp[execOp,hs.sim.ev hx,Instr.makeMap,run_underlying hu,asInt,asIntOf,newObj,Sem.run]
  ·rw[List.mem_singleton.1 hi]
   exact⟨#[],0,heap_alloc_new w _,rfl,ZoK⟩
  ·rw[List.mem_singleton.1 hi]at hb
   simp only[It.S]at hb
   subst hb
   exact⟨Nat.le_refl _,by simp⟩
theorem Ze1 (es:Array MapEntry)(j:Nat):(es.eraseIdxIfInBounds j).toList=es.toList.eraseIdx j:=by
 unfold Array.eraseIdxIfInBounds
 split
 ·simp
 ·rw[List.eraseIdx_of_length_le (by simp;omega)]
theorem Zp6 {es:Array MapEntry}{c:Nat}(h:stOk es c)(j:Nat):stOk (es.eraseIdxIfInBounds j) c:=by
 unfold stOk
 rw[Ze1]
 have hsub:((es.toList.eraseIdx j).map (·.born)).Sublist (es.toList.map (·.born)):=(List.eraseIdx_sublist _ _).map _
 exact⟨h.1.sublist hsub,fun n hn=>h.2 n (hsub.subset hn)⟩
theorem Zq5 {t t2 kt et b:Nat}{x ix:Operand}{m:List (ByteArray × Value)}{k:ByteArray}{O':List It}[hM:MapT P t kt et][StringT P kt](hx:ev fr x=some (.map (some b)))(hi:ev fr ix=some (.string k))
  (hu:Upd O (.mp b m) (.mp b (mdel m k)) O') (kk:Kp (.tuple #[]) O'):Stp P n wr fr O ⟨dst,.call ⟨.builtin .delete,#[x,ix],#[t,t2]⟩,ty,pos,af,g⟩ Kp :=
 ZbG fun a w hs=>by
  have ht:=MapT.parts hM.h
  obtain⟨es,c,h1,h2,h9⟩:=hs.own.sat _ hu.mem
  have hf:=ZlB k m es.toList 0 h2
  cases hfi:Zed m k 0 with
  | none =>
   rw[hfi]at hf
   have hst:=hs.setMap (es':=es) (c':=c) hu (by unfold Zcl;rw[hf];exact h2) h9
   refine⟨.tuple #[],_,O',?_,hst.1,hst.2,kk⟩
   simp only[execOp,resolve,invoke,builtin,Builtin.delete_,hs.sim.ev hx,hs.sim.ev hi]
   simp[hs.sim.ev hx,hs.sim.ev hi,Builtin.delete_,run_underlying ht,Zbd h1,Zch _ k 9999,ZcE k m es.toList w h2,hfi,setObj,Sem.run,h1]
  | some p =>
   obtain⟨j,u⟩:=p
   rw[hfi]at hf
   obtain⟨_,hf2⟩:=hf
   rw[Nat.sub_zero]at hf2
   have hst:=hs.setMap (es':=es.eraseIdxIfInBounds j) (c':=c) hu (by unfold Zcl;rw[Ze1];exact hf2) (Zp6 h9 j)
   refine⟨.tuple #[],_,O',?_,hst.1,hst.2,kk⟩
   simp only[execOp,resolve,invoke,builtin,Builtin.delete_,hs.sim.ev hx,hs.sim.ev hi]
   simp[hs.sim.ev hx,hs.sim.ev hi,Builtin.delete_,run_underlying ht,Zbd h1,Zch _ k 9999,ZcE k m es.toList w h2,hfi,setObj,Sem.run,h1]
def MpAt (w:World)(b:Nat)(m:List (ByteArray × Value)):Prop:=(It.mp b m).sat w
theorem MpAt.up {w w':World}{b:Nat}{m:List (ByteArray × Value)}{B:Nat}(h:MpAt w b m)(hb:Bel B w w')(hB:w.heap.size<=B):MpAt w' b m:=by
 refine It.sat_congr h fun k hk=>?_
 obtain rfl:k=b:=hk
 obtain⟨es,c,h1,_⟩:=h
 exact hb.block k (Nat.lt_of_lt_of_le (Array.getElem?_eq_some_iff.1 h1).1 hB)
theorem Zmr {t kt et b:Nat}{x ix:Operand}{m:List (ByteArray × Value)}{k:ByteArray}{z v:Value}[hM:MapT P t kt et][StringT P kt][ZeroV P et z](hx:ev fr x=some (.map (some b)))(hi:ev fr ix=some (.string k))
  (hp:MpAt wr b m) (hv:(mget m k).getD z=v):Pu P n wr fr O (.lookup t x ix false) ty v:=hv▸Zq8 (kt:=kt) (et:=et) hx hi (fun _ hw _=>hp.up hw (Nat.le_refl _))
theorem Ze6 {t kt et b:Nat}{x ix:Operand}{m:List (ByteArray × Value)}{k:ByteArray}{z v:Value}{c:Bool}[hM:MapT P t kt et][StringT P kt][ZeroV P et z](hx:ev fr x=some (.map (some b)))(hi:ev fr ix=some (.string k))
  (hp:MpAt wr b m) (hv:(mget m k).getD z=v) (hc:(mget m k).isSome=c):Pu P n wr fr O (.lookup t x ix true) ty (.tuple [v,.bool c].toArray) :=
 fun a w hs _ _ _ _=>by
  have:=ZeB (P:=P) (t:=t) (kt:=kt) (et:=et) (k:=k) (z:=z) (hp.up hs.old (Nat.le_refl _)) true
  simp only[execOp,hs.sim.ev hx,hs.sim.ev hi,Sem.run_bind,this,Result.andThen_ok,Sem.run_pure]
  rw[<- hv,<- hc]
  rfl
theorem Zoj {t t' kt et:Nat}{x:Operand}{p:Option Nat}[hM:MapT P t kt et](hx:ev fr x=some (.map p)):Pu P n wr fr O (.binOp .eql t x (.const (.map none)) t') ty (.bool p.isNone) :=
 fun a w hs _ _ _ _=>by
  have hu:=MapT.parts hM.h
  have h:(binOp .eql t (.map p) (.map none)).run P w = .ok (.bool p.isNone) w:=by
   simp only[binOp]
   have:∀ d,(Op.equalIn (d+1) t (.map p) (.map none)).run P w = .ok p.isNone w:=fun d=>by cases p <;> simp[Op.equalIn,run_underlying hu]
   rw[show Op.equal t (.map p) (.map none)=Op.equalIn (9999+1) t (.map p) (.map none) from rfl]
   simp only[Sem.run_bind,this 9999,Result.andThen_ok,Sem.run_pure]
  have hc:a.eval (.const (.map none)) = .map none:=rfl
  simp[execOp,hs.sim.ev hx,hc,eqGuard,h]
theorem Zoi {t kt et:Nat}{x:Operand}{v:Value}[hM:MapT P t kt et](hx:ev fr x=some v):Pu P n wr fr O (.makeInterface t x) ty (.iface t v) :=
 fun a w hs _ _ _ _=>by
  have hu:=MapT.parts hM.h
  simp[execOp,hs.sim.ev hx,Instr.makeInterface,run_underlying hu]
theorem Zmx {t xt kt et:Nat}{x:Operand}{v:Value}[hM:MapT P t kt et](hx:ev fr x=some (.iface t v)):Pu P n wr fr O (.typeAssert x xt t false) ty v :=
 fun a w hs _ _ _ _=>by
  have hu:=MapT.parts hM.h
  simp[execOp,hs.sim.ev hx,Instr.typeAssert,run_underlying hu]
def Zsr (P:Program)(f:FuncId):Prop:=∀ (args:Array Value) (w:World),(callFunc f args).run P w=((Extern.MapsClone.clone args).run P w).andThen fun v w' => .ok (.value v) w'
theorem ZkH {f t b:Nat}{x:Operand}{ts:Array TypeId}{m:List (ByteArray × Value)}(hf:Zsr P f)(hx:ev fr x=some (.iface t (.map (some b))))(hp:∀ w,Bel wr.heap.size wr w->ZaA wr.heap.size O w->MpAt w b m)
  (kk:∀ b2,Kp (.iface t (.map (some b2))) (.mp b2 m::O)):Stp P n wr fr O ⟨dst,.call ⟨.value (.func f),#[x],ts⟩,ty,pos,af,g⟩ Kp :=
 ZbG fun a w hs=>by
  obtain⟨es,c,h1,h2⟩:=hp w hs.old hs.own
  have hB:Bel w.heap.size w (w.alloc (.map es c)):=(Bel.refl _ _).alloc (Nat.le_refl _) _
  have hrun:(Extern.MapsClone.clone #[.iface t (.map (some b))]).run P w = .ok (.iface t (.map (some w.heap.size))) (w.alloc (.map es c)):=by
   have e:Extern.MapsClone.clone #[.iface t (.map (some b))]=(getObj b >>= fun o=>match o with
     | .map entries clock=>(newObj (.map entries clock) >>= fun n=>pure (.iface t (.map (some n))))
     | _=>stuck "maps.clone: a map expected"):=rfl
   rw[e]
   simp[Zbd h1,newObj,Sem.run]
  refine⟨.iface t (.map (some w.heap.size)),w.alloc (.map es c),_,?_,hs.old.trans (hB.mono hs.old.size),hs.own.grow (O':=[.mp w.heap.size m]) hB hs.old.size ⟨fun i hi=>?_,fun i hi b hb=>?_,List.pairwise_singleton _ _⟩,kk _⟩
  ·have hev:=hs.sim.ev hx
   have he:a.eval (.func f) = .func (.func f) #[] #[]:=rfl
   have hc:=hf #[.iface t (.map (some b))] w
   rw[hrun,Result.andThen_ok]at hc
   simp[execOp,resolve,he,Deferred.ofValue,invoke,hc,hev]
  ·rw[List.mem_singleton.1 hi]
   exact⟨es,c,heap_alloc_new w _,h2⟩
  ·rw[List.mem_singleton.1 hi]at hb
   simp only[It.S]at hb
   subst hb
   exact⟨Nat.le_refl _,by simp⟩
end
def Nd (m:List (ByteArray × Value)):Prop:=(m.map (·.1)).Nodup
theorem Zfy (k:ByteArray):∀ m:List (ByteArray × Value),mget m k=none↔k ∉ m.map (·.1)
 | []=>by simp[mget]
 | (x,v)::r=>by
  simp only[mget,List.map_cons,List.mem_cons,not_or]
  by_cases h:k=x
  ·simp[h]
  ·simp[h,Zfy k r]
theorem ZgB (k:ByteArray)(v:Value):∀ m:List (ByteArray × Value),k∈m.map (·.1)->(mset m k v).map (·.1)=m.map (·.1)
 | [],h=>by simp at h
 | (x,u)::r,h=>by
  simp only[mset]
  by_cases hk:k=x
  ·simp[hk]
  ·rw[if_neg hk]
   simp only[List.map_cons,List.mem_cons,hk,false_or]at h ⊢
   rw[ZgB k v r h]
theorem Zfx (k:ByteArray)(v:Value):∀ m:List (ByteArray × Value),k ∉ m.map (·.1)->(mset m k v).map (·.1)=m.map (·.1)++[k]
 | [],_=>by simp[mset]
 | (x,u)::r,h=>by
  simp only[List.map_cons,List.mem_cons,not_or]at h
  simp only[mset,if_neg h.1,List.map_cons,Zfx k v r h.2,List.cons_append]
theorem Nd.set {m:List (ByteArray × Value)}(h:Nd m)(k:ByteArray)(v:Value):Nd (mset m k v):=by
 unfold Nd at h ⊢
 by_cases hk:k∈m.map (·.1)
 ·rw[ZgB k v m hk];exact h
 ·rw[Zfx k v m hk,List.nodup_append]
  exact⟨h,by simp,fun a ha b hb=>by simp only[List.mem_singleton]at hb;subst hb;exact fun e=>hk (e▸ha)⟩
theorem ZoW (k:ByteArray):∀ m:List (ByteArray × Value),(mdel m k).Sublist m
 | []=>List.Sublist.slnil
 | (x,u)::r=>by
  simp only[mdel]
  split
  ·exact List.sublist_cons_self _ _
  ·exact(ZoW k r).cons_cons _
theorem Nd.del {m:List (ByteArray × Value)}(h:Nd m)(k:ByteArray):Nd (mdel m k):=List.Nodup.sublist ((ZoW k m).map _) h
theorem Zly (k x:ByteArray):∀ {m:List (ByteArray × Value)},Nd m->mget (mdel m k) x=if x=k then none else mget m x
 | [],_=>by simp[mdel,mget]
 | (y,u)::r,h=>by
  unfold Nd at h
  simp only[List.map_cons,List.nodup_cons]at h
  simp only[mdel]
  by_cases hk:k=y
  ·subst hk
   rw[if_pos rfl]
   by_cases hx:x=k
   ·subst hx
    rw[if_pos rfl]
    exact(Zfy x r).2 h.1
   ·rw[if_neg hx,mget,if_neg hx]
  ·rw[if_neg hk]
   simp only[mget]
   by_cases hx:x=y
   ·subst hx
    rw[if_pos rfl,if_pos rfl,if_neg (fun e=>hk e.symm)]
   ·rw[if_neg hx,if_neg hx,Zly k x h.2]
theorem ZoX (k:ByteArray):∀ {m:List (ByteArray × Value)},(mget m k).isSome=true->(mdel m k).length+1=m.length
 | [],h=>by simp[mget]at h
 | (y,u)::r,h=>by
  simp only[mget]at h
  simp only[mdel]
  by_cases hk:k=y
  ·simp[hk]
  ·rw[if_neg hk]at h ⊢
   simp[ZoX k h]
theorem Zki (k:ByteArray)(v:Value):∀ m:List (ByteArray × Value),(mset m k v).length<=m.length+1
 | []=>by simp[mset]
 | (y,u)::r=>by
  simp only[mset]
  split
  ·simp
  ·simp[Zki k v r]
section
variable {P:Program}{n:Nat}{wr:World}{Q:Exit->Fr->List It->Prop}{fr:Fr}{O:List It}{K:Fr->List It->Prop}
theorem Zvp {l:Nat}{rs:List ResultVar}{R:Value->List It->Prop}:¬ retQ P wr rs R (.goto l) fr O:=id
theorem ZyJ {c:Code}(hg:∀ l fr O,¬ Q (.goto l) fr O)(h:W P n wr c Q fr O):W P n wr (.scope c) Q fr O:=by
 intro a w hs
 refine wp_scope_straight (wp_mono (h a w hs) ?_)
 rintro e a' w' ⟨fr',O',hs',hq⟩
 cases e with
 | goto l=>exact(hg l _ _ hq).elim
 | _=>exact⟨fr',O',hs',hq⟩
theorem ZyL {l:Nat}(h:Q .normal fr O):W P n wr (.label l) Q fr O:=fun _ _ hs=>wp_label ⟨fr,O,hs,h⟩
end
section
variable {P:Program}{n:Nat}{wr:World}{fr:Fr}{O:List It}{ty:TypeId}{pos:String}{af:Array Edge}{dst:Option Tmp}{g:Option (Nat × Bool)}{Kp:Value->List It->Prop}
theorem Zmq {t len e sz b:Nat}{ag:Bool}{x y:Operand}{h:Int}[hA:ArrT P t len e sz ag](hx:ev fr x=some (.pointer (some ⟨b,0,none⟩)))(hy:ev fr y=some (.int .i64 h))(h0:0<=h)(h1:h<=len) :
  Pu P n wr fr O (.slice t x none (some y) none) ty (.slice (some ⟨b,0,none⟩) h.toNat len) :=
 fun a w hs _ _ _ _=>by
  have h:=hA.h
  unfold ZjM at h
  split at h
  ·rename_i len' e' hu
   split at h
   ·rename_i sz' ag' ht
    simp only[Option.some.injEq,Prod.mk.injEq]at h
    obtain⟨rfl,rfl,rfl,rfl⟩:=h
    obtain⟨inf,dd,hinf,hsz,_,_⟩:=Ty.parts ht
    simp[execOp,hs.sim.ev hx,hs.sim.ev hy,Instr.sliceAt,run_underlying hu,Instr.sureAddr,Instr.sliceBounds,run_sliceBound,h0,h1,sizeOf,ZaK hinf,Addr.add]
   ·cases h
  ·cases h
theorem ZiD {t sz b p:Nat}{x:Operand}{cs:List Value}{bt:TypeId}{v:Value}{R:List It}[Ty P t sz false](hx:ev fr x=some (.pointer (some ((adr (some ⟨b,0,none⟩)).add p))))
  (hp:Pick (.blk b cs bt) O R) (hv:cs[p]?=some v):Pu P n wr fr O (.load t x) ty v :=
 Pu_loadB1 (by rw[hx,show adr (some (⟨b,0,none⟩:Addr))=⟨b,0,none⟩ from rfl,ZbV,Nat.zero_add]) hp hv
theorem Zms {t sz b p:Nat}{x:Operand}{cs:List Value}{bt:TypeId}{v:Value}{R:List It}[Ty P t sz false](hx:ev fr x=some (.pointer (some ((⟨b,0,none⟩:Addr).add p))))
  (hp:Pick (.blk b cs bt) O R) (hv:cs[p]?=some v):Pu P n wr fr O (.load t x) ty v :=
 Pu_loadB1 (by rw[hx,ZbV,Nat.zero_add]) hp hv
theorem Zha {t:TypeId}{x:Operand}{i:Int}(hx:ev fr x=some (.int .i64 i))(h : -9223372036854775807<=i/\i<=9223372036854775807):Pu P n wr fr O (.unOp .neg t x) ty (.int .i64 (-i)):=by
 have:=Pu_negW (P:=P) (n:=n) (wr:=wr) (O:=O) (ty:=ty) (t:=t) hx
 rwa[Int.zero_sub,Zcd (by omega)]at this
def ZnX (c:UInt8):Value := .int .u8 (c.toNat:Int)
theorem Zmw {t t' e sz bytes et c:Nat}{x:Operand}{A:Option Addr}{m:Nat}{l:List UInt8}{xs:List Value}{R:List It}[hE:ElemT P t e sz bytes][hU:IntT P e .u8][hS:StringT P t'](hx:ev fr x=some (.slice A m c))
  (hp:Pick (.row (.slice A m c) et 1 m xs) O R) (hxs:xs=l.map ZnX) (hm:m=l.length) (hA:A≠none):Pu P n wr fr O (.convert t t' x) ty (.string ⟨l.toArray⟩) :=
 fun a w hs _ _ _ _=>by
  have h:=hE.h
  unfold Zgd at h
  split at h
  ·rename_i e' hu
   split at h
   ·simp only[Option.some.injEq,Prod.mk.injEq]at h
    obtain⟨rfl,_,_⟩:=h
    obtain⟨ad,rfl⟩:=Option.ne_none_iff_exists'.1 hA
    subst hm hxs
    have hsat:=hs.own.sat _ (hp.perm.mem_iff.2 List.mem_cons_self)
    have hc:∀ j (hj:j<l.length),w.cell? (ad.add j)=some (.int .u8 (l[j].toNat:Int)):=fun j hj=>by
     have:=ZaD hsat (j:=j) (u:=ZnX l[j]) (by rw[List.getElem?_map,List.getElem?_eq_getElem hj];rfl)
     exact this.2
    have hrun:=run_convert_bytes_back (P:=P) w t t' e' ad c l hu hU.h hS.h hc
    simp[execOp,hs.sim.ev hx,hrun]
   ·cases h
  ·cases h
theorem Zaz {t t':TypeId}{x y:Operand}{kk:IntKind}{i j:Int}{b:Bool}(hx:ev fr x=some (.int kk i))(hy:ev fr y=some (.int kk j))(h:decide (i<j)=b):Pu P n wr fr O (.binOp .lss t x y t') ty (.bool b):=h▸Pu_lss hx hy
theorem Zew {t t':TypeId}{x y:Operand}{kk:IntKind}{i j:Int}{b:Bool}(hx:ev fr x=some (.int kk i))(hy:ev fr y=some (.int kk j))(h:decide (i<=j)=b):Pu P n wr fr O (.binOp .leq t x y t') ty (.bool b):=h▸Pu_leq hx hy
theorem Zaw {t t':TypeId}{x y:Operand}{kk:IntKind}{i j:Int}{b:Bool}(hx:ev fr x=some (.int kk i))(hy:ev fr y=some (.int kk j))(h:decide (j<i)=b):Pu P n wr fr O (.binOp .gtr t x y t') ty (.bool b):=h▸Pu_gtr hx hy
theorem Zb6 {t t':TypeId}{x y:Operand}{kk:IntKind}{i j:Int}{b:Bool}(hx:ev fr x=some (.int kk i))(hy:ev fr y=some (.int kk j))(h:decide (j<=i)=b):Pu P n wr fr O (.binOp .geq t x y t') ty (.bool b):=h▸Pu_geq hx hy
theorem Zan {t t':TypeId}{x y:Operand}{kk:IntKind}{i j:Int}{b:Bool}(hx:ev fr x=some (.int kk i))(hy:ev fr y=some (.int kk j))(h:decide (i=j)=b):Pu P n wr fr O (.binOp .eql t x y t') ty (.bool b):=h▸Pu_eql hx hy
theorem Zal {t t':TypeId}{x y:Operand}{kk:IntKind}{i j:Int}{b:Bool}(hx:ev fr x=some (.int kk i))(hy:ev fr y=some (.int kk j))(h:(!decide (i=j))=b):Pu P n wr fr O (.binOp .neq t x y t') ty (.bool b):=h▸Pu_neq hx hy
theorem ZbX {t t':TypeId}{x y:Operand}{i j:ByteArray}{b:Bool}(hx:ev fr x=some (.string i))(hy:ev fr y=some (.string j))(h:decide (i=j)=b):Pu P n wr fr O (.binOp .eql t x y t') ty (.bool b):=h▸Pu_eqlS hx hy
theorem Zcc {t t':TypeId}{x y:Operand}{i j:ByteArray}{b:Bool}(hx:ev fr x=some (.string i))(hy:ev fr y=some (.string j))(h:(!decide (i=j))=b):Pu P n wr fr O (.binOp .neq t x y t') ty (.bool b):=h▸Pu_neqS hx hy
end
end Go.Wk
namespace Go.Proofs.YtpipekfmecikmaaGreatDoor
open Go Go.RowKit Go.Wk
attribute [local irreducible] W RL Does Zat Zaj retQ Calls Pu Stp RD Qy Ay Zak
end Go.Proofs.YtpipekfmecikmaaGreatDoor
namespace Go.Wk
open Go Go.RowKit
def WF (F:Fence):Prop:=F=Fence.wide\/∃ l,F=Fence.wide.inRound l
theorem WF.fn {F:Fence}(h:WF F)(f:FuncId):F.fn f:=by rcases h with rfl|⟨l,rfl⟩ <;> trivial
theorem WF.depth {F:Fence}(h:WF F):F.depth=none:=by rcases h with rfl|⟨l,rfl⟩ <;> rfl
theorem WF.calls {F:Fence}(h:WF F){n:Nat}{P:Program}{f:FuncId}{args:Array Value}{w:World}{R:Ending->World->Prop}(hc:Calls P f args w R):CallsIn F n P f args w R:=by
 rcases h with rfl|⟨l,rfl⟩
 ·exact callsIn_wide.2 hc
 ·exact CallsIn.inRound l (callsIn_wide.2 hc)
def calm:Result Next->Prop
 | .ok (.value _) _=>True
 | .ok .skip _=>True
 | .ok (.enter _ _) _=>True
 | .halt _ _=>True
 | _=>False
theorem Zrh {F:Fence}(hF:WF F){n:Nat}{P:Program}{o:Oper}{a a2:Act}{w:World}{K K2:Act->World->Prop}{Q Q2:Exit->Act->World->Prop}(he:a2.eval=a.eval)(hd:∀ c,o.op ≠ .defer c)(hc:calm ((execOp a.eval o).run P w))(h:o.wp P a w K Q)(hQ:∀ e a w,¬ Q e a w)
  (hK:∀ v w',K (a.put o.dst v) w'->K2 (a2.put o.dst v) w'):o.wpIn F n P a2 w K2 Q2:=by
 refine⟨fun f _=>hF.fn f,?_⟩
 rw[Oper.semAt_eq _ _ _ hd,he]
 unfold Oper.wp at h
 generalize (execOp a.eval o).run P w=r at *
 cases r with
 | ok nx w' =>
  cases nx with
  | value v=>exact hK _ _ h
  | skip=>exact hK _ _ h
  | enter f args =>
   rw[Oper.upon_enter]at h
   rw[Oper.uponIn_enter]
   refine⟨fun hh=>(by rw[hF.depth]at hh;cases hh),(hF.calls h).mono ?_⟩
   intro e w'' he
   cases e with
   | returned v=>exact hK _ _ he
   | panicked c=>exact(hQ _ _ _ he).elim
   | outgrown=>exact he.elim fun a h=>h.elim fun w h=>(hQ _ _ _ h).elim
  | _=>exact hc.elim
 | halt x w' =>
  cases x with
  | panic v=>exact(hQ _ _ _ h).elim
  | _=>exact h.elim
section
variable {F:Fence}{P:Program}{n:Nat}{wr:World}{ops:Array Oper}{rest:List Oper}{K:Fr->List It->Prop}{fr:Fr}{O:List It}{ty:TypeId}{pos:String}{af:Array Edge}{D:List Deferred}
def actD (D:List Deferred)(a:Act):Act:={ a with defers:=D }
def ZAr (D:List Deferred)(n:Nat)(wr:World)(K:Fr->List It->Prop):Exit->Act->World->Prop:=fun e a w=>e = .normal/\a.defers=D/\∃ fr O,St n wr fr O (actD [] a) w/\K fr O
def RLI (F:Fence)(D:List Deferred)(P:Program)(n:Nat)(wr:World)(ops:Array Oper)(l:List Oper)(K:Fr->List It->Prop)(fr:Fr)(O:List It):Prop :=
 ∀ a w,St n wr fr O a w->wpListIn F 0 P ops (ZAr D n wr K) l (actD D a) w
theorem ZkG {a:Act}{fr:Fr}{w:World}(h:St n wr fr O a w):actD [] (actD D a)=a:=by
 have:=h.sim.defers
 cases a
 simp only at this
 subst this
 rfl
theorem Zg7 (a:Act)(d:Option Tmp)(v:Value):(actD D a).put d v=actD D (a.put d v):=by cases d <;> rfl
theorem Zb5 (h:K fr O):RLI F D P n wr ops [] K fr O:=fun a w hs=>⟨rfl,rfl,fr,O,by rw[ZkG hs];exact hs,h⟩
theorem ZfP (hF:WF F){d:Nat}{op:Op}{v:Value}(hd:Nat.ble (d+1) n=true)(hop:∀ c,op ≠ .defer c)(h:Pu P n wr fr O op ty v)(k:RLI F D P n wr ops rest K ((d,v)::fr) O) :
  RLI F D P n wr ops (⟨some d,op,ty,pos,af,none⟩::rest) K fr O:=by
 intro a w hs
 have hrun:=h a w hs (some d) pos af none
 refine wpListIn_plain rfl fun K' hK=>Zrh (a:=a) (K:=fun x w=>x=a.put (some d) v/\St n wr ((d,v)::fr) O x w) (Q:=fun _ _ _=>False) hF rfl hop (by rw[hrun];trivial) ?_ (fun _ _ _ h=>h) ?_
 ·unfold Oper.wp
  rw[hrun,Oper.upon_value]
  exact⟨rfl,hs.sim.put hd v,hs.old,hs.own⟩
 ·rintro u w' ⟨e,hst⟩
  rw[Zg7]
  exact hK _ _ (k _ _ (e▸hst))
theorem ZfO (hF:WF F){dst:Option Tmp}{op:Op}(hd:∀ d,dst=some d->Nat.ble (d+1) n=true)(hop:∀ c,op ≠ .defer c)(hc:∀ a w,St n wr fr O a w->calm ((execOp a.eval ⟨dst,op,ty,pos,af,none⟩).run P w))
  (h:Stp P n wr fr O ⟨dst,op,ty,pos,af,none⟩ fun v O'=>RLI F D P n wr ops rest K (updF fr dst v) O'):RLI F D P n wr ops (⟨dst,op,ty,pos,af,none⟩::rest) K fr O:=by
 intro a w hs
 refine wpListIn_plain rfl fun K' hK=>Zrh (a:=a) (K:=fun x w=>∃ v O',x=a.put dst v/\Bel wr.heap.size wr w/\ZaA wr.heap.size O' w/\RLI F D P n wr ops rest K (updF fr dst v) O') (Q:=fun _ _ _=>False) hF rfl hop (hc a w hs) ?_ (fun _ _ _ h=>h) ?_
 ·exact h a w hs _ _ fun v O' w' h1 h2 h3=>⟨v,O',rfl,h1,h2,h3⟩
 ·rintro u w' ⟨v,O',e,h1,h2,h3⟩
  rw[Zg7]
  refine hK _ _ (h3 _ _ ?_)
  show St n wr _ O' (a.put dst u) w'
  rw[e]
  cases dst with
  | none=>exact⟨hs.sim,h1,h2⟩
  | some d=>exact⟨hs.sim.put (hd d rfl) v,h1,h2⟩
theorem ZeL {dst:Option Tmp}{g:Option (Nat × Bool)}{f:FuncId}{gx:Operand}{xs:List Operand}{ts:Array TypeId}{us cs:List Value}[Body P f]{a:Act}{w:World}(hs:St n wr fr O a w)(hg:ev fr gx=some (.func (.func f) us.toArray cs.toArray)) :
  calm ((execOp a.eval ⟨dst,.call ⟨.value gx,xs.toArray,ts⟩,ty,pos,af,g⟩).run P w):=by
 simp[execOp,resolve,hs.sim.ev hg,Deferred.ofValue,invoke,Zci,calm]
theorem Zdm {dst:Option Tmp}{g:Option (Nat × Bool)}{t:TypeId}{x y:Operand}(a:Act)(w:World):calm ((execOp a.eval ⟨dst,.store t x y,ty,pos,af,g⟩).run P w):=by
 simp only[execOp,Sem.run_bind]
 generalize (Instr.storeAt t (a.eval x) (a.eval y)).run P w=r
 cases r <;> simp[calm,Result.andThen]
theorem Ziz {dst:Option Tmp}{op:Op}{j:Nat}{b:Bool}{oj:Oper}{d:Nat}(hj:ops[j]?=some oj)(hd:oj.dst=some d)(hb:look fr d=some (.bool b))
  (k:RLI F D P n wr ops (⟨dst,op,ty,pos,af,none⟩::rest) K fr O):RLI F D P n wr ops (⟨dst,op,ty,pos,af,some (j,b)⟩::rest) K fr O:=by
 intro a w hs
 have:=k a w hs
 have hy:yielded ops (actD D a).tmps j=some b:=by
  show yielded ops a.tmps j=some b
  simp[yielded,hj,hd,hs.sim.at_ d _ hb]
 simp only[wpListIn,Region.wanted,hy,if_true,beq_self_eq_true]at this ⊢
 exact this
theorem Zmp (hF:WF F){d':Nat}{op:Op}{j:Nat}{b b':Bool}{oj:Oper}{d:Nat}(hj:ops[j]?=some oj)(hd:oj.dst=some d)(hb:look fr d=some (.bool b'))(hne:b' = !b)(hdn:Nat.ble (d'+1) n=true)
  (k:RLI F D P n wr ops rest K ((d',undef)::fr) O):RLI F D P n wr ops (⟨some d',op,ty,pos,af,some (j,b)⟩::rest) K fr O:=by
 intro a w hs
 have:=k (a.put (some d') undef) w ⟨hs.sim.put hdn undef,hs.old,hs.own⟩
 have hy:yielded ops (actD D a).tmps j=some b':=by
  show yielded ops a.tmps j=some b'
  simp[yielded,hj,hd,hs.sim.at_ d _ hb]
 have hw:Region.wanted (⟨some d',op,ty,pos,af,some (j,b)⟩:Oper) (yielded ops (actD D a).tmps)=false:=by
  subst hne
  simp[Region.wanted,hy]
 simp only[wpListIn,hw]
 exact⟨fun f _=>hF.fn f,by rw[Zg7];exact this⟩
def Zyf (D:List Deferred)(n:Nat)(wr:World)(Q:Exit->Fr->List It->Prop):Exit->Act->World->Prop:=fun e a w=>a.defers=D/\∃ fr O,St n wr fr O (actD [] a) w/\Q e fr O
def WI (F:Fence)(D:List Deferred)(P:Program)(n:Nat)(wr:World)(c:Code)(Q:Exit->Fr->List It->Prop)(fr:Fr)(O:List It):Prop :=
 ∀ a w,St n wr fr O a w->c.wpIn F 0 P (Zyf D n wr Q) (actD D a) w
theorem Ziw {a:Act}(h:a.defers=D):actD D (actD [] a)=a:=by cases a;simp only at h;subst h;rfl
variable {Q:Exit->Fr->List It->Prop}
theorem ZjQ {x y:Code}(h:WI F D P n wr x (Zat (WI F D P n wr y Q) Q) fr O):WI F D P n wr (.seq x y) Q fr O:=by
 intro a w hs
 refine wpIn_seq (wpIn_mono (h a w hs) ?_)
 rintro e a' w' ⟨hd,fr',O',hs',hq⟩
 cases e with
 | normal =>
  have:=hq _ w' hs'
  rw[Ziw hd]at this
  exact this
 | _=>exact⟨hd,fr',O',hs',hq⟩
theorem ZyM (h:Q .normal fr O):WI F D P n wr .skip Q fr O:=fun a _ hs=>wpIn_skip ⟨rfl,fr,O,by rw[ZkG hs];exact hs,h⟩
theorem Zmn (h:Q .ret fr O):WI F D P n wr .ret Q fr O:=fun a _ hs=>wpIn_ret ⟨rfl,fr,O,by rw[ZkG hs];exact hs,h⟩
theorem Ziy {c:Operand}{x y:Code}{b:Bool}(hc:ev fr c=some (.bool b))(ht:b=true->WI F D P n wr x Q fr O)(hf:b=false->WI F D P n wr y Q fr O):WI F D P n wr (.cond c x y) Q fr O:=by
 intro a w hs
 have he:(actD D a).eval c = .bool b:=hs.sim.ev hc
 exact wpIn_cond_split he (fun h=>ht h a w hs) (fun h=>hf h a w hs)
theorem Zdn {id:Nat}{l:List Oper}(h:RLI F D P n wr l.toArray l (Q .normal) fr O):WI F D P n wr (.region id l.toArray false) Q fr O:=by
 intro a w hs
 refine wpIn_mono (wpIn_region_lit (h a w hs)) ?_
 rintro e a' w' ⟨rfl,hd,fr',O',hs',hq⟩
 exact⟨hd,fr',O',hs',hq⟩
def Zbw (l:Nat)(r:Loop):It := .fact (fun k=>k=l) (fun w=>w.heap[l]?=some (.loop r))
def Zez (b:Nat):It := .fact (fun k=>k=b) (fun w=>w.heap[b]?=some (.deferred (some [])))
theorem Zbw.at {l:Nat}{r:Loop}{w:World}(h:(Zbw l r).sat w):w.heap[l]?=some (.loop r):=Zen h
theorem Zez.at {b:Nat}{w:World}(h:(Zez b).sat w):w.heap[b]?=some (.deferred (some [])):=Zen h
theorem ZdA (w:World)(l:Nat)(o:Obj):(w.putObj l o).heap.size=w.heap.size:=by simp[World.putObj]
theorem Zfn {a:Act}{w:World}{l:Nat}{r r':Loop}{O':List It}(hs:St n wr fr O a w)(hu:Upd O (Zbw l r) (Zbw l r') O'):St n wr fr O' a (w.putObj l (.loop r')):=by
 have hin:=hs.own.inb _ hu.mem l rfl
 refine⟨hs.sim,hs.old.trans ⟨⟨rfl,rfl,rfl,by rw[ZdA];exact Nat.le_refl _,fun i hi=>World.putObj_heap_other (by omega)⟩⟩,hs.own.upd hu hs.old.size (by rw[ZdA];exact Nat.le_refl _) (fun i _ hi=>World.putObj_heap_other hi) ?_ (fun i hi => .inl hi)⟩
 intro w' ha
 rw[ha l rfl]
 exact World.putObj_heap_same hin.2
def Zzb (l:Nat)(r:Loop)(R:Bool->List It->Prop):Exit->Fr->List It->Prop
 | .normal=>fun _ O=>∃ O',Upd O (Zbw l { r with state := .busy }) (Zbw l { r with state := .ready,pending:=none }) O'/\R true O'
 | .ret=>fun _ O=>∃ O',Upd O (Zbw l { r with state := .busy }) (Zbw l { r with state := .done,pending:=some .ret }) O'/\R false O'
 | _=>fun _ _=>False
def Zg8 (P:Program)(l:Nat)(v:Value)(wr:World)(O:List It)(R:Bool->List It->Prop):Prop :=
 ∀ w,Bel wr.heap.size wr w->ZaA wr.heap.size O w->YieldAt Fence.wide 0 P l #[v] w fun e w'=>∃ b O',e = .returned (.bool b)/\Bel wr.heap.size wr w'/\ZaA wr.heap.size O' w'/\R b O'
theorem ZkX {l p:Nat}{r:Loop}{v:Value}{a0:Act}{O1:List It}{R:Bool->List It->Prop}(hp:r.params = #[p])(hr:r.state = .ready)(ht:r.tmps=a0.tmps)(hsim:Sim n fr a0)(hpn:Nat.ble (p+1) n=true)
  (hu:Upd O (Zbw l r) (Zbw l { r with state := .busy }) O1) {id:Nat} {la:List Oper} (hass:r.assign = .region id la.toArray false)
  (hb:RLI (Fence.wide.inRound l) [] P n wr la.toArray la (fun fr' O'=>O'=O/\WI (Fence.wide.inRound l) [] P n wr r.body (Zzb l r R) fr' O1) ((p,v)::fr) O):Zg8 P l v wr O R:=by
 intro w hB hH
 have hl:=Zbw.at (hH.sat _ hu.mem)
 have hy:=run_yield (P:=P) (args := #[v]) hl (by rw[hp];rfl)
 rw[hp,ht]at hy
 refine⟨r.fn,_,r.assign,r.body,hy,roundIn_of_wpIn trivial ?_⟩
 have hst:St n wr ((p,v)::fr) O { tmps:=a0.tmps.setIfInBounds p v,defers:=[] } w:=by
  have:=hsim.put hpn v
  refine⟨?_,hB,hH⟩
  have e:({ tmps:=a0.tmps.setIfInBounds p v,defers:=[] }:Act)=a0.put (some p) v:=by
   have:=hsim.defers
   simp[Act.put,this]
  rw[e]
  exact this
 rw[hass,show Array.foldl (fun tmps (x:Tmp × Value)=>match x with|(t,a)=>tmps.setIfInBounds t a) a0.tmps (#[p].zip #[v])=a0.tmps.setIfInBounds p v by simp]
 refine wpIn_mono (wpIn_region_lit (hb _ w hst)) ?_
 rintro e a' w' ⟨rfl,hd,fr',O',hs',rfl,hW⟩
 have hl':=Zbw.at (hs'.own.sat _ hu.mem)
 refine⟨_,run_beginRound hl' hr,?_⟩
 have hs2:=Zfn hs' hu
 have h3:=hW _ _ hs2
 rw[Ziw hd]at h3
 refine wpIn_mono h3 ?_
 rintro e2 a2 w2 ⟨hd2,fr2,O2,hs3,hq⟩
 cases e2 with
 | normal =>
  obtain⟨O3,hu3,hR⟩:=hq
  have hl3:=Zbw.at (hs3.own.sat _ hu3.mem)
  have hs4:=Zfn hs3 hu3
  exact⟨_,_,run_endRound none hl3,true,O3,rfl,hs4.old,hs4.own,hR⟩
 | ret =>
  obtain⟨O3,hu3,hR⟩:=hq
  have hl3:=Zbw.at (hs3.own.sat _ hu3.mem)
  have hs4:=Zfn hs3 hu3
  exact⟨_,_,run_endRound (some .ret) hl3,false,O3,rfl,hs4.old,hs4.own,hR⟩
 | exit id=>exact hq.elim
 | goto t=>exact hq.elim
 | panic ch=>exact hq.elim
 | outgrown=>exact hq.elim
theorem Zs8 {d l:Nat}{gx y:Operand}{ts:Array TypeId}{v:Value}{R:Bool->List It->Prop}(hd:Nat.ble (d+1) n=true)(hg:ev fr gx=some (.func (.yield l) #[] #[]))(hx:ev fr y=some v)(h:Zg8 P l v wr O R)
  (k:∀ b O',R b O'->RLI Fence.wide [] P n wr ops rest K ((d,.bool b)::fr) O'):RLI Fence.wide [] P n wr ops (⟨some d,.call ⟨.value gx,#[y],ts⟩,ty,pos,af,none⟩::rest) K fr O:=by
 intro a w hs
 refine wpListIn_plain rfl fun K' hK=>⟨fun f _=>trivial,?_⟩
 obtain⟨fn,tmps,assign,body,hy,hR⟩:=h w hs.old hs.own
 have e:actD [] a=a:=by
  have:=hs.sim.defers
  cases a;simp only at this;subst this;rfl
 rw[e]
 have hrun:(Oper.semAt Fence.wide.round a.eval ⟨some d,.call ⟨.value gx,#[y],ts⟩,ty,pos,af,none⟩).run P w = .ok (.round l fn tmps assign body) w:=by
  rw[Oper.semAt_eq _ _ _ (by intro c hc;cases hc)]
  simp[execOp,resolve,hs.sim.ev hg,hs.sim.ev hx,Deferred.ofValue,invoke,hy]
 rw[hrun,Oper.uponIn_round]
 refine⟨fun hh=>(by cases hh),hR.mono ?_⟩
 rintro e2 w' ⟨b,O',rfl,h1,h2,h3⟩
 have:=k b O' h3 (a.put (some d) (.bool b)) w' ⟨hs.sim.put hd _,h1,h2⟩
 refine hK _ _ ?_
 have e2:actD [] (a.put (some d) (.bool b))=a.put (some d) (.bool b):=by rw[<- Zg7,e]
 rw[e2]at this
 exact this
theorem Zs4 {id:Nat}{l:List Oper}(h:RLI Fence.wide [] P n wr l.toArray l (Q .normal) fr O):W P n wr (.region id l.toArray false) Q fr O:=by
 intro a w hs
 have e:actD [] a=a:=by
  have:=hs.sim.defers
  cases a;simp only at this;subst this;rfl
 have h1:=h a w hs
 rw[e]at h1
 refine wpIn_wide.1 (wpIn_mono (wpIn_region_lit h1) ?_)
 rintro e a' w' ⟨rfl,hd,fr',O',hs',hq⟩
 refine⟨fr',O',?_,hq⟩
 rw[show a'=actD [] a' from(by cases a';simp only at hd;subst hd;rfl)]
 exact hs'
theorem SubO.trans {A B C:List It}(h:SubO A B)(k:SubO B C):SubO A C:=by
 obtain⟨R1,h1⟩:=h.perm
 obtain⟨R2,h2⟩:=k.perm
 exact SubO.ofPerm (R:=R1++R2) (h2.trans (by rw[<- List.append_assoc];exact h1.append_right R2))
theorem Zzd {R:Value->List It->Prop}(O':List It)(hO:SubO O' O)(hR:R (.tuple #[]) O'):retQ P wr [] R .ret fr O:=⟨[],O',rfl,hO,hR⟩
theorem Zmm {id d0 d1 d2 l:Nat}{x y g:Operand}{op1:Op}{ty0 ty1:TypeId}{p0 p1:String}{f0 f1:Array Edge}{ts:Array TypeId}{u v:Value}{R:Bool->List It->Prop}(n0:Nat.ble (d0+1) n=true)(n1:Nat.ble (d1+1) n=true)(n2:Nat.ble (d2+1) n=true)(hop:∀ c,op1 ≠ .defer c)
  (hx:ev fr x=some u) (h1:Pu P n wr ((d0,u)::fr) O op1 ty1 v) (hg:ev ((d1,v)::(d0,u)::fr) g=some (.func (.yield l) #[] #[])) (hy:ev ((d1,v)::(d0,u)::fr) y=some v) (hY:Zg8 P l v wr O R)
  (k:∀ b O',R b O'->RLI Fence.wide [] P n wr (⟨some d0,.move x,ty0,p0,f0,none⟩::⟨some d1,op1,ty1,p1,f1,none⟩::⟨some d2,.call ⟨.value g,#[y],ts⟩,ty,pos,af,none⟩::rest).toArray rest (Q .normal) ((d2,.bool b)::(d1,v)::(d0,u)::fr) O') :
  W P n wr (.region id (⟨some d0,.move x,ty0,p0,f0,none⟩::⟨some d1,op1,ty1,p1,f1,none⟩::⟨some d2,.call ⟨.value g,#[y],ts⟩,ty,pos,af,none⟩::rest).toArray false) Q fr O :=
 Zs4 (ZfP (.inl rfl) n0 (by intro c h;cases h) (Pu_move hx) (ZfP (.inl rfl) n1 hop h1 (Zs8 n2 hg hy hY k)))
theorem St.allocFact {a:Act}{w:World}(hs:St n wr fr O a w)(o:Obj):St n wr fr (.fact (fun k=>k=w.heap.size) (fun w'=>w'.heap[w.heap.size]?=some o)::O) a (w.alloc o):=by
 have hB:Bel w.heap.size w (w.alloc o):=(Bel.refl _ _).alloc (Nat.le_refl _) _
 refine⟨hs.sim,hs.old.trans (hB.mono hs.old.size),hs.own.grow (O':=[_]) hB hs.old.size ⟨fun i hi=>?_,fun i hi b hb=>?_,List.pairwise_singleton _ _⟩⟩
 ·rw[List.mem_singleton.1 hi]
  intro w' ha
  rw[ha _ rfl]
  exact World.alloc_heap_new w o
 ·rw[List.mem_singleton.1 hi]at hb
  obtain rfl:b=w.heap.size:=hb
  exact⟨Nat.le_refl _,by simp⟩
def Zkl (D:Nat):List Deferred:=[{ target := .collected D,args := #[] }]
def ZiS (fn:FuncId)(tm:Array Value)(p:Tmp)(assign body:Code)(D:Nat):Loop:={ state := .ready,pending:=none,fn:=fn,tmps:=tm,params := #[p],assign:=assign,body:=body,defers:=D }
theorem ZuY {gf:FuncId}[Body P gf]{lb:List Value}{g:Operand}{p:Tmp}{assign body:Code}{Q2:Exit->Act->World->Prop}{a:Act}{w:World}(K:Option Code->List It->Prop)(hs:St n wr fr O a w)(hg:ev fr g=some (.func (.func gf) #[] lb.toArray))
  (hit:∀ fn l D,Zak P gf (.func (.yield l) #[] #[]::lb) wr (Zbw l (ZiS fn a.tmps p assign body D)::Zez D::O) fun _ O'=>∃ jump O2 st,SubO (Zbw l { ZiS fn a.tmps p assign body D with state:=st,pending:=jump }::Zez D::O2) O'/\st ≠ .busy/\K jump O2)
  (hk:∀ jump O2 D w',K jump O2->St n wr fr (Zez D::O2) a w'->match jump with|none=>Q2 .normal (actD (Zkl D) a) w'|some c=>c.wp P Q2 (actD (Zkl D) a) w'):(Code.rangeFunc g #[p] assign body).wp P Q2 a w:=by
 refine(wpIn_wide (n:=0)).1 (wpIn_rangeFunc fun fn _=>?_)
 have h1:=hs.allocFact (.deferred (some []))
 have h2:=h1.allocFact (.loop (ZiS fn a.tmps p assign body w.heap.size))
 rw[World.size_alloc]at h2
 have hst:St n wr fr (Zbw (w.heap.size+1) (ZiS fn a.tmps p assign body w.heap.size)::Zez w.heap.size::O) a ((w.alloc (.deferred (some []))).alloc (.loop (ZiS fn a.tmps p assign body w.heap.size))):=h2
 have hen:=run_enterLoop_outer (P:=P) (w:=w) fn a.tmps #[p] assign body
 generalize hW1:(w.alloc (.deferred (some []))).alloc (.loop (ZiS fn a.tmps p assign body w.heap.size))=W1 at hst
 rw[show(w.alloc (.deferred (some []))).alloc (.loop { state := .ready,pending:=none,fn:=fn,tmps:=a.tmps,params := #[p],assign:=assign,body:=body,defers:=w.heap.size })=W1 from hW1]at hen
 refine⟨w.heap.size+1,Zkl w.heap.size,W1,{ target := .fn (.func gf) lb.toArray,args := #[.func (.yield (w.heap.size+1)) #[] #[]] },W1,gf,#[.func (.yield (w.heap.size+1)) #[] #[]]++lb.toArray,W1,hen,?_,fun _ _=>trivial,?_,fun hh=>(by cases hh),?_⟩
 ·have hcv:a.eval (.const (.func (.yield (w.heap.size+1)) #[] #[])) = .func (.yield (w.heap.size+1)) #[] #[]:=rfl
  simp[resolve,hs.sim.ev hg,hcv,Deferred.ofValue]
 ·simp[invoke,Zci]
 ·refine callsIn_wide.2 ?_
  have hc:=hit fn (w.heap.size+1) w.heap.size _ hst.old hst.own
  rw[show(Value.func (.yield (w.heap.size+1)) #[] #[]::lb).toArray = #[.func (.yield (w.heap.size+1)) #[] #[]]++lb.toArray by simp]at hc
  refine hc.mono ?_
  rintro e w3 ⟨v,O',rfl,hB,hH,jump,O2,st,hsub,hne,hK⟩
  have hs3:St n wr fr (Zbw (w.heap.size+1) { ZiS fn a.tmps p assign body w.heap.size with state:=st,pending:=jump }::Zez w.heap.size::O2) a w3:=⟨hs.sim,hB,hH.sub hsub⟩
  have hl:=Zbw.at (hs3.own.sat _ List.mem_cons_self)
  have hs4:=Zfn (r':={ ZiS fn a.tmps p assign body w.heap.size with state := .exhausted,pending:=jump }) hs3 .here
  have hk2:=hk jump O2 w.heap.size _ hK ⟨hs4.sim,hs4.old,hs4.own.tail⟩
  refine⟨jump,_,run_endLoop hl hne,?_⟩
  have e0:({ a with defers:=Zkl w.heap.size++a.defers }:Act)=actD (Zkl w.heap.size) a:=by
   have:=hs.sim.defers
   simp[actD,this]
  rw[e0]
  cases jump with
  | none=>exact hk2
  | some c=>exact wpIn_wide.2 hk2
theorem Zra {f:FuncId}{fn:Func}{c:Code}{args:List Value}{w:World}{R:Ending->World->Prop}(hf:P.funcs[f]?=some fn)(hb:fn.body=some c)(hn:fn.ntmps=n)(ha:Nat.ble args.length n=true)
  (h:∀ a,St n w (ZfK 0 args) [] a w->c.wp P (bodyPostM Fence.wide 0 P fn R) a w):Calls P f args.toArray w R:=by
 refine(callsIn_wide (n:=0)).1 (callsIn_of_wp_marks hf hb trivial ?_)
 refine(wpIn_wide (n:=0)).2 (h _ ?_)
 have ha':args.length<=n:=Nat.le_of_ble_eq_true ha
 refine⟨⟨rfl,by simp;omega,fun t v hv=>?_⟩,Bel.refl _ _,ZaA.nil _ _⟩
 have:=(ZdB args 0 t v hv).2
 simp only[Nat.sub_zero]at this
 have hlt:t<args.length:=(List.getElem?_eq_some_iff.1 this).1
 rw[Array.getElem?_append_left (by simpa using hlt)]
 simpa using this
theorem Zak.sub {f:FuncId}{args:List Value}{O':List It}{R R':Value->List It->Prop}(h:Zak P f args wr O R)(hO:SubO O O')(hR:∀ v O,R v O->R' v O):Zak P f args wr O' R' :=
 fun w hB hH=>(h w hB (hH.sub hO)).mono fun _ _ ⟨v,O1,h1,h2,h3,h4⟩=>⟨v,O1,h1,h2,h3,hR v O1 h4⟩
theorem WI.at {c:Code}{a:Act}{w:World}(h:WI F D P n wr c Q fr O)(hs:St n wr fr O a w):c.wpIn F 0 P (Zyf D n wr Q) (actD D a) w:=h a w hs
theorem ZvI {id:Nat}{c:Code}(h:WI F D P n wr c (Zaj id Q) fr O):WI F D P n wr (.block id c) Q fr O:=by
 intro a w hs
 refine wpIn_block (wpIn_mono (h a w hs) ?_)
 rintro e a' w' ⟨hd,fr',O',hs',hq⟩
 cases e with
 | exit k =>
  simp only[Exit.inBlock,Zaj]at hq ⊢
  split
  ·rename_i hk;rw[if_pos hk]at hq;exact⟨hd,fr',O',hs',hq⟩
  ·rename_i hk;rw[if_neg hk]at hq;exact⟨hd,fr',O',hs',hq⟩
 | _=>exact⟨hd,fr',O',hs',hq⟩
end
open Go Go.RowKit Go.ChangeMaps
def Rng (b r:Nat)(m left:List (ByteArray × Value))(cur:Option (ByteArray × Value))(w:World):Prop :=
 ∃ (es:Array MapEntry) (clock since:Nat) (seen:Array Nat) (c0:Nat),w.heap[b]?=some (.map es clock)/\Zcl m es/\stOk es clock/\(∀ x∈es.toList,x.born<since)/\since<=c0/\since<=clock/\w.heap[r]?=some (.mapIter (some b) since seen c0)/\Zcl left (leftOf es seen) /\
  ∀ kv,cur=some kv->∃ e∈es.toList,∃ s0:Array Nat,seen=s0.push e.born/\c0=clock/\e.key = .string kv.1/\e.val=kv.2
theorem Rng.congr {b r:Nat}{m left:List (ByteArray × Value)}{cur:Option (ByteArray × Value)}{w w':World}(h:Rng b r m left cur w)(h1:w'.heap[b]?=w.heap[b]?)(h2:w'.heap[r]?=w.heap[r]?):Rng b r m left cur w':=by
 obtain⟨es,clock,since,seen,c0,a1,a2,a3,a4,a5,a5',a6,a7,a8⟩:=h
 exact⟨es,clock,since,seen,c0,h1.trans a1,a2,a3,a4,a5,a5',h2.trans a6,a7,a8⟩
section
variable {P:Program}{n:Nat}{wr:World}{fr:Fr}{O:List It}{ty:TypeId}{pos:String}{af:Array Edge}{dst:Option Tmp}{g:Option (Nat × Bool)}{Kp:Value->List It->Prop}
end
end Go.Wk
