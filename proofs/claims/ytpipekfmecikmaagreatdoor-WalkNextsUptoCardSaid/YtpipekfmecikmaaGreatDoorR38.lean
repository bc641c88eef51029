/- Parts of the proof. -/
import Derived.Test.YtpipekfmecikmaaGreatDoorR37
set_option maxHeartbeats 4000000
set_option linter.all false
set_option maxHeartbeats 4000000
namespace Go.Proofs.YtpipekfmecikmaaGreatDoor
open Go Go.RowKit Go.Wk
attribute [local irreducible] W RL Does Zaq Zai retQ Calls Pu Stp RD Qy Ay Zaj RLI WI
def ZA0 (p:PaL)(l:List DEra)(r:List ZaG)(a b:Int)(v:Value)(O:List It):Prop:=∃ b3 b4 b5,v = .func (.func 112) #[] #[.pointer (some ⟨b3,0,none⟩),.pointer (some ⟨b4,0,none⟩),.pointer (some ⟨b5,0,none⟩)] /\
 O=[.blk b3 (p.cells l r) 118,.blk b4 [.int .i64 a] 2,.blk b5 [.int .i64 b] 2]
theorem ZlJ (p:PaL)(l:List DEra)(r:List ZaG)(a b:Int)(w:World):Does Tryz.prog 69 [.agg (p.cells l r).toArray,.int .i64 a,.int .i64 b] w (ZA0 p l r a b):=by
 refine Zaa Tryz.func69 rfl rfl rfl rfl ?_
 simp only[PaL.cells]
 repeat (first|(refine js ?_;(refine bx ?_;intro e))|refine walk ?_)
 rename_i c d
 exact ret_1 _ [.blk c (p.cells l r) 118,.blk d [.int .i64 a] 2,.blk e [.int .i64 b] 2] (.tmp rfl) SOA ⟨c,d,e,rfl,rfl⟩
def NxAt (rs:List DRule)(E:List DEra)(r:List ZaG)(t:Int):Prop:=∃ (k:Nat) (x:ZaG) (e:DEra) (o:Option Int),Zc9 r t=(x,true)/\x.era=(k:Nat)/\E[k]?=some e/\RsSm (ruEr rs e)/\(-1000000000<=e.off/\e.off<=1000000000)/\(-1000000000000000000<=t/\t<=1000000000000000000)/\evtD (ruEr rs e) e.off t=some o/\nxD rs E t=Zc4 x.fin o/\∀ u,nxD rs E t=some u->t<u
theorem Zmm (p:PaL)(rs:List DRule)(E:List DEra)(r:List ZaG)(t:Int)(w:World)(l:Glob w)(m:ZnD w p rs E r)(h:NxAt rs E r t) :
  Does Tryz.prog 64 [.agg (p.cells E r).toArray,.int .i64 t] w (fun v O=>v=optV (nxD rs E t)/\O=[]):=by
 obtain⟨k,x,e,o,a,b,c,d,f,g,i,j,_⟩:=h
 rw[j]
 exact Zh7 p rs E r t k x e o w l m a b c d f g i
def PaF (p:PaL)(rs:List DRule)(E:List DEra)(r:List ZaG)(w:World):Prop:=RdSl w p.As p.cs ZaG.enc 3 r/\RdLL w p.Ar p.cr DRule.enc 11 (E.map (ruEr rs))
structure SpG (σ:Type) where
 t:Int
 s:σ
theorem Zyo {G:Prop}(h:G:=by(apply Zbu;rfl;rfl;exact d1)):G:=h
theorem ZnS {σ:Type}(L d e f:Nat)(p:PaL)(rs:List DRule)(E:List DEra)(r:List ZaG)(a b:Int)(S:Nat->Prop)(OC:σ->List It)(G:Int->Prop)(Inv:Int->σ->Prop)(wr:World)(Q:σ)(W:Inv a Q)(T:Glob wr)(Y:RdSl wr p.Ae p.ce DEra.enc 13 E)
  (y:G a) (D:∀ t u,G t->nxD rs E t=some u->u<=b->G u) (F:∀ t,G t->NxAt rs E r t)
  (Z:∀ (t u:Int) (s:σ),G t->G u->nxD rs E t=some u->t<u->u<=b->Inv t s->Zd9 Tryz.prog L (.int .i64 u) wr (.blk d (p.cells E r) 118 :: .blk e [.int .i64 a] 2 :: .blk f [.int .i64 b] 2 :: .fact S (PaF p rs E r)::OC s) fun R O'=>R=true/\∃ i,Inv u i/\SubO (.blk d (p.cells E r) 118 :: .blk e [.int .i64 a] 2 :: .blk f [.int .i64 b] 2 :: .fact S (PaF p rs E r)::OC i) O') :
  Zaj Tryz.prog 112 [.func (.yield L) #[] #[],.pointer (some ⟨d,0,none⟩),.pointer (some ⟨e,0,none⟩),.pointer (some ⟨f,0,none⟩)] wr (.blk d (p.cells E r) 118 :: .blk e [.int .i64 a] 2 :: .blk f [.int .i64 b] 2 :: .fact S (PaF p rs E r)::OC Q)
   (fun v O'=>v = .tuple #[]/\∃ t i,G t/\Inv t i/\(∀ u,nxD rs E t=some u->b<u)/\SubO (.blk d (p.cells E r) 118 :: .blk e [.int .i64 a] 2 :: .blk f [.int .i64 b] 2 :: .fact S (PaF p rs E r)::OC i) O'):=by
 have z:∀ w',Bel wr.heap.size wr w'->PaF p rs E r w'->ZnD w' p rs E r:=fun w' w U=>⟨Y.up w,U.1,U.2⟩
 refine Zbw Tryz.func112 rfl rfl rfl rfl ?_
 simp only[PaL.cells]at *
 have m:=F a y
 obtain⟨o,B⟩:∃ o,nxD rs E a=o:=⟨_,rfl⟩
 repeat (first|(refine js ?_;(apply Zad (h:=fun w' w H=>Zmm p rs E r _ w' (T.up w) (z w' w (Zbh (H.of (A := .fact S (PaF p rs E r)) (by repeat' constructor)))) m);rfl;(rw[show optV (nxD rs E _)=optV o from congrArg optV B];rintro v O' ⟨rfl,rfl⟩)))|refine walk ?_)
 subst B
 refine Zah [(0,.func (.yield L) #[] #[]),(1,.pointer (some ⟨d,0,none⟩)),(2,.pointer (some ⟨e,0,none⟩)),(3,.pointer (some ⟨f,0,none⟩))] [] (fun g:SpG σ=>[(5,.int .i64 ((nxD rs E g.t).getD 0)),(6,.bool (nxD rs E g.t).isSome)])
  (fun g => .blk d [.slice p.Ae E.length p.ce,.slice p.As r.length p.cs,.slice p.Ar E.length p.cr] 118 :: .blk e [.int .i64 a] 2 :: .blk f [.int .i64 b] 2 :: .fact S (PaF p rs E r)::OC g.s) (fun g=>G g.t/\Inv g.t g.s) (fun g=>(b - g.t).toNat) ⟨a,Q⟩ SFA ?_ ⟨y,W⟩ ?_
 ·rw[List.append_nil];exact .refl _
 rintro⟨t,s⟩ ⟨ht,hi⟩
 dsimp only at ht hi ⊢
 rw[List.append_nil]
 have M:=F t ht
 obtain⟨q,x⟩:∃ q,nxD rs E t=q:=⟨_,rfl⟩
 have K:∀ u,q=some u->t<u:=fun u C=>by
  obtain⟨_,_,_,_,_,_,_,_,_,_,_,_,X⟩:=M
  exact X u (x.trans C)
 rw[x]
 rcases q with _|u
 ·dsimp only[Option.getD,Option.isSome]
  repeat (refine walk ?_)
  exact ZsB _ (.refl _) ⟨rfl,t,s,ht,hi,fun u C=>(by rw[x]at C;cases C),.refl _⟩
 ·have N:=K u rfl
  dsimp only[Option.getD,Option.isSome]
  rcases Int.lt_or_le b u with hbu|hbu
  ·have d1:decide (u<=b)=false:=decide_eq_false (by omega)
   repeat (first|(apply RL_pu;rfl;exact Zyo)|refine walk1 ?_)
   exact ZsB _ (.refl _) ⟨rfl,t,s,ht,hi,fun v V=>(by rw[x]at V;cases V;exact hbu),.refl _⟩
  ·have d1:decide (u<=b)=true:=decide_eq_true hbu
   have j:=D t u ht x hbu
   have m:=F u j
   obtain⟨o,B⟩:∃ o,nxD rs E u=o:=⟨_,rfl⟩
   have hy:=Z t u s ht j x N hbu hi
   repeat (first|(apply Zgk;rfl;rfl;rfl;(intro c h;cases h);rfl;(apply Pu_move;rfl);rfl;rfl;exact hy;rintro R O' ⟨rfl,i,J,I⟩)|(apply RL_pu;rfl;exact Zyo)|refine walk1 ?_)
   apply ZcG (.inl rfl);rfl;(intro c h;cases h);(apply Pu_not;rfl)
   refine Zbi ?_
   apply thenQ_n
   refine Zaf rfl (fun h=>(by cases h)) (fun h=>?_)
   refine Zcz (fr':=[(0,.func (.yield L) #[] #[]),(1,.pointer (some ⟨d,0,none⟩)),(2,.pointer (some ⟨e,0,none⟩)),(3,.pointer (some ⟨f,0,none⟩)),(5,.int .i64 u)]) (O' := .blk d [.slice p.Ae E.length p.ce,.slice p.As r.length p.cs,.slice p.Ar E.length p.cr] 118 :: .blk e [.int .i64 a] 2 :: .blk f [.int .i64 b] 2 :: .fact S (PaF p rs E r)::OC i) SFA I ?_
   repeat (first|(refine js ?_;(apply Zad (h:=fun w' w H=>Zmm p rs E r _ w' (T.up w) (z w' w (Zbh (H.of (A := .fact S (PaF p rs E r)) (by repeat' constructor)))) m);rfl;(rw[show optV (nxD rs E _)=optV o from congrArg optV B];rintro v O' ⟨rfl,rfl⟩)))|refine walk ?_)
   subst B
   exact⟨⟨u,i⟩,by dsimp only;omega,⟨j,J⟩,SFA,by rw[List.append_nil];exact .refl _⟩
end Go.Proofs.YtpipekfmecikmaaGreatDoor
namespace Go.Wk
open Go Go.RowKit
section
variable {κ:Type}[DecidableEq κ]{kv:κ->Value}
variable {P:Program}{n:Nat}{wr:World}{fr:Fr}{O:List It}{ty:TypeId}{pos:String}{af:Array Edge}{dst:Option Tmp}{g:Option (Nat × Bool)}{Kp:Value->List It->Prop}
theorem Zn0 {t kt et b:Nat}{l:List (κ × Int)}{w:World}[hM:MapT P t kt et][hK:KeyT P kt κ kv][ZeroV P et (.int .i64 0)](h:(cmIt kv b l).sat w)(k:κ):(Instr.lookup t (.map (some b)) (kv k) true).run P w = .ok (.tuple #[.int .i64 (cget k l),.bool (decide (k∈l.map (·.1)))]) w:=by
 have d:=cmIt.heap h
 have j:=run_underlying (w:=w) (MapT.parts hM.h)
 have f:=hK.ask k l w
 have m:=Zet (P:=P) (t:=et) (v := .int .i64 0) (w:=w)
 have g:=fun b=>hK.chk b k w
 obtain⟨c,e⟩:∃ c:Array MapEntry,c=(cent kv 0 l).toArray:=⟨_,rfl⟩
 rw[<- e]at d
 have i:c.toList=cent kv 0 l:=by rw[e]
 simp only[Instr.lookup,Sem.run_bind,j,Result.andThen_ok,Zbd (P:=P) d,Sem.run_pure,g,i,f]
 rw[Zgc]
 by_cases a:k∈l.map (·.1)
 ·rw[if_pos a,decide_eq_true a]
  simp
 ·rw[if_neg a,Zdj k l a,decide_eq_false a]
  simp[m]
theorem ZrW {t kt et b:Nat}{x e:Operand}{l:List (κ × Int)}{k:κ}{v:Int}{c:Bool}{R:List It}[hM:MapT P t kt et][hK:KeyT P kt κ kv][ZeroV P et (.int .i64 0)](j:ev fr x=some (.map (some b)))(g:ev fr e=some (kv k))(h:Pick (cmIt kv b l) O R)(i:cget k l=v)(f:decide (k∈l.map (·.1))=c) :
  Pu P n wr fr O (.lookup t x e true) ty (.tuple [.int .i64 v,.bool c].toArray):=fun a w d _ _ _ _=>by
 have:=Zn0 (P:=P) (t:=t) (kt:=kt) (et:=et) (d.own.sat _ (h.perm.mem_iff.2 List.mem_cons_self)) k
 simp only[execOp,d.sim.ev j,d.sim.ev g,Sem.run_bind,this,Result.andThen_ok,Sem.run_pure,i,f]
theorem ZpI {t kt et b:Nat}{l:List (κ × Int)}{w:World}[hM:MapT P t kt et][hK:KeyT P kt κ kv](h:(cmIt kv b l).sat w)(k:κ)(v:Int)(g:k ∉ l.map (·.1)):(Instr.mapUpdate t (.map (some b)) (kv k) (.int .i64 v)).run P w =
  .ok () { w with heap:=w.heap.setIfInBounds b (.map (cent kv 0 (l++[(k,v)])).toArray (l++[(k,v)]).length) }:=by
 have c:=cmIt.heap h
 have m:=run_underlying (w:=w) (MapT.parts hM.h)
 have e:=hK.ask k l w
 have f:=fun b=>hK.chk b k w
 obtain⟨a,d⟩:∃ a:Array MapEntry,a=(cent kv 0 l).toArray:=⟨_,rfl⟩
 rw[<- d]at c
 have i:a.toList=cent kv 0 l:=by rw[d]
 simp only[Instr.mapUpdate,Sem.run_bind,m,Result.andThen_ok,Zbd (P:=P) c,Sem.run_pure,f,i,e]
 rw[Zgc,if_neg g]
 have j:(a.push { key:=kv k,val := .int .i64 v,born:=l.length })=(cent kv 0 (l++[(k,v)])).toArray:=by
  rw[d,Zle,Nat.zero_add]
  simp[cent]
 rw[<- j]
 simp[setObj,Sem.run,c]
theorem ZwR {t kt et b:Nat}{x f y:Operand}{l h:List (κ × Int)}{k:κ}{v:Int}{O':List It}[hM:MapT P t kt et][hK:KeyT P kt κ kv](o:ev fr x=some (.map (some b)))(i:ev fr f=some (kv k))(p:ev fr y=some (.int .i64 v))(j:k ∉ l.map (·.1))(m:l++[(k,v)]=h)(e:Upd O (cmIt kv b l) (cmIt kv b h) O')
  (q:Kp undef O'):Stp P n wr fr O ⟨dst,.mapUpdate t x f y,ty,pos,af,g⟩ Kp :=
 Ze9 fun a w c=>by
  subst m
  have d:=setC c e
  refine⟨_,O',?_,d.1,d.2,q⟩
  have:=ZpI (P:=P) (t:=t) (kt:=kt) (et:=et) (c.own.sat _ e.mem) k v j
  simp only[execOp,c.sim.ev o,c.sim.ev i,c.sim.ev p,Sem.run_bind,this,Result.andThen_ok,Sem.run_pure]
theorem Zi2 {t kt et b:Nat}{x f y:Operand}{l h:List (κ × Int)}{k:κ}{v:Int}{O':List It}[hM:MapT P t kt et][hK:KeyT P kt κ kv](o:ev fr x=some (.map (some b)))(i:ev fr f=some (kv k))(p:ev fr y=some (.int .i64 v))(j:k ∉ l.map (·.1))(m:l++[(k,v)]=h)(e:Upd O (cmIt kv b l) (cmIt kv b h) O')
  (q:Kp undef O'):Stp P n wr fr O ⟨dst,.insert t x f y,ty,pos,af,g⟩ Kp :=
 Ze9 fun a w c=>by
  subst m
  have d:=setC c e
  refine⟨_,O',?_,d.1,d.2,q⟩
  have:=ZpI (P:=P) (t:=t) (kt:=kt) (et:=et) (c.own.sat _ e.mem) k v j
  simp only[execOp,c.sim.ev o,c.sim.ev i,c.sim.ev p,Sem.run_bind,this,Result.andThen_ok,Sem.run_pure]
end
end Go.Wk
namespace Go.Proofs.YtpipekfmecikmaaGreatDoor
open Go Go.RowKit Go.Wk
def ixL (x:Zaw):List Zaw->Nat->Option Nat
 | [],_=>none
 | y::l,i=>if y=x then some i else ixL x l (i+1)
def Zo1 (ty:List Zaw)(x:Zaw):Nat × List Zaw:=match ixL x ty 0 with
 | some i=>(i,ty)
 | none=>(ty.length,ty++[x])
def ZrR (rs:List DRule)(l:List DEra)(to:Int):Nat->Int->Zaw->List Zaw->List (Int × Nat)->Option (List (Int × Nat) × List Zaw)
 | 0,_,_,_,_=>none
 | k+1,t,now,ty,out=>match nxD rs l t with
  | none=>some (out,ty)
  | some u=>if to<u then some (out,ty)
   else if Zhp rs l u=now then ZrR rs l to k u now ty out
   else ZrR rs l to k u (Zhp rs l u) (Zo1 ty (Zhp rs l u)).2 (out++[(u,(Zo1 ty (Zhp rs l u)).1)])
def allD (rs:List DRule)(l:List DEra)(a b:Int):Option (List (Int × Nat) × List Zaw):=ZrR rs l b 50001 a (Zhp rs l a) [Zhp rs l a] []
section
variable {rs:List DRule}{l:List DEra}{Y:Nat->Int}
end
theorem ZpW {x:Zaw}:∀ (l:List Zaw) (i:Nat),ixL x l i=none->x ∉ l
 | [],_,_=>by simp
 | y::l,i,h=>by
  rw[ixL]at h
  by_cases b:y=x
  ·rw[if_pos b]at h;cases h
  ·rw[if_neg b]at h
   have:=ZpW l (i+1) h
   intro a
   rcases List.mem_cons.1 a with rfl|a
   ·exact b rfl
   ·exact this a
end Go.Proofs.YtpipekfmecikmaaGreatDoor
namespace Go.Wk
open Go Go.RowKit
theorem ZAH {P:Program}{n:Nat}{wr:World}{fr:Fr}{O:List It}{ty t t':TypeId}{α:Type}[DecidableEq α]{enc:α->List Value}{x y:Operand}{i j:α}{b:Bool}[hE:EqE P t α enc](a:ev fr x=some (.agg (enc i).toArray))(c:ev fr y=some (.agg (enc j).toArray))(h:decide (i=j)=b) :
  Pu P n wr fr O (.binOp .eql t x y t') ty (.bool b):=h▸Pu_eqlE a c
end Go.Wk
namespace Go.Proofs.YtpipekfmecikmaaGreatDoor
open Go Go.RowKit Go.Wk
instance : EqE Tryz.prog 42 Zaw Zaw.enc where
 h r s w:=by
  unfold Zaw.enc
  simp[go_sem,ZeW]
  rcases r with⟨_,_,_⟩
  rcases s with⟨_,_,_⟩
  simp only[Zmi,Result.ok.injEq,and_true]
  rw[Bool.eq_iff_iff]
  simp[and_assoc]
 g:=by kernel_rfl
attribute [local irreducible] W RL Does Zaq Zai retQ Calls Pu Stp RD Qy Ay Zaj RLI WI
def lkV (x:Zaw):Value := .agg x.enc.toArray
theorem Zmy (k:Zaw)(w:World):∀ (l:List (Zaw × Int)) (i j:Nat),(Instr.findAsking 42 (lkV k) (cent lkV j l) i).run Tryz.prog w = .ok (Zjf k l i) w
 | [],_,_=>rfl
 | x::l,i,j=>by
  have h:=EqE.h (P:=Tryz.prog) (t:=42) (enc:=Zaw.enc) k x.1 w
  rw[cent,Instr.findAsking,Zjf]
  simp only[lkV,Op.equal,Op.maxDepth]at h ⊢
  simp only[Sem.run_bind,h,Result.andThen_ok]
  by_cases a:k=x.1
  ·rw[decide_eq_true a,if_pos a];rfl
  ·rw[decide_eq_false a,if_neg a]
   have b:=Zmy k w l (i+1) (j+1)
   simp only[lkV]at b
   simpa using b
theorem Zs9 (b:Bool)(k:Zaw)(d:Nat)(w:World):(Instr.checkKey b (d+1+1) 42 (.agg k.enc.toArray)).run Tryz.prog w = .ok () w:=by
 simp[Instr.checkKey,go_sem,Zaw.enc]
instance : KeyT Tryz.prog 42 Zaw lkV where
 ask k l w:=by
  cases l with
  | nil=>simp[Instr.findKey,go_sem,cent,Instr.findNow,Zjf]
  | cons x l =>
   have h:=Zmy k w (x::l) 0 0
   simp only[cent]at h ⊢
   simp[Instr.findKey,go_sem,Instr.findNow,Instr.sameNow,lkV]
   exact h
 chk b k w:=Zs9 b k 9998 w
 stay k w:=by simp[Instr.keyThatStays,Instr.sameBits,lkV,Zaw.enc,Zgf]
def Zdm (x:Int × Nat):List Value:=[.int .i64 x.1,.int .i64 x.2]
def tyGo:List Zaw->Nat->List (Zaw × Int)
 | [],_=>[]
 | x::l,i=>(x,(i:Int))::tyGo l (i+1)
def tyM (ty:List Zaw):List (Zaw × Int):=tyGo ty 0
theorem ZhG:∀ (l:List Zaw) (i:Nat),(tyGo l i).map (·.1)=l
 | [],_=>rfl
 | x::l,i=>by rw[tyGo,List.map_cons,ZhG l (i+1)]
theorem ZpD:∀ (l m:List Zaw) (i:Nat),tyGo (l++m) i=tyGo l i++tyGo m (i+l.length)
 | [],_,_=>rfl
 | x::l,m,i=>by rw[List.cons_append,tyGo,tyGo,ZpD l m (i+1),List.cons_append,List.length_cons,show i+1+l.length=i+(l.length+1) by omega]
theorem ZpC (x:Zaw):∀ (l:List Zaw) (i:Nat),cget x (tyGo l i)=match ixL x l i with|some j=>(j:Int)|none=>0
 | [],_=>rfl
 | y::l,i=>by
  rw[tyGo,cget,ixL]
  by_cases h:y=x
  ·rw[if_pos h,if_pos h.symm]
  ·rw[if_neg h,if_neg (fun a=>h a.symm),ZpC x l (i+1)]
theorem Ztn {x:Zaw}:∀ (l:List Zaw) (i:Nat),(ixL x l i).isSome=decide (x∈l)
 | [],_=>rfl
 | y::l,i=>by
  rw[ixL]
  by_cases h:y=x
  ·rw[if_pos h,h];simp
  ·rw[if_neg h,Ztn l (i+1)]
   have:x≠y:=fun a=>h a.symm
   simp[this]
theorem ZAY (x:Zaw)(ty:List Zaw):decide (x∈(tyM ty).map (·.1))=(ixL x ty 0).isSome:=by rw[tyM,ZhG,Ztn]
theorem Zzz (x:Zaw)(ty:List Zaw):tyM ty++[(x,(ty.length:Int))]=tyM (ty++[x]):=by rw[tyM,tyM,ZpD,Nat.zero_add];rfl
theorem Zzy {x:Zaw}{ty:List Zaw}(h:ixL x ty 0=none):x ∉ (tyM ty).map (·.1):=by rw[tyM,ZhG];exact ZpW ty 0 h
def LcAt (rs:List DRule)(E:List DEra)(r:List ZaG)(t:Int):Prop:=∃ (k:Nat) (x:ZaG) (e:DEra),Zc9 r t=(x,true)/\x.era=(k:Nat)/\E[k]?=some e/\LcOk rs e/\(-1000000000000000000<=t/\t<=1000000000000000000) /\
 (-1000000000<=(Zbz rs e t).1/\(Zbz rs e t).1<=1000000000)/\(Zbz rs e t).2.size<=1000000000/\abE e (Zbz rs e t)=0/\Zhp rs E t=Zid e (Zbz rs e t)
theorem Zog (p:PaL)(rs:List DRule)(E:List DEra)(r:List ZaG)(t:Int)(w:World)(n:LibW w)(m:Glob w)(o:ZnD w p rs E r)(h:LcAt rs E r t) :
  Does Tryz.prog 68 [.agg (p.cells E r).toArray,.int .i64 t] w (fun v O=>v = .tuple #[.agg (Zhp rs E t).enc.toArray,.int .i64 0]/\O=[]):=by
 obtain⟨k,x,e,a,b,c,d,f,g,i,j,l⟩:=h
 rw[l]
 exact ZkK p rs E r t k x e w n m o a b c d f g i j
end Go.Proofs.YtpipekfmecikmaaGreatDoor
namespace Go.Wk
open Go Go.RowKit
section
variable {P:Program}{n:Nat}{wr:World}{ops:Array Oper}{todo todo':List (Nat × Oper)}{V:List Qp}{Al:List Ap}{K:Fr->List It->Prop}{fr:Fr}{O:List It}
theorem Zoo {i:Nat}{o:Oper}{V':List Qp}(B:todo.Perm ((i,o)::todo'))(S:ZgB o.op=true)(hg:∀ a,Sim n fr a->Region.wanted o (yielded ops a.tmps)=true)(c:ZiF o.dst n Al=true)(I:V'.Sublist V)(J:∀ X:List Qp,X.Sublist V->(∀ x∈X,gone ops i x=false)->X.Sublist V')
  (G:∀ F,Stp P n wr fr (O++F) o fun v O'=>∃ O'',Ends O' F O''/\QF P n wr ops (updF fr o.dst v) O'' V'/\AF P n wr ops (updF fr o.dst v) Al/\RD P n wr ops todo' V' Al K (updF fr o.dst v) O'')
  (A:Rg P n wr ops todo V Al fr O) (m:Nat) (F:List It) (X:List Qp) (Y:List (Ap × Nat)) (N:List Ap) (a:Act) (w:World) (U:X.Sublist V) (T:Al.Perm (Y.map (·.1)++N)) (l:St n wr (ZaQ Y++fr) (O++(ZcB Y++F)) (putX a X) w) (hm:todo.length+X.length+N.length<=m+1) (L:Zfo ops (Tof todo X N)) (R:∃ o,ops[i]?=some o/\∀ e∈o.after,Region.binds .any e=true->¬ Tof todo X N e.on) :
  wpOp P ops (Zfx n wr F K) i (AnyT P ops (Zfx n wr F K) m (fun j=>Tof todo X N j/\j≠i)) a w:=by
 have Q:(i,o)∈todo:=B.mem_iff.2 List.mem_cons_self
 have z:=A.ok _ Q
 simp only at z
 have ag:∀ p∈ZaQ Y,look fr p.1=none:=fun p B=>by
  obtain⟨y,f,rfl⟩:=List.mem_map.1 B
  obtain⟨_,_,_,_,_,_,h,_⟩:=A.af.mem y.1 (T.mem_iff.2 (List.mem_append_left _ (List.mem_map.2 ⟨y,f,rfl⟩)))
  exact h
 have t:∀ y∈X,y.d ∉ o.looksAt ops:=fun y f=>by
  obtain⟨oy,_,_,W,_⟩:=A.qf.mem y (U.subset f)
  exact Zfz W z (Zbr R (.inr (.inl ⟨y,f,rfl⟩)))
 have D:∀ y∈X,i≠y.i:=fun y f=>(List.nodup_append.1 A.idx).2.2 _ (List.mem_map.2 ⟨_,Q,rfl⟩) _ (List.mem_append_left _ (List.mem_map.2 ⟨y,U.subset f,rfl⟩))
 have ad:∀ y∈X,o.dst≠some y.d:=fun y f=>by
  obtain⟨oy,_,_,W,_⟩:=A.qf.mem y (U.subset f)
  exact ZjS W z (D y f) (Zbr R (.inr (.inl ⟨y,f,rfl⟩)))
 have ac:X.Sublist V':=J X U fun y f=>by
  have H:Tof todo X N y.i := .inr (.inl ⟨y,f,rfl⟩)
  have h1:=Zbr R H
  have h2:ZhW ops y.i i=false:=by
   cases hh:ZhW ops y.i i with
   | false=>rfl
   | true=>exact absurd ⟨H,fun e=>D y f e.symm⟩ (ZhV (L.step R) hh fun h=>h.2 rfl)
  rw[gone,h1,h2]
  rfl
 have C:Sim n fr (putX a X):=l.sim.lsub (Zc0 ag fun _ _ h=>h)
 have M:=ZeN (ops:=ops) (ZdE S) X a t
 have r:=hg _ C
 rw[M.2]at r
 have g:=(B.map (·.1)).append_right (V.map (·.i)++Al.map (·.i)) |>.nodup_iff.1 A.idx
 rw[List.map_cons,List.cons_append,List.nodup_cons]at g
 have hT:(fun j=>Tof todo X N j/\j≠i)=Tof todo' X N:=by
  funext j
  apply propext
  constructor
  ·rintro⟨⟨q,s,rfl⟩|h|h,hne⟩
   ·rcases List.mem_cons.1 (B.mem_iff.1 s) with rfl|s
    ·exact absurd rfl hne
    ·exact .inl ⟨q,s,rfl⟩
   ·exact .inr (.inl h)
   ·exact .inr (.inr h)
  ·rintro(⟨q,s,rfl⟩|⟨x,hx,rfl⟩|⟨k,hk,rfl⟩)
   ·exact⟨.inl ⟨q,B.mem_iff.2 (List.mem_cons_of_mem _ s),rfl⟩,fun e=>g.1 (List.mem_append_left _ (List.mem_map.2 ⟨q,s,e⟩))⟩
   ·exact⟨.inr (.inl ⟨x,hx,rfl⟩),fun e=>D x hx e.symm⟩
   ·have ae:k∈Al:=T.mem_iff.2 (List.mem_append_right _ hk)
    exact⟨.inr (.inr ⟨k,hk,rfl⟩),fun e=>g.1 (List.mem_append_right _ (List.mem_append_right _ (List.mem_map.2 ⟨k,ae,e⟩)))⟩
 unfold Go.wpOp
 simp only[z,r,if_true]
 refine .inl ?_
 rw[hT]
 have E:∀ d,o.dst=some d->d<(putX a X).tmps.size:=fun d hd=>by
  rw[hd]at c
  simp only[ZiF,Bool.and_eq_true]at c
  rw[l.sim.size]
  exact Nat.le_of_ble_eq_true c.1
 refine ZhA (Kn:=fun b w'=>(∃ v,b=(putX a X).put o.dst v)/\∀ v,b=(putX a X).put o.dst v->AnyT P ops (Zfx n wr F K) m (Tof todo' X N) (a.put o.dst v) w') M.1 (fun v w' h=>h.2 v rfl) ?_ ?_
 ·rintro d w' ⟨⟨v,h⟩,_⟩
  have:=congrArg (fun x:Act=>x.defers.length) h
  simp[ZjB]at this
 ·refine G (ZcB Y++F) _ w ⟨C,l.old,l.own⟩ _ _ ?_
  rintro v O' w' hB hH ⟨O'',hE,aa,Z,ab⟩
  refine⟨⟨v,rfl⟩,fun u hu=>?_⟩
  rw[<- ZsP E hu a]
  rw[hE.eq]at hH
  refine ab ⟨?_,?_,aa,Z,fun q s=>A.ok q (B.mem_iff.2 (List.mem_cons_of_mem _ s))⟩ m F X Y N _ w' ac T ⟨?_,hB,hH⟩ ?_ (hT▸L.step R)
  ·refine g.2.sublist ?_
   exact(List.Sublist.refl _).append ((I.map _).append (List.Sublist.refl _))
  ·exact A.dst.sublist ((I.map _).append (List.Sublist.refl _))
  ·rw[ZfS X a _ _ ad]
   cases hd:o.dst with
   | none=>exact l.sim
   | some d =>
    rw[hd]at c
    simp only[ZiF,Bool.and_eq_true,List.all_eq_true,Bool.not_eq_true']at c
    refine(l.sim.put c.1 v).lsub (ZdZ fun q s=>?_)
    obtain⟨y,f,rfl⟩:=List.mem_map.1 s
    exact Nat.ne_of_beq_eq_false (c.2 y.1 (T.mem_iff.2 (List.mem_append_left _ (List.mem_map.2 ⟨y,f,rfl⟩))))
  ·have:=B.length_eq
   simp only[List.length_cons]at this
   omega
theorem Zli {o:Oper}(a:alOk n fr o.dst Al=true):ZiF o.dst n Al=true:=by
 unfold alOk at a
 cases hd:o.dst with
 | none=>rfl
 | some d =>
  rw[hd]at a
  simp only[Bool.and_eq_true]at a
  simp only[ZiF,Bool.and_eq_true]
  exact a.1
theorem ZoZ {o:Oper}{v:Value}(a:alOk n fr o.dst Al=true)(b:AF P n wr ops fr Al):AF P n wr ops (updF fr o.dst v) Al:=by
 cases hd:o.dst with
 | none=>exact b
 | some d =>
  unfold alOk at a
  rw[hd]at a
  simp only[Bool.and_eq_true,Bool.or_eq_true,List.all_eq_true,Bool.not_eq_true']at a
  rcases a.2 with he|hl
  ·have:Al=[]:=by simpa using he
   subst this
   exact trivial
  ·have c:look fr d=none:=by simpa using hl
   refine AF.mono (LSub.cons c) (fun k e=>?_) b
   obtain⟨_,_,_,_,_,_,h,_⟩:=b.mem k e
   show look ((d,v)::fr) k.d=none
   rw[Zfy (Nat.ne_of_beq_eq_false (a.1.2 k e))]
   exact h
def okT (ops:Array Oper)(fr:Fr)(todo:List (Nat × Oper))(i1 i2:Nat)(o1 o2:Oper)(ks:List Nat):Bool:=(todo.all fun p=>Nat.beq p.1 i1||(Nat.beq p.1 i2||((todo.any fun q=>Zbj ops q.1 p.1)||ks.any fun k=>Zbj ops k p.1)))&&(ZgB o1.op&&(ZgB o2.op&&((match gst ops fr o1.guard with|some b=>b|none=>false)&&(match gst ops fr o2.guard with|some b=>b|none=>false))))
theorem Zow {o:Oper}(h:(match gst ops fr o.guard with|some b=>b|none=>false)=true):gst ops fr o.guard=some true:=by
 split at h
 ·rename_i b a
  rw[a,h]
 ·cases h
theorem ZBJ {J i2:Nat}{r z:Oper}{A f:List (Nat × Oper)}{V1 V2:List Qp}{ks:List (Ap × List Ap)}(kk:∀ x∈ks,∀ b,RD P n wr ops todo V x.2 K ((x.1.d,x.1.val b)::fr) (x.1.it b::O))
  (g:∀ F,Stp P n wr fr (O++F) r fun v O'=>∃ O'',Ends O' F O''/\QF P n wr ops (updF fr r.dst v) O'' V1/\RD P n wr ops A V1 Al K (updF fr r.dst v) O'')
  (k:∀ F,Stp P n wr fr (O++F) z fun v O'=>∃ O'',Ends O' F O''/\QF P n wr ops (updF fr z.dst v) O'' V2/\RD P n wr ops ((J,r)::f) V2 Al K (updF fr z.dst v) O'')
  (ab:Zh4 ops todo Al todo=some ((J,r),A)) (ac:Zh4 ops todo Al A=some ((i2,z),f)) (aa:Zk6 ops todo [] Al=ks) (G:okT ops fr todo J i2 r z (ks.map (·.1.i))=true) (l:alOk n fr r.dst Al=true) (o:alOk n fr z.dst Al=true) (C:Filt ops J V V1) (D:Filt ops i2 V V2) :
  RD P n wr ops todo V Al K fr O:=by
 have q1:=(ZdC ab).perm
 have q2:todo.Perm ((i2,z)::(J,r)::f):=q1.trans (((ZdC ac).perm.cons _).trans (List.Perm.swap _ _ _))
 simp only[okT,Bool.and_eq_true]at G
 obtain⟨h1,h2,h3,h4,h5⟩:=G
 have g1:=Zow h4
 have g2:=Zow h5
 refine ZeS (fun h=>?_) ?_
 ·have:=q1.length_eq
  rw[h]at this
  simp at this
 intro B m F X Y N a w W U y hm s p H t
 have c:=List.all_eq_true.1 h1 p H
 simp only[Bool.or_eq_true]at c
 rcases c with c|c|c|c
 ·rw[Nat.eq_of_beq_eq_true c]at t ⊢
  exact Zoo q1 h2 (fun a u=>Zd1 g1 u) (Zli l) C.le C.ge (fun F a w u Kn Q E=>g F a w u Kn Q fun v O' w' L M ⟨O'',R,S,T⟩=>E v O' w' L M ⟨O'',R,S,ZoZ l B.af,T⟩) B m F X Y N a w W U y hm s t
 ·rw[Nat.eq_of_beq_eq_true c]at t ⊢
  exact Zoo q2 h3 (fun a u=>Zd1 g2 u) (Zli o) D.le D.ge (fun F a w u Kn Q E=>k F a w u Kn Q fun v O' w' L M ⟨O'',R,S,T⟩=>E v O' w' L M ⟨O'',R,S,ZoZ o B.af,T⟩) B m F X Y N a w W U y hm s t
 ·rw[List.any_eq_true]at c
  obtain⟨q,hq,hh⟩:=c
  rw[Zbr t (.inl ⟨q,hq,rfl⟩)]at hh
  cases hh
 ·rw[List.any_eq_true]at c
  obtain⟨j,hj,he⟩:=c
  obtain⟨x,hx,rfl⟩:=List.mem_map.1 hj
  have I:=hx
  rw[<- aa]at I
  have e:=ZgK Al [] x I
  have Z:x.1 ∉ N:=fun E=>by
   rw[Zbr t (.inr (.inr ⟨x.1,E,rfl⟩))]at he
   cases he
  exact ZiW (kk x hx) (B.perm e) m F X Y N a w W (e.symm.trans U) y hm s p H t Z
theorem ZDu {i1 i2:Nat}{o1 o2:Oper}{td1 rest:List (Nat × Oper)}{V1 V2:List Qp}
  (a:∀ F,Stp P n wr fr (O++F) o1 fun v O'=>∃ O'',Ends O' F O''/\QF P n wr ops (updF fr o1.dst v) O'' V1/\RD P n wr ops td1 V1 Al K (updF fr o1.dst v) O'')
  (b:∀ F,Stp P n wr fr (O++F) o2 fun v O'=>∃ O'',Ends O' F O''/\QF P n wr ops (updF fr o2.dst v) O'' V2/\RD P n wr ops ((i1,o1)::rest) V2 Al K (updF fr o2.dst v) O'')
  (hp1:Zh4 ops todo Al todo=some ((i1,o1),td1):=by rfl) (hp2:Zh4 ops todo Al td1=some ((i2,o2),rest):=by rfl) (hks:Zk6 ops todo [] Al=[]:=by rfl) (hok:okT ops fr todo i1 i2 o1 o2 []=true:=by rfl) (hal1:alOk n fr o1.dst Al=true:=by rfl) (hal2:alOk n fr o2.dst Al=true:=by rfl)
  (hV1:Filt ops i1 V V1:=by repeat (first|exact Go.Wk.Filt.nil|(apply Go.Wk.Filt.drop;rfl)|(apply Go.Wk.Filt.dropT;rfl)|(apply Go.Wk.Filt.keep;rfl))) (hV2:Filt ops i2 V V2:=by repeat (first|exact Go.Wk.Filt.nil|(apply Go.Wk.Filt.drop;rfl)|(apply Go.Wk.Filt.dropT;rfl)|(apply Go.Wk.Filt.keep;rfl))) :
  RD P n wr ops todo V Al K fr O:=ZBJ (fun _ c=>by cases c) a b hp1 hp2 hks hok hal1 hal2 hV1 hV2
def ZAV (P:Program)(n:Nat)(wr:World)(ops:Array Oper)(todo:List (Nat × Oper))(V:List Qp)(Al:List Ap)(K:Fr->List It->Prop)(N:List Ap)(p:Nat × Oper)(fr:Fr)(O:List It):Prop:=Rg P n wr ops todo V Al fr O->(∀ (m:Nat) (F:List It) (X:List Qp) (Y:List (Ap × Nat)) (a:Act) (w:World),X.Sublist V->Al.Perm (Y.map (·.1)++N)->St n wr (ZaQ Y++fr) (O++(ZcB Y++F)) (putX a X) w->todo.length+X.length+N.length<=m+1->Zfo ops (Tof todo X N)->(∃ o,ops[p.1]?=some o/\∀ e∈o.after,Region.binds .any e=true->¬ Tof todo X N e.on)->wpOp P ops (Zfx n wr F K) p.1 (AnyT P ops (Zfx n wr F K) m (fun j=>Tof todo X N j/\j≠p.1)) a w)
theorem Zz7 {N:List Ap}{p:Nat × Oper}(i:p∈todo)(h:RD P n wr ops todo V Al K fr O):ZAV P n wr ops todo V Al K N p fr O:=fun e m F X Y a w f d c g b j=>(h e (m+1) F X Y N a w f d c g b).2 p.1 (.inl ⟨p,i,rfl⟩) j
theorem Zk9 {k:Ap}{N:List Ap}{p:Nat × Oper}(G:k ∉ N)(W:∀ b,ZAV P n wr ops todo V Al K N p ((k.d,k.val b)::fr) (k.it b::O)):ZAV P n wr ops todo V (k::Al) K N p fr O:=by
 intro r m F X Y a w R M q S E T
 have H:k∈Y.map (·.1):=by
  rcases List.mem_append.1 (M.mem_iff.1 List.mem_cons_self) with h|h
  ·exact h
  ·exact absurd h G
 obtain⟨⟨f,b⟩,A,rfl⟩:=List.mem_map.1 H
 obtain⟨Y1,Y2,rfl⟩:=List.append_of_mem A
 obtain⟨⟨o,h1,h2,h3,h4,h5,L,h7⟩,s⟩:=r.af
 have g:∀ x∈Al,x.d≠f.d:=fun x C e=>by
  have:=(List.nodup_append.1 r.dst).2.1
  rw[List.map_cons,List.nodup_cons]at this
  exact this.1 (List.mem_map.2 ⟨x,C,e⟩)
 have j:Al.Perm ((Y1++Y2).map (·.1)++N):=by
  have B:((Y1++(f,b)::Y2).map (·.1)++N).Perm (f::((Y1++Y2).map (·.1)++N)):=by
   simp only[List.map_append,List.map_cons,List.append_assoc,List.cons_append]
   exact List.perm_middle
  exact(List.perm_cons f).1 (M.trans B)
 refine W b ⟨?_,?_,r.qf.mono (LSub.cons L) (SubO.weak _ (SubO.refl _)),AF.mono (LSub.cons L) (fun x C=>?_) s,r.ok⟩ m F X (Y1++Y2) a w R j ⟨?_,q.old,?_⟩ S E T
 ·refine r.idx.sublist ?_
  simp only[List.map_cons]
  exact(List.Sublist.refl _).append ((List.Sublist.refl _).append (List.sublist_cons_self _ _))
 ·refine r.dst.sublist ?_
  simp only[List.map_cons]
  exact(List.Sublist.refl _).append (List.sublist_cons_self _ _)
 ·obtain⟨_,_,_,_,_,_,h,_⟩:=s.mem x C
  rw[Zfy (g x C)]
  exact h
 ·refine q.sim.lsub ?_
  have i:∀ p∈ZaQ Y1,p.1≠f.d:=fun p c e=>by
   obtain⟨y,A,rfl⟩:=List.mem_map.1 c
   have l:y.1∈Al:=j.mem_iff.2 (List.mem_append_left _ (List.mem_map.2 ⟨y,List.mem_append_left _ A,rfl⟩))
   exact g y.1 l e
  have u:∀ p∈ZaQ Y2,p.1≠f.d:=fun p c e=>by
   obtain⟨y,A,rfl⟩:=List.mem_map.1 c
   have l:y.1∈Al:=j.mem_iff.2 (List.mem_append_left _ (List.mem_map.2 ⟨y,List.mem_append_right _ A,rfl⟩))
   exact g y.1 l e
  intro t v Q
  have B:=ZdZ (v:=f.val b) (fr:=fr) (Z:=ZaQ (Y1++Y2)) (fun p c=>by
   rw[ZaQ,List.map_append]at c
   rcases List.mem_append.1 c with c|c
   ·exact i p c
   ·exact u p c) t v Q
  have I:ZaQ (Y1++(f,b)::Y2)++fr=ZaQ Y1++(f.d,f.val b)::(ZaQ Y2++fr):=by simp[ZaQ]
  have J:ZaQ (Y1++Y2)++fr=ZaQ Y1++(ZaQ Y2++fr):=by simp[ZaQ]
  rw[I]
  rw[J]at B
  clear I J Q
  revert B i
  generalize ZaQ Y1=Z
  intro D
  induction Z with
  | nil=>exact fun h=>h
  | cons z Z ih =>
   intro h
   have U:=D z List.mem_cons_self
   simp only[List.cons_append,look]at h ⊢
   cases hb1:Nat.beq f.d t with
   | true =>
    have e:=Nat.eq_of_beq_eq_true hb1
    subst e
    rw[hb1]at h
    have:Nat.beq z.1 f.d=false:=by
     cases hc:Nat.beq z.1 f.d with
     | false=>rfl
     | true=>exact absurd (Nat.eq_of_beq_eq_true hc) U
    rw[this]
    refine ih (fun p c=>D p (List.mem_cons_of_mem _ c)) ?_
    simp only[look,hb1]
    exact h
   | false =>
    rw[hb1]at h
    cases hb2:Nat.beq z.1 t with
    | true=>rw[hb2]at h;simpa using h
    | false =>
     rw[hb2]at h
     refine ih (fun p c=>D p (List.mem_cons_of_mem _ c)) ?_
     simp only[look,hb1]
     simpa using h
 ·refine q.own.perm ?_
  simp only[ZcB,List.map_append,List.map_cons,List.append_assoc,List.cons_append]
  have h:=List.perm_middle (a:=f.it b) (l₁:=O++List.map (fun y:Ap × Nat=>y.1.it y.2) Y1) (l₂:=List.map (fun y:Ap × Nat=>y.1.it y.2) Y2++F)
  simpa using h
def okA (ops:Array Oper)(fr:Fr)(todo todo':List (Nat × Oper))(o:Oper)(ks:List Nat):Bool:=(todo'.all fun p=>(todo.any fun q=>Zbj ops q.1 p.1)||ks.all fun k=>Zbj ops k p.1)&&(ZgB o.op&&(match gst ops fr o.guard with|some b=>b|none=>false))
theorem ZBM {i:Nat}{o:Oper}{todo':List (Nat × Oper)}{V':List Qp}{k k2 k3:Ap}{A0:List Ap}(W:∀ l r s,RD P n wr ops todo V A0 K ((k3.d,k3.val s)::(k2.d,k2.val r)::(k.d,k.val l)::fr) (k3.it s::k2.it r::k.it l::O))
  (c:∀ F,Stp P n wr fr (O++F) o fun v O'=>∃ O'',Ends O' F O''/\QF P n wr ops (updF fr o.dst v) O'' V'/\RD P n wr ops todo' V' (k::k2::k3::A0) K (updF fr o.dst v) O'')
  (hp:Zh4 ops todo (k::k2::k3::A0) todo=some ((i,o),todo'):=by rfl) (hV:Filt ops i V V':=by repeat (first|exact Go.Wk.Filt.nil|(apply Go.Wk.Filt.drop;rfl)|(apply Go.Wk.Filt.dropT;rfl)|(apply Go.Wk.Filt.keep;rfl))) (hok:okA ops fr todo todo' o [k.i,k2.i,k3.i]=true:=by rfl) (hal:alOk n fr o.dst (k::k2::k3::A0)=true:=by rfl):RD P n wr ops todo V (k::k2::k3::A0) K fr O:=by
 have z:=(ZdC hp).perm
 simp only[okA,Bool.and_eq_true]at hok
 obtain⟨J,L,M⟩:=hok
 have g1:=Zow M
 refine ZeS (fun h=>?_) ?_
 ·have:=z.length_eq
  rw[h]at this
  simp at this
 intro u m F X Y N a w B A j C f p g t
 rcases List.mem_cons.1 (z.mem_iff.1 g) with hpe|hin
 ·subst hpe
  exact Zoo z L (fun a y=>Zd1 g1 y) (Zli hal) hV.le hV.ge (fun F a w y Kn Q S=>c F a w y Kn Q fun v O' w' D E ⟨O'',G,H,I⟩=>S v O' w' D E ⟨O'',G,H,ZoZ hal u.af,I⟩) u m F X Y N a w B A j C f t
 ·have b:=List.all_eq_true.1 J p hin
  simp only[Bool.or_eq_true]at b
  rcases b with b|b
  ·rw[List.any_eq_true]at b
   obtain⟨q,T,b⟩:=b
   rw[Zbr t (.inl ⟨q,T,rfl⟩)]at b
   cases b
  ·have e:∀ x:Ap,x.i∈[k.i,k2.i,k3.i]->x ∉ N:=fun x U R=>by
    have:=List.all_eq_true.1 b _ U
    rw[Zbr t (.inr (.inr ⟨x,R,rfl⟩))]at this
    cases this
   exact Zk9 (e k (by simp)) (fun l=>Zk9 (e k2 (by simp)) fun r=>Zk9 (e k3 (by simp)) fun s=>Zz7 g (W l r s)) u m F X Y a w B A j C f t
end
end Go.Wk
