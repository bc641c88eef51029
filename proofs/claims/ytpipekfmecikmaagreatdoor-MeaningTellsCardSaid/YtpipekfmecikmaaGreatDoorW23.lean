/- Parts of the proof. -/
import Derived.Test.YtpipekfmecikmaaGreatDoorW22
import Derived.Test.YtpipekfmecikmaaGreatDoorW16
import Derived.Test.YtpipekfmecikmaaGreatDoorW13
import Derived.Test.YtpipekfmecikmaaGreatDoorW06
import Derived.Test.YtpipekfmecikmaaGreatDoorW17
import Derived.Test.YtpipekfmecikmaaGreatDoorW14
import Derived.Test.YtpipekfmecikmaaGreatDoorW19
set_option maxHeartbeats 4000000
set_option linter.unusedVariables false
set_option linter.unusedSimpArgs false
namespace Go.Proofs.YtpipekfmecikmaaGreatDoor
open Go Go.RowKit Go.Wk
attribute [local irreducible] W RL Does Zat Zaj retQ Calls Pu Stp RD Qy Ay Zak RW
theorem ZhS {s:DSource}{p:Zaq}{e:Int}(h:Zc2 s=some (p,e)):e≠0:=by
 unfold Zc2 at h
 repeat' split at h
 all_goals first|(simp only[Option.some.injEq,Prod.mk.injEq]at h;omega)|cases h
theorem Zn7 {rs:List DRule}{x:ByteArray}{i:Nat}{e:Int}(h:ZbX rs x=some (i,e)):e≠0:=by
 unfold ZbX at h
 split at h
 ·simp only[Option.some.injEq,Prod.mk.injEq]at h;omega
 ·split at h
  ·rename_i a
   simp only[Option.some.injEq]at h
   rw[h]at a
   exact a
  ·split at h
   ·simp only[Option.some.injEq,Prod.mk.injEq]at h;omega
   ·cases h
theorem ZfA (rs:List DRule):∀ (l:List ByteArray) {p:Zaq} {e:Int},Zcw rs l=some (p,e)->e≠0
 | [],_,_,h=>by cases h
 | x::l,p,e,h=>by
  rw[Zcw]at h
  split at h
  ·rename_i i b a
   simp only[Option.some.injEq,Prod.mk.injEq]at h
   rw[<- h.2]
   exact Zn7 a
  ·exact ZfA rs l h
theorem ZdM (s:DSource):∀ (l a:List ByteArray) (i:Nat) {p:Zaq} {e:Int},ZaV s l a i=some (p,e)->e≠0
 | [],_,_,_,_,h=>by cases h
 | x::l,a,i,p,e,h=>by
  rw[ZaV]at h
  split at h
  ·simp only[Option.some.injEq,Prod.mk.injEq]at h;omega
  ·split at h
   ·simp only[Option.some.injEq,Prod.mk.injEq]at h;omega
   ·split at h
    ·simp only[Option.some.injEq,Prod.mk.injEq]at h;omega
    ·exact ZdM s l _ _ h
theorem Zg3 (s:DSource):∀ (l:List DLink) (i:Nat) {p:Zaq} {e:Int},Zbj s l i=some (p,e)->e≠0
 | [],_,_,_,h=>by cases h
 | x::l,i,p,e,h=>by
  rw[Zbj]at h
  repeat' split at h
  all_goals first|(simp only[Option.some.injEq,Prod.mk.injEq]at h;omega)|exact Zg3 s l _ h
theorem Zg2 (s:DSource):∀ (l:List DLink) (i:Nat) {p:Zaq} {e:Int},Zbi s l i=some (p,e)->e≠0
 | [],_,_,_,h=>by cases h
 | x::l,i,p,e,h=>by
  rw[Zbi]at h
  split at h
  ·simp only[Option.some.injEq,Prod.mk.injEq]at h;omega
  ·exact Zg2 s l _ h
theorem Zik {s:DSource}{p:Zaq}{e:Int}(h:Zc6 s=some (p,e)):e≠0:=by
 unfold Zc6 at h
 cases h1:Za4 s s.zones 0 with
 | some x=>rw[h1]at h;simp only[Option.some_or,Option.some.injEq]at h;subst h;exact Zea s _ _ _ _ h1
 | none =>
  rw[h1,Option.none_or]at h
  cases h2:Zbj s s.links 0 with
  | some x=>rw[h2]at h;simp only[Option.some_or,Option.some.injEq]at h;subst h;exact Zg3 s _ _ h2
  | none =>
   rw[h2,Option.none_or]at h
   exact Zg2 s _ _ h
theorem ZmY (rs:List DRule)(l:List DEra)(i:Nat):∀ (f k:Nat) {p:Zaq} {e:Int},Zb1 rs l i f k=some (p,e)->e≠0
 | 0,_,_,_,h=>by cases h
 | f+1,k,p,e,h=>by
  rw[Zb1]at h
  split at h
  ·rename_i a;simp only[Option.some.injEq,Prod.mk.injEq]at h;rw[<- h.2];exact a
  ·split at h
   ·rename_i a;simp only[Option.some.injEq,Prod.mk.injEq]at h;rw[<- h.2];exact a
   ·exact ZmY rs l i f _ h
theorem Zgc (rs:List DRule):∀ (l:List DZone) (i:Nat) {p:Zaq} {e:Int},Za8 rs l i=some (p,e)->e≠0
 | [],_,_,_,h=>by cases h
 | z::l,i,p,e,h=>by
  rw[Za8]at h
  split at h
  ·simp only[Option.some.injEq,Prod.mk.injEq]at h;omega
  ·split at h
   ·rename_i x a
    simp only[Option.some.injEq]at h
    subst h
    exact ZmY rs _ _ _ _ a
   ·split at h
    ·simp only[Option.some.injEq,Prod.mk.injEq]at h;omega
    ·exact Zgc rs l _ h
instance : ZeroT Tryz.prog 175 [.nilFunc]:=⟨by kernel_rfl⟩
theorem Zjp {G:Prop}(h:G:=by(first|(apply Zjh;rfl;(focus repeat' constructor);rfl)|(apply Zan;rfl;rfl;exact hb))):G:=h
theorem Zjo {G:Prop}(h:G:=by(apply Zjh;rfl;(focus repeat' constructor);rfl)):G:=h
set_option maxHeartbeats 2000000 in
theorem Zqp (Ar Az Al As:Option Addr)(d g c cs:Nat)(a:DSource)(w:World)(D:LibW w)(C:Glob w)(m:Zal w Ar Az Al As d g c cs a)(q:ZcX a)(E:SavI a)(F:∀ z∈a.zones,∀ e∈z.eras,Zjs e) :
  Does Tryz.prog 75 [srcV Ar Az Al As d g c cs a] w (fun v O=>v=ptV (accD a)/\O=[]):=by
 have r:∀ w',Bel w.heap.size w w'->Does Tryz.prog 113 ([srcV Ar Az Al As d g c cs a]++[]++[]) w' (fun v O=>v=ptV (Zc2 a)/\O=[]):=fun w' b=>Zrf Ar Az Al As d g c cs a w' (m.up b) q.nz
 have s:∀ w',Bel w.heap.size w w'->Does Tryz.prog 114 ([srcV Ar Az Al As d g c cs a]++[]++[]) w' (fun v O=>v=ptV (Ze6 a)/\O=[]):=fun w' b=>ZrK Ar Az Al As d g c cs a w' (C.up b) (m.up b) q E
 have t:∀ w',Bel w.heap.size w w'->Does Tryz.prog 115 ([srcV Ar Az Al As d g c cs a]++[]++[]) w' (fun v O=>v=ptV (ZaV a a.shifts [] 0)/\O=[]):=fun w' b=>Zmz Ar Az Al As d g c cs a w' (m.up b) q
 have u:∀ w',Bel w.heap.size w w'->Does Tryz.prog 116 ([srcV Ar Az Al As d g c cs a]++[]++[]) w' (fun v O=>v=ptV (Zc6 a)/\O=[]):=fun w' b=>ZoA Ar Az Al As d g c cs a w' (m.up b) q
 have j:Ze6 a=none->∀ w',Bel w.heap.size w w'->Does Tryz.prog 117 ([srcV Ar Az Al As d g c cs a]++[]++[]) w' (fun v O=>v=ptV (Za8 a.rules a.zones 0)/\O=[]):=fun H w' b=>Zo3 Ar Az Al As d g c cs a w' (D.up b) (C.up b) (m.up b) q (ZlZ H) F
 have I:=fun{p e} => @ZhS a p e
 have J:∀ {p e},Ze6 a=some (p,e)->e≠0:=fun h=>ZfA a.rules _ h
 have K:∀ {p e},ZaV a a.shifts [] 0=some (p,e)->e≠0:=fun h=>ZdM a _ _ _ h
 have L:=fun{p e} => @Zik a p e
 have M:∀ {p e},Za8 a.rules a.zones 0=some (p,e)->e≠0:=fun h=>Zgc a.rules _ _ h
 unfold accD
 generalize Zc2 a=o1 at *
 generalize Ze6 a=o2 at *
 generalize ZaV a a.shifts [] 0=o3 at *
 generalize Zc6 a=o4 at *
 generalize Za8 a.rules a.zones 0=o5 at *
 refine Zaa Tryz.func75 rfl rfl rfl rfl ?_
 repeat (first|(refine js ?_;(refine bx ?_;intro i))|refine ZlS ?_)
 refine W_block (Zqq 6 (Zd0 ?_))
 cases o1 with
 | some x =>
  obtain⟨⟨y,A,B⟩,e⟩:=x
  have hb:(!decide (e=0))=true:=by rw[decide_eq_false (I rfl)];rfl
  simp only[Option.some_or,ptV,plV,Zaq.enc]at r ⊢
  repeat (first|(apply RL_pu;rfl;exact Zjp)|(refine js ?_;(first|(refine Zf2 (fun w' b _=>r w' b) ?_)|(refine bx ?_;intro i)))|refine walk1 ?_)
  exact rtC
 | none =>
 simp only[ptV,plV,Zaq.enc]at r
 rw[Option.none_or]
 repeat (first|(apply RL_pu;rfl;exact Zjo)|(refine js ?_;(first|(refine Zf2 (fun w' b _=>r w' b) ?_)|(refine bx ?_;intro i)))|refine walk1 ?_)
 refine Zd0 ?_
 cases o2 with
 | some x =>
  obtain⟨⟨y,A,B⟩,e⟩:=x
  have hb:(!decide (e=0))=true:=by rw[decide_eq_false (J rfl)];rfl
  simp only[Option.some_or,ptV,plV,Zaq.enc]at s ⊢
  repeat (first|(apply RL_pu;rfl;exact Zjp)|(refine js ?_;(first|(refine Zf2 (fun w' b _=>s w' b) ?_)|(refine bx ?_;intro i)))|refine walk1 ?_)
  exact rtC
 | none =>
 replace j:=j rfl
 simp only[ptV,plV,Zaq.enc]at s
 rw[Option.none_or]
 repeat (first|(apply RL_pu;rfl;exact Zjo)|(refine js ?_;(first|(refine Zf2 (fun w' b _=>s w' b) ?_)|(refine bx ?_;intro i)))|refine walk1 ?_)
 refine Zd0 ?_
 cases o3 with
 | some x =>
  obtain⟨⟨y,A,B⟩,e⟩:=x
  have hb:(!decide (e=0))=true:=by rw[decide_eq_false (K rfl)];rfl
  simp only[Option.some_or,ptV,plV,Zaq.enc]at t ⊢
  repeat (first|(apply RL_pu;rfl;exact Zjp)|(refine js ?_;(first|(refine Zf2 (fun w' b _=>t w' b) ?_)|(refine bx ?_;intro i)))|refine walk1 ?_)
  exact rtC
 | none =>
 simp only[ptV,plV,Zaq.enc]at t
 rw[Option.none_or]
 repeat (first|(apply RL_pu;rfl;exact Zjo)|(refine js ?_;(first|(refine Zf2 (fun w' b _=>t w' b) ?_)|(refine bx ?_;intro i)))|refine walk1 ?_)
 refine Zd0 ?_
 cases o4 with
 | some x =>
  obtain⟨⟨y,A,B⟩,e⟩:=x
  have hb:(!decide (e=0))=true:=by rw[decide_eq_false (L rfl)];rfl
  simp only[Option.some_or,ptV,plV,Zaq.enc]at u ⊢
  repeat (first|(apply RL_pu;rfl;exact Zjp)|(refine js ?_;(first|(refine Zf2 (fun w' b _=>u w' b) ?_)|(refine bx ?_;intro i)))|refine walk1 ?_)
  exact rtC
 | none =>
 simp only[ptV,plV,Zaq.enc]at u
 rw[Option.none_or]
 repeat (first|(apply RL_pu;rfl;exact Zjo)|(refine js ?_;(first|(refine Zf2 (fun w' b _=>u w' b) ?_)|(refine bx ?_;intro i)))|refine walk1 ?_)
 refine Zd0 ?_
 cases o5 with
 | some x =>
  obtain⟨⟨y,A,B⟩,e⟩:=x
  have hb:(!decide (e=0))=true:=by rw[decide_eq_false (M rfl)];rfl
  simp only[ptV,plV,Zaq.enc]at j ⊢
  repeat (first|(apply RL_pu;rfl;exact Zjp)|(refine js ?_;(first|(refine Zf2 (fun w' b _=>j w' b) ?_)|(refine bx ?_;intro i)))|refine walk1 ?_)
  exact rtC
 | none =>
 simp only[ptV,plV,Zaq.enc]at j ⊢
 repeat (first|(apply RL_pu;rfl;exact Zjo)|(refine js ?_;(first|(refine Zf2 (fun w' b _=>j w' b) ?_)|(refine bx ?_;intro i)))|refine walk1 ?_)
 refine Zd0 ?_
 repeat (first|(refine js ?_;(refine bx ?_;intro i))|refine walk ?_)
 exact rtC
end Go.Proofs.YtpipekfmecikmaaGreatDoor
namespace Go.Proofs.YtpipekfmecikmaaGreatDoor
open Go Go.RowKit Go.Wk
attribute [local irreducible] W RL Does Zat Zaj retQ Calls Pu Stp RD Qy Ay Zak
theorem Zo8 {s:DSource}{p:Zaq}{e:Int}(h:accD s=some (p,e)):e≠0:=by
 unfold accD at h
 cases h1:Zc2 s with
 | some x=>rw[h1]at h;simp only[Option.some_or,Option.some.injEq]at h;subst h;exact ZhS h1
 | none =>
  rw[h1,Option.none_or]at h
  cases h2:Ze6 s with
  | some x=>rw[h2]at h;simp only[Option.some_or,Option.some.injEq]at h;subst h;exact ZfA _ _ h2
  | none =>
   rw[h2,Option.none_or]at h
   cases h3:ZaV s s.shifts [] 0 with
   | some x=>rw[h3]at h;simp only[Option.some_or,Option.some.injEq]at h;subst h;exact ZdM _ _ _ _ h3
   | none =>
    rw[h3,Option.none_or]at h
    cases h4:Zc6 s with
    | some x=>rw[h4]at h;simp only[Option.some_or,Option.some.injEq]at h;subst h;exact Zik h4
    | none =>
     rw[h4,Option.none_or]at h
     exact Zgc _ _ _ h
structure Zcb (w:World)(Ar Az Al As:Option Addr)(cr cz cl cs:Nat)(a:DSource):Prop where
 L:LibW w
 G:Glob w
 A:Zal w Ar Az Al As cr cz cl cs a
 S:ZcX a
 V:SavI a
 Z:∀ z∈a.zones,∀ e∈z.eras,Zjs e
theorem Zcb.up {w w':World}{Ar Az Al As:Option Addr}{d e c cs:Nat}{a:DSource}(h:Zcb w Ar Az Al As d e c cs a)(b:Bel w.heap.size w w'):Zcb w' Ar Az Al As d e c cs a :=
 ⟨h.L.up b,h.G.up b,h.A.up b,h.S,h.V,h.Z⟩
end Go.Proofs.YtpipekfmecikmaaGreatDoor
namespace Go.Proofs.YtpipekfmecikmaaGreatDoor
open Go Go.RowKit Go.Wk
def Zz8:ByteArray:=⟨#[69,105,114,101]⟩
def ZzF (m:Int)(d:DDay)(sec save:Int):DRule:=⟨Zz8,1972,1048576,m,d,⟨sec,2⟩,save,ByteArray.empty⟩
def sunD (n:Int):DDay:=⟨3,0,n⟩
def Zur (e:DEra)(save:Int)(letter:ByteArray):ByteArray:=⟨(Zdp e.format.data.toList e.off save letter.data.toList).1.toArray⟩
def untN:DUntil:=⟨false,0,0,⟨0,0,0⟩,⟨0,0⟩⟩
def ZhG:DRule:={ ZzF 10 ⟨1,0,31⟩ 7200 (-3600) with from_:=1971,to:=1971 }
def ZhI:DRule:=ZzF 3 (sunD 15) 7200 0
def ZhH:DRule:=ZzF 10 ⟨2,0,0⟩ 3600 (-3600)
def Zbx:DEra:=⟨0,0,0,ByteArray.empty,⟨#[71,77,84]⟩,⟨true,1968,10,⟨1,0,27⟩,⟨0,0⟩⟩⟩
def ZbL:DEra:=⟨3600,2,0,Zz8,⟨#[73,83,84,47,71,77,84]⟩,untN⟩
def dubN:ByteArray:=⟨#[69,117,114,111,112,101,47,68,117,98,108,105,110]⟩
def ZbA:DSource:=⟨[ZhG,ZhI,ZhH],[⟨dubN,[Zbx,ZbL]⟩],[],[]⟩
theorem ZwV:accD ZbA=none:=by decide +kernel
attribute [local irreducible] W RL Does Zat Zaj retQ Calls Pu Stp RD Qy Ay Zak
theorem ZCj (Ar Az Al As:Option Addr)(c d b cs:Nat)(a:DSource)(p:Zaq)(e:Int)(w:World)(h:Zcb w Ar Az Al As c d b cs a)(g:accD a=some (p,e)) :
  Does Tryz.prog 75 [srcV Ar Az Al As c d b cs a] w (fun v O=>(∃ i j k,v = .tuple #[.agg #[.int .i64 i,.int .i64 j,.int .i64 k],.int .i64 e])/\O=[]):=by
 have:=Zqp Ar Az Al As c d b cs a w h.L h.G h.A h.S h.V h.Z
 rw[g]at this
 exact this.mono fun v O f=>⟨⟨p.part,p.index,p.era,f.1⟩,f.2⟩
theorem ZCi (Ar Az Al As:Option Addr)(c d b cs:Nat)(a:DSource)(w:World)(h:Zcb w Ar Az Al As c d b cs a)(e:accD a=none) :
  Does Tryz.prog 75 [srcV Ar Az Al As c d b cs a] w (fun v O=>v = .tuple #[.agg #[.int .i64 0,.int .i64 0,.int .i64 0],.int .i64 0]/\O=[]):=by
 have:=Zqp Ar Az Al As c d b cs a w h.L h.G h.A h.S h.V h.Z
 rwa[e]at this
def Ztp:List Value:=[fnV 380,fnV 381,fnV 382]
def MeG (w:World):Prop:=Zau w ⟨1,0,none⟩ Ztp
theorem MeG.up {w w':World}(h:MeG w)(a:Bel w.heap.size w w'):MeG w':=Zau.up h a (Nat.le_refl _)
def meFn (k:Int):FuncId:=if k=0 then 380 else if k=1 then 381 else 382
theorem ZCf {w:World}(b:MeG w)(k:Int)(e:0<=k/\k<=2):Zau w ((⟨1,0,none⟩:Addr).add (k.toNat*1)) [fnV (meFn k)]:=by
 have d:k=0\/k=1\/k=2:=by omega
 intro j v a
 have c:j=0:=by
  rcases j with _|j
  ·rfl
  ·cases j <;> cases a
 subst c
 rcases d with rfl|rfl|rfl
 ·exact b 0 _ a
 ·exact b 1 _ a
 ·exact b 2 _ a
def ZaZ (rs:List DRule)(e:DEra)(t:Int):Int × ByteArray:=if e.kind=0 then (0,ByteArray.empty) else if e.kind=1 then (e.save,ByteArray.empty) else atS (ofB rs e.set) e.off t
theorem Zox (Ar Az Al As:Option Addr)(z D y cs:Nat)(a:DSource)(e:DEra)(t:Int)(w:World)(S:Glob w)(R:Zal w Ar Az Al As z D y cs a)(W:a.rules.length<=1000000)(hk:0<=e.kind/\e.kind<=2)(Y:e.kind=2->RsSm (ofB a.rules e.set))(X : -1000000000<=e.off/\e.off<=1000000000)(Z : -1000000000000000000<=t/\t<=1000000000000000000) :
  Does Tryz.prog (meFn e.kind) [srcV Ar Az Al As z D y cs a,.agg e.enc.toArray,.int .i64 t] w (fun v O=>v=stV (ZaZ a.rules e t)/\O=[]):=by
 have E:=fun w' (m:Bel w.heap.size w w')=>ZfJ Ar Az Al As z D y cs a e.set w' (R.up m) W
 have j:=fun(A:Option Addr) (c:Nat) w' (m:Bel w.heap.size w w') (U:RdSl w' A c DRule.enc 11 (ofB a.rules e.set)) (Q:e.kind=2)=>ZsL A c (ofB a.rules e.set) e.off t w' (S.up m) U (Y Q) X Z
 unfold ZaZ
 have M:e.kind=0\/e.kind=1\/e.kind=2:=by omega
 generalize atS (ofB a.rules e.set) e.off t=x at *
 generalize ofB a.rules e.set=rr at *
 obtain⟨off,kd,f,b,I,⟨J,L,K,⟨r,s,u⟩,⟨p,q⟩⟩⟩:=e
 obtain⟨xs,xl⟩:=x
 dsimp only at M E j ⊢
 unfold stV at j ⊢
 rcases M with rfl|rfl|rfl
 ·show Does _ 380 [.agg #[.slice Ar a.rules.length z,.slice Az a.zones.length D,.slice Al a.links.length y,.slice As a.shifts.length cs],.agg #[.int .i64 off,.int .i64 0,.int .i64 f,.string b,.string I,.bool J,.int .i64 L,.int .i64 K,.int .i64 r,.int .i64 s,.int .i64 u,.int .i64 p,.int .i64 q],.int .i64 t] w _
  refine Zaa Tryz.func380 rfl rfl rfl rfl ?_
  repeat (first|(refine js ?_;(refine bx ?_;intro H))|refine walk ?_)
  exact ret_1 _ [] (.cellB rfl (by repeat' constructor) rfl rfl) .nil ⟨rfl,rfl⟩
 ·show Does _ 381 [.agg #[.slice Ar a.rules.length z,.slice Az a.zones.length D,.slice Al a.links.length y,.slice As a.shifts.length cs],.agg #[.int .i64 off,.int .i64 1,.int .i64 f,.string b,.string I,.bool J,.int .i64 L,.int .i64 K,.int .i64 r,.int .i64 s,.int .i64 u,.int .i64 p,.int .i64 q],.int .i64 t] w _
  refine Zaa Tryz.func381 rfl rfl rfl rfl ?_
  repeat (first|(refine js ?_;(refine bx ?_;intro H))|refine walk ?_)
  exact ret_1 _ [] (.cellB rfl (by repeat' constructor) rfl rfl) .nil ⟨rfl,rfl⟩
 ·show Does _ 382 [.agg #[.slice Ar a.rules.length z,.slice Az a.zones.length D,.slice Al a.links.length y,.slice As a.shifts.length cs],.agg #[.int .i64 off,.int .i64 2,.int .i64 f,.string b,.string I,.bool J,.int .i64 L,.int .i64 K,.int .i64 r,.int .i64 s,.int .i64 u,.int .i64 p,.int .i64 q],.int .i64 t] w _
  refine Zaa Tryz.func382 rfl rfl rfl rfl ?_
  repeat (first|refine walk ?_|(refine jg ?_;(try intro F);(first|(apply Zae (h:=fun w' m _=>E w' m);rfl;rintro v O' ⟨A3,N,rfl,rfl⟩)|(refine ZaH (fun w' m T=>j A3 N w' m (ZaP DRule.len (T.of (by repeat' constructor))) rfl) ?_)|(refine bx ?_;intro H)|(refine stA ?_));refine fin ?_)|(refine jn ?_;(try intro F);(first|(refine bx ?_;intro H)|(refine stA ?_)|(apply Zad;exact PuA));refine fin ?_)|(apply RD_W;rfl;intro H))
  exact ret_1 _ [] (.cellB rfl (by repeat' constructor) rfl rfl) .nil ⟨rfl,rfl⟩
structure Zbe where
 off:Int
 dst:Bool
 abbr:ByteArray
deriving DecidableEq
def Zbe.enc (x:Zbe):List Value:=[.int .i64 x.off,.bool x.dst,.string x.abbr]
def lc0:Zbe:=⟨0,false,ByteArray.empty⟩
def Zes (e:DEra)(x:Int × ByteArray):Zbe:=⟨e.off+x.1,!decide (x.1=0),Zur e x.1 x.2⟩
def abE (e:DEra)(x:Int × ByteArray):Int:=(Zdp e.format.data.toList e.off x.1 x.2.data.toList).2
structure LcOk (rs:List DRule)(e:DEra):Prop where
 k:0<=e.kind/\e.kind<=2
 o : -1000000000<=e.off/\e.off<=1000000000
 s : -1000000000<=e.save/\e.save<=1000000000
 r:e.kind=2->RsSm (ofB rs e.set)
 f:e.format.size<=1000000000
theorem ZvG {G:Prop}(h:G:=by(first|(apply Zbr;rfl;rfl;omega;omega)|(apply Pu_loadO1;rfl;exact hcell 0 _ rfl))):G:=h
theorem Zyh {G:Prop}(h:G:=by first|(apply Qy_y;rfl;exact ZvG)|exact QyA):G:=h
theorem Zyx {G:Prop}(h:G:=by repeat (first|exact QF.nil|(apply QF.mk;rfl;rfl;decide +kernel;exact Zyh))):G:=h
theorem ZmA (Ar Az Al As:Option Addr)(s u q cs:Nat)(a:DSource)(e:DEra)(t:Int)(w:World)(W:LibW w)(U:Glob w)(X:MeG w)(T:Zal w Ar Az Al As s u q cs a)(Z:a.rules.length<=1000000)(j:LcOk a.rules e)(ht : -1000000000000000000<=t/\t<=1000000000000000000)
  (hx : -1000000000<=(ZaZ a.rules e t).1/\(ZaZ a.rules e t).1<=1000000000) (K:(ZaZ a.rules e t).2.size<=1000000000) (z:abE e (ZaZ a.rules e t)=0) :
  Does Tryz.prog 52 [srcV Ar Az Al As s u q cs a,.agg e.enc.toArray,.int .i64 t] w (fun v O=>v = .tuple #[.agg (Zes e (ZaZ a.rules e t)).enc.toArray,.int .i64 0]/\O=[]):=by
 have m:=fun w' (p:Bel w.heap.size w w')=>Zox Ar Az Al As s u q cs a e t w' (U.up p) (T.up p) Z j.k j.r j.o ht
 have hcell:=ZCf X e.kind j.k
 have Y:=j.k
 have ho:=j.o
 haveI:Body Tryz.prog (meFn e.kind):=by
  unfold meFn
  split
  ·infer_instance
  ·split <;> infer_instance
 generalize ZaZ a.rules e t=x at *
 have b:=fun w' (p:Bel w.heap.size w w')=>Zgz e.format x.2 e.off x.1 w' (W.up p) j.f K (by unfold I64;omega) (by unfold I64;omega)
 unfold abE at z
 unfold xpV at b
 rw[z]at b
 unfold Zes
 change ∀ w',Bel w.heap.size w w'->Does _ _ _ w' (fun v O=>v = .tuple #[.string (Zur e x.1 x.2),.int .i64 0]/\O=[]) at b
 generalize Zur e x.1 x.2=ab at *
 obtain⟨xs,xl⟩:=x
 obtain⟨off,L,y,c,N,⟨Q,S,R,⟨H,I,J⟩,⟨D,E⟩⟩⟩:=e
 dsimp only at m hcell Y ho hx b ⊢
 unfold stV at m
 simp only[Zbe.enc]
 show Does _ _ [.agg #[.slice Ar a.rules.length s,.slice Az a.zones.length u,.slice Al a.links.length q,.slice As a.shifts.length cs],.agg #[.int .i64 off,.int .i64 L,.int .i64 y,.string c,.string N,.bool Q,.int .i64 S,.int .i64 R,.int .i64 H,.int .i64 I,.int .i64 J,.int .i64 D,.int .i64 E],.int .i64 t] w _
 generalize meFn L=kf at *
 refine Zaa Tryz.func52 rfl rfl rfl rfl ?_
 repeat (first|(apply RL_pu;rfl;exact ZvG)|(apply RD_Q;rfl;rfl;decide +kernel;rfl;rfl;exact Zyh)|refine walk1 ?_|(refine jg ?_;(try intro F);(first|(apply Zar (f:=kf) (us:=[]) (cs:=[]) (vs:=[.agg #[.slice Ar a.rules.length s,.slice Az a.zones.length u,.slice Al a.links.length q,.slice As a.shifts.length cs],.agg #[.int .i64 off,.int .i64 L,.int .i64 y,.string c,.string N,.bool Q,.int .i64 S,.int .i64 R,.int .i64 H,.int .i64 I,.int .i64 J,.int .i64 D,.int .i64 E],.int .i64 t]) (h:=fun w' p _=>m w' p);rfl;rfl;rintro v O' ⟨rfl,rfl⟩)|(refine Zab b ?_)|(refine bx ?_;intro M)|(refine stA ?_));first|refine⟨_,EndsA,Zyx,?_⟩|refine fin ?_)|(refine jn ?_;(try intro F);(first|(refine bx ?_;intro M)|(refine stA ?_)|(apply Zad;first|exact ZvG|exact PuA));first|refine⟨_,EndsA,Zyx,?_⟩|refine fin ?_)|(apply RD_W;rfl;intro M))
 exact rtC
end Go.Proofs.YtpipekfmecikmaaGreatDoor
namespace Go.Proofs.YtpipekfmecikmaaGreatDoor
open Go Go.RowKit Go.Wk
theorem ZAP (rs:List DRule)(t:Int)(c:t<9223372036854775807):∀ (l:List DEra) (a:Int) (i:Nat) (r:List Zba),spGo rs l a i=some r->l≠[]->a<=t ->
  ∃ k x,k<l.length/\r[k]?=some x/\x.era=(i:Int)+(k:Nat)/\Zdk t r i=(i:Int)+(k:Nat)/\x.start<=t/\t<x.fin
 | [],_,_,_,_,h,_=>absurd rfl h
 | [e],a,i,r,h,_,hs=>by
  simp only[spGo,Option.some.injEq]at h
  subst h
  refine⟨0,_,Nat.zero_lt_one,rfl,by simp,?_,hs,c⟩
  rw[Zdk,if_pos (by unfold spIn;rw[decide_eq_true hs,decide_eq_true c];rfl)]
  simp
 | e::f::l,a,i,r,h,_,hs=>by
  rw[spGo]at h
  by_cases d:endT e (ruEr rs e)<=a
  ·rw[if_pos d]at h;cases h
  rw[if_neg d]at h
  obtain⟨m,j,rfl⟩:=Option.map_eq_some_iff.1 h
  by_cases b:t<endT e (ruEr rs e)
  ·refine⟨0,_,by simp,rfl,by simp,?_,hs,b⟩
   rw[Zdk,if_pos (by unfold spIn;rw[decide_eq_true hs,decide_eq_true b];rfl)]
   simp
  ·obtain⟨k,x,p,a2,a3,a4,a5,g⟩:=ZAP rs t c (f::l) _ (i+1) m j (by simp) (Int.not_lt.1 b)
   refine⟨k+1,x,by rw[List.length_cons];omega,a2,by omega,?_,a5,g⟩
   rw[Zdk,if_neg (by unfold spIn;dsimp only;rw[decide_eq_false b,Bool.and_false];decide),a4]
   omega
theorem Zxr (rs:List DRule):∀ (l:List DEra) (a:Int) (i:Nat) (r:List Zba),spGo rs l a i=some r->r.length=l.length
 | [],_,_,_,h=>by
  simp only[spGo,Option.some.injEq]at h
  subst h
  rfl
 | [e],a,i,r,h=>by
  simp only[spGo,Option.some.injEq]at h
  subst h
  rfl
 | e::f::l,a,i,r,h=>by
  rw[spGo]at h
  by_cases b:endT e (ruEr rs e)<=a
  ·rw[if_pos b]at h;cases h
  rw[if_neg b]at h
  obtain⟨d,c,rfl⟩:=Option.map_eq_some_iff.1 h
  rw[List.length_cons,Zxr rs (f::l) _ (i+1) d c];rfl
theorem ZlX (rs:List DRule):∀ (l:List DEra) (c:Int) (i:Nat),(∀ e,l[0]?=some e->1<l.length->c<endT e (ruEr rs e)) ->
  (∀ k e f,l[k]?=some e->l[k+1]?=some f->k+2<l.length->endT e (ruEr rs e)<endT f (ruEr rs f))->∃ r,spGo rs l c i=some r
 | [],_,_,_,_=>⟨_,rfl⟩
 | [e],_,_,_,_=>⟨_,rfl⟩
 | e::f::l,c,i,h1,h2=>by
  have j:=h1 e rfl (by simp)
  obtain⟨r,d⟩:=ZlX rs (f::l) (endT e (ruEr rs e)) (i+1) (fun g a b=>by
   cases a
   exact h2 0 e f rfl rfl (by simp only[List.length_cons]at b ⊢;omega)) (fun k g u a h b=>h2 (k+1) g u a h (by simp only[List.length_cons]at b ⊢;omega))
  exact⟨_,by rw[spGo,if_neg (by omega),d];rfl⟩
def Zfa (rs:List DRule)(l:List DEra)(t:Int):Nat:=match ZkN rs l with
 | some r=>(Zdk t r 0).toNat
 | none=>0
theorem ZkM {rs:List DRule}{l:List DEra}{r:List Zba}(h:ZkN rs l=some r)(f:l≠[]){t:Int}(d : -9223372036854775808<=t)(e:t<9223372036854775807) :
  ∃ x,Zfa rs l t<l.length/\r[Zfa rs l t]?=some x/\Zfz r t=(x,true)/\x.era=(Zfa rs l t:Nat)/\x.start<=t/\t<x.fin:=by
 obtain⟨k,x,b,a2,a3,a4,a5,c⟩:=ZAP rs t e l _ 0 r h f d
 have a:Zfa rs l t=k:=by
  unfold Zfa
  rw[h]
  dsimp only
  rw[a4]
  simp
 refine⟨x,by rw[a];exact b,by rw[a];exact a2,?_,by rw[a,a3];simp,a5,c⟩
 unfold Zfz
 rw[a4,if_neg (by omega),List.getD_eq_getElem?_getD,show(((0:Nat):Int)+(k:Nat)).toNat=k by omega,a2]
 rfl
def Zij (rs:List DRule)(l:List DEra)(t:Int):Zbe:=Zes (l.getD (Zfa rs l t) dE0) (ZaZ rs (l.getD (Zfa rs l t) dE0) t)
section
variable {P:Int × ByteArray->Prop}{l:List DRule}
theorem Zqk (a:P (0,ByteArray.empty))(b:∀ r∈l,P (r.save,r.letter))(e:Zac):P (behS l e):=by
 unfold behS ruE
 rw[List.getD_eq_getElem?_getD]
 cases hx:l[e.rule.toNat]? with
 | none=>exact a
 | some r=>exact b r (List.mem_of_getElem? hx)
theorem ZxH (a:P (0,ByteArray.empty))(b:∀ r∈l,P (r.save,r.letter)):P (iniS l):=by
 unfold iniS
 cases fstD l true 0 with
 | none=>exact a
 | some e =>
  dsimp only
  cases fstD l false (ruE l e).save with
  | none=>exact Zqk a b e
  | some o=>exact Zqk a b o
theorem ZBk (a:P (0,ByteArray.empty))(b:∀ r∈l,P (r.save,r.letter))(n:Int):P (befS l n):=by
 unfold befS
 cases befD l n with
 | none=>exact ZxH a b
 | some e=>exact Zqk a b e
theorem ZxK (b:P (0,ByteArray.empty))(c:∀ r∈l,P (r.save,r.letter))(a t:Int):∀ (k:Nat) (n:Int),P (atGo l a t k n)
 | 0,n=>ZBk b c n
 | k+1,n=>by
  rw[atGo]
  cases befD l n with
  | none=>exact ZxH b c
  | some e =>
   dsimp only
   split
   ·exact Zqk b c e
   ·exact ZxK b c a t k _
end
theorem ZpM {P:Int × ByteArray->Prop}{rs:List DRule}{e:DEra}(a:P (0,ByteArray.empty))(b:e.kind=1->P (e.save,ByteArray.empty))(c:e.kind≠0->e.kind≠1->∀ r∈ofB rs e.set,P (r.save,r.letter))(t:Int):P (ZaZ rs e t):=by
 unfold ZaZ
 split
 ·exact a
 ·split
  ·exact b ‹_›
  ·exact ZxK a (c ‹_› ‹_›) _ _ _ _
theorem Zk7 {n:Int}(h : -604799<=n/\n<=604799):Ze8 n=true:=by unfold Ze8;simp;exact h
theorem ZgE (least nominal:Int)(r:DRule)(i:Int):∀ (k:Nat) (y:Int) (e:Zac),beIn least nominal r i y k=some e->∃ b,onR least r i b=some e/\e.nominal<nominal
 | 0,_,_,h=>by cases h
 | k+1,y,e,h=>by
  rw[beIn]at h
  cases he:onR least r i y with
  | none=>rw[he]at h;exact ZgE least nominal r i k (y - 1) e h
  | some e' =>
   rw[he]at h
   dsimp only at h
   by_cases a:e'.nominal<nominal
   ·rw[if_pos a]at h
    cases h
    exact⟨y,he,a⟩
   ·rw[if_neg a]at h
    exact ZgE least nominal r i k (y - 1) e h
theorem Zi6 (least nominal:Int)(r:DRule)(i:Int):∀ (k:Nat) (y:Int) (q:Nat) (e:Zac),q<k->onR least r i (y - q)=some e->e.nominal<nominal->∃ a,beIn least nominal r i y k=some a/\e.nominal<=a.nominal
 | 0,_,_,_,h,_,_=>absurd h (by omega)
 | k+1,y,q,e,h,h1,h2=>by
  rw[beIn]
  cases he:onR least r i y with
  | none =>
   cases q with
   | zero=>rw[show y - ((0:Nat):Int)=y by omega,he]at h1;cases h1
   | succ q=>exact Zi6 least nominal r i k (y - 1) q e (by omega) (by rw[show y - 1 - (q:Int)=y - ((q+1:Nat):Int) by omega];exact h1) h2
  | some a =>
   dsimp only
   by_cases b:a.nominal<nominal
   ·rw[if_pos b]
    refine⟨a,rfl,?_⟩
    cases q with
    | zero=>rw[show y - ((0:Nat):Int)=y by omega,he]at h1;cases h1;exact Int.le_refl _
    | succ q=>exact Int.le_of_lt (ZkV h1 he (by omega))
   ·rw[if_neg b]
    cases q with
    | zero=>rw[show y - ((0:Nat):Int)=y by omega,he]at h1;cases h1;exact absurd h2 b
    | succ q=>exact Zi6 least nominal r i k (y - 1) q e (by omega) (by rw[show y - 1 - (q:Int)=y - ((q+1:Nat):Int) by omega];exact h1) h2
theorem Zi2 (least a c:Int):∀ (l:List DRule) (i:Nat) (b:Option Zac) (e:Zac),Zfb least a c l i b=some e->b=some e\/∃ (j:Nat) (r:DRule),l[j]?=some r/\beIn least a r ((i+j:Nat):Int) (min (lastY r) (c+2)) 20=some e
 | [],_,_,_,h => .inl h
 | r::l,i,b,e,h=>by
  rw[Zfb]at h
  rcases Zi2 least a c l (i+1) _ e h with h1|⟨j,r',h1,h2⟩
  ·cases he:beIn least a r i (min (lastY r) (c+2)) 20 with
   | none=>rw[he]at h1;exact .inl h1
   | some e' =>
    rw[he]at h1
    have d:∀ x,e'=x->∃ (j:Nat) (r':DRule),(r::l)[j]?=some r'/\beIn least a r' ((i+j:Nat):Int) (min (lastY r') (c+2)) 20=some x:=fun x f=>⟨0,r,rfl,by rw[<- f];exact he⟩
    cases b with
    | none=>cases h1;exact .inr (d _ rfl)
    | some b =>
     dsimp only at h1
     split at h1
     ·cases h1;exact .inr (d _ rfl)
     ·exact .inl h1
  ·exact .inr ⟨j+1,r',by simpa using h1,by rw[show i+(j+1)=i+1+j by omega];exact h2⟩
def EvOf (l:List DRule)(e:Zac):Prop:=∃ (j:Nat) (r:DRule) (y:Int),l[j]?=some r/\onR (Zag l) r (j:Int) y=some e
section
variable {l:List DRule}
theorem Zlp {n:Int}{e:Zac}(c:befD l n=some e):EvOf l e/\e.nominal<n:=by
 rcases Zi2 _ _ _ l 0 none e c with h1|⟨j,r,h1,h2⟩
 ·cases h1
 ·obtain⟨y,a,b⟩:=ZgE _ _ _ _ _ _ _ h2
  rw[Nat.zero_add]at a
  exact⟨⟨j,r,y,h1,a⟩,b⟩
end
structure Zdg (r:DRule):Prop where
 f0:1850<=r.from_
 f1:r.from_<=2149
 ft:r.from_<=r.to
 t1:r.to<=2149\/r.to=1048576
 alw:Zb4 r.from_ r.to r.month r.day=true
 clk:ZaI r.at_=true
 save : -10800<=r.save/\r.save<=10800
 letter:r.letter=ByteArray.empty\/Zet r.letter=true
theorem Zdg.of {r:DRule}{least:Int}(h:Zbp r least=0):Zdg r:=by
 unfold Zbp at h
 by_cases b:(Zbm r.from_&&(Zbm r.to||decide (r.to=1048576)))=false
 ·rw[if_pos b]at h;omega
 rw[if_neg b]at h
 by_cases f:r.to<r.from_
 ·rw[if_pos f]at h;omega
 rw[if_neg f]at h
 by_cases c:Zb4 r.from_ r.to r.month r.day=false
 ·rw[if_pos c]at h;omega
 rw[if_neg c]at h
 by_cases a:Zd4 r.at_ least=false
 ·rw[if_pos a]at h;omega
 rw[if_neg a]at h
 by_cases d:(decide (-10800<=r.save)&&decide (r.save<=10800))=false
 ·rw[if_pos d]at h;omega
 rw[if_neg d]at h
 by_cases e:(decide (r.letter=ByteArray.empty)||Zet r.letter)=false
 ·rw[if_pos e]at h;omega
 simp only[Zbm,Bool.not_eq_false,Bool.and_eq_true,Bool.or_eq_true,decide_eq_true_eq]at b c a d e
 have g:ZaI r.at_=true:=by
  unfold Zd4 at a
  rw[Bool.and_eq_true]at a
  exact a.1
 exact⟨b.1.1,b.1.2,by omega,by omega,c,g,d,e⟩
theorem ZAk {f t m:Int}{d:DDay}(h:Zb4 f t m d=true):1<=m/\m<=12/\Zbv d=true:=by
 unfold Zb4 at h
 by_cases a:m<1\/12<m\/Zbv d=false
 ·rw[if_pos a]at h;cases h
 ·cases hd:Zbv d with
  | false=>exact absurd (.inr (.inr hd)) a
  | true=>exact⟨by omega,by omega,rfl⟩
theorem ZA0 (y m:Int):lenM 1 m<=lenM y m:=by
 unfold lenM
 rw[show ZbZ 1=false by decide]
 split
 ·omega
 ·split
  ·cases ZbZ y <;> simp
  ·omega
theorem Zty {y:Int}(h:0<=y):ZbZ (y.tmod 400)=ZbZ y:=by
 rw[Int.tmod_eq_emod_of_nonneg h]
 unfold ZbZ
 rw[show y % 400 % 4=y % 4 by omega,show y % 400 % 100=y % 100 by omega,show y % 400 % 400=y % 400 by omega]
theorem Zdg.on {r:DRule}(h:Zdg r){y:Int}(m:r.from_<=y)(b:y<=Go.Wk.lastY r):(onD y r.month r.day).2=0:=by
 obtain⟨m0,m1,f⟩:=ZAk h.alw
 have j:=h.f0
 have o:y<=2000000000:=by
  unfold Go.Wk.lastY at b
  split at b <;> omega
 have i:=ZzY y r.month m0 m1
 have k:r.day.day<=lenM y r.month:=by
  have a:=h.alw
  unfold Zb4 at a
  rw[if_neg (by rw[f];rintro(q|q|q);omega;omega;cases q)]at a
  by_cases g:(r.to<1048576/\r.to<r.from_)\/r.day.day<=lenM 1 r.month
  ·have n:=h.ft
   have:=ZA0 y r.month
   omega
  rw[if_neg g]at a
  by_cases d:1048576<=r.to\/r.from_≠r.to\/r.month≠2
  ·rw[if_pos d]at a;cases a
  rw[if_neg d]at a
  have l:y=r.from_:=by
   unfold Go.Wk.lastY at b
   rw[if_neg (by omega)]at b
   omega
  have e:lenM (r.from_.tmod 400) r.month=lenM y r.month:=by
   unfold lenM
   rw[Zty (by omega),l]
  rw[e]at a
  exact of_decide_eq_true a
 unfold onD
 have c:Za3 y r.month 1=true:=by
  unfold Za3 inY
  simp
  omega
 rw[if_neg (by rw[c];decide),if_neg (by rw[f];decide),if_neg (by omega)]
theorem Zdg.last {r:DRule}(h:Zdg r):r.from_<=Go.Wk.lastY r/\Go.Wk.lastY r<=2000000000/\(r.to=1048576->Go.Wk.lastY r=2000000000)/\(r.to≠1048576->Go.Wk.lastY r=r.to):=by
 have a:=h.f0
 have b:=h.f1
 have c:=h.ft
 have d:=h.t1
 unfold Go.Wk.lastY
 split <;> omega
theorem Zdg.onY {r:DRule}(h:Zdg r)(least i:Int){y:Int}(a:r.from_<=y)(b:y<=Go.Wk.lastY r):∃ e,onR least r i y=some e:=by
 have d:=h.on a b
 have c:=h.f0
 unfold onR
 rw[if_neg (by rw[h.clk];rintro(q|q|q);omega;omega;cases q),if_neg (by rw[d];decide)]
 exact⟨_,rfl⟩
theorem ZiC (least:Int):∀ (l:List DRule) (k:Nat) (x:Nat × Int),ZaS least l k=some x->x.2≠0
 | [],_,_,h=>by cases h
 | r::l,k,x,h=>by
  rw[ZaS]at h
  by_cases a:Zbp r least=0
  ·rw[if_pos a]at h
   exact ZiC least l (k+1) x h
  ·rw[if_neg a]at h
   cases h
   exact a
structure ZbH (l:List DRule):Prop where
 rule:∀ r∈l,Zdg r
 zero:∃ r∈l,r.save=0
 last:Zgv l=true
 apart:ZeD l=none
theorem ZbH.least {l:List DRule}(h:∀ r∈l,Zdg r) : -10800<=Zag l/\Zag l<=0:=by
 obtain⟨b,c,a⟩:=ZtM l 0
 unfold Zag
 refine⟨?_,b⟩
 rcases a with a|⟨r,h4,h5⟩
 ·omega
 ·have:=(h r h4).save
  omega
theorem ZbH.of {l:List DRule}(a:(Zcv l).2=0)(f:ZeD l=none):ZbH l:=by
 unfold Zcv at a
 cases hb:ZaS (Zag l) l 0 with
 | some x =>
  rw[hb]at a
  exact absurd a (ZiC _ _ _ x hb)
 | none =>
  rw[hb]at a
  dsimp only at a
  by_cases b:(l.any fun r=>decide (r.save=0))=false\/(Zag l<0/\(l.any fun r => !decide (r.save=0)&&!decide (r.save=Zag l))=true)
  ·rw[if_pos b]at a;simp at a
  rw[if_neg b]at a
  by_cases d:Zgv l=false
  ·rw[if_pos d]at a;simp at a
  refine⟨fun r c=>Zdg.of (ZdS _ _ _ hb r c),?_,by simpa using d,f⟩
  have e:(l.any fun r=>decide (r.save=0))=true:=by
   cases hc:l.any fun r=>decide (r.save=0) with
   | true=>rfl
   | false=>exact absurd (.inl hc) b
  obtain⟨r,c,g⟩:=List.any_eq_true.1 e
  exact⟨r,c,of_decide_eq_true g⟩
section
variable {l:List DRule}(h:ZbH l)
include h
theorem ZbH.ne:l≠[]:=fun b=>by
 obtain⟨r,a,_⟩:=h.zero
 rw[b]at a
 cases a
end
def betB (b:Option Zac)(x:Zac):Bool:=match b with
 | none=>true
 | some b=>ltE b x
def upB (n:Int)(b o:Option Zac):Option Zac:=match o with
 | none=>b
 | some x=>if (decide (x.nominal<n)&&betB b x)=true then some x else b
def rbI (least n:Int)(r:DRule)(i y:Int):Nat->Option Zac->Option Zac
 | 0,b=>b
 | k+1,b=>rbI least n r i (y+1) k (upB n b (onR least r i y))
def Zcx (r:DRule)(yr:Int):Int × Int:=(max (max r.from_ (-2000000000)) (min (lastY r) (yr+2) - 20),min (lastY r) (yr+2))
def Zxx (r:DRule)(yr:Int):Int × Int:=(max (max r.from_ (-2000000000)) (yr - 2),min (lastY r) (max (max r.from_ (-2000000000)) (yr - 2)+20))
def rbGo (least n yr:Int):List DRule->Nat->Option Zac->Option Zac
 | [],_,b=>b
 | r::l,i,b=>rbGo least n yr l (i+1) (rbI least n r i (Zcx r yr).1 ((Zcx r yr).2+1 - (Zcx r yr).1).toNat b)
theorem ZzW {a b:Zac}(h:a.nominal<b.nominal):ltE a b=true:=by
 simp only[ltE,Zel,decide_eq_true_eq]
 exact .inl h
theorem ZpT (least n:Int)(r:DRule)(i:Int):∀ (k:Nat) (y:Int) (b:Option Zac),rbI least n r i y (k+1) b=upB n (rbI least n r i y k b) (onR least r i (y+k))
 | 0,y,b=>by rw[rbI,rbI,rbI,show y+((0:Nat):Int)=y by omega]
 | k+1,y,b=>by
  rw[rbI,ZpT least n r i k (y+1),rbI,show y+1+(k:Int)=y+((k+1:Nat):Int) by omega]
theorem Zo0 (least n:Int)(r:DRule)(i:Int):∀ (k:Nat) (y:Int) (e:Zac),beIn least n r i y k=some e->∃ a,a<=y/\onR least r i a=some e/\e.nominal<n
 | 0,_,_,h=>by cases h
 | k+1,y,e,h=>by
  rw[beIn]at h
  have c:=Zo0 least n r i k (y - 1) e
  have lift:(∃ a,a<=y - 1/\onR least r i a=some e/\e.nominal<n)->∃ a,a<=y/\onR least r i a=some e/\e.nominal<n:=fun⟨a,f,d⟩=>⟨a,by omega,d⟩
  cases he:onR least r i y with
  | none=>rw[he]at h;exact lift (c h)
  | some x =>
   rw[he]at h
   dsimp only at h
   by_cases b:x.nominal<n
   ·rw[if_pos b]at h
    cases h
    exact⟨y,Int.le_refl _,he,b⟩
   ·rw[if_neg b]at h
    exact lift (c h)
def cmB (b o:Option Zac):Option Zac:=match o with
 | none=>b
 | some e=>if betB b e=true then some e else b
theorem Zxo {n:Int}{b:Option Zac}{e:Zac}(h:e.nominal<n):upB n b (some e)=cmB b (some e):=by
 unfold upB cmB
 dsimp only
 rw[decide_eq_true h,Bool.true_and]
theorem Zxp {n:Int}{b:Option Zac}{e:Zac}(h:¬ e.nominal<n):upB n b (some e)=b:=by
 unfold upB
 dsimp only
 rw[decide_eq_false h,Bool.false_and,if_neg (by decide)]
theorem Zt6 {a e:Zac}(h:ltE a e=true):cmB (some a) (some e)=some e:=if_pos h
theorem ZBf {a e:Zac}(h:ltE a e=false):cmB (some a) (some e)=some a:=if_neg (by rw[show betB (some a) e=ltE a e from rfl,h];decide)
theorem Zw0 (b:Option Zac){c e:Zac}(a:ltE c e=true):cmB (cmB b (some c)) (some e)=cmB b (some e):=by
 cases b with
 | none=>exact Zt6 a
 | some b0 =>
  cases hb:ltE b0 c with
  | true=>rw[Zt6 hb,Zt6 a,Zt6 (swoE.trans _ _ _ hb a)]
  | false=>rw[ZBf hb]
theorem Zxv (least n:Int)(r:DRule)(i:Int):∀ (k:Nat) (y:Int) (b:Option Zac),rbI least n r i y k b=cmB b (beIn least n r i (y+k - 1) k)
 | 0,y,b=>rfl
 | k+1,y,b=>by
  rw[ZpT,Zxv least n r i k y b,show y+((k+1:Nat):Int) - 1=y+k by omega,beIn]
  cases he:onR least r i (y+k) with
  | none=>rfl
  | some e =>
   dsimp only
   by_cases a:e.nominal<n
   ·rw[if_pos a,Zxo a]
    cases ho:beIn least n r i (y+k - 1) k with
    | none=>rfl
    | some e' =>
     obtain⟨f,d,c,_⟩:=Zo0 _ _ _ _ _ _ _ ho
     exact Zw0 b (ZzW (ZkV c he (by omega)))
   ·rw[if_neg a,Zxp a]
theorem Zi5 (least n:Int)(r:DRule)(i:Int)(m:Nat):∀ (k:Nat) (y:Int) (e:Zac),beIn least n r i y k=some e->beIn least n r i y (k+m)=some e
 | 0,_,_,h=>by cases h
 | k+1,y,e,h=>by
  rw[show k+1+m=k+m+1 by omega]
  rw[beIn]at h ⊢
  cases he:onR least r i y with
  | none=>rw[he]at h;exact Zi5 least n r i m k (y - 1) e h
  | some x =>
   rw[he]at h
   dsimp only at h ⊢
   by_cases a:x.nominal<n
   ·rw[if_pos a]at h ⊢;exact h
   ·rw[if_neg a]at h ⊢;exact Zi5 least n r i m k (y - 1) e h
theorem Zi4 (least n:Int)(r:DRule)(i:Int):∀ (k:Nat) (y:Int),y<r.from_->beIn least n r i y k=none:=fun k y c=>by
 cases h:beIn least n r i y k with
 | none=>rfl
 | some e =>
  obtain⟨d,b,a,_⟩:=Zo0 _ _ _ _ _ _ _ h
  have:=(ZbJ a).2.2.1
  omega
theorem Zqn (least n:Int)(r:DRule)(i:Int)(m:Nat):∀ (k:Nat) (y:Int),y - k<r.from_->beIn least n r i y (k+m)=beIn least n r i y k
 | 0,y,h=>by
  rw[Zi4 _ _ _ _ _ _ (by omega)]
  rfl
 | k+1,y,h=>by
  rw[show k+1+m=k+m+1 by omega,beIn,beIn,Zqn least n r i m k (y - 1) (by omega)]
theorem ZzJ {least n c:Int}{r:DRule}(h:Zdg r)(i:Int)(b:Option Zac)(m:∀ y e,y<=c - 17->onR least r i y=some e->e.nominal<n) :
  rbI least n r i (Zcx r c).1 ((Zcx r c).2+1 - (Zcx r c).1).toNat b=cmB b (beIn least n r i (min (lastY r) (c+2)) 20):=by
 rw[Zxv]
 congr 1
 have f0:=h.f0
 unfold Zcx
 dsimp only
 obtain⟨a,d⟩:∃ a,min (lastY r) (c+2)=a:=⟨_,rfl⟩
 rw[d]
 obtain⟨f,l⟩:∃ f,max (max r.from_ (-2000000000)) (a - 20)=f:=⟨_,rfl⟩
 rw[l]
 by_cases o:a<r.from_
 ·rw[Zi4 _ _ _ _ _ _ (by omega),Zi4 _ _ _ _ _ _ (by omega)]
 rw[show f+((a+1 - f).toNat:Int) - 1=a by omega]
 by_cases p:a - 20<r.from_
 ·have:=Zqn least n r i (20 - (a+1 - f).toNat) (a+1 - f).toNat a (by omega)
  rw[show(a+1 - f).toNat+(20 - (a+1 - f).toNat)=20 by omega]at this
  exact this.symm
 ·rw[show(a+1 - f).toNat=20+1 by omega]
  obtain⟨g,k⟩:=h.onY least i (y:=a - 19) (by omega) (by omega)
  obtain⟨e,j,_⟩:=Zi6 least n r i 20 a 19 g (by omega) (by rw[show a - ((19:Nat):Int)=a - 19 by omega];exact k) (m _ _ (by omega) k)
  rw[j,Zi5 _ _ _ _ 1 _ _ _ j]
theorem Zs6 (least n a:Int):∀ (l:List DRule) (i:Nat) (b:Option Zac),(∀ r∈l,Zdg r)->(∀ r∈l,∀ i y e,y<=a - 17->onR least r i y=some e->e.nominal<n)->rbGo least n a l i b=Zfb least n a l i b
 | [],_,_,_,_=>rfl
 | r::l,i,b,h,hn=>by
  rw[rbGo,Zfb,ZzJ (h r List.mem_cons_self) i b (hn r List.mem_cons_self i),Zs6 least n a l (i+1) _ (fun r d=>h r (List.mem_cons_of_mem _ d)) (fun r d=>hn r (List.mem_cons_of_mem _ d))]
  congr 1
  cases beIn least n r i (min (lastY r) (a+2)) 20 with
  | none=>rfl
  | some e =>
   cases b with
   | none=>rfl
   | some b0 =>
    unfold cmB betB ltE
    dsimp only
    by_cases c:ordE b0 e<0
    ·rw[if_pos (decide_eq_true c),if_pos c]
    ·rw[if_neg (by rw[decide_eq_false c];decide),if_neg c]
theorem ZCc {n:Int}(h:40000000000000000<=n):ZaE n=2000000000\/(jan1 (ZaE n)*86400<=n/\n<jan1 (ZaE n+1)*86400):=by
 have b:=ZfY (n / 86400)
 by_cases c:2000000000<=Zcs (n / 86400)
 ·left
  unfold ZaE
  omega
 ·right
  have d : -2000000000<=Zcs (n / 86400):=by
   refine Int.not_lt.1 fun g=>?_
   have a:=Zbk (Zcs (n / 86400)+1) (0 - (Zcs (n / 86400)+1)).toNat
   rw[show Zcs (n / 86400)+1+((0 - (Zcs (n / 86400)+1)).toNat:Int)=0 by omega]at a
   have f:jan1 0 = -719528:=by decide
   omega
  have e:ZaE n=Zcs (n / 86400):=by unfold ZaE;omega
  rw[e]
  omega
theorem Zwp {l:List DRule}(h:∀ r∈l,Zdg r)(f:Zag l<=0){n:Int}(c : -40000000000000000<=n):rbGo (Zag l) n (ZaE n) l 0 none=befD l n:=by
 refine Zs6 _ _ _ l 0 none h fun r m i y e o d=>?_
 obtain⟨_,g2⟩:=ZpY f d
 have key:jan1 (ZaE n)*86400<=n\/ZaE n=2000000000/\40000000000000000<=n:=by
  by_cases b:n<=40000000000000000
  ·exact .inl (Zge c b).1
  ·rcases ZCc (n:=n) (by omega) with q|q
   ·exact .inr ⟨q,by omega⟩
   ·exact .inl q.1
 rcases key with q|⟨q,q2⟩
 ·have a:=Zbk (y+1) (ZaE n - (y+1)).toNat
  rw[show y+1+((ZaE n - (y+1)).toNat:Int)=ZaE n by omega]at a
  omega
 ·by_cases g:80000000000000000<=n
  ·have a:=Zbk (y+1) (2000000000 - (y+1)).toNat
   rw[show y+1+((2000000000 - (y+1)).toNat:Int)=2000000000 by omega]at a
   have j:jan1 2000000000<=800000000000:=by unfold jan1;omega
   omega
  ·have b:=ZfY (n / 86400)
   have k:2000000000<=Zcs (n / 86400):=by
    have:ZaE n=min (max (Zcs (n / 86400)) (-2000000000)) 2000000000:=rfl
    omega
   have a:=Zbk (y+1) (Zcs (n / 86400) - (y+1)).toNat
   rw[show y+1+((Zcs (n / 86400) - (y+1)).toNat:Int)=Zcs (n / 86400) by omega]at a
   omega
end Go.Proofs.YtpipekfmecikmaaGreatDoor
