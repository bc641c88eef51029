/- Parts of the proof. -/
import Derived.Test.YtpipekfmecikmaaGreatDoorA36
set_option maxHeartbeats 0
set_option linter.all false
namespace Go.Wk
open Go Go.RowKit
structure WvG where
 k:Nat
 n:Int
end Go.Wk
namespace Go.Proofs.YtpipekfmecikmaaGreatDoor
open Go Go.RowKit Go.Wk Tryz
attribute [local irreducible] W RL Does Zaq Zai retQ Calls Pu Stp RD Qy Ay Zaj
theorem Zy4 {G:Prop}(h:G:=by(apply ZbF;rfl;rfl;exact e1)):G:=h
theorem Za5 (t:Int)(w:World):Does prog 62 [.int .i64 t] w (fun v O=>v = .bool (tOk t)/\O=[]):=by
 unfold tOk
 refine Zaa func62 rfl rfl rfl rfl ?_
 by_cases h1 : -36028797018963968<=t
 ·have e1:decide (-36028797018963968<=t)=true:=dT_ h1
  repeat (first|(apply RL_pu;rfl;exact Zy4)|refine walk1 ?_)
  exact ret_1 _ [] (.tmp rfl) .nil ⟨by rw[e1];rfl,rfl⟩
 ·have e1:decide (-36028797018963968<=t)=false:=dF_ h1
  repeat (first|(apply RL_pu;rfl;exact Zy4)|refine walk1 ?_)
  exact ret_1 _ [] (.tmp rfl) .nil ⟨by rw[e1];rfl,rfl⟩
theorem ZAI {l:List DRule}{e:Zac}(h:EvOf l e):0<=e.rule/\e.rule<l.length:=by
 obtain⟨j,r,y,a,b⟩:=h
 have c:=(ZaT b).2.1
 have:=(List.getElem?_eq_some_iff.1 a).1
 omega
theorem Zuz {l:List DRule}(h:RsSm l)(n:Int):EvOk (ZbC l n):=Zg0 _ _ _ (ZdM l h.r).2 l 0 none fun e a=>(by cases a)
def optV (o:Option Int):Value := .tuple #[.int .i64 (o.getD 0),.bool o.isSome]
theorem Zy3 {G:Prop}(h:G:=by(apply Zav;rfl;rfl;exact d0)):G:=h
theorem Znc (A:Option Addr)(c:Nat)(l:List DRule)(d t:Int)(o:Option Int)(w:World)(H:Glob w)(F:RdSl w A c DRule.enc 11 l)(h:RsSm l)(R : -1000000000<=d/\d<=1000000000)(S : -1000000000000000000<=t/\t<=1000000000000000000)(m:evtD l d t=some o) :
  Does prog 108 [.slice A l.length c,.int .i64 d,.int .i64 t] w (fun v O=>v=optV o/\O=[]):=by
 have u:=fun w'=>ZpQ t 259200 (by omega) (by omega) w'
 have z:RsOk l:=fun r m=>⟨h.r r m,h.f r m⟩
 have B:=fun n (N : -4611686018427387904<=n/\n<=4611686018427387904) w' (x:Bel w.heap.size w w')=>Zku A c l n w' (H.up x) (F.up x) h.n z N
 unfold evtD at m
 unfold optV
 refine Zaa func108 rfl rfl rfl rfl ?_
 repeat (first|(refine js ?_;((refine Zab (fun w' _=>u w') ?_)))|refine walk ?_)
 refine Zah [(0,.slice A l.length c),(1,.int .i64 d),(2,.int .i64 t),(9,.bool true)] [] (fun g:WvG=>[(8,.int .i64 g.n)]) (fun _=>[]) (fun g=>(-4611686018427387904<=g.n/\g.n<=4611686018427387904)/\ZfM l d t g.k g.n=some o) (fun g=>g.k) ⟨4,t - 259200⟩ SFA SOA ⟨by dsimp only;omega,m⟩ ?_
 clear m
 rintro⟨k,n⟩ ⟨hn,hi⟩
 dsimp only at hn hi ⊢
 rcases k with _|k
 ·cases hi
 rw[ZfM]at hi
 have i:=B n hn
 have q:=Zuz h n
 have s:=fun e (Q:ZbC l n=some e)=>Zja Q
 cases hq:ZbC l n with
 | none =>
  rw[hq]at i hi
  cases hi
  simp only[evV,Zac.enc,dEv0,Option.isSome]at i
  repeat (first|(refine js ?_;(first|(refine Zab i ?_)|(refine bx ?_;intro C)))|refine walk ?_)
  exact rtB
 | some e =>
  rw[hq]at i hi
  obtain⟨I,J⟩:=s e hq
  have D:=ZAI I
  have K:=q e hq
  have j:=fun w' (x:Bel w.heap.size w w')=>ZmQ A c l e d w' (H.up x) (F.up x) h D (by omega) R
  clear q s
  dsimp only at hi
  obtain⟨M,L,E⟩:=e
  simp only[evV,Zac.enc,Option.isSome]at i j
  dsimp only at J D K
  generalize Zcc l ⟨M,L,E⟩ d=T at *
  by_cases y:t<T
  ·rw[if_pos y]at hi
   cases hi
   have d0:decide (t<T)=true:=dT_ y
   repeat (first|(apply RL_pu;rfl;exact Zy3)|(refine js ?_;(first|(refine Zab i ?_)|(refine Zab j ?_)|(refine bx ?_;intro C)))|refine walk1 ?_)
   exact rtB
  ·rw[if_neg y]at hi
   have d0:decide (t<T)=false:=dF_ y
   repeat (first|(apply RL_pu;rfl;exact Zy3)|(refine js ?_;(first|(refine Zab i ?_)|(refine Zab j ?_)|(refine bx ?_;intro C)))|refine walk1 ?_)
   exact⟨⟨k,E⟩,OA,⟨by dsimp only;omega,hi⟩,SFA,SOA⟩
def stW (e:DEra)(l:List DRule)(t:Int):Int × ByteArray:=if e.kind=1 then (e.save,ByteArray.empty) else if e.kind=2 then atS l e.off t else (0,ByteArray.empty)
theorem ZmK (e:DEra)(A:Option Addr)(c:Nat)(l:List DRule)(t:Int)(w:World)(K:LibW w)(J:Glob w)(I:RdSl w A c DRule.enc 11 l)(N:0<=e.kind/\e.kind<=2)(F : -1000000000<=e.off/\e.off<=1000000000)(M:e.format.size<=1000000000)(L:e.kind=2->RsSm l)(Q : -1000000000000000000<=t/\t<=1000000000000000000)
  (hx : -1000000000<=(stW e l t).1/\(stW e l t).1<=1000000000) (u:(stW e l t).2.size<=1000000000) (b:abE e (stW e l t)=0) :
  Does prog 111 [.agg e.enc.toArray,.slice A l.length c,.int .i64 t] w (fun v O=>v = .tuple #[.agg (ZeM e (stW e l t)).enc.toArray,.int .i64 0]/\O=[]):=by
 have a:=fun w' (r:Bel w.heap.size w w')=>ZgU e.format (stW e l t).2 e.off (stW e l t).1 w' (K.up r) M u (by unfold I64;omega) (by unfold I64;omega)
 have d:=fun w' (r:Bel w.heap.size w w') (H:e.kind=2)=>ZsD A c l e.off t w' (J.up r) (I.up r) (L H) F Q
 unfold abE at b
 unfold xpV at a
 rw[b]at a
 unfold ZeM
 change ∀ w',Bel w.heap.size w w'->Does _ _ _ w' (fun v O=>v = .tuple #[.string (ZuE e (stW e l t).1 (stW e l t).2),.int .i64 0]/\O=[]) at a
 clear b
 obtain⟨C,b⟩:∃ C,ZuE e (stW e l t).1 (stW e l t).2=C:=⟨_,rfl⟩
 rw[b]at a ⊢
 clear b
 unfold stW at hx a ⊢
 have E:e.kind=0\/e.kind=1\/e.kind=2:=by omega
 generalize atS l e.off t=x at *
 obtain⟨off,R,g,f,s,⟨y,B,z,⟨m,p,q⟩,⟨i,j⟩⟩⟩:=e
 obtain⟨xs,S⟩:=x
 dsimp only at E N F hx a d ⊢
 unfold stV at d
 simp only[Zak.enc]
 rcases E with rfl|rfl|rfl
 ·rw[if_neg (by decide),if_neg (by decide)]at hx a
  rw[if_neg (by decide),if_neg (by decide)]
  dsimp only at hx a ⊢
  show Does _ _ [.agg #[.int .i64 off,.int .i64 0,.int .i64 g,.string f,.string s,.bool y,.int .i64 B,.int .i64 z,.int .i64 m,.int .i64 p,.int .i64 q,.int .i64 i,.int .i64 j],_,_] w _
  refine Zaa func111 rfl rfl rfl rfl ?_
  repeat (first|(refine js ?_;(first|(refine Zab a ?_)|(refine bx ?_;intro D)))|refine walk ?_)
  exact rtC
 ·rw[if_pos rfl]at hx a
  rw[if_pos rfl]
  dsimp only at hx a ⊢
  show Does _ _ [.agg #[.int .i64 off,.int .i64 1,.int .i64 g,.string f,.string s,.bool y,.int .i64 B,.int .i64 z,.int .i64 m,.int .i64 p,.int .i64 q,.int .i64 i,.int .i64 j],_,_] w _
  refine Zaa func111 rfl rfl rfl rfl ?_
  repeat (first|(refine js ?_;(first|(refine Zab a ?_)|(refine bx ?_;intro D)))|refine walk ?_)
  exact rtC
 ·rw[if_neg (by decide),if_pos rfl]at hx a
  rw[if_neg (by decide),if_pos rfl]
  dsimp only at hx a ⊢
  replace d:=fun w' r=>d w' r rfl
  show Does _ _ [.agg #[.int .i64 off,.int .i64 2,.int .i64 g,.string f,.string s,.bool y,.int .i64 B,.int .i64 z,.int .i64 m,.int .i64 p,.int .i64 q,.int .i64 i,.int .i64 j],_,_] w _
  refine Zaa func111 rfl rfl rfl rfl ?_
  repeat (first|(refine js ?_;(first|(refine Zab a ?_)|(refine Zab d ?_)|(refine bx ?_;intro D)))|refine walk ?_)
  exact rtC
structure PaL where
 Ae:Option Addr
 ce:Nat
 As:Option Addr
 cs:Nat
 Ar:Option Addr
 cr:Nat
def PaL.cells (p:PaL)(l:List DEra)(r:List ZaE):List Value:=[.slice p.Ae l.length p.ce,.slice p.As r.length p.cs,.slice p.Ar l.length p.cr]
structure ZnQ (w:World)(p:PaL)(rs:List DRule)(l:List DEra)(r:List ZaE):Prop where
 e:RdSl w p.Ae p.ce DEra.enc 13 l
 s:RdSl w p.As p.cs ZaE.enc 3 r
 u:RdLL w p.Ar p.cr DRule.enc 11 (l.map (ruEr rs))
theorem Zve {G:Prop}(h:G:=by(first|(apply Pu_indexAddr;rfl;rfl;omega;omega;first|exact hna|exact hne)|(apply Pu_loadO1;rfl;exact hcu 0 _ rfl)|(apply Pu_loadO1;rfl;exact hce 0 _ rfl)|(apply Zav;rfl;rfl;exact d1))):G:=h
theorem ZuM {G:Prop}(h:G:=by first|(apply Qy_y;rfl;exact Zve)|exact QyA):G:=h
theorem ZqB {G:Prop}(h:G:=by repeat (first|exact QF.nil|(apply QF.mk;rfl;rfl;decide +kernel;exact ZuM))):G:=h
theorem Zy2 {G:Prop}(h:G:=by(first|(apply Pu_indexAddr;rfl;rfl;omega;omega;first|exact hna|exact hne)|(apply Pu_loadO1;rfl;exact hcu 0 _ rfl)|(apply Pu_loadO1;rfl;exact hce 0 _ rfl)|(apply Zau;rfl;rfl;exact d0)|(apply Zav;rfl;rfl;exact d1))):G:=h
theorem Zx9 {G:Prop}(h:G:=by first|(apply Qy_y;rfl;exact Zy2)|exact QyA):G:=h
theorem ZyI {G:Prop}(h:G:=by repeat (first|exact QF.nil|(apply QF.mk;rfl;rfl;decide +kernel;exact Zx9))):G:=h
theorem ZpG {G G':Prop}(k:G')(h:Hold G'->G:=by intro k9;(first|(apply RL_pu;rfl;exact Zy2)|(apply RD_Q;rfl;rfl;decide +kernel;rfl;rfl;exact Zx9)|refine walk1 ?_|(refine jg ?_;(try intro F);(first|(refine Zab hfi ?_)|(refine Zab hev ?_));first|refine⟨_,EndsA,ZyI,?_⟩|refine fin ?_)|(refine jn ?_;(try intro F);(first|(refine stA ?_)|(apply Zan;exact PuA));first|refine⟨_,EndsA,ZyI,?_⟩|refine fin ?_));exact k9.out):G:=h ⟨k⟩
theorem Zij (p:PaL)(rs:List DRule)(l:List DEra)(r:List ZaE)(t:Int)(k:Nat)(x:ZaE)(e:DEra)(o:Option Int)(w:World)(y:Glob w)(c:ZnQ w p rs l r)(hx:Zdh r t=(x,true))(j:x.era=(k:Nat))(f:l[k]?=some e)(z:RsSm (ruEr rs e))(E : -1000000000<=e.off/\e.off<=1000000000)(H : -1000000000000000000<=t/\t<=1000000000000000000)(I:evtD (ruEr rs e) e.off t=some o) :
  Does prog 64 [.agg (p.cells l r).toArray,.int .i64 t] w (fun v O=>v=optV (Zc1 x.fin o)/\O=[]):=by
 have hfi:=fun w' (d:Bel w.heap.size w w')=>ZhW p.As p.cs r t w' (c.s.up d)
 rw[hx]at hfi
 have D:k<l.length:=(List.getElem?_eq_some_iff.1 f).1
 obtain⟨hne,hce⟩:=c.e.rd k e f
 obtain⟨hna,B,m,q,hcu⟩:=c.u.rd k (ruEr rs e) (by rw[List.getElem?_map,f];rfl)
 have g:=c.u.le
 rw[List.length_map]at g
 have hev:=fun w' (d:Bel w.heap.size w w')=>Znc B m (ruEr rs e) e.off t o w' (y.up d) (q.up d) z E H I
 obtain⟨xs,a,J⟩:=x
 dsimp only at j hfi
 subst j
 simp only[ZaE.enc]at hfi
 rcases o with _|u
 ·rcases Int.lt_or_le 36028797018963968 a with hm|hm
  ·have d1:decide (36028797018963968<a)=true:=dT_ hm
   rw[show Zc1 a none=none from by unfold Zc1;rw[show minO a none=a from rfl,if_pos hm]]
   dsimp only[optV,Option.getD,Option.isSome]at hev ⊢
   show Does _ _ [.agg #[.slice p.Ae l.length p.ce,.slice p.As r.length p.cs,.slice p.Ar l.length p.cr],_] w _
   refine Zaa func64 rfl rfl rfl rfl ?_
   repeat (first|(apply RL_pu;rfl;exact Zve)|(apply RD_Q;rfl;rfl;decide +kernel;rfl;rfl;exact ZuM)|refine walk1 ?_|(refine jg ?_;(try intro F);(first|(refine Zab hfi ?_)|(refine Zab hev ?_)|(refine bx ?_;intro b));first|refine⟨_,EndsA,ZqB,?_⟩|refine fin ?_)|(refine jn ?_;(try intro F);(first|(refine bx ?_;intro b)|(apply Zan;exact PuA));refine⟨_,EndsA,ZqB,?_⟩))
   exact rtB
  ·have d1:decide (36028797018963968<a)=false:=dF_ (by omega)
   rw[show Zc1 a none=some a from by unfold Zc1;rw[show minO a none=a from rfl,if_neg (by omega)]]
   dsimp only[optV,Option.getD,Option.isSome]at hev ⊢
   show Does _ _ [.agg #[.slice p.Ae l.length p.ce,.slice p.As r.length p.cs,.slice p.Ar l.length p.cr],_] w _
   refine Zaa func64 rfl rfl rfl rfl ?_
   repeat (first|(apply RL_pu;rfl;exact Zve)|(apply RD_Q;rfl;rfl;decide +kernel;rfl;rfl;exact ZuM)|refine walk1 ?_|(refine jg ?_;(try intro F);(first|(refine Zab hfi ?_)|(refine Zab hev ?_)|(refine bx ?_;intro b));first|refine⟨_,EndsA,ZqB,?_⟩|refine fin ?_)|(refine jn ?_;(try intro F);(first|(refine bx ?_;intro b)|(apply Zan;exact PuA));refine⟨_,EndsA,ZqB,?_⟩))
   exact rtB
 ·rcases Int.lt_or_le u a with hu|hu
  ·have d0:decide (u<a)=true:=dT_ hu
   rcases Int.lt_or_le 36028797018963968 u with hm|hm
   ·have d1:decide (36028797018963968<u)=true:=dT_ hm
    rw[show Zc1 a (some u)=none from by unfold Zc1;rw[show minO a (some u)=u from if_pos hu,if_pos hm]]
    dsimp only[optV,Option.getD,Option.isSome]at hev ⊢
    show Does _ _ [.agg #[.slice p.Ae l.length p.ce,.slice p.As r.length p.cs,.slice p.Ar l.length p.cr],_] w _
    refine Zaa func64 rfl rfl rfl rfl ?_
    repeat (first|refine ZpG ?_|(refine jg ?_;(try intro F);(refine bx ?_;intro b);refine fin ?_))
    exact rtB
   ·have d1:decide (36028797018963968<u)=false:=dF_ (by omega)
    rw[show Zc1 a (some u)=some u from by unfold Zc1;rw[show minO a (some u)=u from if_pos hu,if_neg (by omega)]]
    dsimp only[optV,Option.getD,Option.isSome]at hev ⊢
    show Does _ _ [.agg #[.slice p.Ae l.length p.ce,.slice p.As r.length p.cs,.slice p.Ar l.length p.cr],_] w _
    refine Zaa func64 rfl rfl rfl rfl ?_
    repeat (first|refine ZpG ?_|(refine jg ?_;(try intro F);(refine bx ?_;intro b);refine fin ?_))
    exact rtB
  ·have d0:decide (u<a)=false:=dF_ (by omega)
   rcases Int.lt_or_le 36028797018963968 a with hm|hm
   ·have d1:decide (36028797018963968<a)=true:=dT_ hm
    rw[show Zc1 a (some u)=none from by unfold Zc1;rw[show minO a (some u)=a from if_neg (by omega),if_pos hm]]
    dsimp only[optV,Option.getD,Option.isSome]at hev ⊢
    show Does _ _ [.agg #[.slice p.Ae l.length p.ce,.slice p.As r.length p.cs,.slice p.Ar l.length p.cr],_] w _
    refine Zaa func64 rfl rfl rfl rfl ?_
    repeat (first|refine ZpG ?_|(refine jg ?_;(try intro F);(refine bx ?_;intro b);refine fin ?_))
    exact rtB
   ·have d1:decide (36028797018963968<a)=false:=dF_ (by omega)
    rw[show Zc1 a (some u)=some a from by unfold Zc1;rw[show minO a (some u)=a from if_neg (by omega),if_neg (by omega)]]
    dsimp only[optV,Option.getD,Option.isSome]at hev ⊢
    show Does _ _ [.agg #[.slice p.Ae l.length p.ce,.slice p.As r.length p.cs,.slice p.Ar l.length p.cr],_] w _
    refine Zaa func64 rfl rfl rfl rfl ?_
    repeat (first|refine ZpG ?_|(refine jg ?_;(try intro F);(refine bx ?_;intro b);refine fin ?_))
    exact rtB
theorem ZCY {G:Prop}(h:G:=by(first|(apply Pu_indexAddr;rfl;rfl;omega;omega;first|exact hna|exact hne)|(apply Pu_loadO1;rfl;exact hcu 0 _ rfl)|(apply Pu_loadON;rfl;exact hce;rfl))):G:=h
theorem Zx8 {G:Prop}(h:G:=by first|(apply Qy_y;rfl;exact ZCY)|exact QyA):G:=h
theorem ZyH {G:Prop}(h:G:=by repeat (first|exact QF.nil|(apply QF.mk;rfl;rfl;decide +kernel;exact Zx8))):G:=h
theorem ZkZ (p:PaL)(rs:List DRule)(l:List DEra)(r:List ZaE)(t:Int)(k:Nat)(x:ZaE)(e:DEra)(w:World)(T:LibW w)(S:Glob w)(z:ZnQ w p rs l r)(hx:Zdh r t=(x,true))(I:x.era=(k:Nat))(D:l[k]?=some e)(a:LcOk rs e)(X : -1000000000000000000<=t/\t<=1000000000000000000)
  (J : -1000000000<=(ZaU rs e t).1/\(ZaU rs e t).1<=1000000000) (m:(ZaU rs e t).2.size<=1000000000) (g:abE e (ZaU rs e t)=0) :
  Does prog 68 [.agg (p.cells l r).toArray,.int .i64 t] w (fun v O=>v = .tuple #[.agg (ZeM e (ZaU rs e t)).enc.toArray,.int .i64 0]/\O=[]):=by
 have c:=fun w' (q:Bel w.heap.size w w')=>ZhW p.As p.cs r t w' (z.s.up q)
 rw[hx]at c
 have W:k<l.length:=(List.getElem?_eq_some_iff.1 D).1
 obtain⟨hne,hce⟩:=z.e.rd k e D
 obtain⟨hna,B,N,R,hcu⟩:=z.u.rd k (ruEr rs e) (by rw[List.getElem?_map,D];rfl)
 have j:=z.u.le
 rw[List.length_map]at j
 have b:stW e (ruEr rs e) t=ZaU rs e t:=by
  have U:=a.k
  unfold stW ZaU ruEr
  by_cases E:e.kind=0
  ·rw[if_neg (by omega),if_neg (by omega),if_pos E]
  ·rw[if_neg E]
   by_cases y:e.kind=1
   ·rw[if_pos y,if_pos y]
   ·rw[if_neg y,if_neg y,if_pos (show e.kind=2 by omega),if_pos (show e.kind=2 by omega)]
 have d:=fun w' (q:Bel w.heap.size w w')=>ZmK e B N (ruEr rs e) t w' (T.up q) (S.up q) (R.up q) a.k a.o a.f (fun H=>by unfold ruEr;rw[if_pos H];exact a.r H) X (by rw[b];exact J) (by rw[b];exact m) (by rw[b];exact g)
 rw[b]at d
 clear b J m g
 generalize ZeM e (ZaU rs e t)=L at *
 obtain⟨xs,xf,xe⟩:=x
 dsimp only at I c
 subst I
 obtain⟨l1,l2,l3⟩:=L
 obtain⟨Y,kd,Q,K,fm,⟨ui,uy,um,⟨ab,ac,ad⟩,⟨Z,aa⟩⟩⟩:=e
 simp only[ZaE.enc,Zak.enc,DEra.enc]at c d hce ⊢
 show Does _ _ [.agg #[.slice p.Ae l.length p.ce,.slice p.As r.length p.cs,.slice p.Ar l.length p.cr],_] w _
 refine Zaa func68 rfl rfl rfl rfl ?_
 repeat (first|(apply RD_Q;rfl;rfl;decide +kernel;rfl;rfl;exact Zx8)|refine walk1 ?_|(refine jg ?_;(try intro F);(first|(refine Zab c ?_)|(refine Zab d ?_)|(refine bx ?_;intro M)|(refine stA ?_));first|refine⟨_,EndsA,ZyH,?_⟩|refine fin ?_)|(refine jn ?_;(try intro F);(first|(refine bx ?_;intro M)|(apply Zan;exact PuA));refine⟨_,EndsA,ZyH,?_⟩))
 exact rtC
end Go.Proofs.YtpipekfmecikmaaGreatDoor
namespace Go.Wk
open Go Go.RowKit
structure RuH where
 A:Option Addr
 c:Nat
 l:List DRule
structure WfG where
 k:Nat
 A:Option Addr
 c:Nat
 m:Nat
 xs:List Value
 hr:List RuH
end Go.Wk
namespace Go.Proofs.YtpipekfmecikmaaGreatDoor
open Go Go.RowKit Go.Wk Tryz
attribute [local irreducible] W RL Does Zaq Zai retQ Calls Pu Stp RD Qy Ay Zaj
def _root_.Go.Wk.RuH.v (h:RuH):Value := .slice h.A h.l.length h.c
def _root_.Go.Wk.RuH.row (h:RuH):It := .row (.slice h.A h.l.length h.c) 68 11 h.l.length (h.l.flatMap DRule.enc)
def FdR (rs:List DRule)(Ae:Option Addr)(ce:Nat)(l:List DEra)(r:List ZaE)(v:Value)(O:List It):Prop :=
 ∃ (p:PaL) (S:Nat->Prop),p.Ae=Ae/\p.ce=ce/\v = .tuple #[.agg (p.cells l r).toArray,.int .i64 0]/\O=[.row (.slice p.As r.length p.cs) 109 3 r.length (r.flatMap ZaE.enc),.fact S (fun w=>RdLL w p.Ar p.cr DRule.enc 11 (l.map (ruEr rs)))]
theorem Zwk {a b c d:It}(M:List It):SubO ((b::M)++[a,c,d]) (a::b::c::d::M):=SubO.ofPerm (R:=[]) (by
 rw[List.append_nil]
 exact(List.Perm.cons a ((List.Perm.swap c b (d::M)).trans (List.Perm.cons c (List.Perm.swap d b M)))).trans (show(a::c::d::(b::M)).Perm _ from List.perm_append_comm (l₁:=[a,c,d]) (l₂:=b::M)))
theorem Zy1 {G:Prop}(h:G:=by(first|(apply Pu_indexAddr;rfl;rfl;omega;omega;exact hna)|exact PuI|(apply Zap;rfl;rfl;exact d4))):G:=h
set_option maxHeartbeats 0 in
theorem Zm8 (Ar Az Al As:Option Addr)(R T Q cs:Nat)(a:DSource)(name:ByteArray)(i:Nat)(z:DZone)(d:List ZaE)(Ae:Option Addr)(H:Nat)(w:World)(h:Zdc w Ar Az Al As R T Q cs a)(U:accD a=none)(hn:a.zones.length+a.links.length<=1000000)(hf:ZaI a (a.links.length+1) [] name=(i,0))
  (hi:a.zones[i]?=some z) (ak:Az≠none) (ae:Zat w ((adr Az).add (i*2)) [.string z.name,.slice Ae z.eras.length H]) (I:RdSl w Ae H DEra.enc 13 z.eras)
  (hE:∀ k e,z.eras[k]?=some e->k+1<z.eras.length->RsSm (ruEr a.rules e)/\UnOk e (ruEr a.rules e)) (hl:Zey a.rules z.eras=some d) :
  Does prog 63 [srcV Ar Az Al As R T Q cs a,.string name] w (FdR a.rules Ae H z.eras d):=by
 have av:i<a.zones.length:=(List.getElem?_eq_some_iff.1 hi).1
 have aw:=h.A.zle
 have ai:=h.A.zcap
 simp only[maxLen]at ai
 have K:=fun w' (y:Bel w.heap.size w w')=>accS (h.up y)
 rw[U]at K
 change ∀ w',Bel w.heap.size w w'->Does _ _ _ w' (fun v O=>v = .tuple #[.agg #[.int .i64 0,.int .i64 0,.int .i64 0],.int .i64 0]/\O=[]) at K
 have L:=fun w' (y:Bel w.heap.size w w')=>ZjY Ar Az Al As R T Q cs a name w' (h.A.up y) hn
 rw[hf]at L
 dsimp only at L
 have N:=h.S.nr
 have al:=(h.S.zs z (List.mem_of_getElem? hi)).2.1
 have Y:=fun w' (y:Bel w.heap.size w w')=>Zq9 Ar Az Al As R T Q cs a i z d w' (h.G.up y) (h.A.up y) N al hi hE hl
 unfold SpR at Y
 have ax:d.length=z.eras.length:=ZpT _ _ _ _ _ hl
 have e3:(!decide ((0:Int)=0))=false:=rfl
 have X:=fun set w' (y:Bel w.heap.size w w')=>Zga Ar Az Al As R T Q cs a set w' (h.A.up y) N
 have au:=I.le
 have af:=I.cap
 simp only[maxLen]at af
 clear hE hl hi U hf hn
 refine Zaa func63 rfl rfl rfl rfl ?_
 repeat (first|(apply RL_pu;rfl;(first|(apply Zal;rfl;rfl;exact e3)|(apply Pu_indexAddr;rfl;rfl;omega;omega;exact ak)|(apply Pu_loadO1;rfl;exact ae 1 _ rfl)))|(refine js ?_;(first|(refine Zab K ?_)|(refine Zab L ?_)|(apply Zad (h:=fun w' y _=>Y w' y);rfl;rintro v O' ⟨A4,F,rfl,rfl⟩)|(refine bx ?_;intro bk)))|refine walk1 ?_)
 generalize bk=b11
 rename_i b2 b4 b6
 refine Zdy 22 1 ?_
 refine Zah [(2,.pointer (some ⟨b2,0,none⟩)),(4,.pointer (some ⟨b4,0,none⟩)),(11,.pointer (some ⟨b11,0,none⟩)),(53,.slice Ae z.eras.length H),(54,.int .i64 z.eras.length)] []
  (fun g:WfG=>[(55,.int .i64 g.k)]) (fun g => .blk b11 [.slice Ae z.eras.length H,.slice A4 d.length F,.slice g.A g.m g.c] 118 :: .row (.slice g.A g.m g.c) 22 1 g.m g.xs :: .blk b2 [.slice Ar a.rules.length R,.slice Az a.zones.length T,.slice Al a.links.length Q,.slice As a.shifts.length cs] 27 :: .blk b4 [.slice none 0 0,.slice none 0 0,.slice none 0 0] 118 :: .row (.slice A4 d.length F) 109 3 d.length (d.flatMap ZaE.enc)::g.hr.map RuH.row)
  (fun g=>g.k<=z.eras.length/\g.m=g.k/\g.xs.length=g.k/\∀ j e,z.eras[j]?=some e->j<g.k->(g.xs[j]?=some (.slice none 0 0)/\ruEr a.rules e=[])\/∃ r∈g.hr,r.l=ruEr a.rules e/\g.xs[j]?=some r.v) (fun g=>z.eras.length - g.k) ⟨0,none,0,0,[],[]⟩ SFA STA ⟨Nat.zero_le _,rfl,rfl,fun j e _ s=>absurd s (Nat.not_lt_zero _)⟩ ?_
 rintro⟨k,A,c,m,xs,hr⟩ ⟨hk,hm,hxl,hH⟩
 dsimp only at hk hm hxl hH ⊢
 repeat (refine walk ?_)
 refine Zaf rfl (fun V=>?_) (fun V=>?_)
 ·simp only[decide_eq_true_eq,Int.ofNat_lt]at V
  obtain⟨hna,hca⟩:=I.rd k _ (List.getElem?_eq_getElem V)
  have D:=List.getElem?_eq_getElem V
  generalize z.eras[k]=e at *
  have W:=fun w' (y:Bel w.heap.size w w')=>X e.set w' y
  have C:ruEr a.rules e=if e.kind=2 then ofB a.rules e.set else []:=rfl
  have aZ:(ofB a.rules e.set).length<=1000000:=Nat.le_trans (List.length_filter_le _ _) N
  have q:∀ (v:Value) (j:Nat) (u:Value),xs[j]?=some u->(xs++[v])[j]?=some u:=fun v j u s=>by
   rw[List.getElem?_append_left (List.getElem?_eq_some_iff.1 s).1]
   exact s
  have last:∀ v:Value,(xs++[v])[k]?=some v:=fun v=>by rw[List.getElem?_append_right (by omega),hxl];simp
  generalize ofB a.rules e.set=rr at *
  by_cases h2:e.kind=2
  ·have d4:decide (e.kind=2)=true:=dT_ h2
   rw[if_pos h2]at C
   have J:∀ (A3:Option Addr) (E:Nat) j f,z.eras[j]?=some f->j<k+1->((xs++[.slice A3 rr.length E])[j]?=some (.slice none 0 0)/\ruEr a.rules f=[])\/∃ r∈(⟨A3,E,rr⟩::hr:List RuH),r.l=ruEr a.rules f/\(xs++[.slice A3 rr.length E])[j]?=some r.v:=fun A3 E j f s aj=>by
    by_cases M:j<k
    ·rcases hH j f s M with⟨q1,q2⟩|⟨r,q1,q2,q3⟩
     ·exact .inl ⟨q _ _ _ q1,q2⟩
     ·exact .inr ⟨r,List.mem_cons_of_mem _ q1,q2,q _ _ _ q3⟩
    ·obtain rfl:j=k:=by omega
     rw[D]at s
     cases s
     exact .inr ⟨_,List.mem_cons_self,C.symm,last _⟩
   clear hH q last C D
   obtain⟨am,kd,aa,Z,fm,⟨ui,uy,um,⟨ap,aq,ar⟩,⟨an,ao⟩⟩⟩:=e
   simp only[DEra.enc]at hca
   dsimp only at W d4
   repeat (first|(apply RL_pu;rfl;exact Zy1)|(refine js ?_;(first|(apply Zad (h:=fun w' y _=>W w' y);rfl;rintro v O' ⟨A3,E,rfl,rfl⟩)|(apply ZaC;rfl;rfl;(intro A' c';(focus repeat' constructor));(intro w' _ hO;exact Zbr (hO.of cS_));rfl;rfl;(simp only[maxLen];omega);omega;intro A' c' ab ac ad)|(refine bx ?_;intro bk)))|refine walk1 ?_)
   exact⟨⟨k+1,A',c',m+1,xs++[.slice A3 rr.length E],⟨A3,E,rr⟩::hr⟩,OA,⟨OA,by dsimp only;omega,by simp[hxl],J A3 E⟩,SFA,STA⟩
  ·have d4:decide (e.kind=2)=false:=dF_ h2
   rw[if_neg h2]at C
   have J:∀ j f,z.eras[j]?=some f->j<k+1->((xs++[.slice none 0 0])[j]?=some (.slice none 0 0)/\ruEr a.rules f=[])\/∃ r∈hr,r.l=ruEr a.rules f/\(xs++[.slice none 0 0])[j]?=some r.v:=fun j f s aj=>by
    by_cases M:j<k
    ·rcases hH j f s M with⟨q1,q2⟩|⟨r,q1,q2,q3⟩
     ·exact .inl ⟨q _ _ _ q1,q2⟩
     ·exact .inr ⟨r,q1,q2,q _ _ _ q3⟩
    ·obtain rfl:j=k:=by omega
     rw[D]at s
     cases s
     exact .inl ⟨last _,C⟩
   clear hH q last C D
   obtain⟨am,kd,aa,Z,fm,⟨ui,uy,um,⟨ap,aq,ar⟩,⟨an,ao⟩⟩⟩:=e
   simp only[DEra.enc]at hca
   dsimp only at d4
   repeat (first|(apply RL_pu;rfl;exact Zy1)|(refine js ?_;(first|(apply ZaC;rfl;rfl;(intro A' c';(focus repeat' constructor));(intro w' _ hO;exact Zbr (hO.of cS_));rfl;rfl;(simp only[maxLen];omega);omega;intro A' c' ab ac ad)|(refine bx ?_;intro bk)))|refine walk1 ?_)
   exact⟨⟨k+1,A',c',m+1,xs++[.slice none 0 0],hr⟩,OA,⟨OA,by dsimp only;omega,by simp[hxl],J⟩,SFA,STA⟩
 ·obtain rfl:k=z.eras.length:=by simp only[decide_eq_false_iff_not,Int.ofNat_lt]at V;omega
  subst hm
  refine ZhI (.row (.slice A z.eras.length c) 22 1 z.eras.length xs::hr.map RuH.row) [.blk b11 [.slice Ae z.eras.length H,.slice A4 d.length F,.slice A z.eras.length c] 118,.blk b4 [.slice none 0 0,.slice none 0 0,.slice none 0 0] 118,.row (.slice A4 d.length F) 109 3 d.length (d.flatMap ZaE.enc)] (fun w=>RdLL w A c DRule.enc 11 (z.eras.map (ruEr a.rules))) ?_ (fun w' hs=>?_) ?_
  ·refine SubO.trans (B := .blk b11 [.slice Ae z.eras.length H,.slice A4 d.length F,.slice A z.eras.length c] 118 :: .row (.slice A z.eras.length c) 22 1 z.eras.length xs :: .blk b4 [.slice none 0 0,.slice none 0 0,.slice none 0 0] 118 :: .row (.slice A4 d.length F) 109 3 d.length (d.flatMap ZaE.enc)::hr.map RuH.row) (Zwk _) (.cons cS_ (.cons cS_ (.cons cS_ (.cons cS_ ?_))))
   exact(SubO.append _ []).drop
  ·have ag:xs.flatMap (fun v=>[v])=xs:=by simp
   have t:RdSl w' A c (fun v:Value=>[v]) 1 xs:=ZaJ (fun _=>rfl) (by rw[ag,hxl];exact hs _ List.mem_cons_self)
   refine⟨by rw[List.length_map,<- hxl];exact t.le,t.cap,fun j l' s=>?_⟩
   rw[List.getElem?_map]at s
   obtain⟨e,he,rfl⟩:=Option.map_eq_some_iff.1 s
   have ah:j<z.eras.length:=(List.getElem?_eq_some_iff.1 he).1
   rcases hH j e he ah with⟨q1,q2⟩|⟨r,q1,q2,q3⟩
   ·obtain⟨n1,n2⟩:=t.rd j _ q1
    rw[q2]
    exact⟨n1,none,0,⟨Nat.le_refl _,Nat.zero_le _,fun k x hx=>by simp at hx⟩,n2⟩
   ·obtain⟨n1,n2⟩:=t.rd j _ q3
    rw[<- q2]
    exact⟨n1,r.A,r.c,ZaJ DRule.len (hs _ (List.mem_cons_of_mem _ (List.mem_map_of_mem q1))),n2⟩
  clear hH
  repeat (refine walk ?_)
  exact ret_2 _ _ [.row (.slice A4 d.length F) 109 3 d.length (d.flatMap ZaE.enc),.fact (foot (.row (.slice A z.eras.length c) 22 1 z.eras.length xs::hr.map RuH.row)) (fun w=>RdLL w A c DRule.enc 11 (z.eras.map (ruEr a.rules)))] (.cellB rfl cS_ rfl rfl) (.tmp rfl) SOA ⟨⟨Ae,H,A4,F,A,c⟩,_,rfl,rfl,rfl,rfl⟩
theorem ZqJ {G:Prop}(h:G:=by(apply Zal;rfl;rfl;first|exact e3|exact e4)):G:=h
theorem Zj8 (Ar Az Al As:Option Addr)(j m g cs:Nat)(a:DSource)(b:ByteArray)(w:World)(h:Zdc w Ar Az Al As j m g cs a)(r:a.zones.length+a.links.length<=1000000)(d:(ZbV a b).2≠0) :
  Does prog 63 [srcV Ar Az Al As j m g cs a,.string b] w (fun v O=>v = .tuple #[.agg #[.slice none 0 0,.slice none 0 0,.slice none 0 0],.int .i64 (ZbV a b).2]/\O=[]):=by
 have c:=fun w' (p:Bel w.heap.size w w')=>accS (h.up p)
 have e3:(!decide ((0:Int)=0))=false:=rfl
 unfold ZbV at d ⊢
 cases hac:accD a with
 | some x =>
  obtain⟨⟨s,t,u⟩,e⟩:=x
  rw[hac]at c d
  dsimp only at d ⊢
  have e4:(!decide (e=0))=true:=by rw[dF_ d];rfl
  change ∀ w',Bel w.heap.size w w'->Does _ _ _ w' (fun v O=>v = .tuple #[.agg #[.int .i64 s,.int .i64 t,.int .i64 u],.int .i64 e]/\O=[]) at c
  refine Zaa func63 rfl rfl rfl rfl ?_
  repeat (first|(apply RL_pu;rfl;exact ZqJ)|(refine js ?_;(first|(refine Zab c ?_)|(refine bx ?_;intro q)))|refine walk1 ?_)
  exact rtC
 | none =>
  rw[hac]at c d
  dsimp only at d ⊢
  have f:=fun w' (p:Bel w.heap.size w w')=>ZjY Ar Az Al As j m g cs a b w' (h.A.up p) r
  generalize ZaI a (a.links.length+1) [] b=F at *
  obtain⟨i,e⟩:=F
  dsimp only at d f ⊢
  have e4:(!decide (e=0))=true:=by rw[dF_ d];rfl
  change ∀ w',Bel w.heap.size w w'->Does _ _ _ w' (fun v O=>v = .tuple #[.agg #[.int .i64 0,.int .i64 0,.int .i64 0],.int .i64 0]/\O=[]) at c
  refine Zaa func63 rfl rfl rfl rfl ?_
  repeat (first|(apply RL_pu;rfl;exact ZqJ)|(refine js ?_;(first|(refine Zab c ?_)|(refine Zab f ?_)|(refine bx ?_;intro q)))|refine walk1 ?_)
  exact rtC
theorem ZrB (Ar Az Al As:Option Addr)(d e c cs:Nat)(a:DSource)(b:ByteArray)(t:Int)(w:World)(f:tOk t=false) :
  Does prog 24 [srcV Ar Az Al As d e c cs a,.string b,.int .i64 t] w (fun v O=>v = .tuple #[.int .i64 0,.bool false,.int .i64 3]/\O=[]):=by
 refine Zaa func24 rfl rfl rfl rfl ?_
 repeat (first|(refine js ?_;(first|(refine Zab (fun w' _=>Za5 t w') ?_)|(refine bx ?_;intro g)))|refine walk ?_)
 rw[f]
 repeat (refine walk ?_)
 exact Zcj _ _ _ [] (.tmp rfl) (.tmp rfl) (.tmp rfl) .nil ⟨rfl,rfl⟩
theorem Ztn (Ar Az Al As:Option Addr)(d f c cs:Nat)(a:DSource)(b:ByteArray)(t:Int)(w:World)(h:Zdc w Ar Az Al As d f c cs a)(m:a.zones.length+a.links.length<=1000000)(p:tOk t=true)(i:(ZbV a b).2≠0) :
  Does prog 24 [srcV Ar Az Al As d f c cs a,.string b,.int .i64 t] w (fun v O=>v = .tuple #[.int .i64 0,.bool false,.int .i64 (ZbV a b).2]/\O=[]):=by
 have g:=fun w' (q:Bel w.heap.size w w')=>Zj8 Ar Az Al As d f c cs a b w' (h.up q) m i
 have e3:(!decide ((ZbV a b).2=0))=true:=by rw[dF_ i];rfl
 have e4:=e3
 generalize (ZbV a b).2=e at *
 refine Zaa func24 rfl rfl rfl rfl ?_
 repeat (first|(refine js ?_;(first|(refine Zab (fun w' _=>Za5 t w') ?_)|(refine bx ?_;intro j)))|refine walk ?_)
 rw[p]
 repeat (first|(apply RL_pu;rfl;exact ZqJ)|(refine js ?_;(first|(refine Zab g ?_)|(refine bx ?_;intro j)))|refine walk1 ?_)
 exact Zcj _ _ _ [] (.tmp rfl) (.tmp rfl) (.tmp rfl) .nil ⟨rfl,rfl⟩
structure WkOk (a:DSource)(z:DZone):Prop where
 rs:∀ e∈z.eras,RsSm (ruEr a.rules e)
 of:∀ e∈z.eras,-1000000000<=e.off/\e.off<=1000000000
theorem Ztm (Ar Az Al As:Option Addr)(cr I H cs:Nat)(a:DSource)(b:ByteArray)(t:Int)(i:Nat)(z:DZone)(o:Option Int)(w:World)(h:Zdc w Ar Az Al As cr I H cs a)(hn:a.zones.length+a.links.length<=1000000)(m:MnOk a)(X:tOk t=true)(D:ZbV a b=(((i:Nat):Int),0))(K:a.zones[i]?=some z)(U:WkOk a z)
  (E:evtD (ruEr a.rules (eAt a.rules z.eras t)) (eAt a.rules z.eras t).off t=some o) :
  Does prog 24 [srcV Ar Az Al As cr I H cs a,.string b,.int .i64 t] w (fun v O=>v = .tuple #[.int .i64 ((nxD a.rules z.eras t).getD 0),.bool (nxD a.rules z.eras t).isSome,.int .i64 0]/\O=[]):=by
 have c:=List.mem_of_getElem? K
 have h2:=ZdX.1 X
 obtain⟨L,aa,⟨Ae,ce,q,rfl⟩,J⟩:=h.A.z i _ K
 obtain⟨r,Q⟩:=m.sp z c
 obtain⟨x,Y,a2,a3,a4,a5,a6⟩:=ZfD Q (m.ne z c) (t:=t) (by omega) (by omega)
 obtain⟨e,W,hd⟩:=Ziv (d:=dE0) Y
 have u:ZaI a (a.links.length+1) [] b=(i,0):=by
  unfold ZbV at D
  rw[m.acc]at D
  dsimp only at D
  have R:=congrArg Prod.fst D
  have F:=congrArg Prod.snd D
  dsimp only at R F
  exact Prod.ext (by dsimp only;omega) F
 have y:nxD a.rules z.eras t=Zc1 x.fin o:=by
  unfold nxD ZhA
  rw[Q,E]
  dsimp only
  rw[a3]
  rfl
 rw[y]
 unfold eAt at E
 rw[hd]at E
 have s:=List.mem_of_getElem? W
 have g:=fun w' (f:Bel w.heap.size w w')=>Zm8 Ar Az Al As cr I H cs a b i z r Ae ce w' (h.up f) m.acc hn u K L (J.up f (Nat.le_refl _)) (q.up f) (m.un z c) Q
 unfold FdR at g
 have j:=fun(p:PaL) w' (f:Bel w.heap.size w w') (R:p.Ae=Ae) (F:p.ce=ce) (hs:RdSl w' p.As p.cs ZaE.enc 3 r) (hu:RdLL w' p.Ar p.cr DRule.enc 11 (z.eras.map (ruEr a.rules)))=>Zij p a.rules z.eras r t _ x e o w' (h.G.up f) ⟨by rw[R,F];exact q.up f,hs,hu⟩ a3 a4 W (U.rs e s) (U.of e s) (by omega) E
 unfold optV at j
 have e3:(!decide ((0:Int)=0))=false:=rfl
 have e4:=e3
 generalize Zc1 x.fin o=res at *
 simp only[PaL.cells]at g j
 refine Zaa func24 rfl rfl rfl rfl ?_
 repeat (first|(refine js ?_;(first|(refine Zab (fun w' _=>Za5 t w') ?_)|(refine bx ?_;intro Z)))|refine walk ?_)
 rw[X]
 repeat (first|(apply RL_pu;rfl;exact ZqJ)|(refine js ?_;(first|(apply Zad (h:=fun w' f _=>g w' f);rfl;rintro v O' ⟨p,S,M,N,rfl,rfl⟩)|(refine ZaH (fun w' f T=>j p w' f M N (ZaJ ZaE.len (T.of (A := .row (.slice p.As r.length p.cs) _ _ _ _) cS_)) (Zbj (T.of (A := .fact S _) cS_))) ?_)|(refine bx ?_;intro Z)))|refine walk1 ?_)
 exact Zcj _ _ _ [] (.tmp rfl) (.tmp rfl) (.tmp rfl) .nil ⟨rfl,rfl⟩
theorem ZbE (t:Int)(w:World):Does prog 65 [.int .i64 t] w (fun v O=>v = .bool (tOk t)/\O=[]):=by
 refine Zaa func65 rfl rfl rfl rfl ?_
 repeat' (first|refine walk ?_|(refine Zas rfl rfl rfl (fun a=>?_) (fun a=>?_)))
 all_goals (refine ret_1 _ [] (.tmp rfl) .nil ⟨?_,rfl⟩;first|(simp_all [tOk];done)|(simp_all [tOk];omega))
theorem ZC9 {G:Prop}(h:G:=by(apply Zal;rfl;rfl;rfl)):G:=h
theorem Zf4 (Ar Az Al As:Option Addr)(g j f cs:Nat)(a:DSource)(b:ByteArray)(w:World)(h:Zdc w Ar Az Al As g j f cs a) :
  Does prog 66 [srcV Ar Az Al As g j f cs a,.string b] w (fun v O=>v = .tuple #[.int .i64 (ZbV a b).1,.int .i64 (ZbV a b).2]/\O=[]):=by
 have c:=fun w' (m:Bel w.heap.size w w')=>ZBI (h.up m)
 unfold ZbV
 cases hac:accD a with
 | some x =>
  obtain⟨⟨r,s,t⟩,e⟩:=x
  have p:(!decide (e=0))=true:=by rw[dF_ (ZuD hac)];rfl
  rw[hac]at c
  change ∀ w',Bel w.heap.size w w'->Does _ _ _ w' (fun v O=>v = .tuple #[.agg #[.int .i64 r,.int .i64 s,.int .i64 t],.int .i64 e]/\O=[]) at c
  refine Zaa func66 rfl rfl rfl rfl ?_
  repeat (first|(apply RL_pu;rfl;(apply Zal;rfl;rfl;exact p))|(refine js ?_;(first|(refine Zab c ?_)|(refine bx ?_;intro q)))|refine walk1 ?_)
  exact rtB
 | none =>
  have d:=fun w' (m:Bel w.heap.size w w')=>ZjK Ar Az Al As g j f cs a b w' (h.A.up m) h.S.nz h.S.nl
  rw[ZoL]at d
  rw[hac]at c
  change ∀ w',Bel w.heap.size w w'->Does _ _ _ w' (fun v O=>v = .tuple #[.agg #[.int .i64 0,.int .i64 0,.int .i64 0],.int .i64 0]/\O=[]) at c
  generalize ZaI a (a.links.length+1) [] b=F at *
  obtain⟨i,e⟩:=F
  dsimp only at d ⊢
  refine Zaa func66 rfl rfl rfl rfl ?_
  repeat (first|(apply RL_pu;rfl;exact ZC9)|(refine js ?_;(first|(refine Zab c ?_)|(refine Zab d ?_)|(refine bx ?_;intro q)))|refine walk1 ?_)
  exact rtB
theorem Zs4 (A:Option Addr)(c:Nat)(l:List DRule)(n:Int)(w:World)(e:RdSl w A c DRule.enc 11 l)(g:l.length<=1000000)(b:∀ r∈l,ZbS r)(d : -40000000000000000<=n/\n<=40000000000000000) :
  Does prog 109 [.slice A l.length c,.int .i64 n] w (fun v O=>v = .tuple #[evV (ZbC l n),.bool (ZbC l n).isSome]/\O=[]):=by
 have f:=(Zbb.least b).2
 have:=Zrq A c l n w e g (fun r h=>by
  have a:=b r h
  have i:=a.f0
  have j:=a.f1
  have k:=a.ft
  omega) (by omega)
 rwa[Zwx b f d.1 d.2]at this
structure StOk (a:DSource)(z:DZone)(t:Int)(r:List ZaE)(x:ZaE)(e:DEra)(o:Option Int):Prop where
 sp:Zey a.rules z.eras=some r
 fd:Zdh r t=(x,true)
 er:x.era=(Zb9 a.rules z.eras t:Nat)
 at_:z.eras[Zb9 a.rules z.eras t]?=some e
 nx:nxD a.rules z.eras t=Zc1 x.fin o
 ev:evtD (ruEr a.rules e) e.off t=some o
 ac:Zei a.rules z.eras (Zb9 a.rules z.eras t) e
theorem ZsC {w:World}{Ar Az Al As:Option Addr}{s u q cs:Nat}{a:DSource}(h:Zdc w Ar Az Al As s u q cs a)(b:accD a=none){z:DZone}(k:z∈a.zones){t:Int}(p : -37000000000000000<=t/\t<=37000000000000000):∃ r x e o,StOk a z t r x e o:=by
 have n:=ZAt h b
 obtain⟨r,j⟩:=n.sp z k
 obtain⟨x,y,_,m,A,_⟩:=ZfD j (n.ne z k) (t:=t) (by omega) (by omega)
 obtain⟨e,l,v⟩:=Ziv (d:=dE0) y
 have g:=Zjc b k l
 have i:∃ o,evtD (ruEr a.rules e) e.off t=some o:=by
  unfold ruEr
  by_cases f:e.kind=2
  ·rw[if_pos f]
   obtain⟨o,c,_⟩:=(g.set f).evt g.off p.1 p.2
   exact⟨o,c⟩
  ·rw[if_neg f]
   exact⟨none,rfl⟩
 obtain⟨o,c⟩:=i
 refine⟨r,x,e,o,j,m,A,l,?_,c,g⟩
 unfold nxD ZhA eAt
 rw[j,v,c]
 dsimp only
 rw[m]
 rfl
structure SvG where
 k:Nat
 n:Int
theorem ZC8 {G:Prop}(h:G:=by(first|(apply Pu_indexAddr;rfl;rfl;omega;omega;first|exact hnz|exact hna)|(apply Pu_loadO1;rfl;exact hcz 1 _ rfl)|exact PuI)):G:=h
theorem Zyf {G:Prop}(h:G:=by first|(apply Qy_y;rfl;exact ZC8)|exact QyA):G:=h
theorem ZyK {G:Prop}(h:G:=by repeat (exact QF.nil)):G:=h
theorem ZC7 {G:Prop}(h:G:=by(first|(apply Zav;rfl;rfl;exact d0)|(apply ZfP;rfl;rfl))):G:=h
theorem ZC6 {G:Prop}(h:G:=by(apply Zav;rfl;rfl;exact d0)):G:=h
theorem Zzj {G:Prop}(h:G:=by(apply Zav;rfl;rfl;exact b1)):G:=h
set_option maxHeartbeats 0 in
theorem Zmo (Ar Az Al As:Option Addr)(cr cz cl cs:Nat)(a:DSource)(i:Nat)(z:DZone)(t:Int)(w:World)(h:Zdc w Ar Az Al As cr cz cl cs a)(ae:accD a=none)(c:a.zones[i]?=some z)(ht : -37000000000000000<=t/\t<=37000000000000000) :
  Does prog 67 [srcV Ar Az Al As cr cz cl cs a,.int .i64 i,.int .i64 t] w (fun v O=>v=optV (nxD a.rules z.eras t)/\O=[]):=by
 have d:=List.mem_of_getElem? c
 obtain⟨r,x,e,o,D⟩:=ZsC h ae d ht
 have ag:=fun w' (u:Bel w.heap.size w w')=>Zf5 Ar Az Al As cr cz cl cs a i z r w' (h.A.up u) h.S.nr (h.S.zs z d).2.1 c (fun k e he hk=>by
  have hE:=Zjc ae d he
  refine⟨hE.rsm h.S.nr,hE.unok hk,fun J=>?_⟩
  have:=hE.set J
  unfold ruEr
  rwa[if_pos J]) D.sp
 have aC:r.length=z.eras.length:=ZpT _ _ _ _ _ D.sp
 have aD:=(h.S.zs z d).2.1
 have M:=fun(A4:Option Addr) (c4:Nat) w' hR=>Zhj A4 c4 r t w' hR (by omega)
 rw[D.fd]at M
 unfold SpR at ag
 have ab:=fun w' (u:Bel w.heap.size w w')=>Zf6 Ar Az Al As cr cz cl cs a e w' (h.A.up u) h.S.nr
 unfold ZgC at ab
 have af:=(D.ac.rsm h.S.nr).n
 have ad:∀ r∈ruEr a.rules e,ZbS r:=fun r hr=>by
  unfold ruEr at hr
  by_cases J:e.kind=2
  ·rw[if_pos J]at hr
   exact(D.ac.set J).rule r hr
  ·rw[if_neg J]at hr
   cases hr
 have K:∀ f,EvOf (ruEr a.rules e) f->Zbb (ruEr a.rules e):=fun f H=>by
  unfold ruEr at H ⊢
  by_cases J:e.kind=2
  ·rw[if_pos J]
   exact D.ac.set J
  ·rw[if_neg J]at H
   obtain⟨j,r,y,h3,_⟩:=H
   simp at h3
 have W:=D.ac.off
 rw[D.nx]
 have L:=D.ev
 have Z:=D.at_
 have ah:=D.er
 obtain⟨hnz,ax,⟨Ae,ce,X,rfl⟩,hcz⟩:=h.A.z i _ c
 have az:i<a.zones.length:=(List.getElem?_eq_some_iff.1 c).1
 have aB:=h.A.zle
 have an:=h.A.zcap
 simp only[maxLen]at an
 obtain⟨hna,hca⟩:=X.rd _ _ Z
 have aA:=(List.getElem?_eq_some_iff.1 Z).1
 have ay:=X.le
 have al:=X.cap
 simp only[maxLen]at al
 generalize ruEr a.rules e=R at *
 generalize Zb9 a.rules z.eras t=q at *
 have N:=fun(A3:Option Addr) (s:Nat) n (hb : -40000000000000000<=n/\n<=40000000000000000) w' hR=>Zs4 A3 s R n w' hR af ad hb
 have I:=fun(A3:Option Addr) (s:Nat) f (H:EvOf R f) w' hR=>Zhk A3 s R f e.off w' hR af (K f H) H (by omega)
 have m:=fun f (H:EvOf R f)=>(K f H).inst_near W f
 have U:=fun f (H:EvOf R f)=>((K f H).ev_bd H).1
 clear D Z K ad c d
 unfold evtD at L
 obtain⟨x1,x2,x3⟩:=x
 dsimp only at ah M ⊢
 subst ah
 obtain⟨off,kd,aj,ai,fm,⟨ui,uy,um,⟨aZ,au,av⟩,⟨aq,ar⟩⟩⟩:=e
 simp only[DEra.enc]at hca ab
 simp only[ZaE.enc]at M
 dsimp only at I W m L
 unfold optV
 refine Zaa func67 rfl rfl rfl rfl ?_
 repeat (first|(apply RD_Q;rfl;rfl;decide +kernel;rfl;rfl;exact Zyf)|refine walkB1 ?_|(refine jg ?_;(try intro F);(first|(apply Zad (h:=fun w' u _=>ag w' u);rfl;rintro v O' ⟨A4,c4,rfl,rfl⟩)|(refine ZaH (fun w' u E=>M A4 c4 w' (ZaJ ZaE.len (E.of (A := .row (.slice A4 r.length c4) 109 3 r.length (r.flatMap ZaE.enc)) cS_))) ?_)|(apply Zad (h:=fun w' u _=>ab w' u);rfl;rintro v O' ⟨A3,s,rfl,rfl⟩)|(refine bx ?_;intro bk)|(refine stA ?_));first|refine⟨_,EndsA,ZyK,?_⟩|refine fin ?_)|(apply RD_W;rfl;intro bk))
 rename_i b3 aw
 generalize bk=b13
 refine Zb4 (fun fr' O'=>Sub [(12,.int .i64 (minO x2 o))] fr'/\SubO [] O') ?_ ?_
 ·repeat (refine walk ?_)
  refine Zah [(2,.int .i64 t),(12,.int .i64 x2),(13,.pointer (some ⟨b13,0,none⟩)),(14,.slice A3 R.length s)] [.row (.slice A3 R.length s) 68 11 R.length (R.flatMap DRule.enc),.blk b13 [.int .i64 off,.int .i64 kd,.int .i64 aj,.string ai,.string fm,.bool ui,.int .i64 uy,.int .i64 um,.int .i64 aZ,.int .i64 au,.int .i64 av,.int .i64 aq,.int .i64 ar] 75]
   (fun g:SvG=>[(15,.int .i64 g.n)]) (fun _=>[]) (fun g=>(-40000000000000000<=g.n/\g.n<=40000000000000000)/\ZfM R off t g.k g.n=some o) (fun g=>g.k) ⟨4,t - 259200⟩ SFA SOA ⟨by dsimp only;omega,L⟩ ?_
  clear L
  rintro⟨k,n⟩ ⟨hn,c⟩
  dsimp only at hn c ⊢
  rcases k with _|k
  ·cases c
  rw[ZfM]at c
  have Y:=N A3 s n hn
  have Q:=fun e (he:ZbC R n=some e)=>Zja he
  cases hq:ZbC R n with
  | none =>
   rw[hq]at Y c
   cases c
   simp only[evV,Zac.enc,dEv0,Option.isSome]at Y
   repeat (first|refine walk ?_|(refine jg ?_;(try intro F);(first|(refine ZaH (fun w' u E=>Y w' (ZaJ DRule.len (E.of (A := .row (.slice A3 R.length s) 68 11 R.length (R.flatMap DRule.enc)) cS_))) ?_)|(refine bx ?_;intro bk));refine fin ?_))
   exact⟨rfl,SFA,SOA⟩
  | some f =>
   rw[hq]at Y c
   obtain⟨e1,e2⟩:=Q f hq
   have aa:=I A3 s f e1
   have ap:=m f e1
   have ao:=U f e1
   clear Q m U I N
   dsimp only at c
   obtain⟨ey,er,en⟩:=f
   simp only[evV,Zac.enc,Option.isSome]at Y aa
   dsimp only at e2 ap ao
   generalize Zcc R ⟨ey,er,en⟩ off=T at *
   by_cases hT:t<T
   ·rw[if_pos hT]at c
    cases c
    have d0:decide (t<T)=true:=dT_ hT
    repeat (first|(apply RL_pu;rfl;exact ZC7)|refine walk1 ?_|(refine jg ?_;(try intro F);(first|(refine ZaH (fun w' u E=>Y w' (ZaJ DRule.len (E.of (A := .row (.slice A3 R.length s) 68 11 R.length (R.flatMap DRule.enc)) cS_))) ?_)|(refine ZaH (fun w' u E=>aa w' (ZaJ DRule.len (E.of (A := .row (.slice A3 R.length s) 68 11 R.length (R.flatMap DRule.enc)) cS_))) ?_)|(refine bx ?_;intro bk));first|refine⟨_,EndsA,QFRhJ3,?_⟩|refine fin ?_))
    exact⟨rfl,SFA,SOA⟩
   ·rw[if_neg hT]at c
    have d0:decide (t<T)=false:=dF_ hT
    repeat (first|(apply RL_pu;rfl;exact ZC6)|refine walk1 ?_|(refine jg ?_;(try intro F);(first|(refine ZaH (fun w' u E=>Y w' (ZaJ DRule.len (E.of (A := .row (.slice A3 R.length s) 68 11 R.length (R.flatMap DRule.enc)) cS_))) ?_)|(refine ZaH (fun w' u E=>aa w' (ZaJ DRule.len (E.of (A := .row (.slice A3 R.length s) 68 11 R.length (R.flatMap DRule.enc)) cS_))) ?_)|(refine bx ?_;intro bk));first|refine⟨_,EndsA,QFRhJ4,?_⟩|refine fin ?_))
    exact⟨⟨k,en⟩,OA,⟨by dsimp only;omega,c⟩,SFA,SOA⟩
 ·rintro fr' O' ⟨am,ak⟩
  apply thenQ_n
  refine ZcG am ak ?_
  unfold Zc1
  by_cases hM:36028797018963968<minO x2 o
  ·rw[if_pos hM]
   have b1:decide (36028797018963968<minO x2 o)=true:=dT_ hM
   repeat (first|(apply RL_pu;rfl;exact Zzj)|refine walk1 ?_)
   exact rtB
  ·rw[if_neg hM]
   have b1:decide (36028797018963968<minO x2 o)=false:=dF_ hM
   repeat (first|(apply RL_pu;rfl;exact Zzj)|refine walk1 ?_)
   exact rtB
theorem ZkW (Ar Az Al As:Option Addr)(J K I cs:Nat)(a:DSource)(i:Nat)(z:DZone)(t:Int)(w:World)(h:Zdc w Ar Az Al As J K I cs a)(p:accD a=none)(s:a.zones[i]?=some z)(ht : -37000000000000000<=t/\t<=37000000000000000) :
  Does prog 70 [srcV Ar Az Al As J K I cs a,.int .i64 i,.int .i64 t] w (fun v O=>v = .agg (Zbw a.rules z.eras t).enc.toArray/\O=[]):=by
 have b:=List.mem_of_getElem? s
 obtain⟨r,x,e,o,j⟩:=ZsC h p b ht
 have D:=fun w' (m:Bel w.heap.size w w')=>Zf5 Ar Az Al As J K I cs a i z r w' (h.A.up m) h.S.nr (h.S.zs z b).2.1 s (fun k e Y hk=>by
  have L:=Zjc p b Y
  refine⟨L.rsm h.S.nr,L.unok hk,fun Q=>?_⟩
  have:=L.set Q
  unfold ruEr
  rwa[if_pos Q]) j.sp
 have ae:r.length=z.eras.length:=ZpT _ _ _ _ _ j.sp
 have af:=(h.S.zs z b).2.1
 have d:=fun(A4:Option Addr) (H:Nat) w' X=>Zhj A4 H r t w' X (by omega)
 rw[j.fd]at d
 unfold SpR at D
 have c:=j.at_
 have g:=fun w' (m:Bel w.heap.size w w')=>ZkY Ar Az Al As J K I cs a z.eras _ e t w' (h.A.up m) h.S.nr j.ac ((h.S.zs z b).2.2 e (List.mem_of_getElem? c)).2 (by omega)
 have E:=j.er
 have u:Zbw a.rules z.eras t=ZeM e (ZaU a.rules e t):=by
  unfold Zbw
  rw[List.getD_eq_getElem?_getD,c]
  rfl
 rw[u]
 obtain⟨hnz,T,⟨Ae,ce,f,rfl⟩,hcz⟩:=h.A.z i _ s
 have aa:i<a.zones.length:=(List.getElem?_eq_some_iff.1 s).1
 have ad:=h.A.zle
 have N:=h.A.zcap
 simp only[maxLen]at N
 obtain⟨hna,hca⟩:=f.rd _ _ c
 have ab:=(List.getElem?_eq_some_iff.1 c).1
 have Z:=f.le
 have M:=f.cap
 simp only[maxLen]at M
 generalize Zb9 a.rules z.eras t=q at *
 generalize ZeM e (ZaU a.rules e t)=y at *
 clear j c s b u
 obtain⟨x1,x2,x3⟩:=x
 dsimp only at E d
 subst E
 obtain⟨ag,kd,U,R,fm,⟨ui,uy,um,⟨aj,ak,al⟩,⟨ah,ai⟩⟩⟩:=e
 obtain⟨y1,y2,y3⟩:=y
 simp only[DEra.enc]at hca g
 simp only[ZaE.enc]at d
 simp only[Zak.enc]at g ⊢
 refine Zaa func70 rfl rfl rfl rfl ?_
 repeat (first|(apply RD_Q;rfl;rfl;decide +kernel;rfl;rfl;exact Zyf)|refine walk1 ?_|(refine jg ?_;(try intro F);(first|(apply Zad (h:=fun w' m _=>D w' m);rfl;rintro v O' ⟨A4,H,rfl,rfl⟩)|(refine ZaH (fun w' m W=>d A4 H w' (ZaJ ZaE.len (W.of (A := .row (.slice A4 r.length H) 109 3 r.length (r.flatMap ZaE.enc)) cS_))) ?_)|(refine Zab g ?_)|(refine bx ?_;intro bk)|(refine stA ?_));first|refine⟨_,EndsA,ZyK,?_⟩|refine fin ?_))
 exact ret_1 _ [] (.cellB rfl cS_ rfl rfl) .nil ⟨rfl,rfl⟩
end Go.Proofs.YtpipekfmecikmaaGreatDoor
namespace Go.Proofs.YtpipekfmecikmaaGreatDoor
open Go Go.RowKit Go.Wk
def ixL (x:Zak):List Zak->Nat->Option Nat
 | [],_=>none
 | y::l,i=>if y=x then some i else ixL x l (i+1)
def Zck (ty:List Zak)(x:Zak):Nat × List Zak:=match ixL x ty 0 with
 | some i=>(i,ty)
 | none=>(ty.length,ty++[x])
def Zjq (rs:List DRule)(l:List DEra)(to:Int):Nat->Int->Zak->List Zak->List (Int × Nat)->Option (List (Int × Nat) × List Zak)
 | 0,_,_,_,_=>none
 | k+1,t,now,ty,out=>match nxD rs l t with
  | none=>some (out,ty)
  | some u=>if to<u then some (out,ty)
   else if Zbw rs l u=now then Zjq rs l to k u now ty out
   else Zjq rs l to k u (Zbw rs l u) (Zck ty (Zbw rs l u)).2 (out++[(u,(Zck ty (Zbw rs l u)).1)])
def allD (rs:List DRule)(l:List DEra)(a b:Int):Option (List (Int × Nat) × List Zak):=Zjq rs l b 50001 a (Zbw rs l a) [Zbw rs l a] []
def chG (rs:List DRule)(l:List DEra)(to:Int):Nat->Int->Zak->Option (List Int)
 | 0,_,_=>none
 | k+1,t,now=>match nxD rs l t with
  | none=>some []
  | some u=>if to<u then some []
   else if Zbw rs l u=now then chG rs l to k u now
   else (chG rs l to k u (Zbw rs l u)).map fun c=>u::c
def tyF (rs:List DRule)(l:List DEra):List Int->List Zak->List (Int × Nat) × List Zak
 | [],ty=>([],ty)
 | u::c,ty=>((u,(Zck ty (Zbw rs l u)).1)::(tyF rs l c (Zck ty (Zbw rs l u)).2).1,(tyF rs l c (Zck ty (Zbw rs l u)).2).2)
theorem Zly (rs:List DRule)(l:List DEra)(d:Int):∀ (k:Nat) (t:Int) (a:Zak) (ty:List Zak) (b:List (Int × Nat)),Zjq rs l d k t a ty b=(chG rs l d k t a).map fun c=>(b++(tyF rs l c ty).1,(tyF rs l c ty).2)
 | 0,_,_,_,_=>rfl
 | k+1,t,a,ty,b=>by
  rw[Zjq,chG]
  cases nxD rs l t with
  | none=>simp[tyF]
  | some u =>
   dsimp only
   by_cases e:d<u
   ·rw[if_pos e,if_pos e]
    simp[tyF]
   ·rw[if_neg e,if_neg e]
    by_cases f:Zbw rs l u=a
    ·rw[if_pos f,if_pos f,Zly rs l d k u a ty b]
    ·rw[if_neg f,if_neg f,Zly rs l d k u _ _ _]
     cases chG rs l d k u (Zbw rs l u) with
     | none=>rfl
     | some c=>simp[tyF]
section
variable {rs:List DRule}{l:List DEra}{Y:Nat->Int}
def Zz8 (rs:List DRule)(l:List DEra)(t:Int):Prop:=(eAt rs l t).kind=2/\∃ f,EvOf (ofB rs (eAt rs l t).set) f/\Zcc (ofB rs (eAt rs l t).set) f (eAt rs l t).off=t
end
theorem Zk9 {x:Zak}:∀ (l:List Zak) (i j:Nat),ixL x l i=some j->i<=j/\l[j - i]?=some x
 | [],_,_,h=>by cases h
 | y::l,i,j,h=>by
  rw[ixL]at h
  by_cases a:y=x
  ·rw[if_pos a]at h
   cases h
   subst a
   exact⟨Nat.le_refl _,by simp⟩
  ·rw[if_neg a]at h
   obtain⟨c,b⟩:=Zk9 l (i+1) j h
   refine⟨by omega,?_⟩
   rw[show j - i=j - (i+1)+1 by omega,List.getElem?_cons_succ]
   exact b
theorem Zla {x:Zak}:∀ (l:List Zak) (i:Nat),ixL x l i=none->x ∉ l
 | [],_,_=>by simp
 | y::l,i,h=>by
  rw[ixL]at h
  by_cases b:y=x
  ·rw[if_pos b]at h;cases h
  ·rw[if_neg b]at h
   have:=Zla l (i+1) h
   intro a
   rcases List.mem_cons.1 a with rfl|a
   ·exact b rfl
   ·exact this a
theorem Zr9 (ty:List Zak)(x:Zak)(d:ty.Nodup):(Zck ty x).2.Nodup/\(Zck ty x).2[(Zck ty x).1]?=some x/\(((Zck ty x).1<ty.length/\(Zck ty x).2=ty)\/((Zck ty x).1=ty.length/\(Zck ty x).2=ty++[x])):=by
 unfold Zck
 cases h:ixL x ty 0 with
 | some i =>
  obtain⟨_,c⟩:=Zk9 ty 0 i h
  rw[Nat.sub_zero]at c
  exact⟨d,c,.inl ⟨(List.getElem?_eq_some_iff.1 c).1,rfl⟩⟩
 | none =>
  have c:=Zla ty 0 h
  refine⟨List.nodup_append.2 ⟨d,by simp,fun a e b f=>?_⟩,by simp,.inr ⟨rfl,rfl⟩⟩
  rw[List.mem_singleton.1 f]
  rintro rfl
  exact c e
