/- Parts of the proof. -/
import Derived.Test.YtpipekfmecikmaaGreatDoorR36
set_option maxHeartbeats 4000000
set_option linter.all false
namespace Go.Proofs.YtpipekfmecikmaaGreatDoor
open Go Go.RowKit Go.Wk
attribute [local irreducible] W RL Does Zaq Zai retQ Calls Pu Stp RD Qy Ay Zaj
structure PaL where
 Ae:Option Addr
 ce:Nat
 As:Option Addr
 cs:Nat
 Ar:Option Addr
 cr:Nat
def PaL.cells (p:PaL)(l:List DEra)(r:List ZaG):List Value:=[.slice p.Ae l.length p.ce,.slice p.As r.length p.cs,.slice p.Ar l.length p.cr]
structure ZnD (w:World)(p:PaL)(rs:List DRule)(l:List DEra)(r:List ZaG):Prop where
 e:RdSl w p.Ae p.ce DEra.enc 13 l
 s:RdSl w p.As p.cs ZaG.enc 3 r
 u:RdLL w p.Ar p.cr DRule.enc 11 (l.map (ruEr rs))
theorem ZuO {G:Prop}(h:G:=by(first|(apply Pu_indexAddr;rfl;rfl;omega;omega;first|exact hna|exact hne)|(apply Pu_loadO1;rfl;exact hcu 0 _ rfl)|(apply Pu_loadO1;rfl;exact hce 0 _ rfl)|(apply Zat;rfl;rfl;exact d1))):G:=h
theorem Zun {G:Prop}(h:G:=by first|(apply Qy_y;rfl;exact ZuO)|exact QyA):G:=h
theorem Zqo {G:Prop}(h:G:=by repeat (first|exact QF.nil|(apply QF.mk;rfl;rfl;decide +kernel;exact Zun))):G:=h
theorem Zyq {G:Prop}(h:G:=by(first|(apply Pu_indexAddr;rfl;rfl;omega;omega;first|exact hna|exact hne)|(apply Pu_loadO1;rfl;exact hcu 0 _ rfl)|(apply Pu_loadO1;rfl;exact hce 0 _ rfl)|(apply Zau;rfl;rfl;exact d0)|(apply Zat;rfl;rfl;exact d1))):G:=h
theorem ZxB {G:Prop}(h:G:=by first|(apply Qy_y;rfl;exact Zyq)|exact QyA):G:=h
theorem Zx7 {G:Prop}(h:G:=by repeat (first|exact QF.nil|(apply QF.mk;rfl;rfl;decide +kernel;exact ZxB))):G:=h
theorem Zpu {G G':Prop}(k:G')(h:Hold G'->G:=by intro k9;(first|(apply RL_pu;rfl;exact Zyq)|(apply RD_Q;rfl;rfl;decide +kernel;rfl;rfl;exact ZxB)|refine walk1 ?_|(refine jg ?_;(try intro F);(first|(refine Zac hfi ?_)|(refine Zac hev ?_));first|refine⟨_,EndsA,Zx7,?_⟩|refine fin ?_)|(refine jn ?_;(try intro F);(first|(refine stA ?_)|(apply Zam;exact PuA));first|refine⟨_,EndsA,Zx7,?_⟩|refine fin ?_));exact k9.out):G:=h ⟨k⟩
theorem Zh7 (p:PaL)(rs:List DRule)(l:List DEra)(r:List ZaG)(t:Int)(k:Nat)(x:ZaG)(e:DEra)(o:Option Int)(w:World)(y:Glob w)(c:ZnD w p rs l r)(hx:Zc9 r t=(x,true))(j:x.era=(k:Nat))(f:l[k]?=some e)(z:RsSm (ruEr rs e))(E : -1000000000<=e.off/\e.off<=1000000000)(H : -1000000000000000000<=t/\t<=1000000000000000000)(I:evtD (ruEr rs e) e.off t=some o) :
  Does Tryz.prog 64 [.agg (p.cells l r).toArray,.int .i64 t] w (fun v O=>v=optV (Zc4 x.fin o)/\O=[]):=by
 have hfi:=fun w' (d:Bel w.heap.size w w')=>ZhK p.As p.cs r t w' (c.s.up d)
 rw[hx]at hfi
 have D:k<l.length:=(List.getElem?_eq_some_iff.1 f).1
 obtain⟨hne,hce⟩:=c.e.rd k e f
 obtain⟨hna,B,m,q,hcu⟩:=c.u.rd k (ruEr rs e) (by rw[List.getElem?_map,f];rfl)
 have g:=c.u.le
 rw[List.length_map]at g
 have hev:=fun w' (d:Bel w.heap.size w w')=>ZmY B m (ruEr rs e) e.off t o w' (y.up d) (q.up d) z E H I
 obtain⟨xs,a,J⟩:=x
 dsimp only at j hfi
 subst j
 simp only[ZaG.enc]at hfi
 rcases o with _|u
 ·rcases Int.lt_or_le 36028797018963968 a with hm|hm
  ·have d1:decide (36028797018963968<a)=true:=decide_eq_true hm
   rw[show Zc4 a none=none from by unfold Zc4;rw[show minO a none=a from rfl,if_pos hm]]
   dsimp only[optV,Option.getD,Option.isSome]at hev ⊢
   show Does _ _ [.agg #[.slice p.Ae l.length p.ce,.slice p.As r.length p.cs,.slice p.Ar l.length p.cr],_] w _
   refine Zaa Tryz.func64 rfl rfl rfl rfl ?_
   repeat (first|(apply RL_pu;rfl;exact ZuO)|(apply RD_Q;rfl;rfl;decide +kernel;rfl;rfl;exact Zun)|refine walk1 ?_|(refine jg ?_;(try intro F);(first|(refine Zac hfi ?_)|(refine Zac hev ?_)|(refine bx ?_;intro b));first|refine⟨_,EndsA,Zqo,?_⟩|refine fin ?_)|(refine jn ?_;(try intro F);(first|(refine bx ?_;intro b)|(apply Zam;exact PuA));refine⟨_,EndsA,Zqo,?_⟩))
   exact rtB
  ·have d1:decide (36028797018963968<a)=false:=decide_eq_false (by omega)
   rw[show Zc4 a none=some a from by unfold Zc4;rw[show minO a none=a from rfl,if_neg (by omega)]]
   dsimp only[optV,Option.getD,Option.isSome]at hev ⊢
   show Does _ _ [.agg #[.slice p.Ae l.length p.ce,.slice p.As r.length p.cs,.slice p.Ar l.length p.cr],_] w _
   refine Zaa Tryz.func64 rfl rfl rfl rfl ?_
   repeat (first|(apply RL_pu;rfl;exact ZuO)|(apply RD_Q;rfl;rfl;decide +kernel;rfl;rfl;exact Zun)|refine walk1 ?_|(refine jg ?_;(try intro F);(first|(refine Zac hfi ?_)|(refine Zac hev ?_)|(refine bx ?_;intro b));first|refine⟨_,EndsA,Zqo,?_⟩|refine fin ?_)|(refine jn ?_;(try intro F);(first|(refine bx ?_;intro b)|(apply Zam;exact PuA));refine⟨_,EndsA,Zqo,?_⟩))
   exact rtB
 ·rcases Int.lt_or_le u a with hu|hu
  ·have d0:decide (u<a)=true:=decide_eq_true hu
   rcases Int.lt_or_le 36028797018963968 u with hm|hm
   ·have d1:decide (36028797018963968<u)=true:=decide_eq_true hm
    rw[show Zc4 a (some u)=none from by unfold Zc4;rw[show minO a (some u)=u from if_pos hu,if_pos hm]]
    dsimp only[optV,Option.getD,Option.isSome]at hev ⊢
    show Does _ _ [.agg #[.slice p.Ae l.length p.ce,.slice p.As r.length p.cs,.slice p.Ar l.length p.cr],_] w _
    refine Zaa Tryz.func64 rfl rfl rfl rfl ?_
    repeat (first|refine Zpu ?_|(refine jg ?_;(try intro F);(refine bx ?_;intro b);refine fin ?_))
    exact rtB
   ·have d1:decide (36028797018963968<u)=false:=decide_eq_false (by omega)
    rw[show Zc4 a (some u)=some u from by unfold Zc4;rw[show minO a (some u)=u from if_pos hu,if_neg (by omega)]]
    dsimp only[optV,Option.getD,Option.isSome]at hev ⊢
    show Does _ _ [.agg #[.slice p.Ae l.length p.ce,.slice p.As r.length p.cs,.slice p.Ar l.length p.cr],_] w _
    refine Zaa Tryz.func64 rfl rfl rfl rfl ?_
    repeat (first|refine Zpu ?_|(refine jg ?_;(try intro F);(refine bx ?_;intro b);refine fin ?_))
    exact rtB
  ·have d0:decide (u<a)=false:=decide_eq_false (by omega)
   rcases Int.lt_or_le 36028797018963968 a with hm|hm
   ·have d1:decide (36028797018963968<a)=true:=decide_eq_true hm
    rw[show Zc4 a (some u)=none from by unfold Zc4;rw[show minO a (some u)=a from if_neg (by omega),if_pos hm]]
    dsimp only[optV,Option.getD,Option.isSome]at hev ⊢
    show Does _ _ [.agg #[.slice p.Ae l.length p.ce,.slice p.As r.length p.cs,.slice p.Ar l.length p.cr],_] w _
    refine Zaa Tryz.func64 rfl rfl rfl rfl ?_
    repeat (first|refine Zpu ?_|(refine jg ?_;(try intro F);(refine bx ?_;intro b);refine fin ?_))
    exact rtB
   ·have d1:decide (36028797018963968<a)=false:=decide_eq_false (by omega)
    rw[show Zc4 a (some u)=some a from by unfold Zc4;rw[show minO a (some u)=a from if_neg (by omega),if_neg (by omega)]]
    dsimp only[optV,Option.getD,Option.isSome]at hev ⊢
    show Does _ _ [.agg #[.slice p.Ae l.length p.ce,.slice p.As r.length p.cs,.slice p.Ar l.length p.cr],_] w _
    refine Zaa Tryz.func64 rfl rfl rfl rfl ?_
    repeat (first|refine Zpu ?_|(refine jg ?_;(try intro F);(refine bx ?_;intro b);refine fin ?_))
    exact rtB
theorem ZCl {G:Prop}(h:G:=by(first|(apply Pu_indexAddr;rfl;rfl;omega;omega;first|exact hna|exact hne)|(apply Pu_loadO1;rfl;exact hcu 0 _ rfl)|(apply Pu_loadON;rfl;exact hce;rfl))):G:=h
theorem ZxA {G:Prop}(h:G:=by first|(apply Qy_y;rfl;exact ZCl)|exact QyA):G:=h
theorem Zx6 {G:Prop}(h:G:=by repeat (first|exact QF.nil|(apply QF.mk;rfl;rfl;decide +kernel;exact ZxA))):G:=h
theorem ZkK (p:PaL)(rs:List DRule)(l:List DEra)(r:List ZaG)(t:Int)(k:Nat)(x:ZaG)(e:DEra)(w:World)(T:LibW w)(S:Glob w)(z:ZnD w p rs l r)(hx:Zc9 r t=(x,true))(I:x.era=(k:Nat))(D:l[k]?=some e)(a:LcOk rs e)(X : -1000000000000000000<=t/\t<=1000000000000000000)
  (J : -1000000000<=(Zbz rs e t).1/\(Zbz rs e t).1<=1000000000) (m:(Zbz rs e t).2.size<=1000000000) (g:abE e (Zbz rs e t)=0) :
  Does Tryz.prog 68 [.agg (p.cells l r).toArray,.int .i64 t] w (fun v O=>v = .tuple #[.agg (Zid e (Zbz rs e t)).enc.toArray,.int .i64 0]/\O=[]):=by
 have c:=fun w' (q:Bel w.heap.size w w')=>ZhK p.As p.cs r t w' (z.s.up q)
 rw[hx]at c
 have W:k<l.length:=(List.getElem?_eq_some_iff.1 D).1
 obtain⟨hne,hce⟩:=z.e.rd k e D
 obtain⟨hna,B,N,R,hcu⟩:=z.u.rd k (ruEr rs e) (by rw[List.getElem?_map,D];rfl)
 have j:=z.u.le
 rw[List.length_map]at j
 have b:stW e (ruEr rs e) t=Zbz rs e t:=by
  have U:=a.k
  unfold stW Zbz ruEr
  by_cases E:e.kind=0
  ·rw[if_neg (by omega),if_neg (by omega),if_pos E]
  ·rw[if_neg E]
   by_cases y:e.kind=1
   ·rw[if_pos y,if_pos y]
   ·rw[if_neg y,if_neg y,if_pos (show e.kind=2 by omega),if_pos (show e.kind=2 by omega)]
 have d:=fun w' (q:Bel w.heap.size w w')=>Zmx e B N (ruEr rs e) t w' (T.up q) (S.up q) (R.up q) a.k a.o a.f (fun H=>by unfold ruEr;rw[if_pos H];exact a.r H) X (by rw[b];exact J) (by rw[b];exact m) (by rw[b];exact g)
 rw[b]at d
 clear b J m g
 generalize Zid e (Zbz rs e t)=L at *
 obtain⟨xs,xf,xe⟩:=x
 dsimp only at I c
 subst I
 obtain⟨l1,l2,l3⟩:=L
 obtain⟨Y,kd,Q,K,fm,⟨ui,uy,um,⟨ab,ac,ad⟩,⟨Z,aa⟩⟩⟩:=e
 simp only[ZaG.enc,Zaw.enc,DEra.enc]at c d hce ⊢
 show Does _ _ [.agg #[.slice p.Ae l.length p.ce,.slice p.As r.length p.cs,.slice p.Ar l.length p.cr],_] w _
 refine Zaa Tryz.func68 rfl rfl rfl rfl ?_
 repeat (first|(apply RD_Q;rfl;rfl;decide +kernel;rfl;rfl;exact ZxA)|refine walk1 ?_|(refine jg ?_;(try intro F);(first|(refine Zac c ?_)|(refine Zac d ?_)|(refine bx ?_;intro M)|(refine stA ?_));first|refine⟨_,EndsA,Zx6,?_⟩|refine fin ?_)|(refine jn ?_;(try intro F);(first|(refine bx ?_;intro M)|(apply Zam;exact PuA));refine⟨_,EndsA,Zx6,?_⟩))
 exact rtC
end Go.Proofs.YtpipekfmecikmaaGreatDoor
namespace Go.Wk
open Go Go.RowKit
structure RuH where
 A:Option Addr
 c:Nat
 l:List DRule
structure WfG where
 k:Nat
 A:Option Addr
 c:Nat
 m:Nat
 xs:List Value
 hr:List RuH
end Go.Wk
namespace Go.Proofs.YtpipekfmecikmaaGreatDoor
open Go Go.RowKit Go.Wk
attribute [local irreducible] W RL Does Zaq Zai retQ Calls Pu Stp RD Qy Ay Zaj
def _root_.Go.Wk.RuH.v (h:RuH):Value := .slice h.A h.l.length h.c
def _root_.Go.Wk.RuH.row (h:RuH):It := .row (.slice h.A h.l.length h.c) 68 11 h.l.length (h.l.flatMap DRule.enc)
def FdR (rs:List DRule)(Ae:Option Addr)(ce:Nat)(l:List DEra)(r:List ZaG)(v:Value)(O:List It):Prop :=
 ∃ (p:PaL) (S:Nat->Prop),p.Ae=Ae/\p.ce=ce/\v = .tuple #[.agg (p.cells l r).toArray,.int .i64 0]/\O=[.row (.slice p.As r.length p.cs) 109 3 r.length (r.flatMap ZaG.enc),.fact S (fun w=>RdLL w p.Ar p.cr DRule.enc 11 (l.map (ruEr rs)))]
theorem ZvP {a b c d:It}(M:List It):SubO ((b::M)++[a,c,d]) (a::b::c::d::M):=SubO.ofPerm (R:=[]) (by
 rw[List.append_nil]
 exact(List.Perm.cons a ((List.Perm.swap c b (d::M)).trans (List.Perm.cons c (List.Perm.swap d b M)))).trans (show(a::c::d::(b::M)).Perm _ from List.perm_append_comm (l₁:=[a,c,d]) (l₂:=b::M)))
theorem Zyp {G:Prop}(h:G:=by(first|(apply Pu_indexAddr;rfl;rfl;omega;omega;exact hna)|exact PuI|(apply Zao;rfl;rfl;exact d4))):G:=h
set_option maxHeartbeats 4000000 in
theorem ZmU (Ar Az Al As:Option Addr)(R T Q cs:Nat)(a:DSource)(name:ByteArray)(i:Nat)(z:DZone)(d:List ZaG)(Ae:Option Addr)(H:Nat)(w:World)(h:ZdQ w Ar Az Al As R T Q cs a)(U:accD a=none)(hn:a.zones.length+a.links.length<=1000000)(hf:ZaH a (a.links.length+1) [] name=(i,0))
  (hi:a.zones[i]?=some z) (ak:Az≠none) (ae:Zas w ((adr Az).add (i*2)) [.string z.name,.slice Ae z.eras.length H]) (I:RdSl w Ae H DEra.enc 13 z.eras)
  (hE:∀ k e,z.eras[k]?=some e->k+1<z.eras.length->RsSm (ruEr a.rules e)/\UnOk e (ruEr a.rules e)) (hl:ZfH a.rules z.eras=some d) :
  Does Tryz.prog 63 [srcV Ar Az Al As R T Q cs a,.string name] w (FdR a.rules Ae H z.eras d):=by
 have av:i<a.zones.length:=(List.getElem?_eq_some_iff.1 hi).1
 have aw:=h.A.zle
 have ai:=h.A.zcap
 simp only[maxLen]at ai
 have K:=fun w' (y:Bel w.heap.size w w')=>accS (h.up y)
 rw[U]at K
 change ∀ w',Bel w.heap.size w w'->Does _ _ _ w' (fun v O=>v = .tuple #[.agg #[.int .i64 0,.int .i64 0,.int .i64 0],.int .i64 0]/\O=[]) at K
 have L:=fun w' (y:Bel w.heap.size w w')=>ZjN Ar Az Al As R T Q cs a name w' (h.A.up y) hn
 rw[hf]at L
 dsimp only at L
 have N:=h.S.nr
 have al:=(h.S.zs z (List.mem_of_getElem? hi)).2.1
 have Y:=fun w' (y:Bel w.heap.size w w')=>ZqU Ar Az Al As R T Q cs a i z d w' (h.G.up y) (h.A.up y) N al hi hE hl
 unfold SpR at Y
 have ax:d.length=z.eras.length:=Zsm _ _ _ _ _ hl
 have e3:(!decide ((0:Int)=0))=false:=rfl
 have X:=fun set w' (y:Bel w.heap.size w w')=>ZfV Ar Az Al As R T Q cs a set w' (h.A.up y) N
 have au:=I.le
 have af:=I.cap
 simp only[maxLen]at af
 clear hE hl hi U hf hn
 refine Zaa Tryz.func63 rfl rfl rfl rfl ?_
 repeat (first|(apply RL_pu;rfl;(first|(apply Zal;rfl;rfl;exact e3)|(apply Pu_indexAddr;rfl;rfl;omega;omega;exact ak)|(apply Pu_loadO1;rfl;exact ae 1 _ rfl)))|(refine js ?_;(first|(refine Zac K ?_)|(refine Zac L ?_)|(apply Zad (h:=fun w' y _=>Y w' y);rfl;rintro v O' ⟨A4,F,rfl,rfl⟩)|(refine bx ?_;intro bk)))|refine walk1 ?_)
 generalize bk=b11
 rename_i b2 b4 b6
 refine ZdO 22 1 ?_
 refine Zah [(2,.pointer (some ⟨b2,0,none⟩)),(4,.pointer (some ⟨b4,0,none⟩)),(11,.pointer (some ⟨b11,0,none⟩)),(53,.slice Ae z.eras.length H),(54,.int .i64 z.eras.length)] []
  (fun g:WfG=>[(55,.int .i64 g.k)]) (fun g => .blk b11 [.slice Ae z.eras.length H,.slice A4 d.length F,.slice g.A g.m g.c] 118 :: .row (.slice g.A g.m g.c) 22 1 g.m g.xs :: .blk b2 [.slice Ar a.rules.length R,.slice Az a.zones.length T,.slice Al a.links.length Q,.slice As a.shifts.length cs] 27 :: .blk b4 [.slice none 0 0,.slice none 0 0,.slice none 0 0] 118 :: .row (.slice A4 d.length F) 109 3 d.length (d.flatMap ZaG.enc)::g.hr.map RuH.row)
  (fun g=>g.k<=z.eras.length/\g.m=g.k/\g.xs.length=g.k/\∀ j e,z.eras[j]?=some e->j<g.k->(g.xs[j]?=some (.slice none 0 0)/\ruEr a.rules e=[])\/∃ r∈g.hr,r.l=ruEr a.rules e/\g.xs[j]?=some r.v) (fun g=>z.eras.length - g.k) ⟨0,none,0,0,[],[]⟩ SFA STA ⟨Nat.zero_le _,rfl,rfl,fun j e _ s=>absurd s (Nat.not_lt_zero _)⟩ ?_
 rintro⟨k,A,c,m,xs,hr⟩ ⟨hk,hm,hxl,hH⟩
 dsimp only at hk hm hxl hH ⊢
 repeat (refine walk ?_)
 refine Zaf rfl (fun V=>?_) (fun V=>?_)
 ·simp only[decide_eq_true_eq,Int.ofNat_lt]at V
  obtain⟨hna,hca⟩:=I.rd k _ (List.getElem?_eq_getElem V)
  have D:=List.getElem?_eq_getElem V
  generalize z.eras[k]=e at *
  have W:=fun w' (y:Bel w.heap.size w w')=>X e.set w' y
  have C:ruEr a.rules e=if e.kind=2 then ofB a.rules e.set else []:=rfl
  have aZ:(ofB a.rules e.set).length<=1000000:=Nat.le_trans (List.length_filter_le _ _) N
  have q:∀ (v:Value) (j:Nat) (u:Value),xs[j]?=some u->(xs++[v])[j]?=some u:=fun v j u s=>by
   rw[List.getElem?_append_left (List.getElem?_eq_some_iff.1 s).1]
   exact s
  have last:∀ v:Value,(xs++[v])[k]?=some v:=fun v=>by rw[List.getElem?_append_right (by omega),hxl];simp
  generalize ofB a.rules e.set=rr at *
  by_cases h2:e.kind=2
  ·have d4:decide (e.kind=2)=true:=decide_eq_true h2
   rw[if_pos h2]at C
   have J:∀ (A3:Option Addr) (E:Nat) j f,z.eras[j]?=some f->j<k+1->((xs++[.slice A3 rr.length E])[j]?=some (.slice none 0 0)/\ruEr a.rules f=[])\/∃ r∈(⟨A3,E,rr⟩::hr:List RuH),r.l=ruEr a.rules f/\(xs++[.slice A3 rr.length E])[j]?=some r.v:=fun A3 E j f s aj=>by
    by_cases M:j<k
    ·rcases hH j f s M with⟨q1,q2⟩|⟨r,q1,q2,q3⟩
     ·exact .inl ⟨q _ _ _ q1,q2⟩
     ·exact .inr ⟨r,List.mem_cons_of_mem _ q1,q2,q _ _ _ q3⟩
    ·obtain rfl:j=k:=by omega
     rw[D]at s
     cases s
     exact .inr ⟨_,List.mem_cons_self,C.symm,last _⟩
   clear hH q last C D
   obtain⟨am,kd,aa,Z,fm,⟨ui,uy,um,⟨ap,aq,ar⟩,⟨an,ao⟩⟩⟩:=e
   simp only[DEra.enc]at hca
   dsimp only at W d4
   repeat (first|(apply RL_pu;rfl;exact Zyp)|(refine js ?_;(first|(apply Zad (h:=fun w' y _=>W w' y);rfl;rintro v O' ⟨A3,E,rfl,rfl⟩)|(apply ZaD;rfl;rfl;(intro A' c';(focus repeat' constructor));(intro w' _ hO;exact ZbC (hO.of (by repeat' constructor)));rfl;rfl;(simp only[maxLen];omega);omega;intro A' c' ab ac ad)|(refine bx ?_;intro bk)))|refine walk1 ?_)
   exact⟨⟨k+1,A',c',m+1,xs++[.slice A3 rr.length E],⟨A3,E,rr⟩::hr⟩,OA,⟨OA,by dsimp only;omega,by simp[hxl],J A3 E⟩,SFA,STA⟩
  ·have d4:decide (e.kind=2)=false:=decide_eq_false h2
   rw[if_neg h2]at C
   have J:∀ j f,z.eras[j]?=some f->j<k+1->((xs++[.slice none 0 0])[j]?=some (.slice none 0 0)/\ruEr a.rules f=[])\/∃ r∈hr,r.l=ruEr a.rules f/\(xs++[.slice none 0 0])[j]?=some r.v:=fun j f s aj=>by
    by_cases M:j<k
    ·rcases hH j f s M with⟨q1,q2⟩|⟨r,q1,q2,q3⟩
     ·exact .inl ⟨q _ _ _ q1,q2⟩
     ·exact .inr ⟨r,q1,q2,q _ _ _ q3⟩
    ·obtain rfl:j=k:=by omega
     rw[D]at s
     cases s
     exact .inl ⟨last _,C⟩
   clear hH q last C D
   obtain⟨am,kd,aa,Z,fm,⟨ui,uy,um,⟨ap,aq,ar⟩,⟨an,ao⟩⟩⟩:=e
   simp only[DEra.enc]at hca
   dsimp only at d4
   repeat (first|(apply RL_pu;rfl;exact Zyp)|(refine js ?_;(first|(apply ZaD;rfl;rfl;(intro A' c';(focus repeat' constructor));(intro w' _ hO;exact ZbC (hO.of (by repeat' constructor)));rfl;rfl;(simp only[maxLen];omega);omega;intro A' c' ab ac ad)|(refine bx ?_;intro bk)))|refine walk1 ?_)
   exact⟨⟨k+1,A',c',m+1,xs++[.slice none 0 0],hr⟩,OA,⟨OA,by dsimp only;omega,by simp[hxl],J⟩,SFA,STA⟩
 ·obtain rfl:k=z.eras.length:=by simp only[decide_eq_false_iff_not,Int.ofNat_lt]at V;omega
  subst hm
  refine Zhx (.row (.slice A z.eras.length c) 22 1 z.eras.length xs::hr.map RuH.row) [.blk b11 [.slice Ae z.eras.length H,.slice A4 d.length F,.slice A z.eras.length c] 118,.blk b4 [.slice none 0 0,.slice none 0 0,.slice none 0 0] 118,.row (.slice A4 d.length F) 109 3 d.length (d.flatMap ZaG.enc)] (fun w=>RdLL w A c DRule.enc 11 (z.eras.map (ruEr a.rules))) ?_ (fun w' hs=>?_) ?_
  ·refine SubO.trans (B := .blk b11 [.slice Ae z.eras.length H,.slice A4 d.length F,.slice A z.eras.length c] 118 :: .row (.slice A z.eras.length c) 22 1 z.eras.length xs :: .blk b4 [.slice none 0 0,.slice none 0 0,.slice none 0 0] 118 :: .row (.slice A4 d.length F) 109 3 d.length (d.flatMap ZaG.enc)::hr.map RuH.row) (ZvP _) (.cons (by repeat' constructor) (.cons (by repeat' constructor) (.cons (by repeat' constructor) (.cons (by repeat' constructor) ?_))))
   exact(SubO.append _ []).drop
  ·have ag:xs.flatMap (fun v=>[v])=xs:=by simp
   have t:RdSl w' A c (fun v:Value=>[v]) 1 xs:=ZaO (fun _=>rfl) (by rw[ag,hxl];exact hs _ List.mem_cons_self)
   refine⟨by rw[List.length_map,<- hxl];exact t.le,t.cap,fun j l' s=>?_⟩
   rw[List.getElem?_map]at s
   obtain⟨e,he,rfl⟩:=Option.map_eq_some_iff.1 s
   have ah:j<z.eras.length:=(List.getElem?_eq_some_iff.1 he).1
   rcases hH j e he ah with⟨q1,q2⟩|⟨r,q1,q2,q3⟩
   ·obtain⟨n1,n2⟩:=t.rd j _ q1
    rw[q2]
    exact⟨n1,none,0,⟨Nat.le_refl _,Nat.zero_le _,fun k x hx=>by simp at hx⟩,n2⟩
   ·obtain⟨n1,n2⟩:=t.rd j _ q3
    rw[<- q2]
    exact⟨n1,r.A,r.c,ZaO DRule.len (hs _ (List.mem_cons_of_mem _ (List.mem_map_of_mem q1))),n2⟩
  clear hH
  repeat (refine walk ?_)
  exact ret_2 _ _ [.row (.slice A4 d.length F) 109 3 d.length (d.flatMap ZaG.enc),.fact (foot (.row (.slice A z.eras.length c) 22 1 z.eras.length xs::hr.map RuH.row)) (fun w=>RdLL w A c DRule.enc 11 (z.eras.map (ruEr a.rules)))] (.cellB rfl (by repeat' constructor) rfl rfl) (.tmp rfl) SOA ⟨⟨Ae,H,A4,F,A,c⟩,_,rfl,rfl,rfl,rfl⟩
theorem Zqw {G:Prop}(h:G:=by(apply Zal;rfl;rfl;first|exact e3|exact e4)):G:=h
theorem Zrx (Ar Az Al As:Option Addr)(j m g cs:Nat)(a:DSource)(b:ByteArray)(w:World)(h:ZdQ w Ar Az Al As j m g cs a)(r:a.zones.length+a.links.length<=1000000)(d:(Zcd a b).2≠0) :
  Does Tryz.prog 63 [srcV Ar Az Al As j m g cs a,.string b] w (fun v O=>v = .tuple #[.agg #[.slice none 0 0,.slice none 0 0,.slice none 0 0],.int .i64 (Zcd a b).2]/\O=[]):=by
 have c:=fun w' (p:Bel w.heap.size w w')=>accS (h.up p)
 have e3:(!decide ((0:Int)=0))=false:=rfl
 unfold Zcd at d ⊢
 cases hac:accD a with
 | some x =>
  obtain⟨⟨s,t,u⟩,e⟩:=x
  rw[hac]at c d
  dsimp only at d ⊢
  have e4:(!decide (e=0))=true:=by rw[decide_eq_false d];rfl
  change ∀ w',Bel w.heap.size w w'->Does _ _ _ w' (fun v O=>v = .tuple #[.agg #[.int .i64 s,.int .i64 t,.int .i64 u],.int .i64 e]/\O=[]) at c
  refine Zaa Tryz.func63 rfl rfl rfl rfl ?_
  repeat (first|(apply RL_pu;rfl;exact Zqw)|(refine js ?_;(first|(refine Zac c ?_)|(refine bx ?_;intro q)))|refine walk1 ?_)
  exact rtC
 | none =>
  rw[hac]at c d
  dsimp only at d ⊢
  have f:=fun w' (p:Bel w.heap.size w w')=>ZjN Ar Az Al As j m g cs a b w' (h.A.up p) r
  generalize ZaH a (a.links.length+1) [] b=F at *
  obtain⟨i,e⟩:=F
  dsimp only at d f ⊢
  have e4:(!decide (e=0))=true:=by rw[decide_eq_false d];rfl
  change ∀ w',Bel w.heap.size w w'->Does _ _ _ w' (fun v O=>v = .tuple #[.agg #[.int .i64 0,.int .i64 0,.int .i64 0],.int .i64 0]/\O=[]) at c
  refine Zaa Tryz.func63 rfl rfl rfl rfl ?_
  repeat (first|(apply RL_pu;rfl;exact Zqw)|(refine js ?_;(first|(refine Zac c ?_)|(refine Zac f ?_)|(refine bx ?_;intro q)))|refine walk1 ?_)
  exact rtC
theorem ZjK (Ar Az Al As:Option Addr)(d e c cs:Nat)(a:DSource)(b:ByteArray)(t:Int)(w:World)(f:tOk t=false) :
  Does Tryz.prog 24 [srcV Ar Az Al As d e c cs a,.string b,.int .i64 t] w (fun v O=>v = .tuple #[.int .i64 0,.bool false,.int .i64 3]/\O=[]):=by
 refine Zaa Tryz.func24 rfl rfl rfl rfl ?_
 repeat (first|(refine js ?_;(first|(refine Zac (fun w' _=>Zb3 t w') ?_)|(refine bx ?_;intro g)))|refine walk ?_)
 rw[f]
 repeat (refine walk ?_)
 exact ZcW _ _ _ [] (.tmp rfl) (.tmp rfl) (.tmp rfl) .nil ⟨rfl,rfl⟩
theorem Zml (Ar Az Al As:Option Addr)(d f c cs:Nat)(a:DSource)(b:ByteArray)(t:Int)(w:World)(h:ZdQ w Ar Az Al As d f c cs a)(m:a.zones.length+a.links.length<=1000000)(p:tOk t=true)(i:(Zcd a b).2≠0) :
  Does Tryz.prog 24 [srcV Ar Az Al As d f c cs a,.string b,.int .i64 t] w (fun v O=>v = .tuple #[.int .i64 0,.bool false,.int .i64 (Zcd a b).2]/\O=[]):=by
 have g:=fun w' (q:Bel w.heap.size w w')=>Zrx Ar Az Al As d f c cs a b w' (h.up q) m i
 have e3:(!decide ((Zcd a b).2=0))=true:=by rw[decide_eq_false i];rfl
 have e4:=e3
 generalize (Zcd a b).2=e at *
 refine Zaa Tryz.func24 rfl rfl rfl rfl ?_
 repeat (first|(refine js ?_;(first|(refine Zac (fun w' _=>Zb3 t w') ?_)|(refine bx ?_;intro j)))|refine walk ?_)
 rw[p]
 repeat (first|(apply RL_pu;rfl;exact Zqw)|(refine js ?_;(first|(refine Zac g ?_)|(refine bx ?_;intro j)))|refine walk1 ?_)
 exact ZcW _ _ _ [] (.tmp rfl) (.tmp rfl) (.tmp rfl) .nil ⟨rfl,rfl⟩
structure WkOk (a:DSource)(z:DZone):Prop where
 rs:∀ e∈z.eras,RsSm (ruEr a.rules e)
 of:∀ e∈z.eras,-1000000000<=e.off/\e.off<=1000000000
theorem Zmk (Ar Az Al As:Option Addr)(cr I H cs:Nat)(a:DSource)(b:ByteArray)(t:Int)(i:Nat)(z:DZone)(o:Option Int)(w:World)(h:ZdQ w Ar Az Al As cr I H cs a)(hn:a.zones.length+a.links.length<=1000000)(m:MnOk a)(X:tOk t=true)(D:Zcd a b=(((i:Nat):Int),0))(K:a.zones[i]?=some z)(U:WkOk a z)
  (E:evtD (ruEr a.rules (eAt a.rules z.eras t)) (eAt a.rules z.eras t).off t=some o) :
  Does Tryz.prog 24 [srcV Ar Az Al As cr I H cs a,.string b,.int .i64 t] w (fun v O=>v = .tuple #[.int .i64 ((nxD a.rules z.eras t).getD 0),.bool (nxD a.rules z.eras t).isSome,.int .i64 0]/\O=[]):=by
 have c:=List.mem_of_getElem? K
 have h2:=ZnQ.1 X
 obtain⟨L,aa,⟨Ae,ce,q,rfl⟩,J⟩:=h.A.z i _ K
 obtain⟨r,Q⟩:=m.sp z c
 obtain⟨x,Y,a2,a3,a4,a5,a6⟩:=ZkC Q (m.ne z c) (t:=t) (by omega) (by omega)
 obtain⟨e,W,hd⟩:=ZkZ (d:=dE0) Y
 have u:ZaH a (a.links.length+1) [] b=(i,0):=by
  unfold Zcd at D
  rw[m.acc]at D
  dsimp only at D
  have R:=congrArg Prod.fst D
  have F:=congrArg Prod.snd D
  dsimp only at R F
  exact Prod.ext (by dsimp only;omega) F
 have y:nxD a.rules z.eras t=Zc4 x.fin o:=by
  unfold nxD Zwt
  rw[Q,E]
  dsimp only
  rw[a3]
  rfl
 rw[y]
 unfold eAt at E
 rw[hd]at E
 have s:=List.mem_of_getElem? W
 have g:=fun w' (f:Bel w.heap.size w w')=>ZmU Ar Az Al As cr I H cs a b i z r Ae ce w' (h.up f) m.acc hn u K L (J.up f (Nat.le_refl _)) (q.up f) (m.un z c) Q
 unfold FdR at g
 have j:=fun(p:PaL) w' (f:Bel w.heap.size w w') (R:p.Ae=Ae) (F:p.ce=ce) (hs:RdSl w' p.As p.cs ZaG.enc 3 r) (hu:RdLL w' p.Ar p.cr DRule.enc 11 (z.eras.map (ruEr a.rules)))=>Zh7 p a.rules z.eras r t _ x e o w' (h.G.up f) ⟨by rw[R,F];exact q.up f,hs,hu⟩ a3 a4 W (U.rs e s) (U.of e s) (by omega) E
 unfold optV at j
 have e3:(!decide ((0:Int)=0))=false:=rfl
 have e4:=e3
 generalize Zc4 x.fin o=res at *
 simp only[PaL.cells]at g j
 refine Zaa Tryz.func24 rfl rfl rfl rfl ?_
 repeat (first|(refine js ?_;(first|(refine Zac (fun w' _=>Zb3 t w') ?_)|(refine bx ?_;intro Z)))|refine walk ?_)
 rw[X]
 repeat (first|(apply RL_pu;rfl;exact Zqw)|(refine js ?_;(first|(apply Zad (h:=fun w' f _=>g w' f);rfl;rintro v O' ⟨p,S,M,N,rfl,rfl⟩)|(refine ZaJ (fun w' f T=>j p w' f M N (ZaO ZaG.len (T.of (A := .row (.slice p.As r.length p.cs) _ _ _ _) (by repeat' constructor))) (Zbh (T.of (A := .fact S _) (by repeat' constructor)))) ?_)|(refine bx ?_;intro Z)))|refine walk1 ?_)
 exact ZcW _ _ _ [] (.tmp rfl) (.tmp rfl) (.tmp rfl) .nil ⟨rfl,rfl⟩
theorem Zdp (t:Int)(w:World):Does Tryz.prog 65 [.int .i64 t] w (fun v O=>v = .bool (tOk t)/\O=[]):=by
 refine Zaa Tryz.func65 rfl rfl rfl rfl ?_
 repeat' (first|refine walk ?_|(refine Zar rfl rfl rfl (fun a=>?_) (fun a=>?_)))
 all_goals (refine ret_1 _ [] (.tmp rfl) .nil ⟨?_,rfl⟩;first|(simp_all [tOk];done)|(simp_all [tOk];omega))
theorem ZyH {G:Prop}(h:G:=by(apply Zal;rfl;rfl;rfl)):G:=h
theorem ZkI (Ar Az Al As:Option Addr)(g j f cs:Nat)(a:DSource)(b:ByteArray)(w:World)(h:ZdQ w Ar Az Al As g j f cs a) :
  Does Tryz.prog 66 [srcV Ar Az Al As g j f cs a,.string b] w (fun v O=>v = .tuple #[.int .i64 (Zcd a b).1,.int .i64 (Zcd a b).2]/\O=[]):=by
 have c:=fun w' (m:Bel w.heap.size w w')=>ZA5 (h.up m)
 unfold Zcd
 cases hac:accD a with
 | some x =>
  obtain⟨⟨r,s,t⟩,e⟩:=x
  have p:(!decide (e=0))=true:=by rw[decide_eq_false (Zue hac)];rfl
  rw[hac]at c
  change ∀ w',Bel w.heap.size w w'->Does _ _ _ w' (fun v O=>v = .tuple #[.agg #[.int .i64 r,.int .i64 s,.int .i64 t],.int .i64 e]/\O=[]) at c
  refine Zaa Tryz.func66 rfl rfl rfl rfl ?_
  repeat (first|(apply RL_pu;rfl;(apply Zal;rfl;rfl;exact p))|(refine js ?_;(first|(refine Zac c ?_)|(refine bx ?_;intro q)))|refine walk1 ?_)
  exact rtB
 | none =>
  have d:=fun w' (m:Bel w.heap.size w w')=>Zjy Ar Az Al As g j f cs a b w' (h.A.up m) h.S.nz h.S.nl
  rw[Zoz]at d
  rw[hac]at c
  change ∀ w',Bel w.heap.size w w'->Does _ _ _ w' (fun v O=>v = .tuple #[.agg #[.int .i64 0,.int .i64 0,.int .i64 0],.int .i64 0]/\O=[]) at c
  generalize ZaH a (a.links.length+1) [] b=F at *
  obtain⟨i,e⟩:=F
  dsimp only at d ⊢
  refine Zaa Tryz.func66 rfl rfl rfl rfl ?_
  repeat (first|(apply RL_pu;rfl;exact ZyH)|(refine js ?_;(first|(refine Zac c ?_)|(refine Zac d ?_)|(refine bx ?_;intro q)))|refine walk1 ?_)
  exact rtB
theorem ZsN (A:Option Addr)(c:Nat)(l:List DRule)(n:Int)(w:World)(e:RdSl w A c DRule.enc 11 l)(g:l.length<=1000000)(b:∀ r∈l,ZbN r)(d : -40000000000000000<=n/\n<=40000000000000000) :
  Does Tryz.prog 109 [.slice A l.length c,.int .i64 n] w (fun v O=>v = .tuple #[evV (Zbx l n),.bool (Zbx l n).isSome]/\O=[]):=by
 have f:=(Zbb.least b).2
 have:=Zrc A c l n w e g (fun r h=>by
  have a:=b r h
  have i:=a.f0
  have j:=a.f1
  have k:=a.ft
  omega) (by omega)
 rwa[Zv2 b f d.1 d.2]at this
structure StOk (a:DSource)(z:DZone)(t:Int)(r:List ZaG)(x:ZaG)(e:DEra)(o:Option Int):Prop where
 sp:ZfH a.rules z.eras=some r
 fd:Zc9 r t=(x,true)
 er:x.era=(ZgJ a.rules z.eras t:Nat)
 at_:z.eras[ZgJ a.rules z.eras t]?=some e
 nx:nxD a.rules z.eras t=Zc4 x.fin o
 ev:evtD (ruEr a.rules e) e.off t=some o
 ac:ZeV a.rules z.eras (ZgJ a.rules z.eras t) e
theorem Zsk {w:World}{Ar Az Al As:Option Addr}{s u q cs:Nat}{a:DSource}(h:ZdQ w Ar Az Al As s u q cs a)(b:accD a=none){z:DZone}(k:z∈a.zones){t:Int}(p : -37000000000000000<=t/\t<=37000000000000000):∃ r x e o,StOk a z t r x e o:=by
 have n:=ZA9 h b
 obtain⟨r,j⟩:=n.sp z k
 obtain⟨x,y,_,m,A,_⟩:=ZkC j (n.ne z k) (t:=t) (by omega) (by omega)
 obtain⟨e,l,v⟩:=ZkZ (d:=dE0) y
 have g:=Zi0 b k l
 have i:∃ o,evtD (ruEr a.rules e) e.off t=some o:=by
  unfold ruEr
  by_cases f:e.kind=2
  ·rw[if_pos f]
   obtain⟨o,c,_⟩:=(g.set f).evt g.off p.1 p.2
   exact⟨o,c⟩
  ·rw[if_neg f]
   exact⟨none,rfl⟩
 obtain⟨o,c⟩:=i
 refine⟨r,x,e,o,j,m,A,l,?_,c,g⟩
 unfold nxD Zwt eAt
 rw[j,v,c]
 dsimp only
 rw[m]
 rfl
structure SvG where
 k:Nat
 n:Int
theorem ZCu {G:Prop}(h:G:=by(first|(apply Pu_indexAddr;rfl;rfl;omega;omega;first|exact hnz|exact hna)|(apply Pu_loadO1;rfl;exact hcz 1 _ rfl)|exact PuI)):G:=h
theorem ZBR {G:Prop}(h:G:=by first|(apply Qy_y;rfl;exact ZCu)|exact QyA):G:=h
theorem ZB0 {G:Prop}(h:G:=by repeat (exact QF.nil)):G:=h
theorem ZCt {G:Prop}(h:G:=by(first|(apply Zat;rfl;rfl;exact d0)|(apply ZfB;rfl;rfl))):G:=h
theorem ZCs {G:Prop}(h:G:=by(apply Zat;rfl;rfl;exact d0)):G:=h
theorem ZyG {G:Prop}(h:G:=by(apply Zat;rfl;rfl;exact b1)):G:=h
set_option maxHeartbeats 4000000 in
theorem Zl6 (Ar Az Al As:Option Addr)(cr cz cl cs:Nat)(a:DSource)(i:Nat)(z:DZone)(t:Int)(w:World)(h:ZdQ w Ar Az Al As cr cz cl cs a)(ae:accD a=none)(c:a.zones[i]?=some z)(ht : -37000000000000000<=t/\t<=37000000000000000) :
  Does Tryz.prog 67 [srcV Ar Az Al As cr cz cl cs a,.int .i64 i,.int .i64 t] w (fun v O=>v=optV (nxD a.rules z.eras t)/\O=[]):=by
 have d:=List.mem_of_getElem? c
 obtain⟨r,x,e,o,D⟩:=Zsk h ae d ht
 have ag:=fun w' (u:Bel w.heap.size w w')=>ZkJ Ar Az Al As cr cz cl cs a i z r w' (h.A.up u) h.S.nr (h.S.zs z d).2.1 c (fun k e he hk=>by
  have hE:=Zi0 ae d he
  refine⟨hE.rsm h.S.nr,hE.unok hk,fun J=>?_⟩
  have:=hE.set J
  unfold ruEr
  rwa[if_pos J]) D.sp
 have aC:r.length=z.eras.length:=Zsm _ _ _ _ _ D.sp
 have aD:=(h.S.zs z d).2.1
 have M:=fun(A4:Option Addr) (c4:Nat) w' hR=>Zl8 A4 c4 r t w' hR (by omega)
 rw[D.fd]at M
 unfold SpR at ag
 have ab:=fun w' (u:Bel w.heap.size w w')=>ZfR Ar Az Al As cr cz cl cs a e w' (h.A.up u) h.S.nr
 unfold ZgZ at ab
 have af:=(D.ac.rsm h.S.nr).n
 have ad:∀ r∈ruEr a.rules e,ZbN r:=fun r hr=>by
  unfold ruEr at hr
  by_cases J:e.kind=2
  ·rw[if_pos J]at hr
   exact(D.ac.set J).rule r hr
  ·rw[if_neg J]at hr
   cases hr
 have K:∀ f,EvOf (ruEr a.rules e) f->Zbb (ruEr a.rules e):=fun f H=>by
  unfold ruEr at H ⊢
  by_cases J:e.kind=2
  ·rw[if_pos J]
   exact D.ac.set J
  ·rw[if_neg J]at H
   obtain⟨j,r,y,h3,_⟩:=H
   simp at h3
 have W:=D.ac.off
 rw[D.nx]
 have L:=D.ev
 have Z:=D.at_
 have ah:=D.er
 obtain⟨hnz,ax,⟨Ae,ce,X,rfl⟩,hcz⟩:=h.A.z i _ c
 have az:i<a.zones.length:=(List.getElem?_eq_some_iff.1 c).1
 have aB:=h.A.zle
 have an:=h.A.zcap
 simp only[maxLen]at an
 obtain⟨hna,hca⟩:=X.rd _ _ Z
 have aA:=(List.getElem?_eq_some_iff.1 Z).1
 have ay:=X.le
 have al:=X.cap
 simp only[maxLen]at al
 generalize ruEr a.rules e=R at *
 generalize ZgJ a.rules z.eras t=q at *
 have N:=fun(A3:Option Addr) (s:Nat) n (hb : -40000000000000000<=n/\n<=40000000000000000) w' hR=>ZsN A3 s R n w' hR af ad hb
 have I:=fun(A3:Option Addr) (s:Nat) f (H:EvOf R f) w' hR=>Zmb A3 s R f e.off w' hR af (K f H) H (by omega)
 have m:=fun f (H:EvOf R f)=>(K f H).inst_near W f
 have U:=fun f (H:EvOf R f)=>((K f H).ev_bd H).1
 clear D Z K ad c d
 unfold evtD at L
 obtain⟨x1,x2,x3⟩:=x
 dsimp only at ah M ⊢
 subst ah
 obtain⟨off,kd,aj,ai,fm,⟨ui,uy,um,⟨aZ,au,av⟩,⟨aq,ar⟩⟩⟩:=e
 simp only[DEra.enc]at hca ab
 simp only[ZaG.enc]at M
 dsimp only at I W m L
 unfold optV
 refine Zaa Tryz.func67 rfl rfl rfl rfl ?_
 repeat (first|(apply RD_Q;rfl;rfl;decide +kernel;rfl;rfl;exact ZBR)|refine walkB1 ?_|(refine jg ?_;(try intro F);(first|(apply Zad (h:=fun w' u _=>ag w' u);rfl;rintro v O' ⟨A4,c4,rfl,rfl⟩)|(refine ZaJ (fun w' u E=>M A4 c4 w' (ZaO ZaG.len (E.of (A := .row (.slice A4 r.length c4) 109 3 r.length (r.flatMap ZaG.enc)) (by repeat' constructor)))) ?_)|(apply Zad (h:=fun w' u _=>ab w' u);rfl;rintro v O' ⟨A3,s,rfl,rfl⟩)|(refine bx ?_;intro bk)|(refine stA ?_));first|refine⟨_,EndsA,ZB0,?_⟩|refine fin ?_)|(apply RD_W;rfl;intro bk))
 rename_i b3 aw
 generalize bk=b13
 refine ZbY (fun fr' O'=>Sub [(12,.int .i64 (minO x2 o))] fr'/\SubO [] O') ?_ ?_
 ·repeat (refine walk ?_)
  refine Zah [(2,.int .i64 t),(12,.int .i64 x2),(13,.pointer (some ⟨b13,0,none⟩)),(14,.slice A3 R.length s)] [.row (.slice A3 R.length s) 68 11 R.length (R.flatMap DRule.enc),.blk b13 [.int .i64 off,.int .i64 kd,.int .i64 aj,.string ai,.string fm,.bool ui,.int .i64 uy,.int .i64 um,.int .i64 aZ,.int .i64 au,.int .i64 av,.int .i64 aq,.int .i64 ar] 75]
   (fun g:SvG=>[(15,.int .i64 g.n)]) (fun _=>[]) (fun g=>(-40000000000000000<=g.n/\g.n<=40000000000000000)/\Zf3 R off t g.k g.n=some o) (fun g=>g.k) ⟨4,t - 259200⟩ SFA SOA ⟨by dsimp only;omega,L⟩ ?_
  clear L
  rintro⟨k,n⟩ ⟨hn,c⟩
  dsimp only at hn c ⊢
  rcases k with _|k
  ·cases c
  rw[Zf3]at c
  have Y:=N A3 s n hn
  have Q:=fun e (he:Zbx R n=some e)=>ZiY he
  cases hq:Zbx R n with
  | none =>
   rw[hq]at Y c
   cases c
   simp only[evV,Zab.enc,dEv0,Option.isSome]at Y
   repeat (first|refine walk ?_|(refine jg ?_;(try intro F);(first|(refine ZaJ (fun w' u E=>Y w' (ZaO DRule.len (E.of (A := .row (.slice A3 R.length s) 68 11 R.length (R.flatMap DRule.enc)) (by repeat' constructor)))) ?_)|(refine bx ?_;intro bk));refine fin ?_))
   exact⟨rfl,SFA,SOA⟩
  | some f =>
   rw[hq]at Y c
   obtain⟨e1,e2⟩:=Q f hq
   have aa:=I A3 s f e1
   have ap:=m f e1
   have ao:=U f e1
   clear Q m U I N
   dsimp only at c
   obtain⟨ey,er,en⟩:=f
   simp only[evV,Zab.enc,Option.isSome]at Y aa
   dsimp only at e2 ap ao
   generalize Zcx R ⟨ey,er,en⟩ off=T at *
   by_cases hT:t<T
   ·rw[if_pos hT]at c
    cases c
    have d0:decide (t<T)=true:=decide_eq_true hT
    repeat (first|(apply RL_pu;rfl;exact ZCt)|refine walk1 ?_|(refine jg ?_;(try intro F);(first|(refine ZaJ (fun w' u E=>Y w' (ZaO DRule.len (E.of (A := .row (.slice A3 R.length s) 68 11 R.length (R.flatMap DRule.enc)) (by repeat' constructor)))) ?_)|(refine ZaJ (fun w' u E=>aa w' (ZaO DRule.len (E.of (A := .row (.slice A3 R.length s) 68 11 R.length (R.flatMap DRule.enc)) (by repeat' constructor)))) ?_)|(refine bx ?_;intro bk));first|refine⟨_,EndsA,QFRhJ3,?_⟩|refine fin ?_))
    exact⟨rfl,SFA,SOA⟩
   ·rw[if_neg hT]at c
    have d0:decide (t<T)=false:=decide_eq_false hT
    repeat (first|(apply RL_pu;rfl;exact ZCs)|refine walk1 ?_|(refine jg ?_;(try intro F);(first|(refine ZaJ (fun w' u E=>Y w' (ZaO DRule.len (E.of (A := .row (.slice A3 R.length s) 68 11 R.length (R.flatMap DRule.enc)) (by repeat' constructor)))) ?_)|(refine ZaJ (fun w' u E=>aa w' (ZaO DRule.len (E.of (A := .row (.slice A3 R.length s) 68 11 R.length (R.flatMap DRule.enc)) (by repeat' constructor)))) ?_)|(refine bx ?_;intro bk));first|refine⟨_,EndsA,QFRhJ4,?_⟩|refine fin ?_))
    exact⟨⟨k,en⟩,OA,⟨by dsimp only;omega,c⟩,SFA,SOA⟩
 ·rintro fr' O' ⟨am,ak⟩
  apply thenQ_n
  refine Zcz am ak ?_
  unfold Zc4
  by_cases hM:36028797018963968<minO x2 o
  ·rw[if_pos hM]
   have b1:decide (36028797018963968<minO x2 o)=true:=decide_eq_true hM
   repeat (first|(apply RL_pu;rfl;exact ZyG)|refine walk1 ?_)
   exact rtB
  ·rw[if_neg hM]
   have b1:decide (36028797018963968<minO x2 o)=false:=decide_eq_false hM
   repeat (first|(apply RL_pu;rfl;exact ZyG)|refine walk1 ?_)
   exact rtB
def nxR (a:DSource)(name:ByteArray)(t:Int):Option Int × Int :=
 if tOk t=false then (none,3) else if (Zcd a name).2≠0 then (none,(Zcd a name).2) else (nxD a.rules (zErs a name) t,0)
theorem Zl7 (Ar Az Al As:Option Addr)(j m g cs:Nat)(a:DSource)(b:ByteArray)(t:Int)(w:World)(h:ZdQ w Ar Az Al As j m g cs a) :
  Does Tryz.prog 25 [srcV Ar Az Al As j m g cs a,.string b,.int .i64 t] w (fun v O=>v = .tuple #[.int .i64 ((nxR a b t).1.getD 0),.bool (nxR a b t).1.isSome,.int .i64 (nxR a b t).2]/\O=[]):=by
 have c:=fun w' (u:Bel w.heap.size w w')=>ZkI Ar Az Al As j m g cs a b w' (h.up u)
 unfold nxR
 by_cases q:tOk t=false
 ·rw[if_pos q]
  refine Zaa Tryz.func25 rfl rfl rfl rfl ?_
  repeat (first|(refine js ?_;(first|(refine Zac (fun w' _=>Zdp t w') ?_)|(refine bx ?_;intro r)))|refine walk ?_)
  rw[q]
  repeat (refine walk ?_)
  exact ZcW _ _ _ [] (.tmp rfl) (.tmp rfl) (.tmp rfl) .nil ⟨rfl,rfl⟩
 rw[if_neg q]
 have d:tOk t=true:=by simpa using q
 have A:=ZnQ.1 d
 by_cases p:(Zcd a b).2≠0
 ·rw[if_pos p]
  have x:(!decide ((Zcd a b).2=0))=true:=by rw[decide_eq_false p];rfl
  generalize Zcd a b=Z at *
  obtain⟨B,z2⟩:=Z
  dsimp only at c x ⊢
  refine Zaa Tryz.func25 rfl rfl rfl rfl ?_
  repeat (first|(refine js ?_;(first|(refine Zac (fun w' _=>Zdp t w') ?_)|(refine bx ?_;intro r)))|refine walk ?_)
  rw[d]
  repeat (first|(apply RL_pu;rfl;(apply Zal;rfl;rfl;exact x))|(refine js ?_;(first|(refine Zac c ?_)|(refine bx ?_;intro r)))|refine walk1 ?_)
  exact ZcW _ _ _ [] (.tmp rfl) (.tmp rfl) (.tmp rfl) .nil ⟨rfl,rfl⟩
 rw[if_neg p]
 obtain⟨s,i,y,z,_⟩:=Zpr (Decidable.not_not.1 p)
 have e:=List.getElem?_eq_getElem z
 rw[ZrZ y e]
 have f:=fun w' (u:Bel w.heap.size w w')=>Zl6 Ar Az Al As j m g cs a i _ t w' (h.up u) s e (by omega)
 rw[y]at c
 unfold optV at f
 dsimp only at c ⊢
 generalize nxD a.rules a.zones[i].eras t=o at *
 refine Zaa Tryz.func25 rfl rfl rfl rfl ?_
 repeat (first|(refine js ?_;(first|(refine Zac (fun w' _=>Zdp t w') ?_)|(refine bx ?_;intro r)))|refine walk ?_)
 rw[d]
 repeat (first|(apply RL_pu;rfl;exact ZyH)|(refine js ?_;(first|(refine Zac c ?_)|(refine Zac f ?_)))|refine walk1 ?_)
 exact ZcW _ _ _ [] (.tmp rfl) (.tmp rfl) (.tmp rfl) .nil ⟨rfl,rfl⟩
end Go.Proofs.YtpipekfmecikmaaGreatDoor
namespace Go.Wk
open Go Go.RowKit
def Zw6 (P:Program)(o:Oper):Prop:=(∀ c,o.op ≠ .defer c)/\∀ (a:Act) (w:World),calm ((execOp a.eval o).run P w)
def ZoN:Op->Bool
 | .extract .. | .lookup .. | .mapUpdate .. | .insert .. | .buildSlice .. | .makeMap .. | .nilCheck .. => true
 | o=>Zkd o
theorem ZAc {P:Program}{ρ:Operand->Value}{a:Option Tmp}{x:Operand}{ty:TypeId}{pos:String}{af:Array Edge}{g:Option (Nat × Bool)}(w:World):calm ((execOp ρ ⟨a,.nilCheck x,ty,pos,af,g⟩).run P w):=by
 simp only[execOp]
 split
 ·simp[calm,runtimePanic]
 ·simp[calm,runtimePanic]
 ·simp[calm,runtimePanic]
 ·split
  ·simp[calm,runtimePanic]
  ·simp only[Sem.run_bind]
   generalize Sem.run P _ w=r
   cases r with
   | ok b w' =>
    simp only[Result.andThen_ok]
    generalize Sem.run P _ w'=r2
    cases r2 with
    | ok b2 w2 =>
     simp only[Result.andThen_ok]
     split <;> simp[calm,unsupported,Result.andThen]
    | _=>simp[calm,Result.andThen]
   | _=>simp[calm,Result.andThen]
  ·simp[calm]
 ·simp[calm]
theorem ZwF {P:Program}{ρ:Operand->Value}{o:Oper}(h:ZoN o.op=true)(w:World):calm ((execOp ρ o).run P w):=by
 obtain⟨a,op,ty,pos,af,g⟩:=o
 cases op <;> first|(cases h;done)|exact ZAc w|exact Zxw _ w|exact Zxx _ w|(refine Zcy ?_ w;exact h)
theorem Zlg {o:Oper}(h:ZoN o.op=true):∀ c,o.op ≠ .defer c:=by
 intro c a
 rw[a]at h
 cases h
inductive Calms (P:Program):List Oper->Prop
 | nil:Calms P []
 | plain {o:Oper} {l:List Oper}:ZoN o.op=true->Calms P l->Calms P (o::l)
 | call {dst:Option Tmp} {f:FuncId} {xs:List Operand} {ts:Array TypeId} {ty:TypeId} {pos:String} {af:Array Edge} {g:Option (Nat × Bool)} {l:List Oper} [Body P f]:Calms P l->Calms P (⟨dst,.call ⟨.value (.func f),xs.toArray,ts⟩,ty,pos,af,g⟩::l)
 | append {dst:Option Tmp} {x y:Operand} {ts:Array TypeId} {ty:TypeId} {pos:String} {af:Array Edge} {g:Option (Nat × Bool)} {l:List Oper}:Calms P l->Calms P (⟨dst,.call ⟨.builtin .append,#[x,y],ts⟩,ty,pos,af,g⟩::l)
 | len {dst:Option Tmp} {x:Operand} {ts:Array TypeId} {ty:TypeId} {pos:String} {af:Array Edge} {g:Option (Nat × Bool)} {l:List Oper}:Calms P l->Calms P (⟨dst,.call ⟨.builtin .len,#[x],ts⟩,ty,pos,af,g⟩::l)
theorem ZwG {P:Program}{b:Option Tmp}{x:Operand}{c:Array TypeId}{ty:TypeId}{pos:String}{af:Array Edge}{g:Option (Nat × Bool)}(a:Act)(w:World):calm ((execOp a.eval ⟨b,.call ⟨.builtin .len,#[x],c⟩,ty,pos,af,g⟩).run P w):=by
 simp only[execOp,resolve,invoke,builtin,Sem.run_bind,Sem.run_pure,Result.andThen_ok]
 generalize Sem.run P _ w=r
 cases r <;> simp[calm,Result.andThen]
theorem Calms.all {P:Program}{l:List Oper}(h:Calms P l):∀ o∈l,Zw6 P o:=by
 induction h with
 | nil=>intro o b;cases b
 | plain h1 _ ih =>
  intro o b
  rcases List.mem_cons.1 b with rfl|b
  ·exact⟨Zlg h1,fun a w=>ZwF h1 w⟩
  ·exact ih o b
 | call _ ih =>
  intro o b
  rcases List.mem_cons.1 b with rfl|b
  ·exact⟨fun c d=>(by cases d),fun a w=>ZtW a w⟩
  ·exact ih o b
 | append _ ih =>
  intro o b
  rcases List.mem_cons.1 b with rfl|b
  ·exact⟨fun c d=>(by cases d),fun a w=>ZoM a w⟩
  ·exact ih o b
 | len _ ih =>
  intro o b
  rcases List.mem_cons.1 b with rfl|b
  ·exact⟨fun c d=>(by cases d),fun a w=>ZwG a w⟩
  ·exact ih o b
section
variable {F:Fence}{P:Program}{n:Nat}{wr:World}{ops:Array Oper}{K:Fr->List It->Prop}{fr:Fr}{O:List It}{D:List Deferred}
theorem Zmz (c:WF F){Q Q2:Exit->Act->World->Prop}(d:∀ e a w,Q e a w->e = .normal)(g:∀ a w,Q .normal a w->Q2 .normal (actD D a) w) :
  ∀ (l:List Oper),(∀ o∈l,Zw6 P o)->∀ (a:Act) (w:World),wpList P ops Q l a w->wpListIn F 0 P ops Q2 l (actD D a) w
 | [],_,a,w,h=>g _ _ h
 | o::l,hc,a,w,h=>by
  have b:=hc o List.mem_cons_self
  have j:=Zmz c d g l fun o n=>hc o (List.mem_cons_of_mem _ n)
  unfold wpList at h
  unfold wpListIn
  rw[show(actD D a).tmps=a.tmps from rfl]
  by_cases i:Region.wanted o (yielded ops a.tmps)=true
  ·rw[if_pos i]at h ⊢
   rcases h with h|⟨_,h⟩
   ·exact Zkx (a:=a) c rfl b.1 (b.2 a w) h d fun v w' m=>by
     rw[Zcn]
     exact j _ _ m
   ·obtain⟨_,_,k⟩:=h
    cases d _ _ _ k
  ·rw[if_neg i]at h ⊢
   refine⟨fun f _=>c.fn f,?_⟩
   rw[Zcn]
   exact j _ _ h
theorem ZbH {Q:Exit->Fr->List It->Prop}{j:Nat}{l:List Oper}(c:WF F)(d:Calms P l)(h:RL P n wr l.toArray l (Q .normal) fr O):WI F D P n wr (.region j l.toArray false) Q fr O:=by
 intro a w i
 refine wpIn_region_lit (Zmz (D:=D) c (fun e a w f=>f.1) ?_ l d.all a w (h a w i))
 rintro k w' ⟨_,fr',O',b,g⟩
 refine⟨rfl,fr',O',?_,g⟩
 rw[Zd8 b]
 exact b
theorem Zt7 (g:WF F)(p:∀ o∈ops.toList,Zw6 P o){Q Q2:Exit->Act->World->Prop}(k:∀ e a w,Q e a w->e = .normal)(j:∀ a w,Q .normal a w->Q2 .normal (actD D a) w) :
  ∀ (m:Nat) (b:Array Bool) (a:Act) (w:World),wpAny P .any ops Q m b a w->wpAnyIn F 0 P .any ops Q2 m b (actD D a) w:=by
 intro m
 induction m with
 | zero=>intro b a w h;exact⟨h.1,j _ _ h.2⟩
 | succ m ih =>
  intro b a w h
  refine⟨fun s=>j _ _ (h.1 s),fun i q=>?_⟩
  have c:=h.2 i q
  unfold wpOp at c
  unfold wpOpIn
  cases ho:ops[i]? with
  | none=>rw[ho]at c;exact ih _ _ _ c
  | some o =>
   rw[ho]at c
   have d:Zw6 P o:=p o (by
    rw[Array.mem_toList_iff]
    exact Array.mem_of_getElem? ho)
   dsimp only at c ⊢
   rw[show(actD D a).tmps=a.tmps from rfl]
   by_cases l:Region.wanted o (yielded ops a.tmps)=true
   ·rw[if_pos l]at c ⊢
    rcases c with c|⟨_,c⟩
    ·exact Zkx (a:=a) g rfl d.1 (d.2 a w) c k fun v w' r=>by
      rw[Zcn]
      exact ih _ _ _ r
    ·obtain⟨_,_,n⟩:=c
     cases k _ _ _ n
   ·rw[if_neg l]at c ⊢
    refine⟨fun f _=>g.fn f,?_⟩
    rw[Zcn]
    exact ih _ _ _ c
theorem Zlj {Q:Exit->Fr->List It->Prop}{s:Nat}{l:List Oper}(i:WF F)(m:P.follows .mixedOrders=true)(c:acyc l.toArray=true)(j:Calms P l)(h:RD P n wr l.toArray (enum 0 l) [] [] (Q .normal) fr O):WI F D P n wr (.region s l.toArray true) Q fr O:=by
 intro a w r
 have g:=Znl c h r
 refine wpIn_region_any m (Zt7 i (fun o p=>j.all o (by simpa using p)) (fun e a w k=>k.1) ?_ _ _ _ _ g)
 rintro f w' ⟨_,fr',O',d,q⟩
 refine⟨rfl,fr',O',?_,q⟩
 have b:St n wr fr' O' f w':=by simpa using d
 rw[Zd8 b]
 exact b
end
theorem ResV.cell1 {P:Program}{wr:World}{fr:Fr}{O R:List It}{a t b sz:Nat}{v:Value}{cs:List Value}{c:TypeId}[Ty P t sz false](e:look fr a=some (.pointer (some ⟨b,0,none⟩)))(f:Pick (.blk b (v::cs) c) O R) :
  ResV P wr fr O (.cell a t) v :=
 ⟨_,e,fun w _ d=>ZcU (by rw[ZcJ (d.sat _ (f.perm.mem_iff.2 List.mem_cons_self))];rfl)⟩
section
variable {P:Program}{n:Nat}{wr:World}{fr:Fr}{O:List It}{QQ:Exit->Act->World->Prop}
def Pre (P:Program)(n:Nat)(wr:World)(c:Code)(QQ:Exit->Act->World->Prop)(fr:Fr)(O:List It):Prop:=∀ a w,St n wr fr O a w->c.wp P QQ a w
def ZqS (K:Fr->List It->Prop):Exit->Fr->List It->Prop
 | .normal=>K
 | _=>fun _ _=>False
theorem Zcf {K:Fr->List It->Prop}(h:K fr O):ZqS K .normal fr O:=h
theorem ZeU {x y:Code}(h:W P n wr x (ZqS (Pre P n wr y QQ)) fr O):Pre P n wr (.seq x y) QQ fr O:=by
 intro a w d
 refine wp_seq (wp_mono (h a w d) ?_)
 rintro e f w' ⟨fr',O',b,c⟩
 cases e with
 | normal=>exact c _ _ b
 | _=>exact c.elim
theorem Zw4 {x y:Code}(K:Fr->List It->Prop)(h:W P n wr x (ZqS K) fr O)(d:∀ fr' O',K fr' O'->Pre P n wr y QQ fr' O'):Pre P n wr (.seq x y) QQ fr O:=by
 intro a w f
 refine wp_seq (wp_mono (h a w f) ?_)
 rintro e g w' ⟨fr',O',b,c⟩
 cases e with
 | normal=>exact d _ _ c _ _ b
 | _=>exact c.elim
theorem Zw5 {f:FuncId}{fn:Func}{c:Code}{args:List Value}{R:Ending->World->Prop}(n:Nat)(e:P.funcs[f]?=some fn)(d:fn.body=some c)(g:fn.ntmps=n)(b:Nat.ble args.length n=true)
  (h:Pre P n wr c (bodyPostM Fence.wide 0 P fn R) (ZeR 0 args) []):Calls P f args.toArray wr R:=Zkt e d g b fun a i=>h a wr i
theorem ZvI {c:Code}{b m:Nat}{cs:List Value}{t:TypeId}{O':List It}(d:Nat)(i:Upd O (.blk b cs t) (.row (.slice (some ⟨b,0,none⟩) m m) t d m cs) O')(f:cs.length=m*d)(g:m<=maxLen)(h:Pre P n wr c QQ fr O'):Pre P n wr c QQ fr O :=
 fun a w e=>h a w ⟨e.sim,e.old,e.own.toRow d f g i⟩
theorem ZAT {c:Code}(e:TypeId)(b:Nat)(h:Pre P n wr c QQ fr (.row (.slice none 0 0) e b 0 []::O)):Pre P n wr c QQ fr O :=
 fun a w d=>h a w ⟨d.sim,d.old,d.own.rowNil e b⟩
theorem ZrX {c:Code}(O1 R:List It)(p:World->Prop)(e:SubO (O1++R) O)(d:∀ w',(∀ i∈O1,i.sat w')->p w')(h:Pre P n wr c QQ fr (.fact (foot O1) p::R)):Pre P n wr c QQ fr O :=
 fun a w b=>h a w ⟨b.sim,b.old,(b.own.sub e).fact d⟩
theorem ZAS {c:Code}{fr':Fr}{O':List It}(d:Sub fr' fr)(b:SubO O' O)(h:Pre P n wr c QQ fr' O'):Pre P n wr c QQ fr O:=fun a w e=>h a w (e.sub d b)
end
theorem Zuh {F:Fence}{D:List Deferred}{P:Program}{n:Nat}{wr:World}{fr:Fr}{O:List It}{Q:Exit->Fr->List It->Prop}{x y:Code}(K:Fr->List It->Prop)(h:WI F D P n wr x (ZqS K) fr O)(f:∀ fr' O',K fr' O'->WI F D P n wr y Q fr' O'):WI F D P n wr (.seq x y) Q fr O:=by
 refine ZbJ fun a w g=>wpIn_mono (h a w g) ?_
 rintro e i w' ⟨d,fr',O',b,c⟩
 cases e with
 | normal=>exact⟨d,fr',O',b,thenQ_n (f _ _ c)⟩
 | _=>exact c.elim
theorem ZBG {F:Fence}{D:List Deferred}{P:Program}{n:Nat}{wr:World}{fr fr':Fr}{O O':List It}{Q:Exit->Fr->List It->Prop}{c:Code}(d:Sub fr' fr)(b:SubO O' O)(h:WI F D P n wr c Q fr' O'):WI F D P n wr c Q fr O:=fun a w e=>h a w (e.sub d b)
end Go.Wk
