/- Parts of the proof. -/
import Derived.Test.YtpipekfmecikmaaGreatDoorA08
import Derived.Laws.Externs
import Derived.Scope
import Derived.Laws.IdiomStrings
set_option maxHeartbeats 0
set_option linter.all false
namespace Go.Wk
open Go Go.RowKit
section
variable {P:Program}{n:Nat}{wr:World}{fr:Fr}{O:List It}{ty:TypeId}
theorem ZBk {x y z:Operand}{m:Array TypeId}{k:IntKind}{i j l q:Int}(c:ev fr x=some (.int k i))(d:ev fr y=some (.int k j))(e:ev fr z=some (.int k l))(h:max (max i j) l=q):Pu P n wr fr O (.call ⟨.builtin .max,#[x,y,z],m⟩) ty (.int k q):=by
 have f:(if i<j then j else i)=max i j:=by split <;> omega
 have g:(if max i j<l then l else max i j)=q:=by rw[<- h];split <;> omega
 exact fun a w b _ _ _ _=>by
  simp only[execOp,resolve,invoke,builtin,Builtin.max_,Builtin.max2,b.sim.ev c,b.sim.ev d,b.sim.ev e]
  simp[execOp,resolve,invoke,builtin,Builtin.max_,Builtin.max2,b.sim.ev c,b.sim.ev d,b.sim.ev e,f,g]
end
end Go.Wk
namespace Go.Proofs.YtpipekfmecikmaaGreatDoor
open Go Go.RowKit Go.Wk Tryz
attribute [local irreducible] W RL Does Zaq Zai retQ Calls Pu Stp RD Qy Ay Zaj
theorem ZDJ {G:Prop}(h:G:=by(first|exact PuI|(apply Pu_loadO1;rfl;first|exact c1 0 _ rfl|exact c2 0 _ rfl)|(apply ZBk;rfl;rfl;rfl;exact hy0))):G:=h
theorem ZCA {G:Prop}(h:G:=by first|(apply Qy_y;rfl;exact ZDJ)|exact QyA):G:=h
theorem ZCP {G:Prop}(h:G:=by repeat (exact QF.nil)):G:=h
theorem Zz1 {G:Prop}(h:G:=by(apply Pu_loadO1;rfl;first|exact c1 0 _ rfl|exact c3 0 _ rfl)):G:=h
theorem Zpc (A:Option Addr)(c:Nat)(l:List DRule)(i:Nat)(r:DRule)(s d:Int)(x z D:Nat)(w:World)(Q:Glob w)(L:RdSl w A c DRule.enc 11 l)(J:l[i]?=some r)(T:l.length<=1000000)(R:∀ r∈l,-4611686018427387904<=r.save/\r.save<=4611686018427387904)
  (hy : -2000000000<=s/\s<=2000000000) (Z:r.from_<=4611686018427387904) (c1:Zat w ⟨x,0,none⟩ [.slice A l.length c]) (c2:Zat w ⟨z,0,none⟩ [.int .i64 s]) (c3:Zat w ⟨D,0,none⟩ [.int .i64 d]) :
  Does prog 220 [.int .i64 i,.pointer (some ⟨x,0,none⟩),.pointer (some ⟨z,0,none⟩),.pointer (some ⟨D,0,none⟩)] w (fun v O=>v = .tuple #[evV (evIn (Zae l) d r i (max (max r.from_ (-2000000000)) (s - 2)) 20),.bool (evIn (Zae l) d r i (max (max r.from_ (-2000000000)) (s - 2)) 20).isSome]/\O=[]):=by
 have S:i<l.length:=(List.getElem?_eq_some_iff.1 J).1
 obtain⟨g,hy0⟩:∃ g,max (max r.from_ (-2000000000)) (s - 2)=g:=⟨_,rfl⟩
 have U : -3000000000<=g/\g<=4611686018427387904:=by omega
 rw[hy0]
 obtain⟨m,q⟩:∃ m,evIn (Zae l) d r i g 20=m:=⟨_,rfl⟩
 rw[q]
 have K:=fun y w' (N:Bel w.heap.size w w')=>Zgi A c l i y r w' (Q.up N) (L.up N) J T R
 obtain⟨hna,hca⟩:=L.rd i _ J
 generalize Zae l=least at *
 have I:((DRule.enc r)[1]?)=some (.int .i64 r.from_):=rfl
 have H:w.cell? (((adr A).add (i*11)).add 1)=some (.int .i64 r.from_):=hca 1 _ I
 refine Zaa func220 rfl rfl rfl rfl ?_
 repeat (first|(apply RD_Q;rfl;rfl;decide +kernel;rfl;rfl;exact ZCA)|refine walk1 ?_|(refine jn ?_;(try intro F);(first|(refine bx ?_;intro t)|(refine stA ?_)|(apply Zan;exact PuA));first|refine⟨_,EndsA,ZCP,?_⟩|refine fin ?_))
 refine Zah [(0,.int .i64 i),(1,.pointer (some ⟨x,0,none⟩)),(2,.pointer (some ⟨z,0,none⟩)),(3,.pointer (some ⟨D,0,none⟩)),(7,.int .i64 g),(5,.pointer (some ⟨t,0,none⟩))] [.blk t [.int .i64 0,.int .i64 0,.int .i64 0] 91] (fun j:Nat=>[(19,.int .i64 j)]) (fun _=>[]) (fun j=>j<=20/\evIn least d r i (g+j) (20 - j)=m) (fun j=>20 - j) 0 SFA SOA ⟨Nat.zero_le _,by simpa using q⟩ ?_
 rintro j ⟨hj,f⟩
 repeat (refine walk ?_)
 refine Zaf rfl (fun h=>?_) (fun h=>?_)
 ·have M:j<20:=by have:=of_decide_eq_true h;omega
  rw[show 20 - j=(19 - j)+1 by omega,evIn]at f
  have u:=K (g+j)
  generalize onR least r i (g+j)=o at *
  cases o with
  | none =>
   simp only[evV,Zac.enc,dEv0,Option.isSome]at u
   repeat (first|(apply RL_pu;rfl;exact Zz1)|refine walk1 ?_|(refine jg ?_;(try intro F);(first|(refine Zab u ?_)|(refine bx ?_;intro t));first|refine⟨_,EndsA,QFEvA1,?_⟩|refine fin ?_))
   exact⟨j+1,OA,⟨OA,by rw[show 20 - (j+1)=19 - j by omega,show g+((j+1:Nat):Int)=g+j+1 by omega];exact f⟩,SFA,SOA⟩
  | some e =>
   obtain⟨Y,X,W⟩:=e
   simp only[evV,Zac.enc,Option.isSome]at u f
   repeat (first|(apply RL_pu;rfl;exact Zz1)|refine walk1 ?_|(refine jg ?_;(try intro F);(first|(refine Zab u ?_)|(refine bx ?_;intro t));first|refine⟨_,EndsA,QFEvA1,?_⟩|refine fin ?_))
   refine Zaf rfl (fun E=>?_) (fun E=>?_)
   ·rw[if_pos (of_decide_eq_true E)]at f
    subst f
    repeat (refine walk ?_)
    exact rtC
   ·rw[if_neg (of_decide_eq_false E)]at f
    repeat (refine walk ?_)
    exact⟨j+1,OA,⟨OA,by rw[show 20 - (j+1)=19 - j by omega,show g+((j+1:Nat):Int)=g+j+1 by omega];exact f⟩,SFA,SOA⟩
 ·obtain rfl:j=20:=by have:=of_decide_eq_false h;omega
  obtain rfl:none=m:=by rw[<- f];rfl
  repeat (refine walk ?_)
  exact rtC
def evC:Option Zac->List Value
 | some e=>Zac.enc e
 | none=>Zac.enc dEv0
structure BG where
 k:Nat
 b:Option Zac
theorem Zuq (A:Option Addr)(c:Nat)(l:List DRule)(s d:Int)(t u x:Nat)(w:World)(Q:Glob w)(M:RdSl w A c DRule.enc 11 l)(R:l.length<=1000000)(F:∀ r∈l,(-4611686018427387904<=r.save/\r.save<=4611686018427387904)/\r.from_<=4611686018427387904)
  (T : -2000000000<=s/\s<=2000000000) (J:Zat w ⟨t,0,none⟩ [.slice A l.length c]) (K:Zat w ⟨u,0,none⟩ [.int .i64 s]) (L:Zat w ⟨x,0,none⟩ [.int .i64 d]) :
  Does prog 79 [.slice A l.length c,.func (.func 220) #[] #[.pointer (some ⟨t,0,none⟩),.pointer (some ⟨u,0,none⟩),.pointer (some ⟨x,0,none⟩)],.func (.func 84) #[] #[]] w
   (fun v O=>v = .tuple #[evV (ZaY (Zae l) d s l 0 none),.bool (ZaY (Zae l) d s l 0 none).isSome]/\O=[]):=by
 have H:=fun(i:Nat) r (j:l[i]?=some r) w' (m:Bel w.heap.size w w')=>Zpc A c l i r s d t u x w' (Q.up m) (M.up m) j R (fun r S=>(F r S).1) T (F r (List.mem_of_getElem? j)).2 (J.up m (Nat.le_refl _)) (K.up m (Nat.le_refl _)) (L.up m (Nat.le_refl _))
 obtain⟨z,y⟩:∃ z,ZaY (Zae l) d s l 0 none=z:=⟨_,rfl⟩
 rw[y]
 generalize Zae l=least at *
 clear M F J K L
 refine Zaa func79 rfl rfl rfl rfl ?_
 repeat (first|(refine js ?_;(refine bx ?_;intro q))|refine walk ?_)
 rename_i I
 refine Zah [(13,.slice A l.length c),(1,.func (.func 220) #[] #[.pointer (some ⟨t,0,none⟩),.pointer (some ⟨u,0,none⟩),.pointer (some ⟨x,0,none⟩)]),(2,.func (.func 84) #[] #[]),(8,.pointer (some ⟨q,0,none⟩)),(6,.pointer (some ⟨I,0,none⟩)),(14,.int .i64 l.length)] [.blk I [.int .i64 0,.int .i64 0,.int .i64 0] 91]
  (fun g:BG=>[(15,.int .i64 g.k),(9,.bool g.b.isSome)]) (fun g=>[.blk q (evC g.b) 91]) (fun g=>g.k<=l.length/\ZaY least d s (l.drop g.k) g.k g.b=z) (fun g=>l.length - g.k) ⟨0,none⟩ SFA SOA ⟨Nat.zero_le _,y⟩ ?_
 rintro⟨k,b⟩ ⟨hk,j⟩
 dsimp only at hk j ⊢
 repeat (first|(refine js ?_;(refine bx ?_;intro q))|refine walk ?_)
 refine Zaf rfl (fun h=>?_) (fun h=>?_)
 ·have B:k<l.length:=by simpa using h
  have C:=H k _ (List.getElem?_eq_getElem B)
  rw[Zag B,ZaY]at j
  generalize evIn least d l[k] k (max (max l[k].from_ (-2000000000)) (s - 2)) 20=o at *
  have D:=fun e N w'=>ZjU e N w'
  rcases o with _|⟨ey,er,en⟩ <;> rcases b with _|⟨by_,br,bn⟩ <;> simp only[evV,evC,Zac.enc,dEv0,Option.isSome]at C j ⊢
  ·repeat (first|refine und ?_|(refine js ?_;(first|(apply Zax (f:=220) (us:=[]) (vs:=[.int .i64 k]) (cs:=[.pointer (some ⟨t,0,none⟩),.pointer (some ⟨u,0,none⟩),.pointer (some ⟨x,0,none⟩)]) (h:=fun w' m _=>C w' m);rfl;rfl;rintro v O' ⟨rfl,rfl⟩)|(refine bx ?_;intro q)))|refine walk ?_)
   exact⟨⟨k+1,none⟩,OA,⟨OA,j⟩,SFA,SOA⟩
  ·repeat (first|refine und ?_|(refine js ?_;(first|(apply Zax (f:=220) (us:=[]) (vs:=[.int .i64 k]) (cs:=[.pointer (some ⟨t,0,none⟩),.pointer (some ⟨u,0,none⟩),.pointer (some ⟨x,0,none⟩)]) (h:=fun w' m _=>C w' m);rfl;rfl;rintro v O' ⟨rfl,rfl⟩)|(refine bx ?_;intro q)))|refine walk ?_)
   exact⟨⟨k+1,some ⟨by_,br,bn⟩⟩,OA,⟨OA,j⟩,SFA,SOA⟩
  ·repeat (first|refine und ?_|(refine js ?_;(first|(apply Zax (f:=220) (us:=[]) (vs:=[.int .i64 k]) (cs:=[.pointer (some ⟨t,0,none⟩),.pointer (some ⟨u,0,none⟩),.pointer (some ⟨x,0,none⟩)]) (h:=fun w' m _=>C w' m);rfl;rfl;rintro v O' ⟨rfl,rfl⟩)|(refine bx ?_;intro q)))|refine walk ?_)
   exact⟨⟨k+1,some ⟨ey,er,en⟩⟩,OA,⟨OA,j⟩,SFA,SOA⟩
  ·repeat (first|(refine js ?_;(first|(apply Zax (f:=220) (us:=[]) (vs:=[.int .i64 k]) (cs:=[.pointer (some ⟨t,0,none⟩),.pointer (some ⟨u,0,none⟩),.pointer (some ⟨x,0,none⟩)]) (h:=fun w' m _=>C w' m);rfl;rfl;rintro v O' ⟨rfl,rfl⟩)|(apply Zax (f:=84) (us:=[]) (cs:=[]) (vs:=[.agg #[.int .i64 ey,.int .i64 er,.int .i64 en],.agg #[.int .i64 by_,.int .i64 br,.int .i64 bn]]) (h:=fun w' m _=>D ⟨ey,er,en⟩ ⟨by_,br,bn⟩ w');rfl;rfl;rintro v O' ⟨rfl,rfl⟩)|(refine bx ?_;intro q)))|refine walk ?_)
   refine Zaf rfl (fun E=>?_) (fun E=>?_)
   ·rw[if_pos (of_decide_eq_true E)]at j
    repeat (first|(refine js ?_;(refine bx ?_;intro q))|refine walk ?_)
    exact⟨⟨k+1,some ⟨ey,er,en⟩⟩,OA,⟨OA,j⟩,SFA,SOA⟩
   ·rw[if_neg (of_decide_eq_false E)]at j
    repeat (first|(refine js ?_;(refine bx ?_;intro q))|refine walk ?_)
    exact⟨⟨k+1,some ⟨by_,br,bn⟩⟩,OA,⟨OA,j⟩,SFA,SOA⟩
 ·obtain rfl:k=l.length:=by have:=of_decide_eq_false h;omega
  rw[List.drop_length,ZaY]at j
  subst j
  rcases b with _|⟨by_,br,bn⟩ <;> simp only[evC,Zac.enc,dEv0]
  ·repeat (first|(refine js ?_;(refine bx ?_;intro q))|refine walk ?_)
   exact rtC
  ·repeat (first|(refine js ?_;(refine bx ?_;intro q))|refine walk ?_)
   exact rtC
theorem Zet (t:Int) : -2000000000<=Zay t/\Zay t<=2000000000:=by unfold Zay;omega
def RsOk (l:List DRule):Prop:=∀ r∈l,(-4611686018427387904<=r.save/\r.save<=4611686018427387904)/\r.from_<=4611686018427387904
theorem Zku (A:Option Addr)(c:Nat)(l:List DRule)(a:Int)(w:World)(r:Glob w)(t:RdSl w A c DRule.enc 11 l)(x:l.length<=1000000)(u:RsOk l)(y : -4611686018427387904<=a/\a<=4611686018427387904) :
  Does prog 167 [.slice A l.length c,.int .i64 a] w (fun v O=>v = .tuple #[evV (ZbC l a),.bool (ZbC l a).isSome]/\O=[]):=by
 have f:=fun(g i j:Nat) w' (b:Bel w.heap.size w w') m p q=>Zuq A c l (Zay a) a g i j w' (r.up b) (t.up b) x u (Zet a) m p q
 change ∀ (g i j:Nat) w' (b:Bel w.heap.size w w') m p q,Does _ _ _ w' (fun v O=>v = .tuple #[evV (ZbC l a),.bool (ZbC l a).isSome]/\O=[]) at f
 have e:=fun w' (b:Bel w.heap.size w w')=>ZlS a y w' (r.up b)
 generalize ZbC l a=res at *
 generalize Zay a=yr at *
 refine Zaa func167 rfl rfl rfl rfl ?_
 rcases res with _|⟨ey,er,en⟩ <;> simp only[evV,Zac.enc,dEv0,Option.isSome]at f ⊢
 ·repeat (first|(refine js ?_;(first|(refine Zab e ?_)|(apply Zad (h:=fun w' b d=>f _ _ _ w' b (d.cells cS_) (d.cells cS_) (d.cells cS_));rfl;rintro v O' ⟨rfl,rfl⟩)|(refine bx ?_;intro s)))|refine walk ?_)
  exact rtC
 ·repeat (first|(refine js ?_;(first|(refine Zab e ?_)|(apply Zad (h:=fun w' b d=>f _ _ _ w' b (d.cells cS_) (d.cells cS_) (d.cells cS_));rfl;rintro v O' ⟨rfl,rfl⟩)|(refine bx ?_;intro s)))|refine walk ?_)
  exact rtC
def EvOk (o:Option Zac):Prop:=∀ e,o=some e -> -200000000000000000<=e.nominal/\e.nominal<=200000000000000000
theorem Zp3 (least:Int)(f:least<=0)(r:DRule)(i y:Int):EvOk (onR least r i y):=by
 intro e a
 unfold onR at a
 split at a
 ·cases a
 ·rename_i c
  split at a
  ·cases a
  ·have d:=ZeF y r.month r.day
   have b:ZaL r.at_=true:=by
    cases b:ZaL r.at_
    ·exact absurd (.inr (.inr b)) c
    ·rfl
   simp only[ZaL,Bool.and_eq_true,decide_eq_true_eq]at b
   simp only[Option.some.injEq]at a
   subst a
   dsimp only
   split <;> omega
theorem ZoR (least a:Int)(c:least<=0)(r:DRule)(i:Int):∀ (k:Nat) (y:Int),EvOk (evIn least a r i y k)
 | 0,_=>fun e b=>by cases b
 | k+1,y=>by
  rw[evIn]
  have h:=Zp3 least c r i y
  split
  ·rename_i e b
   split
   ·intro f d;cases d;exact h e b
   ·exact ZoR least a c r i k (y+1)
  ·exact ZoR least a c r i k (y+1)
theorem Zg0 (least a c:Int)(f:least<=0):∀ (l:List DRule) (i:Nat) (b:Option Zac),EvOk b->EvOk (ZaY least a c l i b)
 | [],_,_,h=>h
 | r::l,i,b,h=>by
  rw[ZaY]
  refine Zg0 least a c f l (i+1) _ ?_
  have d:=ZoR least a f r i 20 (max (max r.from_ (-2000000000)) (c - 2))
  generalize evIn least a r i (max (max r.from_ (-2000000000)) (c - 2)) 20=o at *
  cases o with
  | none=>exact h
  | some e =>
   cases b with
   | none=>exact d
   | some x =>
    dsimp only
    split
    ·exact d
    ·exact h
theorem Zz0 {G:Prop}(h:G:=by(first|(apply Zg7;rfl;rfl;exact h1)|(apply Zdz;rfl;rfl;exact h2))):G:=h
theorem Zw0 (A:Option Addr)(c:Nat)(l:List DRule)(a:Int)(w:World)(m:Glob w)(j:RdSl w A c DRule.enc 11 l)(s:l.length<=1000000)(f:RsOk l)(u : -1000000000000000000<=a/\a<=1000000000000000000) :
  Does prog 242 [.slice A l.length c,.int .i64 a] w (fun v O=>v = .bool (farD l a)/\O=[]):=by
 have b:=fun w' (g:Bel w.heap.size w w')=>Zku A c l (a - 259200) w' (m.up g) (j.up g) s f (by omega)
 have d:EvOk (ZbC l (a - 259200)):=Zg0 _ _ _ (ZdM l fun r t=>(f r t).1).2 l 0 none (fun e q=>by cases q)
 unfold farD
 generalize ZbC l (a - 259200)=res at *
 have h1:(if 1152921504606846976<a then (1152921504606846976:Int) else a)=a:=if_neg (by omega)
 have h2:(if (-1152921504606846976:Int)<a then a else -1152921504606846976)=a:=if_pos (by omega)
 refine Zaa func242 rfl rfl rfl rfl ?_
 rcases res with _|⟨ey,er,en⟩ <;> simp only[evV,Zac.enc,dEv0,Option.isSome]at b ⊢
 ·repeat' (first|(apply RL_pu;rfl;exact Zz0)|(refine js ?_;(first|(refine Zab b ?_)|(refine bx ?_;intro i)))|refine walk1 ?_|fail)
  exact rtA
 ·have p:=d _ rfl
  dsimp only at p
  repeat' (first|(apply RL_pu;rfl;exact Zz0)|(refine js ?_;(first|(refine Zab b ?_)|(refine bx ?_;intro i)))|refine walk1 ?_|fail)
  exact rtA
theorem ZDM {G:Prop}(h:G:=by(first|exact PuI|(apply Pu_loadO1;rfl;first|exact c1 0 _ rfl|exact c2 0 _ rfl)|(apply Zg7;rfl;rfl;exact hmn))):G:=h
theorem ZyG {G:Prop}(h:G:=by first|(apply Qy_y;rfl;exact ZDM)|exact QyA):G:=h
theorem ZyW {G:Prop}(h:G:=by repeat (first|exact QF.nil|(apply QF.mk;rfl;rfl;decide +kernel;exact ZyG))):G:=h
theorem Zz7 {G:Prop}(h:G:=by(apply Pu_loadO1;rfl;first|exact c1 0 _ rfl|exact c3 0 _ rfl)):G:=h
theorem Znv (A:Option Addr)(c:Nat)(l:List DRule)(i:Nat)(r:DRule)(s d:Int)(z D E:Nat)(w:World)(W:Glob w)(Q:RdSl w A c DRule.enc 11 l)(I:l[i]?=some r)(hn:l.length<=1000000)(X:∀ r∈l,-4611686018427387904<=r.save/\r.save<=4611686018427387904)
  (hy : -2000000000<=s/\s<=2000000000) (hf : -4611686018427387904<=r.to) (c1:Zat w ⟨z,0,none⟩ [.slice A l.length c]) (c2:Zat w ⟨D,0,none⟩ [.int .i64 s]) (c3:Zat w ⟨E,0,none⟩ [.int .i64 d]) :
  Does prog 80 [.int .i64 i,.pointer (some ⟨z,0,none⟩),.pointer (some ⟨D,0,none⟩),.pointer (some ⟨E,0,none⟩)] w (fun v O=>v = .tuple #[evV (beIn (Zae l) d r i (min (lastY r) (s+2)) 20),.bool (beIn (Zae l) d r i (min (lastY r) (s+2)) 20).isSome]/\O=[]):=by
 have Z:i<l.length:=(List.getElem?_eq_some_iff.1 I).1
 obtain⟨g,t⟩:∃ g,min (lastY r) (s+2)=g:=⟨_,rfl⟩
 have Y : -4611686018427387904<=lastY r/\lastY r<=2000000000:=by
  unfold lastY
  split <;> omega
 have aa : -4611686018427387904<=g/\g<=2000000002:=by omega
 have hmn:(if s+2<lastY r then s+2 else lastY r)=g:=by rw[<- t];split <;> omega
 have J:=fun w'=>Zj0 r w'
 rw[t]
 obtain⟨m,q⟩:∃ m,beIn (Zae l) d r i g 20=m:=⟨_,rfl⟩
 rw[q]
 have K:=fun y w' (S:Bel w.heap.size w w')=>Zgi A c l i y r w' (W.up S) (Q.up S) I hn X
 obtain⟨hna,hca⟩:=Q.rd i _ I
 generalize Zae l=least at *
 generalize lastY r=ly at *
 clear t
 obtain⟨U,fr,to,T,⟨M,N,dd⟩,⟨cs,L⟩,sv,le⟩:=r
 change Zat w _ [.string U,.int .i64 fr,.int .i64 to,.int .i64 T,.int .i64 M,.int .i64 N,.int .i64 dd,.int .i64 cs,.int .i64 L,.int .i64 sv,.string le]at hca
 refine Zaa func80 rfl rfl rfl rfl ?_
 repeat (first|(apply RD_Q;rfl;rfl;decide +kernel;rfl;rfl;exact ZyG)|refine walk1 ?_|(refine jg ?_;(try intro F);(first|(refine Zab (fun w' _=>J w') ?_)|(refine bx ?_;intro u));first|refine⟨_,EndsA,ZyW,?_⟩|refine fin ?_)|(refine jn ?_;(try intro F);(first|(refine bx ?_;intro u)|(apply Zan;exact PuA));refine⟨_,EndsA,ZyW,?_⟩))
 refine Zah [(0,.int .i64 i),(1,.pointer (some ⟨z,0,none⟩)),(2,.pointer (some ⟨D,0,none⟩)),(3,.pointer (some ⟨E,0,none⟩)),(7,.int .i64 g),(5,.pointer (some ⟨u,0,none⟩))] [.blk u [.int .i64 0,.int .i64 0,.int .i64 0] 91] (fun j:Nat=>[(19,.int .i64 j)]) (fun _=>[]) (fun j=>j<=20/\beIn least d ⟨U,fr,to,T,⟨M,N,dd⟩,⟨cs,L⟩,sv,le⟩ i (g - j) (20 - j)=m) (fun j=>20 - j) 0 SFA SOA ⟨Nat.zero_le _,by simpa using q⟩ ?_
 rintro j ⟨hj,f⟩
 repeat (refine walk ?_)
 refine Zaf rfl (fun h=>?_) (fun h=>?_)
 ·have R:j<20:=by have:=of_decide_eq_true h;omega
  rw[show 20 - j=(19 - j)+1 by omega,beIn]at f
  have x:=K (g - j)
  generalize onR least _ i (g - j)=o at *
  cases o with
  | none =>
   simp only[evV,Zac.enc,dEv0,Option.isSome]at x
   repeat (first|(apply RL_pu;rfl;exact Zz7)|refine walk1 ?_|(refine jg ?_;(try intro F);(first|(refine Zab x ?_)|(refine bx ?_;intro u));first|refine⟨_,EndsA,QFBfA1,?_⟩|refine fin ?_))
   exact⟨j+1,OA,⟨OA,by rw[show 20 - (j+1)=19 - j by omega,show g - ((j+1:Nat):Int)=g - j - 1 by omega];exact f⟩,SFA,SOA⟩
  | some e =>
   obtain⟨ey,er,en⟩:=e
   simp only[evV,Zac.enc,Option.isSome]at x f
   repeat (first|(apply RL_pu;rfl;exact Zz7)|refine walk1 ?_|(refine jg ?_;(try intro F);(first|(refine Zab x ?_)|(refine bx ?_;intro u));first|refine⟨_,EndsA,QFBfA1,?_⟩|refine fin ?_))
   refine Zaf rfl (fun H=>?_) (fun H=>?_)
   ·rw[if_pos (of_decide_eq_true H)]at f
    subst f
    repeat (refine walk ?_)
    exact rtC
   ·rw[if_neg (of_decide_eq_false H)]at f
    repeat (refine walk ?_)
    exact⟨j+1,OA,⟨OA,by rw[show 20 - (j+1)=19 - j by omega,show g - ((j+1:Nat):Int)=g - j - 1 by omega];exact f⟩,SFA,SOA⟩
 ·obtain rfl:j=20:=by have:=of_decide_eq_false h;omega
  obtain rfl:none=m:=by rw[<- f];rfl
  repeat (refine walk ?_)
  exact rtC
theorem Znu (a b:Zac)(w:World):Does prog 83 [.agg (Zac.enc a).toArray,.agg (Zac.enc b).toArray] w (fun v O=>v = .int .i64 (ordE b a)/\O=[]):=by
 have h:=fun w'=>ZjU b a w'
 obtain⟨y,r,n⟩:=a
 obtain⟨e,d,c⟩:=b
 show Does _ _ [.agg #[.int .i64 y,.int .i64 r,.int .i64 n],.agg #[.int .i64 e,.int .i64 d,.int .i64 c]] w _
 refine Zaa func83 rfl rfl rfl rfl ?_
 repeat (first|(refine js ?_;(first|(refine Zab (fun w' _=>h w') ?_)|(refine bx ?_;intro f)))|refine walk ?_)
 exact rtA
theorem Zr6 (A:Option Addr)(c:Nat)(l:List DRule)(s d:Int)(t u x:Nat)(w:World)(Q:Glob w)(M:RdSl w A c DRule.enc 11 l)(R:l.length<=1000000)(F:∀ r∈l,(-4611686018427387904<=r.save/\r.save<=4611686018427387904)/\(r.from_<=4611686018427387904/\-4611686018427387904<=r.to))
  (T : -2000000000<=s/\s<=2000000000) (J:Zat w ⟨t,0,none⟩ [.slice A l.length c]) (K:Zat w ⟨u,0,none⟩ [.int .i64 s]) (L:Zat w ⟨x,0,none⟩ [.int .i64 d]) :
  Does prog 79 [.slice A l.length c,.func (.func 80) #[] #[.pointer (some ⟨t,0,none⟩),.pointer (some ⟨u,0,none⟩),.pointer (some ⟨x,0,none⟩)],.func (.func 83) #[] #[]] w
   (fun v O=>v = .tuple #[evV (Zfn (Zae l) d s l 0 none),.bool (Zfn (Zae l) d s l 0 none).isSome]/\O=[]):=by
 have H:=fun(i:Nat) r (j:l[i]?=some r) w' (m:Bel w.heap.size w w')=>Znv A c l i r s d t u x w' (Q.up m) (M.up m) j R (fun r S=>(F r S).1) T (F r (List.mem_of_getElem? j)).2.2 (J.up m (Nat.le_refl _)) (K.up m (Nat.le_refl _)) (L.up m (Nat.le_refl _))
 obtain⟨z,y⟩:∃ z,Zfn (Zae l) d s l 0 none=z:=⟨_,rfl⟩
 rw[y]
 generalize Zae l=least at *
 clear M F J K L
 refine Zaa func79 rfl rfl rfl rfl ?_
 repeat (first|(refine js ?_;(refine bx ?_;intro q))|refine walk ?_)
 rename_i I
 refine Zah [(13,.slice A l.length c),(1,.func (.func 80) #[] #[.pointer (some ⟨t,0,none⟩),.pointer (some ⟨u,0,none⟩),.pointer (some ⟨x,0,none⟩)]),(2,.func (.func 83) #[] #[]),(8,.pointer (some ⟨q,0,none⟩)),(6,.pointer (some ⟨I,0,none⟩)),(14,.int .i64 l.length)] [.blk I [.int .i64 0,.int .i64 0,.int .i64 0] 91]
  (fun g:BG=>[(15,.int .i64 g.k),(9,.bool g.b.isSome)]) (fun g=>[.blk q (evC g.b) 91]) (fun g=>g.k<=l.length/\Zfn least d s (l.drop g.k) g.k g.b=z) (fun g=>l.length - g.k) ⟨0,none⟩ SFA SOA ⟨Nat.zero_le _,y⟩ ?_
 rintro⟨k,b⟩ ⟨hk,j⟩
 dsimp only at hk j ⊢
 repeat (first|(refine js ?_;(refine bx ?_;intro q))|refine walk ?_)
 refine Zaf rfl (fun h=>?_) (fun h=>?_)
 ·have B:k<l.length:=by simpa using h
  have C:=H k _ (List.getElem?_eq_getElem B)
  rw[Zag B,Zfn]at j
  generalize beIn least d l[k] k (min (lastY l[k]) (s+2)) 20=o at *
  have D:=fun e N w'=>Znu e N w'
  rcases o with _|⟨ey,er,en⟩ <;> rcases b with _|⟨by_,br,bn⟩ <;> simp only[evV,evC,Zac.enc,dEv0,Option.isSome]at C j ⊢
  ·repeat (first|refine und ?_|(refine js ?_;(first|(apply Zax (f:=80) (us:=[]) (vs:=[.int .i64 k]) (cs:=[.pointer (some ⟨t,0,none⟩),.pointer (some ⟨u,0,none⟩),.pointer (some ⟨x,0,none⟩)]) (h:=fun w' m _=>C w' m);rfl;rfl;rintro v O' ⟨rfl,rfl⟩)|(refine bx ?_;intro q)))|refine walk ?_)
   exact⟨⟨k+1,none⟩,OA,⟨OA,j⟩,SFA,SOA⟩
  ·repeat (first|refine und ?_|(refine js ?_;(first|(apply Zax (f:=80) (us:=[]) (vs:=[.int .i64 k]) (cs:=[.pointer (some ⟨t,0,none⟩),.pointer (some ⟨u,0,none⟩),.pointer (some ⟨x,0,none⟩)]) (h:=fun w' m _=>C w' m);rfl;rfl;rintro v O' ⟨rfl,rfl⟩)|(refine bx ?_;intro q)))|refine walk ?_)
   exact⟨⟨k+1,some ⟨by_,br,bn⟩⟩,OA,⟨OA,j⟩,SFA,SOA⟩
  ·repeat (first|refine und ?_|(refine js ?_;(first|(apply Zax (f:=80) (us:=[]) (vs:=[.int .i64 k]) (cs:=[.pointer (some ⟨t,0,none⟩),.pointer (some ⟨u,0,none⟩),.pointer (some ⟨x,0,none⟩)]) (h:=fun w' m _=>C w' m);rfl;rfl;rintro v O' ⟨rfl,rfl⟩)|(refine bx ?_;intro q)))|refine walk ?_)
   exact⟨⟨k+1,some ⟨ey,er,en⟩⟩,OA,⟨OA,j⟩,SFA,SOA⟩
  ·repeat (first|(refine js ?_;(first|(apply Zax (f:=80) (us:=[]) (vs:=[.int .i64 k]) (cs:=[.pointer (some ⟨t,0,none⟩),.pointer (some ⟨u,0,none⟩),.pointer (some ⟨x,0,none⟩)]) (h:=fun w' m _=>C w' m);rfl;rfl;rintro v O' ⟨rfl,rfl⟩)|(apply Zax (f:=83) (us:=[]) (cs:=[]) (vs:=[.agg #[.int .i64 ey,.int .i64 er,.int .i64 en],.agg #[.int .i64 by_,.int .i64 br,.int .i64 bn]]) (h:=fun w' m _=>D ⟨ey,er,en⟩ ⟨by_,br,bn⟩ w');rfl;rfl;rintro v O' ⟨rfl,rfl⟩)|(refine bx ?_;intro q)))|refine walk ?_)
   refine Zaf rfl (fun E=>?_) (fun E=>?_)
   ·rw[if_pos (of_decide_eq_true E)]at j
    repeat (first|(refine js ?_;(refine bx ?_;intro q))|refine walk ?_)
    exact⟨⟨k+1,some ⟨ey,er,en⟩⟩,OA,⟨OA,j⟩,SFA,SOA⟩
   ·rw[if_neg (of_decide_eq_false E)]at j
    repeat (first|(refine js ?_;(refine bx ?_;intro q))|refine walk ?_)
    exact⟨⟨k+1,some ⟨by_,br,bn⟩⟩,OA,⟨OA,j⟩,SFA,SOA⟩
 ·obtain rfl:k=l.length:=by have:=of_decide_eq_false h;omega
  rw[List.drop_length,Zfn]at j
  subst j
  rcases b with _|⟨by_,br,bn⟩ <;> simp only[evC,Zac.enc,dEv0]
  ·repeat (first|(refine js ?_;(refine bx ?_;intro q))|refine walk ?_)
   exact rtC
  ·repeat (first|(refine js ?_;(refine bx ?_;intro q))|refine walk ?_)
   exact rtC
def ZCl (l:List DRule):Prop:=∀ r∈l,(-4611686018427387904<=r.save/\r.save<=4611686018427387904)/\(r.from_<=4611686018427387904/\-4611686018427387904<=r.to)
theorem Zgj (A:Option Addr)(c:Nat)(l:List DRule)(a:Int)(w:World)(r:Glob w)(t:RdSl w A c DRule.enc 11 l)(x:l.length<=1000000)(u:ZCl l)(y : -4611686018427387904<=a/\a<=4611686018427387904) :
  Does prog 42 [.slice A l.length c,.int .i64 a] w (fun v O=>v = .tuple #[evV (befD l a),.bool (befD l a).isSome]/\O=[]):=by
 have f:=fun(g i j:Nat) w' (b:Bel w.heap.size w w') m p q=>Zr6 A c l (Zay a) a g i j w' (r.up b) (t.up b) x u (Zet a) m p q
 change ∀ (g i j:Nat) w' (b:Bel w.heap.size w w') m p q,Does _ _ _ w' (fun v O=>v = .tuple #[evV (befD l a),.bool (befD l a).isSome]/\O=[]) at f
 have e:=fun w' (b:Bel w.heap.size w w')=>ZlS a y w' (r.up b)
 generalize befD l a=res at *
 generalize Zay a=yr at *
 refine Zaa func42 rfl rfl rfl rfl ?_
 rcases res with _|⟨ey,er,en⟩ <;> simp only[evV,Zac.enc,dEv0,Option.isSome]at f ⊢
 ·repeat (first|(refine js ?_;(first|(refine Zab e ?_)|(apply Zad (h:=fun w' b d=>f _ _ _ w' b (d.cells cS_) (d.cells cS_) (d.cells cS_));rfl;rintro v O' ⟨rfl,rfl⟩)|(refine bx ?_;intro s)))|refine walk ?_)
  exact rtC
 ·repeat (first|(refine js ?_;(first|(refine Zab e ?_)|(apply Zad (h:=fun w' b d=>f _ _ _ w' b (d.cells cS_) (d.cells cS_) (d.cells cS_));rfl;rintro v O' ⟨rfl,rfl⟩)|(refine bx ?_;intro s)))|refine walk ?_)
  exact rtC
end Go.Proofs.YtpipekfmecikmaaGreatDoor
namespace Go.Wk
open Go Go.RowKit
section
variable {P:Program}{n:Nat}{wr:World}{fr:Fr}{O:List It}{ty:TypeId}{pos:String}{af:Array Edge}{dst:Option Tmp}{g:Option (Nat × Bool)}{Kp:Value->List It->Prop}
theorem Zhy {t kt et:Nat}{x:Operand}{m:IntKind}{i:Int}[hM:MapT P t kt et](l:ev fr x=some (.int m i))(k:∀ b,Kp (.map (some b)) (.mp b []::O)):Stp P n wr fr O ⟨dst,.makeMap t (some x),ty,pos,af,g⟩ Kp :=
 ZbZ fun a w c=>by
  have f:Bel w.heap.size w (w.alloc (.map #[] 0)):=(Bel.refl _ _).alloc (Nat.le_refl _) _
  have j:=MapT.parts hM.h
  refine⟨.map (some w.heap.size),w.alloc (.map #[] 0),_,?_,c.old.trans (f.mono c.old.size),c.own.grow (O':=[.mp w.heap.size []]) f c.old.size ⟨fun i e=>?_,fun i e b d=>?_,List.pairwise_singleton _ _⟩,k _⟩
  ·simp[execOp,c.sim.ev l,Instr.makeMap,run_underlying j,asInt,asIntOf,newObj,Sem.run]
  ·rw[List.mem_singleton.1 e]
   exact⟨#[],0,heap_alloc_new w _,rfl,ZpS⟩
  ·rw[List.mem_singleton.1 e]at d
   simp only[It.S]at d
   subst d
   exact⟨Nat.le_refl _,by simp⟩
theorem Zfr (a:Array MapEntry)(j:Nat):(a.eraseIdxIfInBounds j).toList=a.toList.eraseIdx j:=by
 unfold Array.eraseIdxIfInBounds
 split
 ·simp
 ·rw[List.eraseIdx_of_length_le (by simp;omega)]
theorem Zq8 {b:Array MapEntry}{c:Nat}(h:stOk b c)(j:Nat):stOk (b.eraseIdxIfInBounds j) c:=by
 unfold stOk
 rw[Zfr]
 have a:((b.toList.eraseIdx j).map (·.born)).Sublist (b.toList.map (·.born)):=(List.eraseIdx_sublist _ _).map _
 exact⟨h.1.sublist a,fun n d=>h.2 n (a.subset d)⟩
theorem Zsb {t t2 kt et b:Nat}{x A:Operand}{m:List (ByteArray × Value)}{k:ByteArray}{O':List It}[hM:MapT P t kt et][StringT P kt](s:ev fr x=some (.map (some b)))(r:ev fr A=some (.string k))
  (v:Upd O (.mp b m) (.mp b (mdel m k)) O') (B:Kp (.tuple #[]) O'):Stp P n wr fr O ⟨dst,.call ⟨.builtin .delete,#[x,A],#[t,t2]⟩,ty,pos,af,g⟩ Kp :=
 ZbZ fun a w d=>by
  have z:=MapT.parts hM.h
  obtain⟨f,c,l,o,y⟩:=d.own.sat _ v.mem
  have q:=ZmF k m f.toList 0 o
  cases hfi:ZeI m k 0 with
  | none =>
   rw[hfi]at q
   have e:=d.setMap (es':=f) (c':=c) v (by unfold ZdP;rw[q];exact o) y
   refine⟨.tuple #[],_,O',?_,e.1,e.2,B⟩
   simp only[execOp,resolve,invoke,builtin,Builtin.delete_,d.sim.ev s,d.sim.ev r]
   simp[d.sim.ev s,d.sim.ev r,Builtin.delete_,run_underlying z,Zbf l,Zcy _ k 9999,Zc4 k m f.toList w o,hfi,setObj,Sem.run,l]
  | some p =>
   obtain⟨j,u⟩:=p
   rw[hfi]at q
   obtain⟨_,i⟩:=q
   rw[Nat.sub_zero]at i
   have e:=d.setMap (es':=f.eraseIdxIfInBounds j) (c':=c) v (by unfold ZdP;rw[Zfr];exact i) (Zq8 y j)
   refine⟨.tuple #[],_,O',?_,e.1,e.2,B⟩
   simp only[execOp,resolve,invoke,builtin,Builtin.delete_,d.sim.ev s,d.sim.ev r]
   simp[d.sim.ev s,d.sim.ev r,Builtin.delete_,run_underlying z,Zbf l,Zcy _ k 9999,Zc4 k m f.toList w o,hfi,setObj,Sem.run,l]
def MpAt (w:World)(b:Nat)(m:List (ByteArray × Value)):Prop:=(It.mp b m).sat w
theorem MpAt.up {w w':World}{b:Nat}{m:List (ByteArray × Value)}{B:Nat}(h:MpAt w b m)(e:Bel B w w')(d:w.heap.size<=B):MpAt w' b m:=by
 refine It.sat_congr h fun k f=>?_
 obtain rfl:k=b:=f
 obtain⟨g,c,a,_⟩:=h
 exact e.block k (Nat.lt_of_lt_of_le (Array.getElem?_eq_some_iff.1 a).1 d)
theorem ZnF {t kt et b:Nat}{x a:Operand}{m:List (ByteArray × Value)}{k:ByteArray}{z v:Value}[hM:MapT P t kt et][StringT P kt][ZeroV P et z](g:ev fr x=some (.map (some b)))(c:ev fr a=some (.string k))
  (d:MpAt wr b m) (e:(mget m k).getD z=v):Pu P n wr fr O (.lookup t x a false) ty v:=e▸Zsd (kt:=kt) (et:=et) g c (fun _ f _=>d.up f (Nat.le_refl _))
theorem Zfx {t kt et b:Nat}{x e:Operand}{m:List (ByteArray × Value)}{k:ByteArray}{z v:Value}{c:Bool}[hM:MapT P t kt et][StringT P kt][ZeroV P et z](j:ev fr x=some (.map (some b)))(g:ev fr e=some (.string k))
  (h:MpAt wr b m) (i:(mget m k).getD z=v) (f:(mget m k).isSome=c):Pu P n wr fr O (.lookup t x e true) ty (.tuple [v,.bool c].toArray) :=
 fun a w d _ _ _ _=>by
  have:=Ze7 (P:=P) (t:=t) (kt:=kt) (et:=et) (k:=k) (z:=z) (h.up d.old (Nat.le_refl _)) true
  simp only[execOp,d.sim.ev j,d.sim.ev g,Sem.run_bind,this,Result.andThen_ok,Sem.run_pure]
  rw[<- i,<- f]
  rfl
theorem Zpo {t t' kt et:Nat}{x:Operand}{p:Option Nat}[hM:MapT P t kt et](f:ev fr x=some (.map p)):Pu P n wr fr O (.binOp .eql t x (.const (.map none)) t') ty (.bool p.isNone) :=
 fun a w c _ _ _ _=>by
  have e:=MapT.parts hM.h
  have h:(binOp .eql t (.map p) (.map none)).run P w = .ok (.bool p.isNone) w:=by
   simp only[binOp]
   have:∀ d,(Op.equalIn (d+1) t (.map p) (.map none)).run P w = .ok p.isNone w:=fun d=>by cases p <;> simp[Op.equalIn,run_underlying e]
   rw[show Op.equal t (.map p) (.map none)=Op.equalIn (9999+1) t (.map p) (.map none) from rfl]
   simp only[Sem.run_bind,this 9999,Result.andThen_ok,Sem.run_pure]
  have b:a.eval (.const (.map none)) = .map none:=rfl
  simp[execOp,c.sim.ev f,b,eqGuard,h]
theorem Zpn {t kt et:Nat}{x:Operand}{v:Value}[hM:MapT P t kt et](d:ev fr x=some v):Pu P n wr fr O (.makeInterface t x) ty (.iface t v) :=
 fun a w b _ _ _ _=>by
  have c:=MapT.parts hM.h
  simp[execOp,b.sim.ev d,Instr.makeInterface,run_underlying c]
theorem ZnM {t e kt et:Nat}{x:Operand}{v:Value}[hM:MapT P t kt et](d:ev fr x=some (.iface t v)):Pu P n wr fr O (.typeAssert x e t false) ty v :=
 fun a w b _ _ _ _=>by
  have c:=MapT.parts hM.h
  simp[execOp,b.sim.ev d,Instr.typeAssert,run_underlying c]
def ZtL (P:Program)(f:FuncId):Prop:=∀ (args:Array Value) (w:World),(callFunc f args).run P w=((Extern.MapsClone.clone args).run P w).andThen fun v w' => .ok (.value v) w'
theorem ZlC {f t b:Nat}{x:Operand}{D:Array TypeId}{m:List (ByteArray × Value)}(z:ZtL P f)(B:ev fr x=some (.iface t (.map (some b))))(A:∀ w,Bel wr.heap.size wr w->Zaz wr.heap.size O w->MpAt w b m)
  (C:∀ q,Kp (.iface t (.map (some q))) (.mp q m::O)):Stp P n wr fr O ⟨dst,.call ⟨.value (.func f),#[x],D⟩,ty,pos,af,g⟩ Kp :=
 ZbZ fun a w d=>by
  obtain⟨j,c,u,v⟩:=A w d.old d.own
  have r:Bel w.heap.size w (w.alloc (.map j c)):=(Bel.refl _ _).alloc (Nat.le_refl _) _
  have h:(Extern.MapsClone.clone #[.iface t (.map (some b))]).run P w = .ok (.iface t (.map (some w.heap.size))) (w.alloc (.map j c)):=by
   have e:Extern.MapsClone.clone #[.iface t (.map (some b))]=(getObj b >>= fun o=>match o with
     | .map entries clock=>(newObj (.map entries clock) >>= fun n=>pure (.iface t (.map (some n))))
     | _=>stuck "maps.clone: a map expected"):=rfl
   rw[e]
   simp[Zbf u,newObj,Sem.run]
  refine⟨.iface t (.map (some w.heap.size)),w.alloc (.map j c),_,?_,d.old.trans (r.mono d.old.size),d.own.grow (O':=[.mp w.heap.size m]) r d.old.size ⟨fun i p=>?_,fun i p b k=>?_,List.pairwise_singleton _ _⟩,C _⟩
  ·have l:=d.sim.ev B
   have y:a.eval (.func f) = .func (.func f) #[] #[]:=rfl
   have s:=z #[.iface t (.map (some b))] w
   rw[h,Result.andThen_ok]at s
   simp[execOp,resolve,y,Deferred.ofValue,invoke,s,l]
  ·rw[List.mem_singleton.1 p]
   exact⟨j,c,heap_alloc_new w _,v⟩
  ·rw[List.mem_singleton.1 p]at k
   simp only[It.S]at k
   subst k
   exact⟨Nat.le_refl _,by simp⟩
end
def Nd (m:List (ByteArray × Value)):Prop:=(m.map (·.1)).Nodup
theorem Zgd (k:ByteArray):∀ m:List (ByteArray × Value),mget m k=none↔k ∉ m.map (·.1)
 | []=>by simp[mget]
 | (x,v)::r=>by
  simp only[mget,List.map_cons,List.mem_cons,not_or]
  by_cases h:k=x
  ·simp[h]
  ·simp[h,Zgd k r]
theorem Zhm (k:ByteArray)(v:Value):∀ m:List (ByteArray × Value),k∈m.map (·.1)->(mset m k v).map (·.1)=m.map (·.1)
 | [],h=>by simp at h
 | (x,u)::r,h=>by
  simp only[mset]
  by_cases a:k=x
  ·simp[a]
  ·rw[if_neg a]
   simp only[List.map_cons,List.mem_cons,a,false_or]at h ⊢
   rw[Zhm k v r h]
theorem Zgc (k:ByteArray)(v:Value):∀ m:List (ByteArray × Value),k ∉ m.map (·.1)->(mset m k v).map (·.1)=m.map (·.1)++[k]
 | [],_=>by simp[mset]
 | (x,u)::r,h=>by
  simp only[List.map_cons,List.mem_cons,not_or]at h
  simp only[mset,if_neg h.1,List.map_cons,Zgc k v r h.2,List.cons_append]
theorem Nd.set {m:List (ByteArray × Value)}(h:Nd m)(k:ByteArray)(v:Value):Nd (mset m k v):=by
 unfold Nd at h ⊢
 by_cases c:k∈m.map (·.1)
 ·rw[Zhm k v m c];exact h
 ·rw[Zgc k v m c,List.nodup_append]
  exact⟨h,by simp,fun a f b d=>by simp only[List.mem_singleton]at d;subst d;exact fun e=>c (e▸f)⟩
theorem Zp5 (k:ByteArray):∀ m:List (ByteArray × Value),(mdel m k).Sublist m
 | []=>List.Sublist.slnil
 | (x,u)::r=>by
  simp only[mdel]
  split
  ·exact List.sublist_cons_self _ _
  ·exact(Zp5 k r).cons_cons _
theorem Nd.del {m:List (ByteArray × Value)}(h:Nd m)(k:ByteArray):Nd (mdel m k):=List.Nodup.sublist ((Zp5 k m).map _) h
theorem ZmC (k x:ByteArray):∀ {m:List (ByteArray × Value)},Nd m->mget (mdel m k) x=if x=k then none else mget m x
 | [],_=>by simp[mdel,mget]
 | (y,u)::r,h=>by
  unfold Nd at h
  simp only[List.map_cons,List.nodup_cons]at h
  simp only[mdel]
  by_cases b:k=y
  ·subst b
   rw[if_pos rfl]
   by_cases a:x=k
   ·subst a
    rw[if_pos rfl]
    exact(Zgd x r).2 h.1
   ·rw[if_neg a,mget,if_neg a]
  ·rw[if_neg b]
   simp only[mget]
   by_cases a:x=y
   ·subst a
    rw[if_pos rfl,if_pos rfl,if_neg (fun e=>b e.symm)]
   ·rw[if_neg a,if_neg a,ZmC k x h.2]
theorem Zp6 (k:ByteArray):∀ {m:List (ByteArray × Value)},(mget m k).isSome=true->(mdel m k).length+1=m.length
 | [],h=>by simp[mget]at h
 | (y,u)::r,h=>by
  simp only[mget]at h
  simp only[mdel]
  by_cases a:k=y
  ·simp[a]
  ·rw[if_neg a]at h ⊢
   simp[Zp6 k h]
theorem Zk2 (k:ByteArray)(v:Value):∀ m:List (ByteArray × Value),(mset m k v).length<=m.length+1
 | []=>by simp[mset]
 | (y,u)::r=>by
  simp only[mset]
  split
  ·simp
  ·simp[Zk2 k v r]
section
variable {P:Program}{n:Nat}{wr:World}{Q:Exit->Fr->List It->Prop}{fr:Fr}{O:List It}{K:Fr->List It->Prop}
theorem ZwX {l:Nat}{rs:List ResultVar}{R:Value->List It->Prop}:¬ retQ P wr rs R (.goto l) fr O:=id
theorem ZA4 {c:Code}(f:∀ l fr O,¬ Q (.goto l) fr O)(h:W P n wr c Q fr O):W P n wr (.scope c) Q fr O:=by
 intro a w g
 refine wp_scope_straight (wp_mono (h a w g) ?_)
 rintro e i w' ⟨fr',O',b,d⟩
 cases e with
 | goto l=>exact(f l _ _ d).elim
 | _=>exact⟨fr',O',b,d⟩
theorem ZA6 {l:Nat}(h:Q .normal fr O):W P n wr (.label l) Q fr O:=fun _ _ a=>wp_label ⟨fr,O,a,h⟩
end
section
variable {P:Program}{n:Nat}{wr:World}{fr:Fr}{O:List It}{ty:TypeId}{pos:String}{af:Array Edge}{dst:Option Tmp}{g:Option (Nat × Bool)}{Kp:Value->List It->Prop}
theorem ZnE {t len e sz b:Nat}{g:Bool}{x y:Operand}{h:Int}[hA:ArrT P t len e sz g](p:ev fr x=some (.pointer (some ⟨b,0,none⟩)))(q:ev fr y=some (.int .i64 h))(j:0<=h)(k:h<=len) :
  Pu P n wr fr O (.slice t x none (some y) none) ty (.slice (some ⟨b,0,none⟩) h.toNat len) :=
 fun a w d _ _ _ _=>by
  have h:=hA.h
  unfold Zks at h
  split at h
  ·rename_i f u o
   split at h
   ·rename_i s i m
    simp only[Option.some.injEq,Prod.mk.injEq]at h
    obtain⟨rfl,rfl,rfl,rfl⟩:=h
    obtain⟨r,dd,c,l,_,_⟩:=Ty.parts m
    simp[execOp,d.sim.ev p,d.sim.ev q,Instr.sliceAt,run_underlying o,Instr.sureAddr,Instr.sliceBounds,run_sliceBound,j,k,sizeOf,ZaN c,Addr.add]
   ·cases h
  ·cases h
theorem Zji {t sz b p:Nat}{x:Operand}{cs:List Value}{a:TypeId}{v:Value}{R:List It}[Ty P t sz false](e:ev fr x=some (.pointer (some ((adr (some ⟨b,0,none⟩)).add p))))
  (c:Pick (.blk b cs a) O R) (d:cs[p]?=some v):Pu P n wr fr O (.load t x) ty v :=
 Pu_loadB1 (by rw[e,show adr (some (⟨b,0,none⟩:Addr))=⟨b,0,none⟩ from rfl,Zcl,Nat.zero_add]) c d
theorem ZnH {t sz b p:Nat}{x:Operand}{cs:List Value}{a:TypeId}{v:Value}{R:List It}[Ty P t sz false](e:ev fr x=some (.pointer (some ((⟨b,0,none⟩:Addr).add p))))
  (c:Pick (.blk b cs a) O R) (d:cs[p]?=some v):Pu P n wr fr O (.load t x) ty v :=
 Pu_loadB1 (by rw[e,Zcl,Nat.zero_add]) c d
theorem Zgz {t:TypeId}{x:Operand}{i:Int}(a:ev fr x=some (.int .i64 i))(h : -9223372036854775807<=i/\i<=9223372036854775807):Pu P n wr fr O (.unOp .neg t x) ty (.int .i64 (-i)):=by
 have:=Pu_negW (P:=P) (n:=n) (wr:=wr) (O:=O) (ty:=ty) (t:=t) a
 rwa[Int.zero_sub,Zcw (by omega)]at this
def Zo0 (c:UInt8):Value := .int .u8 (c.toNat:Int)
theorem ZnL {t t' e sz b et c:Nat}{x:Operand}{A:Option Addr}{m:Nat}{l:List UInt8}{xs:List Value}{R:List It}[hE:ElemT P t e sz b][hU:IntT P e .u8][hS:StringT P t'](y:ev fr x=some (.slice A m c))
  (s:Pick (.row (.slice A m c) et 1 m xs) O R) (g:xs=l.map Zo0) (r:m=l.length) (p:A≠none):Pu P n wr fr O (.convert t t' x) ty (.string ⟨l.toArray⟩) :=
 fun a w k _ _ _ _=>by
  have h:=hE.h
  unfold ZiQ at h
  split at h
  ·rename_i o v
   split at h
   ·simp only[Option.some.injEq,Prod.mk.injEq]at h
    obtain⟨rfl,_,_⟩:=h
    obtain⟨ad,rfl⟩:=Option.ne_none_iff_exists'.1 p
    subst r g
    have f:=k.own.sat _ (s.perm.mem_iff.2 List.mem_cons_self)
    have q:∀ j (i:j<l.length),w.cell? (ad.add j)=some (.int .u8 (l[j].toNat:Int)):=fun j i=>by
     have:=Zbc f (j:=j) (u:=Zo0 l[j]) (by rw[List.getElem?_map,List.getElem?_eq_getElem i];rfl)
     exact this.2
    have d:=run_convert_bytes_back (P:=P) w t t' o ad c l v hU.h hS.h q
    simp[execOp,k.sim.ev y,d]
   ·cases h
  ·cases h
theorem Zau {t t':TypeId}{x y:Operand}{a:IntKind}{i j:Int}{b:Bool}(c:ev fr x=some (.int a i))(d:ev fr y=some (.int a j))(h:decide (i<j)=b):Pu P n wr fr O (.binOp .lss t x y t') ty (.bool b):=h▸Pu_lss c d
theorem Zbl {t t':TypeId}{x y:Operand}{a:IntKind}{i j:Int}{b:Bool}(c:ev fr x=some (.int a i))(d:ev fr y=some (.int a j))(h:decide (i<=j)=b):Pu P n wr fr O (.binOp .leq t x y t') ty (.bool b):=h▸Pu_leq c d
theorem Zav {t t':TypeId}{x y:Operand}{a:IntKind}{i j:Int}{b:Bool}(c:ev fr x=some (.int a i))(d:ev fr y=some (.int a j))(h:decide (j<i)=b):Pu P n wr fr O (.binOp .gtr t x y t') ty (.bool b):=h▸Pu_gtr c d
theorem ZbF {t t':TypeId}{x y:Operand}{a:IntKind}{i j:Int}{b:Bool}(c:ev fr x=some (.int a i))(d:ev fr y=some (.int a j))(h:decide (j<=i)=b):Pu P n wr fr O (.binOp .geq t x y t') ty (.bool b):=h▸Pu_geq c d
theorem Zap {t t':TypeId}{x y:Operand}{a:IntKind}{i j:Int}{b:Bool}(c:ev fr x=some (.int a i))(d:ev fr y=some (.int a j))(h:decide (i=j)=b):Pu P n wr fr O (.binOp .eql t x y t') ty (.bool b):=h▸Pu_eql c d
theorem Zal {t t':TypeId}{x y:Operand}{a:IntKind}{i j:Int}{b:Bool}(c:ev fr x=some (.int a i))(d:ev fr y=some (.int a j))(h:(!decide (i=j))=b):Pu P n wr fr O (.binOp .neq t x y t') ty (.bool b):=h▸Pu_neq c d
theorem Zci {t t':TypeId}{x y:Operand}{i j:ByteArray}{b:Bool}(a:ev fr x=some (.string i))(c:ev fr y=some (.string j))(h:decide (i=j)=b):Pu P n wr fr O (.binOp .eql t x y t') ty (.bool b):=h▸Pu_eqlS a c
theorem ZcT {t t':TypeId}{x y:Operand}{i j:ByteArray}{b:Bool}(a:ev fr x=some (.string i))(c:ev fr y=some (.string j))(h:(!decide (i=j))=b):Pu P n wr fr O (.binOp .neq t x y t') ty (.bool b):=h▸Pu_neqS a c
end
end Go.Wk
namespace Go.Proofs.YtpipekfmecikmaaGreatDoor
open Go Go.RowKit Go.Wk Tryz
attribute [local irreducible] W RL Does Zaq Zai retQ Calls Pu Stp RD Qy Ay Zaj
theorem Zhh {l:List DRule}{e:Zac}{r:DRule}(h:l[e.rule.toNat]?=some r):ruE l e=r:=by
 unfold ruE
 rw[List.getD_eq_getElem?_getD,h];rfl
def stV (x:Int × ByteArray):Value := .agg #[.int .i64 x.1,.string x.2]
theorem ZC1 {G:Prop}(h:G:=by(exact PuI)):G:=h
theorem ZCu {G:Prop}(h:G:=by first|(apply Qy_y;rfl;exact ZC1)|exact QyA):G:=h
theorem ZCB {G:Prop}(h:G:=by repeat (exact QF.nil)):G:=h
theorem ZcS (A:Option Addr)(c:Nat)(l:List DRule)(e:Zac)(w:World)(a:RdSl w A c DRule.enc 11 l)(f:0<=e.rule/\e.rule<l.length) :
  Does prog 225 [.slice A l.length c,.agg e.enc.toArray] w (fun v O=>v=stV (behS l e)/\O=[]):=by
 obtain⟨r,d⟩:∃ r,l[e.rule.toNat]?=some r:=⟨_,List.getElem?_eq_getElem (by omega)⟩
 have g:=a.le
 have b:=a.cap
 simp only[maxLen]at b
 unfold behS
 rw[Zhh d]
 obtain⟨hna,hca⟩:=a.rd _ _ d
 obtain⟨y,q,n⟩:=e
 dsimp only at f d hca
 show Does _ _ [_,.agg #[.int .i64 y,.int .i64 q,.int .i64 n]] w _
 refine Zaa func225 rfl rfl rfl rfl ?_
 repeat (first|(apply RD_Q;rfl;rfl;decide +kernel;rfl;rfl;exact ZCu)|refine walk1 ?_|(refine jn ?_;(try intro F);(first|(refine bx ?_;intro j)|(refine stA ?_));first|refine⟨_,EndsA,ZCB,?_⟩|refine fin ?_))
 exact ret_1 _ [] (.cellB rfl cS_ rfl rfl) .nil ⟨rfl,rfl⟩
theorem Zo6 (A:Option Addr)(c:Nat)(l:List DRule)(w:World)(e:RdSl w A c DRule.enc 11 l):Does prog 222 [.slice A l.length c] w (fun v O=>v = .int .i64 (max (Zae l) (-10800))/\O=[]):=by
 have q:=e.le
 have f:=e.cap
 unfold maxLen at f
 generalize hres:Zae l=res
 unfold Zae at hres
 have j:(if res < -10800 then -10800 else res)=max res (-10800):=by split <;> omega
 refine Zaa func222 rfl rfl rfl rfl ?_
 repeat (refine walk ?_)
 refine Zah [(6,_),(7,_)] [] (fun g:Nat × Int=>[(3,.int .i64 g.2),(8,.int .i64 g.1)]) (fun _=>[]) (fun g=>g.1<=l.length/\(l.drop g.1).foldl (fun m r=>min m r.save) g.2=res) (fun g=>l.length - g.1) (0,0) SFA SOA ⟨Nat.zero_le _,hres⟩ ?_
 rintro⟨k,m⟩ ⟨hk,hi⟩
 dsimp only at hk hi ⊢
 repeat (refine walk ?_)
 refine Zaf rfl (fun h=>?_) (fun h=>?_)
 ·have d:k<l.length:=by simpa using h
  obtain⟨hna,hca⟩:=e.rd k _ (List.getElem?_eq_getElem d)
  rw[Zag d]at hi
  generalize l[k]=r at *
  obtain⟨z,fr,B,y,⟨u,x,dd⟩,⟨cs,t⟩,sv,le⟩:=r
  simp only[DRule.enc,List.foldl_cons]at hca hi
  repeat (first|(apply RL_pu;rfl;(first|exact PuI|(apply ZfP;rfl;rfl)))|(refine js ?_;(refine bx ?_;intro s))|refine walk1 ?_)
  rw[show(if sv<m then sv else m)=min m sv by split <;> omega]
  exact⟨(k+1,min m sv),OA,⟨OA,hi⟩,SFA,.nil⟩
 ·have i:k=l.length:=by
   have:=of_decide_eq_false h
   omega
  subst i
  rw[List.drop_length]at hi
  obtain rfl:m=res:=hi
  repeat (first|(apply RL_pu;rfl;(apply Zdz;rfl;rfl;exact j))|refine walk1 ?_)
  exact rtA
theorem Zzh {G:Prop}(h:G:=by(first|(apply Zau;rfl;rfl;exact b1)|(apply Zav;rfl;rfl;exact b2))):G:=h
theorem ZpQ (a b:Int)(c : -4000000000000000000<=a/\a<=4000000000000000000)(d : -4000000000000000000<=b/\b<=4000000000000000000)(w:World):Does prog 166 [.int .i64 a,.int .i64 b] w (fun v O=>v = .tuple #[.int .i64 (a - b),.bool true]/\O=[]):=by
 refine Zaa func166 rfl rfl rfl rfl ?_
 by_cases h:0<b
 ·have b1:decide (a - b<a)=true:=dT_ (by omega)
  have b2:decide (0<b)=true:=dT_ h
  repeat (first|(apply RL_pu;rfl;exact Zzh)|refine walk1 ?_)
  exact rtB
 ·have b1:decide (a - b<a)=false:=dF_ (by omega)
  have b2:decide (0<b)=false:=dF_ h
  repeat (first|(apply RL_pu;rfl;exact Zzh)|refine walk1 ?_)
  exact rtB
theorem Zff (Z:It)(x t:Int)(c d:Nat)(wr:World)(hx : -2000000000000000000<=x/\x<=2000000000000000000)(f : -2000000000000000000<=t/\t<=2000000000000000000) :
  Zaj prog 221 [.int .i64 x,.pointer (some ⟨c,0,none⟩),.pointer (some ⟨d,0,none⟩)] wr [Z,.blk c [.int .i64 t] 2,.blk d [.bool true] 4] (fun v O'=>v = .tuple #[]/\O'=[Z,.blk c [.int .i64 (t - x)] 2,.blk d [.bool true] 4]):=by
 have e:=fun w'=>ZpQ t x (by omega) (by omega) w'
 refine ZbA func221 rfl rfl rfl rfl ?_
 repeat (first|(refine js ?_;(refine Zab (fun w' _=>e w') ?_))|refine walk ?_)
 exact ZsT [Z,.blk c [.int .i64 (t - x)] 2,.blk d [.bool true] 4] SOA ⟨rfl,rfl⟩
