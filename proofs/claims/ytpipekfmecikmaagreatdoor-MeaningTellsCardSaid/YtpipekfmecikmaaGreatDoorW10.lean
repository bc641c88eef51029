/- Parts of the proof. -/
import Derived.Test.YtpipekfmecikmaaGreatDoorW09
import Derived.Test.YtpipekfmecikmaaGreatDoorW06
import Derived.Laws.Externs
import Derived.Test.YtpipekfmecikmaaGreatDoorW07
import Derived.Scope
import Derived.Laws.IdiomStrings
set_option maxHeartbeats 4000000
set_option linter.unusedVariables false
set_option linter.unusedSimpArgs false
namespace Go.Wk
open Go Go.RowKit
def cmpI (a b:Int):Int:=if a<b then -1 else if b<a then 1 else 0
def iEnc (i:Int):List Value:=[.int .i64 i]
def ZbM:List Int->Int
 | []=>0
 | x::l=>if x=0 then ZbM l else x
theorem Zth (a b:Zac):ordE a b=ZbM [cmpI a.nominal b.nominal,cmpI a.rule b.rule,cmpI a.year b.year]:=by
 unfold ordE cmpI ZbM ZbM ZbM ZbM
 repeat' split
 all_goals omega
end Go.Wk
namespace Go.Proofs.YtpipekfmecikmaaGreatDoor
open Go Go.RowKit Go.Wk
attribute [local irreducible] W RL Does Zat Zaj retQ Calls Pu Stp RD Qy Ay Zak
theorem ZjY (a:Int)(w:World):Does Tryz.prog 185 [.int .i64 a] w (fun v O=>v = .bool false/\O=[]):=by
 refine Zaa Tryz.func185 rfl rfl rfl rfl ?_
 repeat (first|refine walk ?_)
 exact ret_1 _ [] (.tmp rfl) .nil ⟨by simp,rfl⟩
theorem Zmq (a:Int)(w:World):Does Tryz.prog 186 [.int .i64 a] w (fun v O=>v = .bool false/\O=[]):=by
 refine Zaa Tryz.func186 rfl rfl rfl rfl ?_
 repeat (first|refine walk ?_)
 exact ret_1 _ [] (.tmp rfl) .nil ⟨by simp,rfl⟩
theorem Zkj (a b:Int)(w:World):Does Tryz.prog 123 [.int .i64 a,.int .i64 b] w (fun v O=>v = .int .i64 (cmpI a b)/\O=[]):=by
 refine Zaa Tryz.func123 rfl rfl rfl rfl ?_
 repeat' (first|(refine js ?_;(first|(refine Zab (fun w' _=>ZjY a w') ?_)|(refine Zab (fun w' _=>ZjY b w') ?_)))|refine walk ?_|(refine Zaf rfl (fun c=>?_) (fun c=>?_)))
 all_goals first|(refine ret_1 _ [] (.tmp rfl) .nil ⟨?_,rfl⟩;first|rfl|(simp only[*,Bool.true_and,Bool.false_and,Bool.true_or,Bool.false_or,Bool.not_true,Bool.not_false];done)|(simp_all [cmpI];done)|(simp_all [cmpI];omega)|(simp_all [cmpI];rw[Bool.eq_iff_iff];simp;omega))|(exfalso;simp_all [cmpI];done)|(exfalso;simp_all [cmpI];omega)|(exfalso;omega)
theorem Zt5 (a b:Int)(w:World):Does Tryz.prog 124 [.int .i64 a,.int .i64 b] w (fun v O=>v = .int .i64 (cmpI a b)/\O=[]):=by
 refine Zaa Tryz.func124 rfl rfl rfl rfl ?_
 repeat' (first|(refine js ?_;(first|(refine Zab (fun w' _=>Zmq a w') ?_)|(refine Zab (fun w' _=>Zmq b w') ?_)))|refine walk ?_|(refine Zaf rfl (fun c=>?_) (fun c=>?_)))
 all_goals first|(refine ret_1 _ [] (.tmp rfl) .nil ⟨?_,rfl⟩;first|rfl|(simp only[*,Bool.true_and,Bool.false_and,Bool.true_or,Bool.false_or,Bool.not_true,Bool.not_false];done)|(simp_all [cmpI];done)|(simp_all [cmpI];omega)|(simp_all [cmpI];rw[Bool.eq_iff_iff];simp;omega))|(exfalso;simp_all [cmpI];done)|(exfalso;simp_all [cmpI];omega)|(exfalso;omega)
theorem ZzN (A:Option Addr)(c:Nat)(l:List Int)(w:World)(j:RdSl w A c iEnc 1 l):Does Tryz.prog 122 [.slice A l.length c] w (fun v O=>v = .int .i64 (ZbM l)/\O=[]):=by
 have s:=j.le
 have m:=j.cap
 unfold maxLen at m
 obtain⟨f,d⟩:∃ f,ZbM l=f:=⟨_,rfl⟩
 rw[d]
 refine Zaa Tryz.func122 rfl rfl rfl rfl ?_
 repeat (first|refine walk ?_)
 refine Zai [(6,_),(7,_),(3,_)] [] (fun k:Nat=>[(8,.int .i64 k)]) (fun _=>[]) (fun k=>k<=l.length/\ZbM (l.drop k)=f) (fun k=>l.length - k) 0 SFA SOA ⟨Nat.zero_le _,d⟩ ?_
 rintro k ⟨t,e⟩
 repeat (first|refine walk ?_)
 refine Zaf rfl (fun h=>?_) (fun h=>?_)
 ·have g:k<l.length:=by simpa using h
  obtain⟨hna,hca⟩:=j.rd k _ (List.getElem?_eq_getElem g)
  rw[Zah g,ZbM]at e
  generalize l[k]=r at *
  repeat (first|(apply RL_pu;rfl;exact PuI)|refine walk1 ?_)
  refine Zaf rfl (fun i=>?_) (fun i=>?_)
  ·rw[if_neg (by simpa using i)]at e
   repeat (first|refine walk ?_)
   exact ret_1 _ [] (.tmp rfl) .nil ⟨by rw[<- e],rfl⟩
  ·rw[if_pos (by simpa using i)]at e
   repeat (first|refine walk ?_)
   exact⟨k+1,OA,⟨OA,e⟩,SFA,.nil⟩
 ·have q:k=l.length:=by
   have:=of_decide_eq_false h
   omega
  subst q
  rw[List.drop_length]at e
  repeat (first|refine walk ?_)
  exact ret_1 _ [] (.tmp rfl) .nil ⟨by rw[<- e];rfl,rfl⟩
theorem ZoV {α:Type}{enc:α->List Value}{sz c:Nat}{ad:Addr}{l:List α}{w:World}(a:∀ x,(enc x).length=sz)(b:l.length<=c)(d:c<=maxLen)(h:Zau w ad (l.flatMap enc)):RdSl w (some ad) c enc sz l :=
 ⟨b,d,fun k x f=>⟨by simp,fun j v e=>by
  rw[ZbB]
  exact h _ v (ZaC a l k x j v f e)⟩⟩
theorem ZjW (a b:Zac)(w:World):Does Tryz.prog 84 [.agg (Zac.enc a).toArray,.agg (Zac.enc b).toArray] w (fun v O=>v = .int .i64 (ordE a b)/\O=[]):=by
 rw[Zth]
 obtain⟨y,r,n⟩:=a
 obtain⟨j,f,e⟩:=b
 dsimp only
 have m:=Zkj n e
 have p:=Zt5 r f
 have q:=Zkj y j
 generalize cmpI n e=x1 at *
 generalize cmpI r f=x2 at *
 generalize cmpI y j=x3 at *
 have s:=fun(c:Nat) w' (u:Zau w' ⟨c,0,none⟩ [.int .i64 x1,.int .i64 x2,.int .i64 x3])=>ZzN (some ⟨c,0,none⟩) 3 [x1,x2,x3] w' (ZoV (fun _=>rfl) (Nat.le_refl 3) (by decide) u)
 show Does _ _ [.agg #[.int .i64 y,.int .i64 r,.int .i64 n],.agg #[.int .i64 j,.int .i64 f,.int .i64 e]] w _
 refine Zaa Tryz.func84 rfl rfl rfl rfl ?_
 repeat (first|refine walk ?_|(refine jg ?_;(try intro F);(first|(refine Zab (fun w' _=>m w') ?_)|(refine Zab (fun w' _=>p w') ?_)|(refine Zab (fun w' _=>q w') ?_)|(apply Zae (h:=fun w' _ t=>s _ w' (t.cells (by repeat' constructor)));rfl;rintro v O' ⟨rfl,rfl⟩)|(refine bx ?_;intro c));refine fin ?_)|(refine jn ?_;(try intro F);(first|(refine bx ?_;intro c)|(apply Zad;exact PuA));refine fin ?_)|(apply RD_W;rfl;intro c))
 exact rtA
end Go.Proofs.YtpipekfmecikmaaGreatDoor
namespace Go.Wk
open Go Go.RowKit
section
variable {P:Program}{n:Nat}{wr:World}{fr:Fr}{O:List It}{ty:TypeId}
theorem ZAH {x y z:Operand}{m:Array TypeId}{k:IntKind}{i j l q:Int}(c:ev fr x=some (.int k i))(d:ev fr y=some (.int k j))(e:ev fr z=some (.int k l))(h:max (max i j) l=q):Pu P n wr fr O (.call ⟨.builtin .max,#[x,y,z],m⟩) ty (.int k q):=by
 have f:(if i<j then j else i)=max i j:=by split <;> omega
 have g:(if max i j<l then l else max i j)=q:=by rw[<- h];split <;> omega
 exact fun a w b _ _ _ _=>by
  simp only[execOp,resolve,invoke,builtin,Builtin.max_,Builtin.max2,b.sim.ev c,b.sim.ev d,b.sim.ev e]
  simp[execOp,resolve,invoke,builtin,Builtin.max_,Builtin.max2,b.sim.ev c,b.sim.ev d,b.sim.ev e,f,g]
end
end Go.Wk
namespace Go.Proofs.YtpipekfmecikmaaGreatDoor
open Go Go.RowKit Go.Wk
attribute [local irreducible] W RL Does Zat Zaj retQ Calls Pu Stp RD Qy Ay Zak
theorem ZvS {G:Prop}(h:G:=by(first|exact PuI|(apply Pu_loadO1;rfl;first|exact c1 0 _ rfl|exact c2 0 _ rfl|exact c3 0 _ rfl|exact hcell)|(apply ZAH;rfl;rfl;rfl;exact hy0))):G:=h
theorem Zyj {G:Prop}(h:G:=by first|(apply Qy_y;rfl;exact ZvS)|exact QyA):G:=h
theorem ZBQ {G:Prop}(h:G:=by repeat (first|exact QF.nil|(apply QF.mk;rfl;rfl;decide +kernel;exact Zyj))):G:=h
theorem Zq1 {G:Prop}(h:G:=by(apply Pu_loadO1;rfl;first|exact c1 0 _ rfl|exact c2 0 _ rfl|exact c3 0 _ rfl)):G:=h
theorem Zo7 (A:Option Addr)(c:Nat)(l:List DRule)(i:Nat)(r:DRule)(x f:Int)(D E H:Nat)(w:World)(R:Glob w)(M:RdSl w A c DRule.enc 11 l)(K:l[i]?=some r)(U:l.length<=1000000)(S:∀ r∈l,-4611686018427387904<=r.save/\r.save<=4611686018427387904)
  (hy : -2000000000<=x/\x<=2000000000) (hf:r.from_<=4611686018427387904) (c1:Zau w ⟨D,0,none⟩ [.slice A l.length c]) (c2:Zau w ⟨E,0,none⟩ [.int .i64 x]) (c3:Zau w ⟨H,0,none⟩ [.int .i64 f]) :
  Does Tryz.prog 220 [.int .i64 i,.pointer (some ⟨D,0,none⟩),.pointer (some ⟨E,0,none⟩),.pointer (some ⟨H,0,none⟩)] w (fun v O=>v = .tuple #[evV (evIn (Zag l) f r i (max (max r.from_ (-2000000000)) (x - 2)) 20),.bool (evIn (Zag l) f r i (max (max r.from_ (-2000000000)) (x - 2)) 20).isSome]/\O=[]):=by
 have T:i<l.length:=(List.getElem?_eq_some_iff.1 K).1
 obtain⟨s,hy0⟩:∃ s,max (max r.from_ (-2000000000)) (x - 2)=s:=⟨_,rfl⟩
 have W : -3000000000<=s/\s<=4611686018427387904:=by omega
 rw[hy0]
 obtain⟨t,u⟩:∃ t,evIn (Zag l) f r i s 20=t:=⟨_,rfl⟩
 rw[u]
 have L:=fun y w' (Q:Bel w.heap.size w w')=>ZfU A c l i y r w' (R.up Q) (M.up Q) K U S
 obtain⟨hna,hca⟩:=M.rd i _ K
 generalize Zag l=least at *
 have J:((DRule.enc r)[1]?)=some (.int .i64 r.from_):=rfl
 have hcell:w.cell? (((adr A).add (i*11)).add 1)=some (.int .i64 r.from_):=hca 1 _ J
 refine Zaa Tryz.func220 rfl rfl rfl rfl ?_
 repeat (first|(apply RL_pu;rfl;exact ZvS)|(apply RD_Q;rfl;rfl;decide +kernel;rfl;rfl;exact Zyj)|refine walk1 ?_|(refine jn ?_;(try intro F);(first|(refine bx ?_;intro m)|(refine stA ?_)|(apply Zad;first|exact ZvS|exact PuA));first|refine⟨_,EndsA,ZBQ,?_⟩|refine fin ?_)|(apply RD_W;rfl;intro m))
 refine Zai [(0,.int .i64 i),(1,.pointer (some ⟨D,0,none⟩)),(2,.pointer (some ⟨E,0,none⟩)),(3,.pointer (some ⟨H,0,none⟩)),(7,.int .i64 s),(5,.pointer (some ⟨m,0,none⟩))] [.blk m [.int .i64 0,.int .i64 0,.int .i64 0] 91] (fun j:Nat=>[(19,.int .i64 j)]) (fun _=>[]) (fun j=>j<=20/\evIn least f r i (s+j) (20 - j)=t) (fun j=>20 - j) 0 SFA SOA ⟨Nat.zero_le _,by simpa using u⟩ ?_
 rintro j ⟨hj,q⟩
 repeat (first|refine walk ?_|(refine jn ?_;(try intro F);(first|(refine bx ?_;intro m)|(refine stA ?_)|(apply Zad;exact PuA));refine fin ?_)|(apply RD_W;rfl;intro m))
 refine Zaf rfl (fun h=>?_) (fun h=>?_)
 ·have N:j<20:=by have:=of_decide_eq_true h;omega
  rw[show 20 - j=(19 - j)+1 by omega,evIn]at q
  have z:=L (s+j)
  generalize onR least r i (s+j)=o at *
  cases o with
  | none =>
   simp only[evV,Zac.enc,dEv0,Option.isSome]at z
   repeat (first|(apply RL_pu;rfl;exact Zq1)|(apply RD_Q;rfl;rfl;decide +kernel;rfl;rfl;exact QyEvA1)|refine walk1 ?_|(refine jg ?_;(try intro F);(first|(refine Zab z ?_)|(refine bx ?_;intro m)|(refine stA ?_));first|refine⟨_,EndsA,QFEvA1,?_⟩|refine fin ?_)|(refine jn ?_;(try intro F);(first|(refine bx ?_;intro m)|(refine stA ?_)|(apply Zad;first|exact Zq1|exact PuA));first|refine⟨_,EndsA,QFEvA1,?_⟩|refine fin ?_)|(apply RD_W;rfl;intro m))
   exact⟨j+1,OA,⟨OA,by rw[show 20 - (j+1)=19 - j by omega,show s+((j+1:Nat):Int)=s+j+1 by omega];exact q⟩,SFA,SOA⟩
  | some e =>
   obtain⟨Z,Y,X⟩:=e
   simp only[evV,Zac.enc,Option.isSome]at z q
   repeat (first|(apply RL_pu;rfl;exact Zq1)|(apply RD_Q;rfl;rfl;decide +kernel;rfl;rfl;exact QyEvA1)|refine walk1 ?_|(refine jg ?_;(try intro F);(first|(refine Zab z ?_)|(refine bx ?_;intro m)|(refine stA ?_));first|refine⟨_,EndsA,QFEvA1,?_⟩|refine fin ?_)|(refine jn ?_;(try intro F);(first|(refine bx ?_;intro m)|(refine stA ?_)|(apply Zad;first|exact Zq1|exact PuA));first|refine⟨_,EndsA,QFEvA1,?_⟩|refine fin ?_)|(apply RD_W;rfl;intro m))
   refine Zaf rfl (fun I=>?_) (fun I=>?_)
   ·rw[if_pos (of_decide_eq_true I)]at q
    subst q
    repeat (first|refine walk ?_|(refine jn ?_;(try intro F);(first|(refine bx ?_;intro m)|(refine stA ?_)|(apply Zad;exact PuA));refine fin ?_)|(apply RD_W;rfl;intro m))
    exact rtC
   ·rw[if_neg (of_decide_eq_false I)]at q
    repeat (first|refine walk ?_|(refine jn ?_;(try intro F);(first|(refine bx ?_;intro m)|(refine stA ?_)|(apply Zad;exact PuA));refine fin ?_)|(apply RD_W;rfl;intro m))
    exact⟨j+1,OA,⟨OA,by rw[show 20 - (j+1)=19 - j by omega,show s+((j+1:Nat):Int)=s+j+1 by omega];exact q⟩,SFA,SOA⟩
 ·obtain rfl:j=20:=by have:=of_decide_eq_false h;omega
  obtain rfl:none=t:=by rw[<- q];rfl
  repeat (first|refine walk ?_|(refine jn ?_;(try intro F);(first|(refine bx ?_;intro m)|(refine stA ?_)|(apply Zad;exact PuA));refine fin ?_)|(apply RD_W;rfl;intro m))
  exact rtC
def evC:Option Zac->List Value
 | some e=>Zac.enc e
 | none=>Zac.enc dEv0
structure BG where
 k:Nat
 b:Option Zac
theorem Zuh (A:Option Addr)(c:Nat)(l:List DRule)(s d:Int)(t u x:Nat)(w:World)(Q:Glob w)(M:RdSl w A c DRule.enc 11 l)(R:l.length<=1000000)(F:∀ r∈l,(-4611686018427387904<=r.save/\r.save<=4611686018427387904)/\r.from_<=4611686018427387904)
  (T : -2000000000<=s/\s<=2000000000) (J:Zau w ⟨t,0,none⟩ [.slice A l.length c]) (K:Zau w ⟨u,0,none⟩ [.int .i64 s]) (L:Zau w ⟨x,0,none⟩ [.int .i64 d]) :
  Does Tryz.prog 79 [.slice A l.length c,.func (.func 220) #[] #[.pointer (some ⟨t,0,none⟩),.pointer (some ⟨u,0,none⟩),.pointer (some ⟨x,0,none⟩)],.func (.func 84) #[] #[]] w
   (fun v O=>v = .tuple #[evV (Zby (Zag l) d s l 0 none),.bool (Zby (Zag l) d s l 0 none).isSome]/\O=[]):=by
 have H:=fun(i:Nat) r (j:l[i]?=some r) w' (m:Bel w.heap.size w w')=>Zo7 A c l i r s d t u x w' (Q.up m) (M.up m) j R (fun r S=>(F r S).1) T (F r (List.mem_of_getElem? j)).2 (J.up m (Nat.le_refl _)) (K.up m (Nat.le_refl _)) (L.up m (Nat.le_refl _))
 obtain⟨z,y⟩:∃ z,Zby (Zag l) d s l 0 none=z:=⟨_,rfl⟩
 rw[y]
 generalize Zag l=least at *
 clear M F J K L
 refine Zaa Tryz.func79 rfl rfl rfl rfl ?_
 repeat (first|(refine js ?_;(refine bx ?_;intro q))|refine walk ?_)
 rename_i I
 refine Zai [(13,.slice A l.length c),(1,.func (.func 220) #[] #[.pointer (some ⟨t,0,none⟩),.pointer (some ⟨u,0,none⟩),.pointer (some ⟨x,0,none⟩)]),(2,.func (.func 84) #[] #[]),(8,.pointer (some ⟨q,0,none⟩)),(6,.pointer (some ⟨I,0,none⟩)),(14,.int .i64 l.length)] [.blk I [.int .i64 0,.int .i64 0,.int .i64 0] 91]
  (fun g:BG=>[(15,.int .i64 g.k),(9,.bool g.b.isSome)]) (fun g=>[.blk q (evC g.b) 91]) (fun g=>g.k<=l.length/\Zby least d s (l.drop g.k) g.k g.b=z) (fun g=>l.length - g.k) ⟨0,none⟩ SFA SOA ⟨Nat.zero_le _,y⟩ ?_
 rintro⟨k,b⟩ ⟨hk,j⟩
 dsimp only at hk j ⊢
 repeat (first|(refine js ?_;(refine bx ?_;intro q))|refine walk ?_)
 refine Zaf rfl (fun h=>?_) (fun h=>?_)
 ·have B:k<l.length:=by simpa using h
  have C:=H k _ (List.getElem?_eq_getElem B)
  rw[Zah B,Zby]at j
  generalize evIn least d l[k] k (max (max l[k].from_ (-2000000000)) (s - 2)) 20=o at *
  have D:=fun e N w'=>ZjW e N w'
  rcases o with _|⟨ey,er,en⟩ <;> rcases b with _|⟨by_,br,bn⟩ <;> simp only[evV,evC,Zac.enc,dEv0,Option.isSome]at C j ⊢
  ·repeat (first|refine und ?_|(refine js ?_;(first|(apply Zar (f:=220) (us:=[]) (vs:=[.int .i64 k]) (cs:=[.pointer (some ⟨t,0,none⟩),.pointer (some ⟨u,0,none⟩),.pointer (some ⟨x,0,none⟩)]) (h:=fun w' m _=>C w' m);rfl;rfl;rintro v O' ⟨rfl,rfl⟩)|(refine bx ?_;intro q)))|refine walk ?_)
   exact⟨⟨k+1,none⟩,OA,⟨OA,j⟩,SFA,SOA⟩
  ·repeat (first|refine und ?_|(refine js ?_;(first|(apply Zar (f:=220) (us:=[]) (vs:=[.int .i64 k]) (cs:=[.pointer (some ⟨t,0,none⟩),.pointer (some ⟨u,0,none⟩),.pointer (some ⟨x,0,none⟩)]) (h:=fun w' m _=>C w' m);rfl;rfl;rintro v O' ⟨rfl,rfl⟩)|(refine bx ?_;intro q)))|refine walk ?_)
   exact⟨⟨k+1,some ⟨by_,br,bn⟩⟩,OA,⟨OA,j⟩,SFA,SOA⟩
  ·repeat (first|refine und ?_|(refine js ?_;(first|(apply Zar (f:=220) (us:=[]) (vs:=[.int .i64 k]) (cs:=[.pointer (some ⟨t,0,none⟩),.pointer (some ⟨u,0,none⟩),.pointer (some ⟨x,0,none⟩)]) (h:=fun w' m _=>C w' m);rfl;rfl;rintro v O' ⟨rfl,rfl⟩)|(refine bx ?_;intro q)))|refine walk ?_)
   exact⟨⟨k+1,some ⟨ey,er,en⟩⟩,OA,⟨OA,j⟩,SFA,SOA⟩
  ·repeat (first|refine und ?_|(refine js ?_;(first|(apply Zar (f:=220) (us:=[]) (vs:=[.int .i64 k]) (cs:=[.pointer (some ⟨t,0,none⟩),.pointer (some ⟨u,0,none⟩),.pointer (some ⟨x,0,none⟩)]) (h:=fun w' m _=>C w' m);rfl;rfl;rintro v O' ⟨rfl,rfl⟩)|(apply Zar (f:=84) (us:=[]) (cs:=[]) (vs:=[.agg #[.int .i64 ey,.int .i64 er,.int .i64 en],.agg #[.int .i64 by_,.int .i64 br,.int .i64 bn]]) (h:=fun w' m _=>D ⟨ey,er,en⟩ ⟨by_,br,bn⟩ w');rfl;rfl;rintro v O' ⟨rfl,rfl⟩)|(refine bx ?_;intro q)))|refine walk ?_)
   refine Zaf rfl (fun E=>?_) (fun E=>?_)
   ·rw[if_pos (of_decide_eq_true E)]at j
    repeat (first|(refine js ?_;(refine bx ?_;intro q))|refine walk ?_)
    exact⟨⟨k+1,some ⟨ey,er,en⟩⟩,OA,⟨OA,j⟩,SFA,SOA⟩
   ·rw[if_neg (of_decide_eq_false E)]at j
    repeat (first|(refine js ?_;(refine bx ?_;intro q))|refine walk ?_)
    exact⟨⟨k+1,some ⟨by_,br,bn⟩⟩,OA,⟨OA,j⟩,SFA,SOA⟩
 ·obtain rfl:k=l.length:=by have:=of_decide_eq_false h;omega
  rw[List.drop_length,Zby]at j
  subst j
  rcases b with _|⟨by_,br,bn⟩ <;> simp only[evC,Zac.enc,dEv0]
  ·repeat (first|(refine js ?_;(refine bx ?_;intro q))|refine walk ?_)
   exact rtC
  ·repeat (first|(refine js ?_;(refine bx ?_;intro q))|refine walk ?_)
   exact rtC
theorem Zfw (t:Int) : -2000000000<=ZaE t/\ZaE t<=2000000000:=by unfold ZaE;omega
def RsOk (l:List DRule):Prop:=∀ r∈l,(-4611686018427387904<=r.save/\r.save<=4611686018427387904)/\r.from_<=4611686018427387904
theorem Zsj (A:Option Addr)(c:Nat)(l:List DRule)(a:Int)(w:World)(r:Glob w)(t:RdSl w A c DRule.enc 11 l)(x:l.length<=1000000)(u:RsOk l)(y : -4611686018427387904<=a/\a<=4611686018427387904) :
  Does Tryz.prog 167 [.slice A l.length c,.int .i64 a] w (fun v O=>v = .tuple #[evV (ZeF l a),.bool (ZeF l a).isSome]/\O=[]):=by
 have f:=fun(g i j:Nat) w' (b:Bel w.heap.size w w') m p q=>Zuh A c l (ZaE a) a g i j w' (r.up b) (t.up b) x u (Zfw a) m p q
 change ∀ (g i j:Nat) w' (b:Bel w.heap.size w w') m p q,Does _ _ _ w' (fun v O=>v = .tuple #[evV (ZeF l a),.bool (ZeF l a).isSome]/\O=[]) at f
 have e:=fun w' (b:Bel w.heap.size w w')=>ZlM a y w' (r.up b)
 generalize ZeF l a=res at *
 generalize ZaE a=yr at *
 refine Zaa Tryz.func167 rfl rfl rfl rfl ?_
 rcases res with _|⟨ey,er,en⟩ <;> simp only[evV,Zac.enc,dEv0,Option.isSome]at f ⊢
 ·repeat (first|(refine js ?_;(first|(refine Zab e ?_)|(apply Zae (h:=fun w' b d=>f _ _ _ w' b (d.cells (by repeat' constructor)) (d.cells (by repeat' constructor)) (d.cells (by repeat' constructor)));rfl;rintro v O' ⟨rfl,rfl⟩)|(refine bx ?_;intro s)))|refine walk ?_)
  exact rtC
 ·repeat (first|(refine js ?_;(first|(refine Zab e ?_)|(apply Zae (h:=fun w' b d=>f _ _ _ w' b (d.cells (by repeat' constructor)) (d.cells (by repeat' constructor)) (d.cells (by repeat' constructor)));rfl;rintro v O' ⟨rfl,rfl⟩)|(refine bx ?_;intro s)))|refine walk ?_)
  exact rtC
def EvOk (o:Option Zac):Prop:=∀ e,o=some e -> -200000000000000000<=e.nominal/\e.nominal<=200000000000000000
theorem ZpZ (least:Int)(f:least<=0)(r:DRule)(i y:Int):EvOk (onR least r i y):=by
 intro e a
 unfold onR at a
 split at a
 ·cases a
 ·rename_i c
  split at a
  ·cases a
  ·have d:=Zem y r.month r.day
   have b:ZaI r.at_=true:=by
    cases b:ZaI r.at_
    ·exact absurd (.inr (.inr b)) c
    ·rfl
   simp only[ZaI,Bool.and_eq_true,decide_eq_true_eq]at b
   simp only[Option.some.injEq]at a
   subst a
   dsimp only
   split <;> omega
theorem ZoP (least a:Int)(c:least<=0)(r:DRule)(i:Int):∀ (k:Nat) (y:Int),EvOk (evIn least a r i y k)
 | 0,_=>fun e b=>by cases b
 | k+1,y=>by
  rw[evIn]
  have h:=ZpZ least c r i y
  split
  ·rename_i e b
   split
   ·intro f d;cases d;exact h e b
   ·exact ZoP least a c r i k (y+1)
  ·exact ZoP least a c r i k (y+1)
theorem Zkt (least a c:Int)(f:least<=0):∀ (l:List DRule) (i:Nat) (b:Option Zac),EvOk b->EvOk (Zby least a c l i b)
 | [],_,_,h=>h
 | r::l,i,b,h=>by
  rw[Zby]
  refine Zkt least a c f l (i+1) _ ?_
  have d:=ZoP least a f r i 20 (max (max r.from_ (-2000000000)) (c - 2))
  generalize evIn least a r i (max (max r.from_ (-2000000000)) (c - 2)) 20=o at *
  cases o with
  | none=>exact h
  | some e =>
   cases b with
   | none=>exact d
   | some x =>
    dsimp only
    split
    ·exact d
    ·exact h
theorem Zzu {G:Prop}(h:G:=by(first|(apply ZgN;rfl;rfl;exact h1)|(apply Zds;rfl;rfl;exact h2))):G:=h
theorem ZwT (A:Option Addr)(c:Nat)(l:List DRule)(a:Int)(w:World)(p:Glob w)(m:RdSl w A c DRule.enc 11 l)(t:l.length<=1000000)(g:RsOk l)(x : -1000000000000000000<=a/\a<=1000000000000000000) :
  Does Tryz.prog 242 [.slice A l.length c,.int .i64 a] w (fun v O=>v = .bool (farD l a)/\O=[]):=by
 have d:=fun w' (i:Bel w.heap.size w w')=>Zsj A c l (a - 259200) w' (p.up i) (m.up i) t g (by omega)
 have f:EvOk (ZeF l (a - 259200)):=Zkt _ _ _ (Zev l fun r u=>(g r u).1).2 l 0 none (fun e s=>by cases s)
 unfold farD
 generalize ZeF l (a - 259200)=res at *
 have h1:(if 1152921504606846976<a then (1152921504606846976:Int) else a)=a:=if_neg (by omega)
 have h2:(if (-1152921504606846976:Int)<a then a else -1152921504606846976)=a:=if_pos (by omega)
 refine Zaa Tryz.func242 rfl rfl rfl rfl ?_
 rcases res with _|⟨ey,er,en⟩ <;> simp only[evV,Zac.enc,dEv0,Option.isSome]at d ⊢
 ·repeat' (first|(apply RL_pu;rfl;exact Zzu)|(refine js ?_;(first|(refine Zab d ?_)|(refine bx ?_;intro j)))|refine walk1 ?_|refine und ?_|(refine Zam rfl rfl rfl (fun b=>?_) (fun b=>?_))|(refine Zas rfl rfl rfl (fun b=>?_) (fun b=>?_))|(refine Zaf rfl (fun b=>?_) (fun b=>?_)))
  exact rtA
 ·have q:=f _ rfl
  dsimp only at q
  repeat' (first|(apply RL_pu;rfl;exact Zzu)|(refine js ?_;(first|(refine Zab d ?_)|(refine bx ?_;intro j)))|refine walk1 ?_|refine und ?_|(refine Zam rfl rfl rfl (fun b=>?_) (fun b=>?_))|(refine Zas rfl rfl rfl (fun b=>?_) (fun b=>?_))|(refine Zaf rfl (fun b=>?_) (fun b=>?_)))
  exact rtA
theorem ZvV {G:Prop}(h:G:=by(first|exact PuI|(apply Pu_loadO1;rfl;first|exact c1 0 _ rfl|exact c2 0 _ rfl|exact c3 0 _ rfl)|(apply ZgN;rfl;rfl;exact hmn))):G:=h
theorem Zym {G:Prop}(h:G:=by first|(apply Qy_y;rfl;exact ZvV)|exact QyA):G:=h
theorem Zyy {G:Prop}(h:G:=by repeat (first|exact QF.nil|(apply QF.mk;rfl;rfl;decide +kernel;exact Zym))):G:=h
theorem Zq4 {G:Prop}(h:G:=by(apply Pu_loadO1;rfl;first|exact c1 0 _ rfl|exact c2 0 _ rfl|exact c3 0 _ rfl)):G:=h
theorem Zni (A:Option Addr)(c:Nat)(l:List DRule)(i:Nat)(r:DRule)(x f:Int)(E H I:Nat)(w:World)(Y:Glob w)(S:RdSl w A c DRule.enc 11 l)(K:l[i]?=some r)(hn:l.length<=1000000)(Z:∀ r∈l,-4611686018427387904<=r.save/\r.save<=4611686018427387904)
  (hy : -2000000000<=x/\x<=2000000000) (hf : -4611686018427387904<=r.to) (c1:Zau w ⟨E,0,none⟩ [.slice A l.length c]) (c2:Zau w ⟨H,0,none⟩ [.int .i64 x]) (c3:Zau w ⟨I,0,none⟩ [.int .i64 f]) :
  Does Tryz.prog 80 [.int .i64 i,.pointer (some ⟨E,0,none⟩),.pointer (some ⟨H,0,none⟩),.pointer (some ⟨I,0,none⟩)] w (fun v O=>v = .tuple #[evV (beIn (Zag l) f r i (min (lastY r) (x+2)) 20),.bool (beIn (Zag l) f r i (min (lastY r) (x+2)) 20).isSome]/\O=[]):=by
 have hlt:i<l.length:=(List.getElem?_eq_some_iff.1 K).1
 obtain⟨s,z⟩:∃ s,min (lastY r) (x+2)=s:=⟨_,rfl⟩
 have hlb : -4611686018427387904<=lastY r/\lastY r<=2000000000:=by
  unfold lastY
  split <;> omega
 have hyb : -4611686018427387904<=s/\s<=2000000002:=by omega
 have hmn:(if x+2<lastY r then x+2 else lastY r)=s:=by rw[<- z];split <;> omega
 have L:=fun w'=>Zj1 r w'
 rw[z]
 obtain⟨t,u⟩:∃ t,beIn (Zag l) f r i s 20=t:=⟨_,rfl⟩
 rw[u]
 have M:=fun y w' (U:Bel w.heap.size w w')=>ZfU A c l i y r w' (Y.up U) (S.up U) K hn Z
 obtain⟨hna,hca⟩:=S.rd i _ K
 generalize Zag l=least at *
 generalize lastY r=ly at *
 clear z
 obtain⟨X,fr,to,W,⟨Q,R,dd⟩,⟨cs,N⟩,sv,le⟩:=r
 change Zau w _ [.string X,.int .i64 fr,.int .i64 to,.int .i64 W,.int .i64 Q,.int .i64 R,.int .i64 dd,.int .i64 cs,.int .i64 N,.int .i64 sv,.string le]at hca
 refine Zaa Tryz.func80 rfl rfl rfl rfl ?_
 repeat (first|(apply RL_pu;rfl;exact ZvV)|(apply RD_Q;rfl;rfl;decide +kernel;rfl;rfl;exact Zym)|refine walk1 ?_|(refine jg ?_;(try intro F);(first|(refine Zab (fun w' _=>L w') ?_)|(refine bx ?_;intro m)|(refine stA ?_));first|refine⟨_,EndsA,Zyy,?_⟩|refine fin ?_)|(refine jn ?_;(try intro F);(first|(refine bx ?_;intro m)|(refine stA ?_)|(apply Zad;first|exact ZvV|exact PuA));first|refine⟨_,EndsA,Zyy,?_⟩|refine fin ?_)|(apply RD_W;rfl;intro m))
 refine Zai [(0,.int .i64 i),(1,.pointer (some ⟨E,0,none⟩)),(2,.pointer (some ⟨H,0,none⟩)),(3,.pointer (some ⟨I,0,none⟩)),(7,.int .i64 s),(5,.pointer (some ⟨m,0,none⟩))] [.blk m [.int .i64 0,.int .i64 0,.int .i64 0] 91] (fun j:Nat=>[(19,.int .i64 j)]) (fun _=>[]) (fun j=>j<=20/\beIn least f ⟨X,fr,to,W,⟨Q,R,dd⟩,⟨cs,N⟩,sv,le⟩ i (s - j) (20 - j)=t) (fun j=>20 - j) 0 SFA SOA ⟨Nat.zero_le _,by simpa using u⟩ ?_
 rintro j ⟨hj,q⟩
 repeat (first|refine walk ?_|(refine jn ?_;(try intro F);(first|(refine bx ?_;intro m)|(refine stA ?_)|(apply Zad;exact PuA));refine fin ?_)|(apply RD_W;rfl;intro m))
 refine Zaf rfl (fun h=>?_) (fun h=>?_)
 ·have T:j<20:=by have:=of_decide_eq_true h;omega
  rw[show 20 - j=(19 - j)+1 by omega,beIn]at q
  have D:=M (s - j)
  generalize onR least _ i (s - j)=o at *
  cases o with
  | none =>
   simp only[evV,Zac.enc,dEv0,Option.isSome]at D
   repeat (first|(apply RL_pu;rfl;exact Zq4)|(apply RD_Q;rfl;rfl;decide +kernel;rfl;rfl;exact QyBfA1)|refine walk1 ?_|(refine jg ?_;(try intro F);(first|(refine Zab D ?_)|(refine bx ?_;intro m)|(refine stA ?_));first|refine⟨_,EndsA,QFBfA1,?_⟩|refine fin ?_)|(refine jn ?_;(try intro F);(first|(refine bx ?_;intro m)|(refine stA ?_)|(apply Zad;first|exact Zq4|exact PuA));first|refine⟨_,EndsA,QFBfA1,?_⟩|refine fin ?_)|(apply RD_W;rfl;intro m))
   exact⟨j+1,OA,⟨OA,by rw[show 20 - (j+1)=19 - j by omega,show s - ((j+1:Nat):Int)=s - j - 1 by omega];exact q⟩,SFA,SOA⟩
  | some e =>
   obtain⟨ey,er,en⟩:=e
   simp only[evV,Zac.enc,Option.isSome]at D q
   repeat (first|(apply RL_pu;rfl;exact Zq4)|(apply RD_Q;rfl;rfl;decide +kernel;rfl;rfl;exact QyBfA1)|refine walk1 ?_|(refine jg ?_;(try intro F);(first|(refine Zab D ?_)|(refine bx ?_;intro m)|(refine stA ?_));first|refine⟨_,EndsA,QFBfA1,?_⟩|refine fin ?_)|(refine jn ?_;(try intro F);(first|(refine bx ?_;intro m)|(refine stA ?_)|(apply Zad;first|exact Zq4|exact PuA));first|refine⟨_,EndsA,QFBfA1,?_⟩|refine fin ?_)|(apply RD_W;rfl;intro m))
   refine Zaf rfl (fun J=>?_) (fun J=>?_)
   ·rw[if_pos (of_decide_eq_true J)]at q
    subst q
    repeat (first|refine walk ?_|(refine jn ?_;(try intro F);(first|(refine bx ?_;intro m)|(refine stA ?_)|(apply Zad;exact PuA));refine fin ?_)|(apply RD_W;rfl;intro m))
    exact rtC
   ·rw[if_neg (of_decide_eq_false J)]at q
    repeat (first|refine walk ?_|(refine jn ?_;(try intro F);(first|(refine bx ?_;intro m)|(refine stA ?_)|(apply Zad;exact PuA));refine fin ?_)|(apply RD_W;rfl;intro m))
    exact⟨j+1,OA,⟨OA,by rw[show 20 - (j+1)=19 - j by omega,show s - ((j+1:Nat):Int)=s - j - 1 by omega];exact q⟩,SFA,SOA⟩
 ·obtain rfl:j=20:=by have:=of_decide_eq_false h;omega
  obtain rfl:none=t:=by rw[<- q];rfl
  repeat (first|refine walk ?_|(refine jn ?_;(try intro F);(first|(refine bx ?_;intro m)|(refine stA ?_)|(apply Zad;exact PuA));refine fin ?_)|(apply RD_W;rfl;intro m))
  exact rtC
theorem Znh (a b:Zac)(w:World):Does Tryz.prog 83 [.agg (Zac.enc a).toArray,.agg (Zac.enc b).toArray] w (fun v O=>v = .int .i64 (ordE b a)/\O=[]):=by
 have h:=fun w'=>ZjW b a w'
 obtain⟨y,r,n⟩:=a
 obtain⟨e,d,c⟩:=b
 show Does _ _ [.agg #[.int .i64 y,.int .i64 r,.int .i64 n],.agg #[.int .i64 e,.int .i64 d,.int .i64 c]] w _
 refine Zaa Tryz.func83 rfl rfl rfl rfl ?_
 repeat (first|(refine js ?_;(first|(refine Zab (fun w' _=>h w') ?_)|(refine bx ?_;intro f)))|refine walk ?_)
 exact rtA
theorem Zsg (A:Option Addr)(c:Nat)(l:List DRule)(s d:Int)(t u x:Nat)(w:World)(Q:Glob w)(M:RdSl w A c DRule.enc 11 l)(R:l.length<=1000000)(F:∀ r∈l,(-4611686018427387904<=r.save/\r.save<=4611686018427387904)/\(r.from_<=4611686018427387904/\-4611686018427387904<=r.to))
  (T : -2000000000<=s/\s<=2000000000) (J:Zau w ⟨t,0,none⟩ [.slice A l.length c]) (K:Zau w ⟨u,0,none⟩ [.int .i64 s]) (L:Zau w ⟨x,0,none⟩ [.int .i64 d]) :
  Does Tryz.prog 79 [.slice A l.length c,.func (.func 80) #[] #[.pointer (some ⟨t,0,none⟩),.pointer (some ⟨u,0,none⟩),.pointer (some ⟨x,0,none⟩)],.func (.func 83) #[] #[]] w
   (fun v O=>v = .tuple #[evV (Zfb (Zag l) d s l 0 none),.bool (Zfb (Zag l) d s l 0 none).isSome]/\O=[]):=by
 have H:=fun(i:Nat) r (j:l[i]?=some r) w' (m:Bel w.heap.size w w')=>Zni A c l i r s d t u x w' (Q.up m) (M.up m) j R (fun r S=>(F r S).1) T (F r (List.mem_of_getElem? j)).2.2 (J.up m (Nat.le_refl _)) (K.up m (Nat.le_refl _)) (L.up m (Nat.le_refl _))
 obtain⟨z,y⟩:∃ z,Zfb (Zag l) d s l 0 none=z:=⟨_,rfl⟩
 rw[y]
 generalize Zag l=least at *
 clear M F J K L
 refine Zaa Tryz.func79 rfl rfl rfl rfl ?_
 repeat (first|(refine js ?_;(refine bx ?_;intro q))|refine walk ?_)
 rename_i I
 refine Zai [(13,.slice A l.length c),(1,.func (.func 80) #[] #[.pointer (some ⟨t,0,none⟩),.pointer (some ⟨u,0,none⟩),.pointer (some ⟨x,0,none⟩)]),(2,.func (.func 83) #[] #[]),(8,.pointer (some ⟨q,0,none⟩)),(6,.pointer (some ⟨I,0,none⟩)),(14,.int .i64 l.length)] [.blk I [.int .i64 0,.int .i64 0,.int .i64 0] 91]
  (fun g:BG=>[(15,.int .i64 g.k),(9,.bool g.b.isSome)]) (fun g=>[.blk q (evC g.b) 91]) (fun g=>g.k<=l.length/\Zfb least d s (l.drop g.k) g.k g.b=z) (fun g=>l.length - g.k) ⟨0,none⟩ SFA SOA ⟨Nat.zero_le _,y⟩ ?_
 rintro⟨k,b⟩ ⟨hk,j⟩
 dsimp only at hk j ⊢
 repeat (first|(refine js ?_;(refine bx ?_;intro q))|refine walk ?_)
 refine Zaf rfl (fun h=>?_) (fun h=>?_)
 ·have B:k<l.length:=by simpa using h
  have C:=H k _ (List.getElem?_eq_getElem B)
  rw[Zah B,Zfb]at j
  generalize beIn least d l[k] k (min (lastY l[k]) (s+2)) 20=o at *
  have D:=fun e N w'=>Znh e N w'
  rcases o with _|⟨ey,er,en⟩ <;> rcases b with _|⟨by_,br,bn⟩ <;> simp only[evV,evC,Zac.enc,dEv0,Option.isSome]at C j ⊢
  ·repeat (first|refine und ?_|(refine js ?_;(first|(apply Zar (f:=80) (us:=[]) (vs:=[.int .i64 k]) (cs:=[.pointer (some ⟨t,0,none⟩),.pointer (some ⟨u,0,none⟩),.pointer (some ⟨x,0,none⟩)]) (h:=fun w' m _=>C w' m);rfl;rfl;rintro v O' ⟨rfl,rfl⟩)|(refine bx ?_;intro q)))|refine walk ?_)
   exact⟨⟨k+1,none⟩,OA,⟨OA,j⟩,SFA,SOA⟩
  ·repeat (first|refine und ?_|(refine js ?_;(first|(apply Zar (f:=80) (us:=[]) (vs:=[.int .i64 k]) (cs:=[.pointer (some ⟨t,0,none⟩),.pointer (some ⟨u,0,none⟩),.pointer (some ⟨x,0,none⟩)]) (h:=fun w' m _=>C w' m);rfl;rfl;rintro v O' ⟨rfl,rfl⟩)|(refine bx ?_;intro q)))|refine walk ?_)
   exact⟨⟨k+1,some ⟨by_,br,bn⟩⟩,OA,⟨OA,j⟩,SFA,SOA⟩
  ·repeat (first|refine und ?_|(refine js ?_;(first|(apply Zar (f:=80) (us:=[]) (vs:=[.int .i64 k]) (cs:=[.pointer (some ⟨t,0,none⟩),.pointer (some ⟨u,0,none⟩),.pointer (some ⟨x,0,none⟩)]) (h:=fun w' m _=>C w' m);rfl;rfl;rintro v O' ⟨rfl,rfl⟩)|(refine bx ?_;intro q)))|refine walk ?_)
   exact⟨⟨k+1,some ⟨ey,er,en⟩⟩,OA,⟨OA,j⟩,SFA,SOA⟩
  ·repeat (first|refine und ?_|(refine js ?_;(first|(apply Zar (f:=80) (us:=[]) (vs:=[.int .i64 k]) (cs:=[.pointer (some ⟨t,0,none⟩),.pointer (some ⟨u,0,none⟩),.pointer (some ⟨x,0,none⟩)]) (h:=fun w' m _=>C w' m);rfl;rfl;rintro v O' ⟨rfl,rfl⟩)|(apply Zar (f:=83) (us:=[]) (cs:=[]) (vs:=[.agg #[.int .i64 ey,.int .i64 er,.int .i64 en],.agg #[.int .i64 by_,.int .i64 br,.int .i64 bn]]) (h:=fun w' m _=>D ⟨ey,er,en⟩ ⟨by_,br,bn⟩ w');rfl;rfl;rintro v O' ⟨rfl,rfl⟩)|(refine bx ?_;intro q)))|refine walk ?_)
   refine Zaf rfl (fun E=>?_) (fun E=>?_)
   ·rw[if_pos (of_decide_eq_true E)]at j
    repeat (first|(refine js ?_;(refine bx ?_;intro q))|refine walk ?_)
    exact⟨⟨k+1,some ⟨ey,er,en⟩⟩,OA,⟨OA,j⟩,SFA,SOA⟩
   ·rw[if_neg (of_decide_eq_false E)]at j
    repeat (first|(refine js ?_;(refine bx ?_;intro q))|refine walk ?_)
    exact⟨⟨k+1,some ⟨by_,br,bn⟩⟩,OA,⟨OA,j⟩,SFA,SOA⟩
 ·obtain rfl:k=l.length:=by have:=of_decide_eq_false h;omega
  rw[List.drop_length,Zfb]at j
  subst j
  rcases b with _|⟨by_,br,bn⟩ <;> simp only[evC,Zac.enc,dEv0]
  ·repeat (first|(refine js ?_;(refine bx ?_;intro q))|refine walk ?_)
   exact rtC
  ·repeat (first|(refine js ?_;(refine bx ?_;intro q))|refine walk ?_)
   exact rtC
def ZBv (l:List DRule):Prop:=∀ r∈l,(-4611686018427387904<=r.save/\r.save<=4611686018427387904)/\(r.from_<=4611686018427387904/\-4611686018427387904<=r.to)
theorem ZfV (A:Option Addr)(c:Nat)(l:List DRule)(a:Int)(w:World)(r:Glob w)(t:RdSl w A c DRule.enc 11 l)(x:l.length<=1000000)(u:ZBv l)(y : -4611686018427387904<=a/\a<=4611686018427387904) :
  Does Tryz.prog 42 [.slice A l.length c,.int .i64 a] w (fun v O=>v = .tuple #[evV (befD l a),.bool (befD l a).isSome]/\O=[]):=by
 have f:=fun(g i j:Nat) w' (b:Bel w.heap.size w w') m p q=>Zsg A c l (ZaE a) a g i j w' (r.up b) (t.up b) x u (Zfw a) m p q
 change ∀ (g i j:Nat) w' (b:Bel w.heap.size w w') m p q,Does _ _ _ w' (fun v O=>v = .tuple #[evV (befD l a),.bool (befD l a).isSome]/\O=[]) at f
 have e:=fun w' (b:Bel w.heap.size w w')=>ZlM a y w' (r.up b)
 generalize befD l a=res at *
 generalize ZaE a=yr at *
 refine Zaa Tryz.func42 rfl rfl rfl rfl ?_
 rcases res with _|⟨ey,er,en⟩ <;> simp only[evV,Zac.enc,dEv0,Option.isSome]at f ⊢
 ·repeat (first|(refine js ?_;(first|(refine Zab e ?_)|(apply Zae (h:=fun w' b d=>f _ _ _ w' b (d.cells (by repeat' constructor)) (d.cells (by repeat' constructor)) (d.cells (by repeat' constructor)));rfl;rintro v O' ⟨rfl,rfl⟩)|(refine bx ?_;intro s)))|refine walk ?_)
  exact rtC
 ·repeat (first|(refine js ?_;(first|(refine Zab e ?_)|(apply Zae (h:=fun w' b d=>f _ _ _ w' b (d.cells (by repeat' constructor)) (d.cells (by repeat' constructor)) (d.cells (by repeat' constructor)));rfl;rintro v O' ⟨rfl,rfl⟩)|(refine bx ?_;intro s)))|refine walk ?_)
  exact rtC
end Go.Proofs.YtpipekfmecikmaaGreatDoor
namespace Go.Wk
open Go Go.RowKit
section
variable {P:Program}{n:Nat}{wr:World}{fr:Fr}{O:List It}{ty:TypeId}{pos:String}{af:Array Edge}{dst:Option Tmp}{g:Option (Nat × Bool)}{Kp:Value->List It->Prop}
theorem Zhe {t kt et:Nat}{x:Operand}{m:IntKind}{i:Int}[hM:MapT P t kt et](l:ev fr x=some (.int m i))(k:∀ b,Kp (.map (some b)) (.mp b []::O)):Stp P n wr fr O ⟨dst,.makeMap t (some x),ty,pos,af,g⟩ Kp :=
 ZbQ fun a w c=>by
  have f:Bel w.heap.size w (w.alloc (.map #[] 0)):=(Bel.refl _ _).alloc (Nat.le_refl _) _
  have j:=MapT.parts hM.h
  refine⟨.map (some w.heap.size),w.alloc (.map #[] 0),_,?_,c.old.trans (f.mono c.old.size),c.own.grow (O':=[.mp w.heap.size []]) f c.old.size ⟨fun i e=>?_,fun i e b d=>?_,List.pairwise_singleton _ _⟩,k _⟩
  ·simp[execOp,c.sim.ev l,Instr.makeMap,run_underlying j,asInt,asIntOf,newObj,Sem.run]
  ·rw[List.mem_singleton.1 e]
   exact⟨#[],0,heap_alloc_new w _,rfl,ZpN⟩
  ·rw[List.mem_singleton.1 e]at d
   simp only[It.S]at d
   subst d
   exact⟨Nat.le_refl _,by simp⟩
theorem Zfe (a:Array MapEntry)(j:Nat):(a.eraseIdxIfInBounds j).toList=a.toList.eraseIdx j:=by
 unfold Array.eraseIdxIfInBounds
 split
 ·simp
 ·rw[List.eraseIdx_of_length_le (by simp;omega)]
theorem Zrc {b:Array MapEntry}{c:Nat}(h:stOk b c)(j:Nat):stOk (b.eraseIdxIfInBounds j) c:=by
 unfold stOk
 rw[Zfe]
 have a:((b.toList.eraseIdx j).map (·.born)).Sublist (b.toList.map (·.born)):=(List.eraseIdx_sublist _ _).map _
 exact⟨h.1.sublist a,fun n d=>h.2 n (a.subset d)⟩
theorem Zsk {t t2 kt et b:Nat}{x A:Operand}{m:List (ByteArray × Value)}{k:ByteArray}{O':List It}[hM:MapT P t kt et][StringT P kt](s:ev fr x=some (.map (some b)))(r:ev fr A=some (.string k))
  (v:Upd O (.mp b m) (.mp b (mdel m k)) O') (B:Kp (.tuple #[]) O'):Stp P n wr fr O ⟨dst,.call ⟨.builtin .delete,#[x,A],#[t,t2]⟩,ty,pos,af,g⟩ Kp :=
 ZbQ fun a w d=>by
  have z:=MapT.parts hM.h
  obtain⟨f,c,l,o,y⟩:=d.own.sat _ v.mem
  have q:=Zmv k m f.toList 0 o
  cases hfi:Zep m k 0 with
  | none =>
   rw[hfi]at q
   have e:=d.setMap (es':=f) (c':=c) v (by unfold Zcr;rw[q];exact o) y
   refine⟨.tuple #[],_,O',?_,e.1,e.2,B⟩
   simp only[execOp,resolve,invoke,builtin,Builtin.delete_,d.sim.ev s,d.sim.ev r]
   simp[d.sim.ev s,d.sim.ev r,Builtin.delete_,run_underlying z,Zbh l,Zcp _ k 9999,ZcO k m f.toList w o,hfi,setObj,Sem.run,l]
  | some p =>
   obtain⟨j,u⟩:=p
   rw[hfi]at q
   obtain⟨_,i⟩:=q
   rw[Nat.sub_zero]at i
   have e:=d.setMap (es':=f.eraseIdxIfInBounds j) (c':=c) v (by unfold Zcr;rw[Zfe];exact i) (Zrc y j)
   refine⟨.tuple #[],_,O',?_,e.1,e.2,B⟩
   simp only[execOp,resolve,invoke,builtin,Builtin.delete_,d.sim.ev s,d.sim.ev r]
   simp[d.sim.ev s,d.sim.ev r,Builtin.delete_,run_underlying z,Zbh l,Zcp _ k 9999,ZcO k m f.toList w o,hfi,setObj,Sem.run,l]
def MpAt (w:World)(b:Nat)(m:List (ByteArray × Value)):Prop:=(It.mp b m).sat w
theorem MpAt.up {w w':World}{b:Nat}{m:List (ByteArray × Value)}{B:Nat}(h:MpAt w b m)(e:Bel B w w')(d:w.heap.size<=B):MpAt w' b m:=by
 refine It.sat_congr h fun k f=>?_
 obtain rfl:k=b:=f
 obtain⟨g,c,a,_⟩:=h
 exact e.block k (Nat.lt_of_lt_of_le (Array.getElem?_eq_some_iff.1 a).1 d)
theorem Znq {t kt et b:Nat}{x a:Operand}{m:List (ByteArray × Value)}{k:ByteArray}{z v:Value}[hM:MapT P t kt et][StringT P kt][ZeroV P et z](g:ev fr x=some (.map (some b)))(c:ev fr a=some (.string k))
  (d:MpAt wr b m) (e:(mget m k).getD z=v):Pu P n wr fr O (.lookup t x a false) ty v:=e▸Zsm (kt:=kt) (et:=et) g c (fun _ f _=>d.up f (Nat.le_refl _))
theorem Zfj {t kt et b:Nat}{x e:Operand}{m:List (ByteArray × Value)}{k:ByteArray}{z v:Value}{c:Bool}[hM:MapT P t kt et][StringT P kt][ZeroV P et z](j:ev fr x=some (.map (some b)))(g:ev fr e=some (.string k))
  (h:MpAt wr b m) (i:(mget m k).getD z=v) (f:(mget m k).isSome=c):Pu P n wr fr O (.lookup t x e true) ty (.tuple [v,.bool c].toArray) :=
 fun a w d _ _ _ _=>by
  have:=ZeN (P:=P) (t:=t) (kt:=kt) (et:=et) (k:=k) (z:=z) (h.up d.old (Nat.le_refl _)) true
  simp only[execOp,d.sim.ev j,d.sim.ev g,Sem.run_bind,this,Result.andThen_ok,Sem.run_pure]
  rw[<- i,<- f]
  rfl
theorem Zpj {t t' kt et:Nat}{x:Operand}{p:Option Nat}[hM:MapT P t kt et](f:ev fr x=some (.map p)):Pu P n wr fr O (.binOp .eql t x (.const (.map none)) t') ty (.bool p.isNone) :=
 fun a w c _ _ _ _=>by
  have e:=MapT.parts hM.h
  have h:(binOp .eql t (.map p) (.map none)).run P w = .ok (.bool p.isNone) w:=by
   simp only[binOp]
   have:∀ d,(Op.equalIn (d+1) t (.map p) (.map none)).run P w = .ok p.isNone w:=fun d=>by cases p <;> simp[Op.equalIn,run_underlying e]
   rw[show Op.equal t (.map p) (.map none)=Op.equalIn (9999+1) t (.map p) (.map none) from rfl]
   simp only[Sem.run_bind,this 9999,Result.andThen_ok,Sem.run_pure]
  have b:a.eval (.const (.map none)) = .map none:=rfl
  simp[execOp,c.sim.ev f,b,eqGuard,h]
theorem Zpi {t kt et:Nat}{x:Operand}{v:Value}[hM:MapT P t kt et](d:ev fr x=some v):Pu P n wr fr O (.makeInterface t x) ty (.iface t v) :=
 fun a w b _ _ _ _=>by
  have c:=MapT.parts hM.h
  simp[execOp,b.sim.ev d,Instr.makeInterface,run_underlying c]
theorem Znw {t e kt et:Nat}{x:Operand}{v:Value}[hM:MapT P t kt et](d:ev fr x=some (.iface t v)):Pu P n wr fr O (.typeAssert x e t false) ty v :=
 fun a w b _ _ _ _=>by
  have c:=MapT.parts hM.h
  simp[execOp,b.sim.ev d,Instr.typeAssert,run_underlying c]
def ZtG (P:Program)(f:FuncId):Prop:=∀ (args:Array Value) (w:World),(callFunc f args).run P w=((Extern.MapsClone.clone args).run P w).andThen fun v w' => .ok (.value v) w'
theorem Zlt {f t b:Nat}{x:Operand}{D:Array TypeId}{m:List (ByteArray × Value)}(z:ZtG P f)(B:ev fr x=some (.iface t (.map (some b))))(A:∀ w,Bel wr.heap.size wr w->Zaz wr.heap.size O w->MpAt w b m)
  (C:∀ q,Kp (.iface t (.map (some q))) (.mp q m::O)):Stp P n wr fr O ⟨dst,.call ⟨.value (.func f),#[x],D⟩,ty,pos,af,g⟩ Kp :=
 ZbQ fun a w d=>by
  obtain⟨j,c,u,v⟩:=A w d.old d.own
  have r:Bel w.heap.size w (w.alloc (.map j c)):=(Bel.refl _ _).alloc (Nat.le_refl _) _
  have h:(Extern.MapsClone.clone #[.iface t (.map (some b))]).run P w = .ok (.iface t (.map (some w.heap.size))) (w.alloc (.map j c)):=by
   have e:Extern.MapsClone.clone #[.iface t (.map (some b))]=(getObj b >>= fun o=>match o with
     | .map entries clock=>(newObj (.map entries clock) >>= fun n=>pure (.iface t (.map (some n))))
     | _=>stuck "maps.clone: a map expected"):=rfl
   rw[e]
   simp[Zbh u,newObj,Sem.run]
  refine⟨.iface t (.map (some w.heap.size)),w.alloc (.map j c),_,?_,d.old.trans (r.mono d.old.size),d.own.grow (O':=[.mp w.heap.size m]) r d.old.size ⟨fun i p=>?_,fun i p b k=>?_,List.pairwise_singleton _ _⟩,C _⟩
  ·have l:=d.sim.ev B
   have y:a.eval (.func f) = .func (.func f) #[] #[]:=rfl
   have s:=z #[.iface t (.map (some b))] w
   rw[h,Result.andThen_ok]at s
   simp[execOp,resolve,y,Deferred.ofValue,invoke,s,l]
  ·rw[List.mem_singleton.1 p]
   exact⟨j,c,heap_alloc_new w _,v⟩
  ·rw[List.mem_singleton.1 p]at k
   simp only[It.S]at k
   subst k
   exact⟨Nat.le_refl _,by simp⟩
end
def Nd (m:List (ByteArray × Value)):Prop:=(m.map (·.1)).Nodup
theorem ZfM (k:ByteArray):∀ m:List (ByteArray × Value),mget m k=none↔k ∉ m.map (·.1)
 | []=>by simp[mget]
 | (x,v)::r=>by
  simp only[mget,List.map_cons,List.mem_cons,not_or]
  by_cases h:k=x
  ·simp[h]
  ·simp[h,ZfM k r]
theorem Zg1 (k:ByteArray)(v:Value):∀ m:List (ByteArray × Value),k∈m.map (·.1)->(mset m k v).map (·.1)=m.map (·.1)
 | [],h=>by simp at h
 | (x,u)::r,h=>by
  simp only[mset]
  by_cases a:k=x
  ·simp[a]
  ·rw[if_neg a]
   simp only[List.map_cons,List.mem_cons,a,false_or]at h ⊢
   rw[Zg1 k v r h]
theorem ZfL (k:ByteArray)(v:Value):∀ m:List (ByteArray × Value),k ∉ m.map (·.1)->(mset m k v).map (·.1)=m.map (·.1)++[k]
 | [],_=>by simp[mset]
 | (x,u)::r,h=>by
  simp only[List.map_cons,List.mem_cons,not_or]at h
  simp only[mset,if_neg h.1,List.map_cons,ZfL k v r h.2,List.cons_append]
theorem Nd.set {m:List (ByteArray × Value)}(h:Nd m)(k:ByteArray)(v:Value):Nd (mset m k v):=by
 unfold Nd at h ⊢
 by_cases c:k∈m.map (·.1)
 ·rw[Zg1 k v m c];exact h
 ·rw[ZfL k v m c,List.nodup_append]
  exact⟨h,by simp,fun a f b d=>by simp only[List.mem_singleton]at d;subst d;exact fun e=>c (e▸f)⟩
theorem Zp1 (k:ByteArray):∀ m:List (ByteArray × Value),(mdel m k).Sublist m
 | []=>List.Sublist.slnil
 | (x,u)::r=>by
  simp only[mdel]
  split
  ·exact List.sublist_cons_self _ _
  ·exact(Zp1 k r).cons_cons _
theorem Nd.del {m:List (ByteArray × Value)}(h:Nd m)(k:ByteArray):Nd (mdel m k):=List.Nodup.sublist ((Zp1 k m).map _) h
theorem Zms (k x:ByteArray):∀ {m:List (ByteArray × Value)},Nd m->mget (mdel m k) x=if x=k then none else mget m x
 | [],_=>by simp[mdel,mget]
 | (y,u)::r,h=>by
  unfold Nd at h
  simp only[List.map_cons,List.nodup_cons]at h
  simp only[mdel]
  by_cases b:k=y
  ·subst b
   rw[if_pos rfl]
   by_cases a:x=k
   ·subst a
    rw[if_pos rfl]
    exact(ZfM x r).2 h.1
   ·rw[if_neg a,mget,if_neg a]
  ·rw[if_neg b]
   simp only[mget]
   by_cases a:x=y
   ·subst a
    rw[if_pos rfl,if_pos rfl,if_neg (fun e=>b e.symm)]
   ·rw[if_neg a,if_neg a,Zms k x h.2]
theorem Zp2 (k:ByteArray):∀ {m:List (ByteArray × Value)},(mget m k).isSome=true->(mdel m k).length+1=m.length
 | [],h=>by simp[mget]at h
 | (y,u)::r,h=>by
  simp only[mget]at h
  simp only[mdel]
  by_cases a:k=y
  ·simp[a]
  ·rw[if_neg a]at h ⊢
   simp[Zp2 k h]
theorem ZkY (k:ByteArray)(v:Value):∀ m:List (ByteArray × Value),(mset m k v).length<=m.length+1
 | []=>by simp[mset]
 | (y,u)::r=>by
  simp only[mset]
  split
  ·simp
  ·simp[ZkY k v r]
section
variable {P:Program}{n:Nat}{wr:World}{Q:Exit->Fr->List It->Prop}{fr:Fr}{O:List It}{K:Fr->List It->Prop}
theorem ZwQ {l:Nat}{rs:List ResultVar}{R:Value->List It->Prop}:¬ retQ P wr rs R (.goto l) fr O:=id
theorem ZAs {c:Code}(f:∀ l fr O,¬ Q (.goto l) fr O)(h:W P n wr c Q fr O):W P n wr (.scope c) Q fr O:=by
 intro a w g
 refine wp_scope_straight (wp_mono (h a w g) ?_)
 rintro e i w' ⟨fr',O',b,d⟩
 cases e with
 | goto l=>exact(f l _ _ d).elim
 | _=>exact⟨fr',O',b,d⟩
theorem ZAu {l:Nat}(h:Q .normal fr O):W P n wr (.label l) Q fr O:=fun _ _ a=>wp_label ⟨fr,O,a,h⟩
end
section
variable {P:Program}{n:Nat}{wr:World}{fr:Fr}{O:List It}{ty:TypeId}{pos:String}{af:Array Edge}{dst:Option Tmp}{g:Option (Nat × Bool)}{Kp:Value->List It->Prop}
theorem Znp {t len e sz b:Nat}{g:Bool}{x y:Operand}{h:Int}[hA:ArrT P t len e sz g](p:ev fr x=some (.pointer (some ⟨b,0,none⟩)))(q:ev fr y=some (.int .i64 h))(j:0<=h)(k:h<=len) :
  Pu P n wr fr O (.slice t x none (some y) none) ty (.slice (some ⟨b,0,none⟩) h.toNat len) :=
 fun a w d _ _ _ _=>by
  have h:=hA.h
  unfold Zkr at h
  split at h
  ·rename_i f u o
   split at h
   ·rename_i s i m
    simp only[Option.some.injEq,Prod.mk.injEq]at h
    obtain⟨rfl,rfl,rfl,rfl⟩:=h
    obtain⟨r,dd,c,l,_,_⟩:=Ty.parts m
    simp[execOp,d.sim.ev p,d.sim.ev q,Instr.sliceAt,run_underlying o,Instr.sureAddr,Instr.sliceBounds,run_sliceBound,j,k,sizeOf,ZaM c,Addr.add]
   ·cases h
  ·cases h
theorem Zjh {t sz b p:Nat}{x:Operand}{cs:List Value}{a:TypeId}{v:Value}{R:List It}[Ty P t sz false](e:ev fr x=some (.pointer (some ((adr (some ⟨b,0,none⟩)).add p))))
  (c:Pick (.blk b cs a) O R) (d:cs[p]?=some v):Pu P n wr fr O (.load t x) ty v :=
 Pu_loadB1 (by rw[e,show adr (some (⟨b,0,none⟩:Addr))=⟨b,0,none⟩ from rfl,Zb5,Nat.zero_add]) c d
theorem Znr {t sz b p:Nat}{x:Operand}{cs:List Value}{a:TypeId}{v:Value}{R:List It}[Ty P t sz false](e:ev fr x=some (.pointer (some ((⟨b,0,none⟩:Addr).add p))))
  (c:Pick (.blk b cs a) O R) (d:cs[p]?=some v):Pu P n wr fr O (.load t x) ty v :=
 Pu_loadB1 (by rw[e,Zb5,Nat.zero_add]) c d
theorem Zf9 {t:TypeId}{x:Operand}{i:Int}(a:ev fr x=some (.int .i64 i))(h : -9223372036854775807<=i/\i<=9223372036854775807):Pu P n wr fr O (.unOp .neg t x) ty (.int .i64 (-i)):=by
 have:=Pu_negW (P:=P) (n:=n) (wr:=wr) (O:=O) (ty:=ty) (t:=t) a
 rwa[Int.zero_sub,Zcm (by omega)]at this
def ZoW (c:UInt8):Value := .int .u8 (c.toNat:Int)
theorem Znv {t t' e sz b et c:Nat}{x:Operand}{A:Option Addr}{m:Nat}{l:List UInt8}{xs:List Value}{R:List It}[hE:ElemT P t e sz b][hU:IntT P e .u8][hS:StringT P t'](y:ev fr x=some (.slice A m c))
  (s:Pick (.row (.slice A m c) et 1 m xs) O R) (g:xs=l.map ZoW) (r:m=l.length) (p:A≠none):Pu P n wr fr O (.convert t t' x) ty (.string ⟨l.toArray⟩) :=
 fun a w k _ _ _ _=>by
  have h:=hE.h
  unfold ZgB at h
  split at h
  ·rename_i o v
   split at h
   ·simp only[Option.some.injEq,Prod.mk.injEq]at h
    obtain⟨rfl,_,_⟩:=h
    obtain⟨ad,rfl⟩:=Option.ne_none_iff_exists'.1 p
    subst r g
    have f:=k.own.sat _ (s.perm.mem_iff.2 List.mem_cons_self)
    have q:∀ j (i:j<l.length),w.cell? (ad.add j)=some (.int .u8 (l[j].toNat:Int)):=fun j i=>by
     have:=Za2 f (j:=j) (u:=ZoW l[j]) (by rw[List.getElem?_map,List.getElem?_eq_getElem i];rfl)
     exact this.2
    have d:=run_convert_bytes_back (P:=P) w t t' o ad c l v hU.h hS.h q
    simp[execOp,k.sim.ev y,d]
   ·cases h
  ·cases h
theorem Zaw {t t':TypeId}{x y:Operand}{a:IntKind}{i j:Int}{b:Bool}(c:ev fr x=some (.int a i))(d:ev fr y=some (.int a j))(h:decide (i<j)=b):Pu P n wr fr O (.binOp .lss t x y t') ty (.bool b):=h▸Pu_lss c d
theorem ZbF {t t':TypeId}{x y:Operand}{a:IntKind}{i j:Int}{b:Bool}(c:ev fr x=some (.int a i))(d:ev fr y=some (.int a j))(h:decide (i<=j)=b):Pu P n wr fr O (.binOp .leq t x y t') ty (.bool b):=h▸Pu_leq c d
theorem Zay {t t':TypeId}{x y:Operand}{a:IntKind}{i j:Int}{b:Bool}(c:ev fr x=some (.int a i))(d:ev fr y=some (.int a j))(h:decide (j<i)=b):Pu P n wr fr O (.binOp .gtr t x y t') ty (.bool b):=h▸Pu_gtr c d
theorem ZbG {t t':TypeId}{x y:Operand}{a:IntKind}{i j:Int}{b:Bool}(c:ev fr x=some (.int a i))(d:ev fr y=some (.int a j))(h:decide (j<=i)=b):Pu P n wr fr O (.binOp .geq t x y t') ty (.bool b):=h▸Pu_geq c d
theorem Zap {t t':TypeId}{x y:Operand}{a:IntKind}{i j:Int}{b:Bool}(c:ev fr x=some (.int a i))(d:ev fr y=some (.int a j))(h:decide (i=j)=b):Pu P n wr fr O (.binOp .eql t x y t') ty (.bool b):=h▸Pu_eql c d
theorem Zan {t t':TypeId}{x y:Operand}{a:IntKind}{i j:Int}{b:Bool}(c:ev fr x=some (.int a i))(d:ev fr y=some (.int a j))(h:(!decide (i=j))=b):Pu P n wr fr O (.binOp .neq t x y t') ty (.bool b):=h▸Pu_neq c d
theorem Zca {t t':TypeId}{x y:Operand}{i j:ByteArray}{b:Bool}(a:ev fr x=some (.string i))(c:ev fr y=some (.string j))(h:decide (i=j)=b):Pu P n wr fr O (.binOp .eql t x y t') ty (.bool b):=h▸Pu_eqlS a c
theorem Zcl {t t':TypeId}{x y:Operand}{i j:ByteArray}{b:Bool}(a:ev fr x=some (.string i))(c:ev fr y=some (.string j))(h:(!decide (i=j))=b):Pu P n wr fr O (.binOp .neq t x y t') ty (.bool b):=h▸Pu_neqS a c
end
end Go.Wk
