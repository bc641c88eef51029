/- Parts of the proof. -/
import Derived.Test.YtpipekfmecikmaaGreatDoorA07
set_option maxHeartbeats 0
set_option linter.all false
namespace Go.Proofs.YtpipekfmecikmaaGreatDoor
open Go Go.RowKit Go.Wk Tryz
attribute [local irreducible] W RL Does Zaq Zai retQ Calls Pu Stp RD Qy Ay
theorem ZoV (A:Option Addr)(c:Nat)(x:List DRule)(w:World)(f:RdSl w A c DRule.enc 11 x)(p:x.length<=1000000) :
  Does prog 271 [.slice A x.length c] w (ZgC 68 11 DRule.enc x):=by
 refine Zaa func271 rfl rfl rfl rfl ?_
 repeat (first|(refine js ?_;(refine bx ?_;intro d))|refine walk ?_)
 refine Zaf rfl (fun e=>?_) (fun e=>?_)
 ·obtain rfl:=f.none e
  refine Zdy 68 11 ?_
  repeat (first|(refine js ?_;(refine bx ?_;intro d))|refine walk ?_)
  exact ret_1 _ [.row (.slice none 0 0) 68 11 0 []] (.tmp rfl) SOA ⟨none,0,rfl,rfl⟩
 repeat (first|(refine js ?_;(first|(apply Zpf;rfl;rfl;(intro A' c';(focus repeat' constructor));(intro w' m _;exact(f.up m).rd.raw DRule.len (by decide));exact ZbU DRule.len x;exact Zqt oneR x;(simp only[maxLen];omega);omega;intro A' c' g i j)|(refine bx ?_;intro d)))|refine walk ?_)
 exact ret_1 _ _ (.tmp rfl) (.refl _) ⟨A',c',rfl,rfl⟩
theorem ZeH (k:ByteArray)(v:Value)(x:ByteArray):∀ m:List (ByteArray × Value),mget (mset m k v) x=if x=k then some v else mget m x
 | []=>by simp[mset,mget]
 | (y,u)::r=>by
  simp only[mset]
  split
  ·rename_i h;subst h;simp only[mget];split <;> simp_all
  ·rename_i h
   simp only[mget,ZeH k v x r]
   split
   ·rename_i a;subst a;rw[if_neg (fun e=>h e.symm)]
   ·rfl
def MpB (m:List (ByteArray × Value))(l:List ByteArray):Prop:=∀ x,(mget m x).getD (.bool false) = .bool (memB x l)
theorem MpB.set {m:List (ByteArray × Value)}{l:List ByteArray}(h:MpB m l)(y:ByteArray):MpB (mset m y (.bool true)) (l++[y]):=fun x=>by
 rw[ZeH,ZmG]
 by_cases e:x=y
 ·subst e;simp
 ·rw[if_neg e,h x];simp[show ¬ y=x from fun h=>e h.symm]
theorem MpB.nil:MpB [] []:=fun _=>rfl
structure MG (α:Type) where
 k:Nat
 A:Option Addr
 c:Nat
 m:Nat
 xs:List Value
 acc:List α
 mp:List (ByteArray × Value)
theorem ZrC (Ar Az Al As:Option Addr)(j q i cs:Nat)(a:DSource)(w:World)(s:Zam w Ar Az Al As j q i cs a)(z:a.rules.length<=1000000) :
  Does prog 174 [srcV Ar Az Al As j q i cs a] w (ZgC 9 1 ZaR (ZbM a.rules [])):=by
 generalize hres:ZbM a.rules []=res
 refine Zaa func174 rfl rfl rfl rfl ?_
 repeat (first|(refine js ?_;(refine bx ?_;intro d))|refine walk ?_)
 refine Zdy 9 1 ?_
 refine Zah [(3,_),(9,_),(10,_)] [] (fun g:MG ByteArray=>[(4,.slice g.A g.m g.c),(11,.int .i64 g.k)]) (fun g=>[.row (.slice g.A g.m g.c) 9 1 g.m g.xs,.mp _ g.mp]) (fun g=>g.k<=a.rules.length/\g.m=g.acc.length/\g.xs=g.acc.flatMap ZaR/\g.m<=g.k/\MpB g.mp g.acc/\ZbM (a.rules.drop g.k) g.acc=res) (fun g=>a.rules.length - g.k) ⟨0,none,0,0,[],[],[]⟩ ⟨rfl,rfl,rfl,rfl,rfl,trivial⟩ SOA ⟨by simp,rfl,rfl,Nat.le_refl _,.nil,by simpa using hres⟩ ?_
 rintro⟨k,A,c,m,xs,acc,mp⟩ ⟨hk,hm,hx,hmk,hp,hi⟩
 dsimp only at hk hm hx hmk hp hi ⊢
 repeat (first|(refine js ?_;(refine bx ?_;intro d))|refine walk ?_)
 refine Zaf rfl (fun f=>?_) (fun f=>?_)
 ·simp only[decide_eq_true_eq,Int.ofNat_lt]at f
  obtain⟨hna,hca⟩:=s.r.rd k _ (List.getElem?_eq_getElem f)
  have hnb:=hna
  have hcb:=hca
  rw[Zag f,ZbM]at hi
  generalize a.rules[k]=r at *
  repeat (first|(apply RL_pu;rfl;(first|exact PuI|(apply Zg8;rfl;rfl;(focus repeat' constructor);exact hp _)))|(refine js ?_;(refine bx ?_;intro d))|refine walk1 ?_)
  refine Zaf rfl (fun e=>?_) (fun e=>?_)
  ·simp only[Bool.not_eq_true']at e
   rw[e]at hi
   repeat (first|(apply RL_pu;rfl;exact PuI)|(refine js ?_;(first|(apply ZaC;rfl;rfl;(intro A' c';(focus repeat' constructor));(intro w' _ t;exact Zbr (t.of cS_));rfl;rfl;(simp only[maxLen];omega);omega;intro A' c' u x y)|(refine bx ?_;intro d)))|refine walk1 ?_)
   exact⟨⟨k+1,A',c',m+1,xs++ZaR r.name,acc++[r.name],mset mp r.name (.bool true)⟩,OA,⟨OA,by simp[hm],by rw[hx];exact ZbB acc r.name,OA,hp.set _,by rw[<- hi];simp⟩,SFA,SOA⟩
  simp only[Bool.not_eq_false']at e
  rw[e]at hi
  repeat (first|(refine js ?_;(refine bx ?_;intro d))|refine walk ?_)
  exact⟨⟨k+1,A,c,m,xs,acc,mp⟩,OA,⟨OA,hm,hx,OA,hp,by rw[<- hi];simp⟩,SFA,SOA⟩
 simp only[decide_eq_false_iff_not,Int.ofNat_lt]at f
 rw[List.drop_eq_nil_of_le (by omega),ZbM]at hi
 subst hi
 repeat (first|(refine js ?_;(refine bx ?_;intro d))|refine walk ?_)
 exact ret_1 _ [.row (.slice A acc.length c) 9 1 acc.length (acc.flatMap ZaR)] (.tmp rfl) (by subst hm hx;exact SOA) ⟨A,c,by rw[hm],rfl⟩
structure ZE where
 z:DZone
 A:Option Addr
 c:Nat
def ZE.enc (q:ZE):List Value:=[.string q.z.name,.slice q.A q.z.eras.length q.c]
theorem ZE.len (x:ZE):x.enc.length=2:=rfl
def ZDS (Zs:List ZE)(w:World):Prop:=∀ q∈Zs,RdSl w q.A q.c DEra.enc 13 q.z.eras
theorem Zwd {w:World}{A:Option Addr}{c:Nat}{Zs:List ZE}(h:RdSl w A c ZE.enc 2 Zs)(b:ZDS Zs w):RdZ w A (Zs.map ZE.z):=fun k z a=>by
 rw[List.getElem?_map]at a
 cases hq:Zs[k]? with
 | none=>rw[hq]at a;cases a
 | some q =>
  rw[hq]at a
  injection a with a
  subst a
  exact⟨(h.rd k q hq).1,q.enc,⟨q.A,q.c,b q (List.mem_of_getElem? hq),rfl⟩,(h.rd k q hq).2⟩
abbrev rowR (A:Option Addr)(c:Nat)(l:List DRule):It := .row (.slice A l.length c) 68 11 l.length (l.flatMap DRule.enc)
end Go.Proofs.YtpipekfmecikmaaGreatDoor
namespace Go.Wk
open Go Go.RowKit
theorem Zsh (z:Array Value)(k:Nat)(h:z.toList.all Value.oneCell'=true)(c:0<z.size):(Builtin.zeroCells z k).toList.all Value.oneCell'=true:=by
 rw[List.all_eq_true]at h ⊢
 intro x b
 unfold Builtin.zeroCells at b
 rw[Array.toList_map,List.mem_map]at b
 obtain⟨i,d,rfl⟩:=b
 have a:=Nat.mod_lt i c
 rw[getElem!_pos z (i % z.size) a]
 exact h _ (by simp)
theorem Zp8:∀ (vs xs:List Value) (j:Nat),xs.length<=j->lay xs j vs=xs
 | [],_,_,_=>rfl
 | v::r,xs,j,h=>by rw[lay,List.set_eq_of_length_le h,Zp8 r xs (j+1) (by omega)]
theorem ZxT:∀ (vs b cs a:List Value),cs.length=vs.length->lay (b++cs++a) b.length vs=b++vs++a
 | [],b,cs,a,h=>by
  have:cs=[]:=List.eq_nil_of_length_eq_zero h
  rw[this];rfl
 | v::r,b,[],a,h=>by simp at h
 | v::r,b,c::cs,a,h=>by
  have:=ZxT r (b++[v]) cs a (by simpa using h)
  rw[lay]
  rw[show(b++c::cs++a).set b.length v=b++[v]++cs++a by simp]
  rw[List.length_append]at this
  simpa using this
end Go.Wk
namespace Go.Proofs.YtpipekfmecikmaaGreatDoor
open Go Go.RowKit Go.Wk Tryz
attribute [local irreducible] W RL Does Zaq Zai retQ Calls Pu Stp RD Qy Ay Zaj Zb7
theorem ZiJ {α:Type}(p:α->Bool):∀ (l:List α) (k:Nat),(Zb8 p l k = -1/\l.filter (fun r => !p r)=l)\/∃ i,Zb8 p l k=((k+i:Nat):Int)/\i<l.length/\(l.take (i+1)).filter (fun r => !p r)=l.take i
 | [],k => .inl ⟨rfl,rfl⟩
 | x::l,k=>by
  rw[Zb8]
  by_cases h:p x=true
  ·rw[if_pos h]
   exact .inr ⟨0,rfl,by simp,by simp[h]⟩
  ·rw[if_neg h]
   rcases ZiJ p l (k+1) with⟨h1,h2⟩|⟨i,h1,h2,h3⟩
   ·exact .inl ⟨h1,by rw[List.filter_cons,if_pos (by simp[h]),h2]⟩
   ·refine .inr ⟨i+1,by rw[h1];omega,by simpa using h2,?_⟩
    rw[List.take_succ_cons,List.filter_cons,if_pos (by simp[h]),h3,List.take_succ_cons]
theorem ZAh {base:Nat}{A:Option Addr}{c:Nat}{l:List DRule}{w:World}{O R:List It}(h:Zaz base O w)(i:Pick (rowR A c l) O R)(b:l.length<=c)(a:c<=maxLen):RdSl w A c DRule.enc 11 l :=
 ⟨b,a,fun k x d=>by
  have e:=h.sat _ (i.perm.mem_iff.2 List.mem_cons_self)
  have g:=(List.getElem?_eq_some_iff.1 d).1
  refine⟨ZpX e (by omega),fun j v f=>?_⟩
  rw[ZbK]
  exact(Zbc e (ZaD DRule.len l k x j v d f)).2⟩
instance zeroRule:ZeroV prog 68 (.agg #[.string ByteArray.empty,.int .i64 0,.int .i64 0,.int .i64 0,.int .i64 0,.int .i64 0,.int .i64 0,.int .i64 0,.int .i64 0,.int .i64 0,.string ByteArray.empty]):=⟨by kernel_rfl⟩
structure DG where
 j:Nat
 C:List DRule
set_option maxHeartbeats 0 in
theorem ZoS (A:Option Addr)(c:Nat)(l:List DRule)(f:FuncId)[Body prog f](p:DRule->Bool)(wr:World)(hn:l.length<=1000000)(M:l.length<=c)(y:c<=maxLen)(w:0<l.length->A≠none)(T:∀ r w',Does prog f [.agg (DRule.enc r).toArray] w' (fun v O=>v = .bool (p r)/\O=[])) :
  Zaj prog 270 [.slice A l.length c,.func (.func f) #[] #[]] wr [rowR A c l] (fun v O=>v = .slice A (l.filter fun r => !p r).length c/\O=[rowR A c (l.filter fun r => !p r)]):=by
 have d:=fun w' (x:Zaz wr.heap.size [rowR A c l] w')=>Zft A c l f [] [] p w' (ZAh x .here M y) fun r w2 _=>T r w2
 unfold maxLen at y
 generalize hres:(l.filter fun r => !p r)=res
 rcases ZiJ p l 0 with⟨h1,h2⟩|⟨i,h1,h2,h3⟩
 ·rw[h1]at d
  rw[h2]at hres
  subst hres
  refine ZbA func270 rfl rfl rfl rfl ?_
  repeat (first|(refine js ?_;((apply Zad (h:=fun w' _ x=>d w' x);rfl;rintro v O' ⟨rfl,rfl⟩)))|refine walk ?_)
  exact ret_1 _ _ (.tmp rfl) (.refl _) ⟨rfl,rfl⟩
 ·rw[h1,Nat.zero_add]at d
  have R:=w (by omega)
  obtain⟨ad,rfl⟩:∃ ad,A=some ad:=by
   cases A with
   | none=>exact absurd rfl R
   | some ad=>exact⟨ad,rfl⟩
  clear R w
  refine ZbA func270 rfl rfl rfl rfl ?_
  repeat (first|(refine js ?_;((apply Zad (h:=fun w' _ x=>d w' x);rfl;rintro v O' ⟨rfl,rfl⟩)))|refine ZlY ?_)
  refine Zb4 (fun fr' O'=>Go.Wk.Sub [(0,.slice (some ad) l.length c),(5,.int .i64 res.length)] fr'/\SubO [.row (.slice (some ad) l.length c) 68 11 l.length ((res++l.drop res.length).flatMap DRule.enc)] O') ?_ ?_
  ·apply W_block
   refine Zah [(0,_),(1,_)] [] (fun g:DG=>[(5,.int .i64 g.C.length),(6,.int .i64 g.j)]) (fun g=>[.row (.slice (some ad) l.length c) 68 11 l.length ((g.C++l.drop g.C.length).flatMap DRule.enc)])
    (fun g=>g.C=(l.take g.j).filter (fun r => !p r)/\g.C.length+1<=g.j/\g.j<=l.length) (fun g=>l.length - g.j) ⟨i+1,l.take i⟩ (by dsimp only;rw[List.length_take,Nat.min_eq_left (by omega)];exact⟨rfl,rfl,rfl,rfl,trivial⟩) (by dsimp only;rw[List.length_take,Nat.min_eq_left (by omega),List.take_append_drop];exact .refl _) ⟨h3.symm,by show(l.take i).length+1<=i+1;rw[List.length_take];omega,by show i+1<=l.length;omega⟩ ?_
   rintro⟨j,C⟩ ⟨hC,hCj,hj⟩
   dsimp only at hC hCj hj ⊢
   have u:(C++l.drop C.length).length=l.length:=by rw[List.length_append,List.length_drop];omega
   repeat (refine walk ?_)
   refine Zaf rfl (fun g=>?_) (fun g=>?_)
   ·have e:j<l.length:=by simpa using g
    have V:∀ q v,(DRule.enc l[j])[q]?=some v->((C++l.drop C.length).flatMap DRule.enc)[(j:Int).toNat*11+q]?=some v:=fun q v hv=>by
     refine ZaD DRule.len _ j l[j] q v ?_ hv
     rw[List.getElem?_append_right (by omega),List.getElem?_drop,show C.length+(j - C.length)=j from by omega,List.getElem?_eq_getElem e]
    have s:(l.take (j+1)).filter (fun r => !p r)=C++(if p l[j] then [] else [l[j]]):=by
     rw[List.take_succ_eq_append_getElem e,List.filter_append,<- hC]
     by_cases U:p l[j]=true
     ·simp[U]
     ·simp[U]
    have t:lay ((C++l.drop C.length).flatMap DRule.enc) (C.length*11) (DRule.enc l[j])=((C++[l[j]])++l.drop (C.length+1)).flatMap DRule.enc:=by
     have N:C.length<l.length:=by omega
     rw[Zag N,show C++l[C.length]::l.drop (C.length+1)=C++[l[C.length]]++l.drop (C.length+1) by simp,List.flatMap_append,List.flatMap_append,List.flatMap_append,List.flatMap_append,List.flatMap_singleton,List.flatMap_singleton]
     have:=ZxT (DRule.enc l[j]) (C.flatMap DRule.enc) (DRule.enc l[C.length]) ((l.drop (C.length+1)).flatMap DRule.enc) rfl
     rw[ZbU DRule.len]at this
     exact this
    generalize l[j]=r at *
    obtain⟨I,fr,J,H,⟨E,F,dd⟩,⟨cs,D⟩,sv,le⟩:=r
    have B:=T ⟨I,fr,J,H,⟨E,F,dd⟩,⟨cs,D⟩,sv,le⟩
    generalize p ⟨I,fr,J,H,⟨E,F,dd⟩,⟨cs,D⟩,sv,le⟩=b at *
    simp only[DRule.enc]at V t B
    repeat (first|(apply RL_pu;rfl;(first|(apply Pu_indexAddr;rfl;rfl;omega;omega;nofun)|(apply Zch;rfl;(focus repeat' constructor);exact V;rfl)))|(refine js ?_;(first|(apply Zax (f:=f) (us:=[]) (cs:=[]) (vs:=[.agg #[.string I,.int .i64 fr,.int .i64 J,.int .i64 H,.int .i64 E,.int .i64 F,.int .i64 dd,.int .i64 cs,.int .i64 D,.int .i64 sv,.string le]]) (h:=fun w' hw _=>B w');rfl;rfl;rintro v O' ⟨rfl,rfl⟩)|(refine bx ?_;intro bk)))|refine walk1 ?_)
    refine Zaf rfl (fun g2=>?_) (fun g2=>?_)
    ·have K:b=false:=by simpa using g2
     rw[K,if_neg (by decide)]at s
     have L:((C++l.drop C.length).flatMap DRule.enc).length=l.length*11:=by rw[ZbU DRule.len,u]
     repeat (first|(apply RL_pu;rfl;(apply Pu_indexAddr;rfl;rfl;omega;omega;nofun))|(refine js ?_;((apply Zkw (vs:=[.string I,.int .i64 fr,.int .i64 J,.int .i64 H,.int .i64 E,.int .i64 F,.int .i64 dd,.int .i64 cs,.int .i64 D,.int .i64 sv,.string le]);rfl;rfl;(focus repeat' constructor);rfl;rfl;rfl;(rw[L];omega);decide;exact t)))|refine walk1 ?_)
     refine⟨⟨j+1,_⟩,OA,⟨s.symm,by dsimp only;rw[List.length_append,List.length_singleton];omega,OA⟩,?_,?_⟩
     ·dsimp only
      rw[List.length_append,List.length_singleton]
      exact SFA
     ·dsimp only
      rw[List.length_append,List.length_singleton]
      exact SOA
    ·have K:b=true:=by simpa using g2
     rw[K,if_pos rfl,List.append_nil]at s
     repeat (refine walk ?_)
     exact⟨⟨j+1,C⟩,OA,⟨s.symm,OA,OA⟩,SFA,SOA⟩
   ·have e:j=l.length:=by
     have:=of_decide_eq_false g
     omega
    rw[e,List.take_length,hres]at hC
    subst hC
    repeat (refine walk ?_)
    exact⟨rfl,SFA,SOA⟩
  rintro fr' O' ⟨z,S⟩
  apply thenQ_n
  refine ZcG z S ?_
  clear z S fr' O'
  have aa:res.length<l.length:=by
   have W:l.take (i+1)++l.drop (i+1)=l:=List.take_append_drop _ _
   have X:res=l.take i++(l.drop (i+1)).filter (fun r => !p r):=by rw[<- hres,<- h3,<- List.filter_append,W]
   have Y:=List.length_filter_le (fun r => !p r) (l.drop (i+1))
   rw[List.length_drop]at Y
   have Z:=congrArg List.length X
   rw[List.length_append,List.length_take]at Z
   omega
  have u:((res++l.drop res.length).flatMap DRule.enc).length=l.length*11:=by rw[ZbU DRule.len,List.length_append,List.length_drop];congr 1;omega
  have Q:∀ vs,(lay ((res++l.drop res.length).flatMap DRule.enc) ((res.length:Int).toNat*11) vs).take (res.length*11)=res.flatMap DRule.enc:=fun vs=>by
   rw[ZhE,List.flatMap_append,List.take_left' (by rw[ZbU DRule.len])]
   exact Zp8 _ _ _ (by rw[ZbU DRule.len];omega)
  repeat (first|((apply RL_st0;apply Zsc (p:=(res.length:Int).toNat*11) (k:=l.length - (res.length:Int).toNat);rfl;(focus repeat' constructor);exact Zsh _ _ rfl (by decide);omega;(rw[u];omega));refine ZuJ (m:=l.length) res.length (by omega) cS_ ?_;rw[Q])|(apply RL_pu;rfl;(apply Zu8;rfl;rfl;omega;omega;omega))|refine walk1 ?_)
  exact ret_1 _ _ (.tmp rfl) (.refl _) ⟨rfl,rfl⟩
attribute [local irreducible] Zhl
def ZDN (l:List DRule)(v:Value)(O:List It):Prop:=∃ A c,v = .slice A l.length c/\O=[rowR A c l]/\l.length<=c/\c<=maxLen/\(0<l.length->A≠none)
theorem Zlq (A:Option Addr)(c:Nat)(x:List DRule)(w:World)(i:RdSl w A c DRule.enc 11 x)(j:x.length<=1000000) :
  Does prog 271 [.slice A x.length c] w (ZDN x) :=
 (ZoV A c x w i j).monoH fun v O base w' ⟨A,c,d,e⟩ a=>by
  subst e
  obtain⟨A2,k,b,f,g,h,_⟩:=ZfX (a.sat _ List.mem_cons_self)
  injection b with e2 _ e3
  subst e2 e3
  exact⟨_,⟨A,c,d,rfl,f,g,h⟩,a⟩
theorem ZC4 {G:Prop}(h:G:=by(first|(apply Pu_indexAddr;rfl;rfl;(decide);(decide);nofun)|(apply Zch;rfl;(focus repeat' constructor);exact hx1;rfl)|(apply Zch;rfl;(focus repeat' constructor);exact hx2;rfl))):G:=h
theorem Zyd {G:Prop}(h:G:=by first|(apply Qy_y;rfl;exact ZC4)|exact QyA):G:=h
theorem ZCC {G:Prop}(h:G:=by repeat (first|exact QF.nil|(apply QF.mk;rfl;rfl;decide +kernel;exact Zyd))):G:=h
theorem ZtG (A:Option Addr)(c:Nat)(l:List DRule)(w:World)(D:RdSl w A c DRule.enc 11 l)(E:l.length<=1000000) :
  Does prog 229 [.slice A l.length c] w (fun v O=>v = .bool (ZgQ l)/\O=[]):=by
 have y:(l.filter fun r => !(!decide (r.to=1048576)))=l.filter fun r=>decide (r.to=1048576):=by
  congr 1;funext r;rw[Bool.not_not]
 have t:=List.length_filter_le (fun r:DRule=>decide (r.to=1048576)) l
 obtain⟨u,e⟩:∃ u,ZgQ l=u:=⟨_,rfl⟩
 rw[e]
 unfold ZgQ at e
 refine Zaa func229 rfl rfl rfl rfl ?_
 repeat (first|refine walk ?_|(refine jg ?_;(try intro F);((apply Zad (h:=fun w' S _=>Zlq A c l w' (D.up S) E);rfl;rintro v O' ⟨B,d,rfl,rfl,m,p,s⟩));refine fin ?_))
 have f:=ZoS B d l 272 (fun r => !decide (r.to=1048576)) w E m p s ZrH
 rw[y]at f
 generalize (l.filter fun r=>decide (r.to=1048576))=F at *
 repeat (first|refine walk ?_|(refine jn ?_;(try intro F);((apply Zg3 (h:=f);rfl;exact .refl _;rintro v O' ⟨rfl,rfl⟩));refine fin ?_))
 rcases F with _|⟨a,_|⟨b,_|⟨x,F⟩⟩⟩
 ·repeat (refine walk ?_)
  exact ret_1 _ [] (.tmp rfl) .nil ⟨by rw[<- e],rfl⟩
 ·repeat (refine walk ?_)
  exact ret_1 _ [] (.tmp rfl) .nil ⟨by rw[<- e],rfl⟩
 ·have Q:=s (by simp at t;omega)
  obtain⟨ad,rfl⟩:∃ ad,B=some ad:=by
   cases B with
   | none=>exact absurd rfl Q
   | some ad=>exact⟨ad,rfl⟩
  dsimp only at e
  have g:=ZjO a
  have j:=ZjO b
  generalize Zhl a=pa at *
  generalize Zhl b=pb at *
  have hx1:∀ q v,(DRule.enc a)[q]?=some v->([a,b].flatMap DRule.enc)[(0:Int).toNat*11+q]?=some v:=fun q v z=>ZaD DRule.len _ 0 a q v rfl z
  have hx2:∀ q v,(DRule.enc b)[q]?=some v->([a,b].flatMap DRule.enc)[(1:Int).toNat*11+q]?=some v:=fun q v z=>ZaD DRule.len _ 1 b q v rfl z
  simp only[rowR,List.length_cons,List.length_nil,Nat.zero_add,Nat.reduceAdd]
  generalize hxs:[a,b].flatMap DRule.enc=xs at *
  clear hxs
  obtain⟨nm,fr,to,mo,⟨dk,dw,dd⟩,⟨cs,Z⟩,sv,le⟩:=a
  obtain⟨W,N,Y,U,⟨L,M,K⟩,⟨J,I⟩,X,T⟩:=b
  simp only[DRule.enc]at hx1 hx2 g j
  repeat (first|(apply RD_Q;rfl;rfl;decide +kernel;rfl;rfl;exact Zyd)|refine walk1 ?_|(refine jn ?_;(try intro F);(first|(refine bx ?_;intro H)|(refine stA ?_));first|refine⟨_,EndsA,ZCC,?_⟩|refine fin ?_)|(apply RD_W;rfl;intro H))
  repeat' (first|(refine js ?_;(first|(refine Zab (fun w' _=>g w') ?_)|(refine Zab (fun w' _=>j w') ?_)))|refine walk ?_|(refine Zas rfl rfl rfl (fun R=>?_) (fun R=>?_)))
  all_goals clear hx1 hx2 g j f D m p
  all_goals subst e
  all_goals exact clo1
 ·repeat (refine walk ?_)
  exact ret_1 _ [] (.tmp rfl) .nil ⟨by rw[<- e],rfl⟩
attribute [local irreducible] RW
def Zwj (l:List DRule):Nat × Int :=
 if (l.any fun r=>decide (r.save=0))=false\/(Zae l<0/\(l.any fun r => !decide (r.save=0)&&!decide (r.save=Zae l))=true) then (0,14)
 else if ZgQ l=false then (0,16)
 else (0,0)
def outR (l:List DRule):Option (Nat × Int)->Nat × Int
 | some x=>x
 | none=>Zwj l
theorem Zwq (l:List DRule):ZcE l=outR l (ZaS (Zae l) l 0):=by
 unfold ZcE outR Zwj
 cases ZaS (Zae l) l 0 <;> rfl
theorem Zrg (r:DRule)(least:Int):Zbu r least=if Zda r least 0=false then 3 else if Zda r least 1=false then 12 else if Zda r least 2=false then 3 else if Zda r least 3=false then 3 else if Zda r least 4=false then 14 else if Zda r least 5=false then 15 else 0:=by
 by_cases h:r.to<r.from_
 ·have e:Zda r least 1=false:=dF_ (by omega)
  rw[e,if_pos rfl,Zbu,if_pos h];rfl
 ·have e:Zda r least 1=true:=dT_ (by omega)
  rw[e,if_neg (show ¬ true=false by decide),Zbu,if_neg h];rfl
theorem ZtB (l:List DRule):∀ m:Int,-4611686018427387904<=m->m<=4611686018427387904->(∀ r∈l,-4611686018427387904<=r.save/\r.save<=4611686018427387904) -> -4611686018427387904<=l.foldl (fun m r=>min m r.save) m/\l.foldl (fun m r=>min m r.save) m<=4611686018427387904:=by
 induction l with
 | nil=>intro m a b _;exact⟨a,b⟩
 | cons r l ih =>
  intro m a b h
  have d:=h r List.mem_cons_self
  exact ih (min m r.save) (by omega) (by omega) fun x c=>h x (List.mem_cons_of_mem _ c)
theorem Ziq (l:List DRule):∀ m:Int,-9223372036854775808<=m->m<=0->(∀ r∈l,-9223372036854775808<=r.save/\r.save<=9223372036854775807) -> -9223372036854775808<=l.foldl (fun m r=>min m r.save) m/\l.foldl (fun m r=>min m r.save) m<=0:=by
 induction l with
 | nil=>intro m a b _;exact⟨a,b⟩
 | cons r l ih =>
  intro m a b h
  have d:=h r List.mem_cons_self
  exact ih (min m r.save) (by omega) (by omega) fun x c=>h x (List.mem_cons_of_mem _ c)
def Znj (j:Nat):FuncId:=if j=0 then 390 else if j=1 then 392 else if j=2 then 393 else if j=3 then 395 else if j=4 then 397 else 398
def errN (j:Nat):Int:=if j=0 then 3 else if j=1 then 12 else if j=2 then 3 else if j=3 then 3 else if j=4 then 14 else 15
def ZgV (b:Nat->Bool):Nat->Int
 | 0=>0
 | n+1=>if b (5 - n)=false then errN (5 - n) else ZgV b n
theorem Zl8 (r:DRule)(least:Int):Zbu r least=ZgV (Zda r least) 6:=Zrg r least
theorem ZrX (j:Nat)(a:j<6):(Zgo.drop (((j:Int)).toNat*2)).take 2=[fnV (Znj j),.int .i64 (errN j)]:=by
 have h:j=0\/j=1\/j=2\/j=3\/j=4\/j=5:=by omega
 rcases h with rfl|rfl|rfl|rfl|rfl|rfl <;> rfl
theorem ZrW (j:Nat)(d:j<6)(r:DRule)(least:Int)(w:World)(a:Glob w)(b : -9223372036854775808<=least/\least<=0)(c:(r.letter.size:Int)<=9223372036854775807) :
  Does prog (Znj j) [.agg (DRule.enc r).toArray,.int .i64 least] w (fun v O=>v = .bool (Zda r least j)/\O=[]):=by
 have h:j=0\/j=1\/j=2\/j=3\/j=4\/j=5:=by omega
 rcases h with rfl|rfl|rfl|rfl|rfl|rfl
 ·exact Zr3 r least w
 ·exact Zr2 r least w
 ·exact Zr1 r least w a
 ·exact Zr0 r least b w
 ·exact ZrZ r least w
 ·exact ZrY r least c w
theorem ZoT (j:Nat):Body prog (Znj j):=by
 unfold Znj
 split
 ·infer_instance
 split
 ·infer_instance
 split
 ·infer_instance
 split
 ·infer_instance
 split <;> infer_instance
theorem ZC3 {G:Prop}(h:G:=by(first|exact PuI|(apply Pu_loadON;rfl;exact hG.con;rfl))):G:=h
theorem ZC2 {G:Prop}(h:G:=by(apply ZnK;rfl;rfl;omega;omega;exact hcc)):G:=h
theorem Zmb (A:Option Addr)(c:Nat)(l:List DRule)(w:World)(hG:Glob w)(I:RdSl w A c DRule.enc 11 l)(hn:l.length<=1000000)(S:∀ r∈l,(-9223372036854775808<=r.save/\r.save<=9223372036854775807)/\(r.letter.size:Int)<=9223372036854775807) :
  Does prog 176 [.slice A l.length c] w (fun v O=>v = .tuple #[.int .i64 (ZcE l).1,.int .i64 (ZcE l).2]/\O=[]):=by
 have N:=Ziq l 0 (by omega) (by omega) fun r hr=>(S r hr).1
 have q:=fun w' (d:Bel w.heap.size w w')=>ZtG A c l w' (I.up d) hn
 have e:=fun w' (d:Bel w.heap.size w w')=>ZeZ A c l 226 [] [] (fun r=>decide (r.save=0)) w' (I.up d) fun r Z _=>Zui r Z
 have g:=fun(b:Nat) w' (d:Bel w.heap.size w w') (L:Zat w' ⟨b,0,none⟩ [.int .i64 (Zae l)])=>ZeZ A c l 227 [] [.pointer (some ⟨b,0,none⟩)] (fun r => !decide (r.save=0)&&!decide (r.save=Zae l)) w' (I.up d) fun r Z J=>Zuh r ⟨b,0,none⟩ (Zae l) Z ((L.up J (Nat.le_refl _)) 0 _ rfl)
 have y:=fun w' (d:Bel w.heap.size w w')=>ZcX A c l w' (I.up d)
 obtain⟨H,s⟩:∃ H,ZcE l=H:=⟨_,rfl⟩
 rw[s]
 rw[Zwq]at s
 have aa:∃ t,Zwj l=t:=⟨_,rfl⟩
 change -9223372036854775808<=Zae l/\Zae l<=0 at N
 refine Zaa func176 rfl rfl rfl rfl ?_
 repeat (first|refine walk ?_|(refine jg ?_;(try intro F);(first|(refine Zab y ?_)|(refine bx ?_;intro u));refine fin ?_))
 refine Zah [(0,.slice A l.length c),(4,.pointer (some ⟨u,0,none⟩)),(13,.slice A l.length c),(14,.int .i64 l.length)] [.blk u [.int .i64 (Zae l)] 2] (fun k:Nat=>[(15,.int .i64 k)]) (fun _=>[]) (fun k=>k<=l.length/\outR l (ZaS (Zae l) (l.drop k) k)=H) (fun k=>l.length - k) 0 SFA SOA ⟨Nat.zero_le _,s⟩ ?_
 rintro k ⟨hk,D⟩
 repeat (first|refine walk ?_|(refine jn ?_;(try intro F);((apply Zan;exact PuA));refine fin ?_))
 refine Zaf rfl (fun h=>?_) (fun h=>?_)
 ·have E:k<l.length:=by simpa using h
  obtain⟨hna,hca⟩:=I.rd k _ (List.getElem?_eq_getElem E)
  have T:=S l[k] (List.getElem_mem E)
  rw[Zag E,ZaS,Zl8]at D
  generalize l[k]=r at *
  have M:=fun j (hj:j<6) w' (d:Bel w.heap.size w w')=>ZrW j hj r (Zae l) w' (hG.up d) N T.2
  generalize Zda r (Zae l)=bb at *
  obtain⟨nm,fr,to,mo,⟨dk,dw,dd⟩,⟨cs,cb⟩,sv,le⟩:=r
  simp only[DRule.enc]at hca M
  obtain⟨Q,K⟩:∃ Q,u=Q:=⟨_,rfl⟩
  rw[K]at *
  clear K u
  repeat (first|(apply RL_pu;rfl;exact ZC3)|refine walk1 ?_|(refine jn ?_;(try intro F);(first|(refine bx ?_;intro u)|(refine stA ?_));first|refine⟨_,EndsA,QFRsE0,?_⟩|refine fin ?_))
  refine Zah [(20,.agg Zgo.toArray),(6,.pointer (some ⟨u,0,none⟩)),(5,.int .i64 k),(15,.int .i64 k),(0,.slice A l.length c),(4,.pointer (some ⟨Q,0,none⟩)),(13,.slice A l.length c),(14,.int .i64 l.length)] [.blk u [.string nm,.int .i64 fr,.int .i64 to,.int .i64 mo,.int .i64 dk,.int .i64 dw,.int .i64 dd,.int .i64 cs,.int .i64 cb,.int .i64 sv,.string le] 68,.blk Q [.int .i64 (Zae l)] 2] (fun j:Nat=>[(21,.int .i64 j)]) (fun _=>[]) (fun j=>j<=6/\ZgV bb (6 - j)=ZgV bb 6) (fun j=>6 - j) 0 SFA SOA ⟨Nat.zero_le _,rfl⟩ ?_
  rintro j ⟨hj,z⟩
  repeat (first|refine walk ?_|(refine jn ?_;(try intro F);((apply Zan;exact PuA));refine fin ?_))
  refine Zaf rfl (fun J=>?_) (fun J=>?_)
  ·have x:j<6:=by have:=of_decide_eq_true J;omega
   have W:=M j x
   have hcc:=ZrX j x
   haveI:=ZoT j
   rw[show 6 - j=(5 - j)+1 by omega,ZgV,show 5 - (5 - j)=j by omega]at z
   have Y:errN j≠0:=by
    unfold errN
    repeat' split
    all_goals decide
   generalize Znj j=cf at *
   generalize bb j=bj at *
   generalize errN j=ej at *
   repeat (first|(apply RL_pu;rfl;exact ZC2)|refine walk1 ?_|(refine jg ?_;(try intro F);(first|(apply Zax (f:=cf) (us:=[]) (cs:=[]) (vs:=[.agg #[.string nm,.int .i64 fr,.int .i64 to,.int .i64 mo,.int .i64 dk,.int .i64 dw,.int .i64 dd,.int .i64 cs,.int .i64 cb,.int .i64 sv,.string le],.int .i64 (Zae l)]) (h:=fun w' d _=>W w' d);rfl;rfl;rintro v O' ⟨rfl,rfl⟩)|(refine bx ?_;intro u));first|refine⟨_,EndsA,QFRsE1,?_⟩|refine fin ?_))
   refine Zaf rfl (fun R=>?_) (fun R=>?_)
   ·have U:bj=false:=by simpa using R
    rw[if_pos U]at z
    rw[<- z,if_neg Y]at D
    repeat (first|refine walk ?_|(refine jn ?_;(try intro F);((apply Zan;exact PuA));refine fin ?_))
    exact ret_2 _ _ [] (.tmp rfl) (.tmp rfl) .nil ⟨by rw[<- D];rfl,rfl⟩
   ·have U:bj=true:=by simpa using R
    rw[if_neg (by rw[U];decide)]at z
    repeat (first|refine walk ?_|(refine jn ?_;(try intro F);((apply Zan;exact PuA));refine fin ?_))
    exact⟨j+1,OA,⟨OA,by rw[show 6 - (j+1)=5 - j by omega];exact z⟩,SFA,SOA⟩
  ·have x:j=6:=by have:=of_decide_eq_false J;omega
   subst x
   rw[show ZgV bb (6 - 6)=0 from rfl]at z
   rw[<- z,if_pos rfl]at D
   repeat (first|refine walk ?_|(refine jn ?_;(try intro F);((apply Zan;exact PuA));refine fin ?_))
   exact⟨k+1,OA,⟨OA,D⟩,SFA,SOA⟩
 ·have X:k=l.length:=by
   have:=of_decide_eq_false h
   omega
  subst X
  rw[List.drop_length,ZaS,outR,Zwj]at D
  generalize l.any (fun r=>decide (r.save=0))=a1 at *
  generalize l.any (fun r => !decide (r.save=0)&&!decide (r.save=Zae l))=a2 at *
  generalize ZgQ l=a3 at *
  have m:=g u
  clear g y
  repeat' (first|(refine js ?_;(first|(refine Zab e ?_)|(apply Zad (h:=fun w' d hH=>m w' d (hH.cells cS_));rfl;rintro v O' ⟨rfl,rfl⟩)|(refine Zab q ?_)))|refine walk ?_|(refine Zas rfl rfl rfl (fun L=>?_) (fun L=>?_))|(refine Zaf rfl (fun L=>?_) (fun L=>?_)))
  all_goals clear e m q hG I S
  all_goals subst D
  all_goals try(have h0:¬ Zae l<0:=of_decide_eq_false (by assumption);simp only[h0,false_and,or_false])
  all_goals exact clo2
end Go.Proofs.YtpipekfmecikmaaGreatDoor
namespace Go.Proofs.YtpipekfmecikmaaGreatDoor
open Go Go.RowKit Go.Wk Tryz
attribute [local irreducible] W RL Does Zaq Zai retQ Calls Pu Stp RD Qy Ay Zaj
theorem Zxy {G:Prop}(h:G:=by(apply Zeo;rfl;rfl;(constructor <;> omega))):G:=h
theorem Zxj (a b:Int)(h : -9223372036854775808<=a+b/\a+b<=9223372036854775807)(w:World):Does prog 151 [.int .i64 a,.int .i64 b] w (fun v O=>v = .tuple #[.int .i64 (a+b),.bool true]/\O=[]):=by
 have d:¬ ((!(decide (a<a+b)==decide (0<b)))=true):=by
  rw[show decide (a<a+b)=decide (0<b) from by rw[Bool.eq_iff_iff];simp only[decide_eq_true_eq];omega]
  simp
 refine Zaa func151 rfl rfl rfl rfl ?_
 repeat' (first|refine walk1 ?_|(refine Zas rfl rfl rfl (fun c=>?_) (fun c=>?_))|(refine Zaf rfl (fun c=>?_) (fun c=>?_)))
 all_goals first|(exfalso;simp_all;done)|exact rtB
theorem ZeF (y m:Int)(d:DDay) : -2000000000000<=(onD y m d).1/\(onD y m d).1<=2000000000000:=by
 unfold onD
 split
 ·exact⟨by decide,by decide⟩
 ·rename_i a
  split
  ·exact⟨by decide,by decide⟩
  ·rename_i b
   split
   ·exact⟨by decide,by decide⟩
   ·simp only[Bool.not_eq_false]at a b
    have c:=Zlm a
    have f:=ZeO y m
    have e:=ZeY b
    simp only[Zd8,Zbx,ZaX]
    repeat' split
    all_goals omega
theorem Zhg (u:DUntil)(q : -604799<=u.at_.sec/\u.at_.sec<=604799)(w:World)(d:Glob w):Does prog 210 [.agg (DUntil.enc u).toArray] w (fun v O=>v = .int .i64 (86400*(onD u.year u.month u.day).1+u.at_.sec)/\O=[]):=by
 have e:=fun w' (f:Bel w.heap.size w w')=>Zou u.year u.month u.day w' (d.up f)
 have p:=ZeF u.year u.month u.day
 generalize onD u.year u.month u.day=x at *
 obtain⟨r,s⟩:=x
 obtain⟨g,j,i,⟨b,c,dd⟩,⟨cs,a⟩⟩:=u
 simp only at *
 show Does _ _ [.agg #[.bool g,.int .i64 j,.int .i64 i,.int .i64 b,.int .i64 c,.int .i64 dd,.int .i64 cs,.int .i64 a]] w _
 refine Zaa func210 rfl rfl rfl rfl ?_
 repeat' (first|(apply RL_pu;rfl;exact Zxy)|(refine js ?_;(first|(refine Zab e ?_)|(refine bx ?_;intro m)))|refine walk1 ?_|fail)
 all_goals exact clo1
theorem Zxx {G:Prop}(h:G:=by(apply Pu_add;rfl;rfl;(constructor <;> (simp only[decide_eq_false_iff_not,decide_eq_true_eq]at *;omega)))):G:=h
theorem ZhR (u:DUntil)(least:Int)(w:World)(d:Glob w):Does prog 241 [.agg (DUntil.enc u).toArray,.int .i64 least] w (fun v O=>v = .int .i64 (ZaF u least)/\O=[]):=by
 have e:=fun w' (f:Bel w.heap.size w w')=>Zou u.year u.month u.day w' (d.up f)
 have b:=Zeb u.at_
 have c:ZaL u.at_=true -> -604799<=u.at_.sec/\u.at_.sec<=604799:=fun a=>by
  simp only[ZaL,Bool.and_eq_true,decide_eq_true_eq]at a
  omega
 unfold ZaF
 generalize onD u.year u.month u.day=x at *
 generalize ZaL u.at_=y at *
 obtain⟨t,z⟩:=x
 obtain⟨m,q,p,⟨i,j,dd⟩,⟨cs,g⟩⟩:=u
 simp only at *
 cases y
 ·clear c
  show Does _ _ [.agg #[.bool m,.int .i64 q,.int .i64 p,.int .i64 i,.int .i64 j,.int .i64 dd,.int .i64 cs,.int .i64 g],.int .i64 least] w _
  refine Zaa func241 rfl rfl rfl rfl ?_
  repeat' (first|(refine js ?_;(first|(refine Zab (fun w' f=>b w') ?_)|(refine bx ?_;intro r)))|refine walk1 ?_|(refine Zas rfl rfl rfl (fun a=>?_) (fun a=>?_))|(refine Zaf rfl (fun a=>?_) (fun a=>?_)))
  all_goals clear e b d
  all_goals exact clo1
 ·have s:=c rfl
  clear c
  show Does _ _ [.agg #[.bool m,.int .i64 q,.int .i64 p,.int .i64 i,.int .i64 j,.int .i64 dd,.int .i64 cs,.int .i64 g],.int .i64 least] w _
  refine Zaa func241 rfl rfl rfl rfl ?_
  repeat' (first|(apply RL_pu;rfl;exact Zxx)|(refine js ?_;(first|(refine Zab (fun w' f=>b w') ?_)|(refine Zab e ?_)|(refine bx ?_;intro r)))|refine walk1 ?_|(refine Zas rfl rfl rfl (fun a=>?_) (fun a=>?_))|(refine Zaf rfl (fun a=>?_) (fun a=>?_)))
  all_goals clear e b d
  all_goals exact clo1
theorem ZfB {u:DUntil}{least:Int}(h:ZaF u least=0):(-10800<=least/\least<=0)/\-604799<=u.at_.sec/\u.at_.sec<=604799:=by
 unfold ZaF at h
 split at h
 ·cases h
 split at h
 ·cases h
 split at h
 ·cases h
 ·rename_i c _ b
  have a:ZaL u.at_=true:=by
   cases a:ZaL u.at_
   ·exact absurd (.inr (.inr a)) b
   ·rfl
  simp only[ZaL,Bool.and_eq_true,decide_eq_true_eq]at a
  omega
theorem ZeG (u:DUntil)(least:Int)(w:World)(f:Glob w):Does prog 207 [.agg (DUntil.enc u).toArray,.int .i64 least] w (fun v O=>v = .tuple #[.int .i64 (Zao u least).1,.int .i64 (Zao u least).2]/\O=[]):=by
 have a:=fun w' (i:Bel w.heap.size w w')=>ZhR u least w' (f.up i)
 unfold Zao
 by_cases b:ZaF u least=0
 ·obtain⟨y,g⟩:=ZfB b
  have r:=fun w' (i:Bel w.heap.size w w')=>Zhg u g w' (f.up i)
  have t:=ZeF u.year u.month u.day
  rw[if_neg (by simpa using b)]
  rw[b]at a
  generalize onD u.year u.month u.day=x at *
  obtain⟨z,A⟩:=x
  clear b
  obtain⟨j,p,m,⟨d,e,dd⟩,⟨cs,c⟩⟩:=u
  simp only at *
  show Does _ _ [.agg #[.bool j,.int .i64 p,.int .i64 m,.int .i64 d,.int .i64 e,.int .i64 dd,.int .i64 cs,.int .i64 c],.int .i64 least] w _
  refine Zaa func207 rfl rfl rfl rfl ?_
  repeat' (first|(refine js ?_;(first|(refine Zab a ?_)|(refine Zab r ?_)|(refine bx ?_;intro s)))|refine walk1 ?_|(refine Zaf rfl (fun g=>?_) (fun g=>?_)))
  all_goals clear r a f
  all_goals exact clo2
 ·rw[if_pos b]
  generalize ZaF u least=x at *
  obtain⟨j,p,m,⟨d,e,dd⟩,⟨cs,c⟩⟩:=u
  simp only at *
  show Does _ _ [.agg #[.bool j,.int .i64 p,.int .i64 m,.int .i64 d,.int .i64 e,.int .i64 dd,.int .i64 cs,.int .i64 c],.int .i64 least] w _
  refine Zaa func207 rfl rfl rfl rfl ?_
  repeat (first|(refine js ?_;(first|(refine Zab a ?_)|(refine bx ?_;intro s)))|refine walkB1 ?_)
  refine Zaf rfl (fun q=>?_) (fun q=>?_)
  ·repeat (refine walk ?_)
   exact rtB
  ·exact absurd (by simpa using q) b
end Go.Proofs.YtpipekfmecikmaaGreatDoor
namespace Go.Wk
open Go Go.RowKit
section
variable {P:Program}{n:Nat}{wr:World}{fr:Fr}{O:List It}{ty:TypeId}
theorem Zdz {x y:Operand}{d:Array TypeId}{k:IntKind}{i j q:Int}(b:ev fr x=some (.int k i))(c:ev fr y=some (.int k j))(a:(if i<j then j else i)=q):Pu P n wr fr O (.call ⟨.builtin .max,#[x,y],d⟩) ty (.int k q):=by
 rw[<- a]
 exact Zpm b c
theorem Zg7 {x y:Operand}{d:Array TypeId}{k:IntKind}{i j q:Int}(b:ev fr x=some (.int k i))(c:ev fr y=some (.int k j))(a:(if j<i then j else i)=q):Pu P n wr fr O (.call ⟨.builtin .min,#[x,y],d⟩) ty (.int k q):=by
 rw[<- a]
 exact ZfP b c
end
end Go.Wk
namespace Go.Proofs.YtpipekfmecikmaaGreatDoor
open Go Go.RowKit Go.Wk Tryz
attribute [local irreducible] W RL Does Zaq Zai retQ Calls Pu Stp RD Qy Ay Zaj
theorem Zj0 (r:DRule)(w:World):Does prog 81 [.agg (DRule.enc r).toArray] w (fun v O=>v = .int .i64 (lastY r)/\O=[]):=by
 unfold lastY
 obtain⟨g,fr,a,f,⟨c,d,dd⟩,⟨cs,b⟩,sv,le⟩:=r
 simp only at *
 show Does _ _ [.agg #[.string g,.int .i64 fr,.int .i64 a,.int .i64 f,.int .i64 c,.int .i64 d,.int .i64 dd,.int .i64 cs,.int .i64 b,.int .i64 sv,.string le]] w _
 refine Zaa func81 rfl rfl rfl rfl ?_
 rw[show min a 2000000000=if 2000000000<a then 2000000000 else a by split <;> omega]
 repeat' (first|(apply RL_pu;rfl;(apply ZfP;rfl;rfl))|(refine js ?_;(refine bx ?_;intro i))|refine walk1 ?_|(refine Zaf rfl (fun e=>?_) (fun e=>?_)))
 all_goals exact clo1
def evV:Option Zac->Value
 | some e => .agg (Zac.enc e).toArray
 | none => .agg (Zac.enc dEv0).toArray
theorem ZdM (l:List DRule)(h:∀ r∈l,-4611686018427387904<=r.save/\r.save<=4611686018427387904) : -4611686018427387904<=Zae l/\Zae l<=0:=by
 have a:=ZtB l 0 (by omega) (by omega) h
 refine⟨a.1,?_⟩
 have:∀ (l:List DRule) (m:Int),l.foldl (fun m r=>min m r.save) m<=m:=fun l=>by
  induction l with
  | nil=>intro m;exact Int.le_refl _
  | cons r l ih=>intro m;have:=ih (min m r.save);simp only[List.foldl_cons];omega
 exact this l 0
theorem ZDK {G:Prop}(h:G:=by(first|exact PuI|(apply Pu_add;rfl;rfl;(constructor <;> omega))|(apply Zeo;rfl;rfl;(constructor <;> omega))|(apply Zdz;rfl;rfl;exact hmx)|(apply Zpm;rfl;rfl))):G:=h
theorem Zgi (A:Option Addr)(c:Nat)(l:List DRule)(i:Nat)(y:Int)(r:DRule)(w:World)(H:Glob w)(C:RdSl w A c DRule.enc 11 l)(p:l[i]?=some r)(Q:l.length<=1000000)(D:∀ r∈l,-4611686018427387904<=r.save/\r.save<=4611686018427387904) :
  Does prog 82 [.slice A l.length c,.int .i64 i,.int .i64 y] w (fun v O=>v = .tuple #[evV (onR (Zae l) r i y),.bool (onR (Zae l) r i y).isSome]/\O=[]):=by
 have J:i<l.length:=(List.getElem?_eq_some_iff.1 p).1
 have I:=ZdM l D
 have f:=fun w' (g:Bel w.heap.size w w')=>ZcX A c l w' (C.up g)
 have e:=Zj0 r
 have m:=Zeb r.at_
 have hcb:ZaL r.at_=true -> -604799<=r.at_.sec/\r.at_.sec<=604799:=fun d=>by
  simp only[ZaL,Bool.and_eq_true,decide_eq_true_eq]at d
  omega
 have s:=fun w' (g:Bel w.heap.size w w')=>Zou y r.month r.day w' (H.up g)
 have t:=ZeF y r.month r.day
 obtain⟨hna,hca⟩:=C.rd i _ p
 obtain⟨b,a⟩:∃ b,onR (Zae l) r i y=b:=⟨_,rfl⟩
 rw[a]
 unfold onR at a
 clear p D
 generalize Zae l=least at *
 generalize lastY r=ly at *
 generalize onD y r.month r.day=x at *
 generalize ZaL r.at_=z at *
 obtain⟨E,B⟩:=x
 obtain⟨S,fr,T,R,⟨L,M,dd⟩,⟨cs,K⟩,sv,le⟩:=r
 simp only[DRule.enc]at *
 rw[show max fr (-2000000000)=if fr < -2000000000 then -2000000000 else fr by split <;> omega]at a
 rw[show max least (-10800)=if least < -10800 then -10800 else least by split <;> omega]at a
 have q : -10800<=(if least < -10800 then (-10800:Int) else least)/\(if least < -10800 then (-10800:Int) else least)<=0:=by split <;> omega
 obtain⟨u,hmx⟩:∃ u,(if least < -10800 then (-10800:Int) else least)=u:=⟨_,rfl⟩
 rw[hmx]at a q
 cases z
 ·clear hcb s t
  obtain rfl:none=b:=by rw[<- a,if_pos (by simp)]
  clear a
  refine Zaa func82 rfl rfl rfl rfl ?_
  repeat' (first|(apply RL_pu;rfl;exact ZDK)|(refine js ?_;(first|(refine Zab f ?_)|(refine Zab (fun w' g=>e w') ?_)|(refine Zab (fun w' g=>m w') ?_)|(refine Zab s ?_)|(refine bx ?_;intro F)))|refine walk1 ?_|(refine Zas rfl rfl rfl (fun d=>?_) (fun d=>?_))|(refine Zaf rfl (fun d=>?_) (fun d=>?_)))
  ·exact absurd (of_decide_eq_true d) (by omega)
  all_goals exact rtC
 ·have N:=hcb rfl
  clear hcb
  refine Zaa func82 rfl rfl rfl rfl ?_
  repeat' (first|(apply RL_pu;rfl;exact ZDK)|(refine js ?_;(first|(refine Zab f ?_)|(refine Zab (fun w' g=>e w') ?_)|(refine Zab (fun w' g=>m w') ?_)|(refine Zab s ?_)|(refine bx ?_;intro F)))|refine walk1 ?_|(refine Zas rfl rfl rfl (fun d=>?_) (fun d=>?_))|(refine Zaf rfl (fun d=>?_) (fun d=>?_)))
  ·exact absurd (of_decide_eq_true d) (by omega)
  ·have h:=of_decide_eq_true d
   obtain rfl:none=b:=by rw[<- a,if_pos (.inl h)]
   exact rtC
  ·have h:=of_decide_eq_true d
   obtain rfl:none=b:=by rw[<- a,if_pos (.inr (.inl h))]
   exact rtC
  ·have hx:¬ B=0:=by simpa using d
   obtain rfl:none=b:=by rw[<- a,if_neg (fun h=>h.elim (fun h=>absurd h (of_decide_eq_false (by assumption))) (fun h=>h.elim (fun h=>absurd h (of_decide_eq_false (by assumption))) (fun h=>by cases h))),if_pos hx]
   exact rtC
  ·rename_i j
   have hx:¬ ¬ B=0:=by simpa using j
   obtain rfl:some ⟨y,(i:Int),86400*E+cs+u⟩=b:=by rw[<- a,if_neg (fun h=>h.elim (fun h=>absurd h (of_decide_eq_false (by assumption))) (fun h=>h.elim (fun h=>absurd h (of_decide_eq_false (by assumption))) (fun h=>by cases h))),if_neg hx,if_pos (of_decide_eq_true d)]
   exact rtC
  ·rename_i j
   have hx:¬ ¬ B=0:=by simpa using j
   obtain rfl:some ⟨y,(i:Int),86400*E+cs⟩=b:=by rw[<- a,if_neg (fun h=>h.elim (fun h=>absurd h (of_decide_eq_false (by assumption))) (fun h=>h.elim (fun h=>absurd h (of_decide_eq_false (by assumption))) (fun h=>by cases h))),if_neg hx,if_neg (of_decide_eq_false d),Int.add_zero]
   exact rtC
end Go.Proofs.YtpipekfmecikmaaGreatDoor
namespace Go.Wk
open Go Go.RowKit
def cmpI (a b:Int):Int:=if a<b then -1 else if b<a then 1 else 0
def iEnc (i:Int):List Value:=[.int .i64 i]
def ZbW:List Int->Int
 | []=>0
 | x::l=>if x=0 then ZbW l else x
theorem Zth (a b:Zac):ordE a b=ZbW [cmpI a.nominal b.nominal,cmpI a.rule b.rule,cmpI a.year b.year]:=by
 unfold ordE cmpI ZbW ZbW ZbW ZbW
 repeat' split
 all_goals omega
end Go.Wk
namespace Go.Proofs.YtpipekfmecikmaaGreatDoor
open Go Go.RowKit Go.Wk Tryz
attribute [local irreducible] W RL Does Zaq Zai retQ Calls Pu Stp RD Qy Ay Zaj
theorem ZjW (a:Int)(w:World):Does prog 185 [.int .i64 a] w (fun v O=>v = .bool false/\O=[]):=by
 refine Zaa func185 rfl rfl rfl rfl ?_
 repeat (refine walk ?_)
 exact ret_1 _ [] (.tmp rfl) .nil ⟨by simp,rfl⟩
theorem ZmB (a:Int)(w:World):Does prog 186 [.int .i64 a] w (fun v O=>v = .bool false/\O=[]):=by
 refine Zaa func186 rfl rfl rfl rfl ?_
 repeat (refine walk ?_)
 exact ret_1 _ [] (.tmp rfl) .nil ⟨by simp,rfl⟩
theorem Zkj (a b:Int)(w:World):Does prog 123 [.int .i64 a,.int .i64 b] w (fun v O=>v = .int .i64 (cmpI a b)/\O=[]):=by
 refine Zaa func123 rfl rfl rfl rfl ?_
 repeat' (first|(refine js ?_;(first|(refine Zab (fun w' _=>ZjW a w') ?_)|(refine Zab (fun w' _=>ZjW b w') ?_)))|refine walk ?_|(refine Zaf rfl (fun c=>?_) (fun c=>?_)))
 all_goals (refine ret_1 _ [] (.tmp rfl) .nil ⟨?_,rfl⟩;first|(simp_all [cmpI];done)|(simp_all [cmpI];omega))
theorem Zuc (a b:Int)(w:World):Does prog 124 [.int .i64 a,.int .i64 b] w (fun v O=>v = .int .i64 (cmpI a b)/\O=[]):=by
 refine Zaa func124 rfl rfl rfl rfl ?_
 repeat' (first|(refine js ?_;(first|(refine Zab (fun w' _=>ZmB a w') ?_)|(refine Zab (fun w' _=>ZmB b w') ?_)))|refine walk ?_|(refine Zaf rfl (fun c=>?_) (fun c=>?_)))
 all_goals (refine ret_1 _ [] (.tmp rfl) .nil ⟨?_,rfl⟩;first|(simp_all [cmpI];done)|(simp_all [cmpI];omega))
theorem ZAo (A:Option Addr)(c:Nat)(l:List Int)(w:World)(j:RdSl w A c iEnc 1 l):Does prog 122 [.slice A l.length c] w (fun v O=>v = .int .i64 (ZbW l)/\O=[]):=by
 have s:=j.le
 have m:=j.cap
 unfold maxLen at m
 obtain⟨f,d⟩:∃ f,ZbW l=f:=⟨_,rfl⟩
 rw[d]
 refine Zaa func122 rfl rfl rfl rfl ?_
 repeat (refine walk ?_)
 refine Zah [(6,_),(7,_),(3,_)] [] (fun k:Nat=>[(8,.int .i64 k)]) (fun _=>[]) (fun k=>k<=l.length/\ZbW (l.drop k)=f) (fun k=>l.length - k) 0 SFA SOA ⟨Nat.zero_le _,d⟩ ?_
 rintro k ⟨t,e⟩
 repeat (refine walk ?_)
 refine Zaf rfl (fun h=>?_) (fun h=>?_)
 ·have g:k<l.length:=by simpa using h
  obtain⟨hna,hca⟩:=j.rd k _ (List.getElem?_eq_getElem g)
  rw[Zag g,ZbW]at e
  generalize l[k]=r at *
  repeat (first|(apply RL_pu;rfl;exact PuI)|refine walk1 ?_)
  refine Zaf rfl (fun i=>?_) (fun i=>?_)
  ·rw[if_neg (by simpa using i)]at e
   repeat (refine walk ?_)
   exact ret_1 _ [] (.tmp rfl) .nil ⟨by rw[<- e],rfl⟩
  ·rw[if_pos (by simpa using i)]at e
   repeat (refine walk ?_)
   exact⟨k+1,OA,⟨OA,e⟩,SFA,.nil⟩
 ·have q:k=l.length:=by
   have:=of_decide_eq_false h
   omega
  subst q
  rw[List.drop_length]at e
  repeat (refine walk ?_)
  exact ret_1 _ [] (.tmp rfl) .nil ⟨by rw[<- e];rfl,rfl⟩
theorem ZoX {α:Type}{enc:α->List Value}{sz c:Nat}{ad:Addr}{l:List α}{w:World}(a:∀ x,(enc x).length=sz)(b:l.length<=c)(d:c<=maxLen)(h:Zat w ad (l.flatMap enc)):RdSl w (some ad) c enc sz l :=
 ⟨b,d,fun k x f=>⟨by simp,fun j v e=>by
  rw[ZbK]
  exact h _ v (ZaD a l k x j v f e)⟩⟩
theorem ZjU (a b:Zac)(w:World):Does prog 84 [.agg (Zac.enc a).toArray,.agg (Zac.enc b).toArray] w (fun v O=>v = .int .i64 (ordE a b)/\O=[]):=by
 rw[Zth]
 obtain⟨y,r,n⟩:=a
 obtain⟨f,e,d⟩:=b
 dsimp only
 have g:=Zkj n d
 have j:=Zuc r e
 have m:=Zkj y f
 generalize cmpI n d=x1 at *
 generalize cmpI r e=x2 at *
 generalize cmpI y f=x3 at *
 have p:=fun(c:Nat) w' (s:Zat w' ⟨c,0,none⟩ [.int .i64 x1,.int .i64 x2,.int .i64 x3])=>ZAo (some ⟨c,0,none⟩) 3 [x1,x2,x3] w' (ZoX (fun _=>rfl) (Nat.le_refl 3) (by decide) s)
 show Does _ _ [.agg #[.int .i64 y,.int .i64 r,.int .i64 n],.agg #[.int .i64 f,.int .i64 e,.int .i64 d]] w _
 refine Zaa func84 rfl rfl rfl rfl ?_
 repeat (first|refine walk ?_|(refine jg ?_;(try intro F);(first|(refine Zab (fun w' _=>g w') ?_)|(refine Zab (fun w' _=>j w') ?_)|(refine Zab (fun w' _=>m w') ?_)|(apply Zad (h:=fun w' _ q=>p _ w' (q.cells cS_));rfl;rintro v O' ⟨rfl,rfl⟩)|(refine bx ?_;intro c));refine fin ?_)|(refine jn ?_;(try intro F);((apply Zan;exact PuA));refine fin ?_)|(apply RD_W;rfl;intro c))
 exact rtA
