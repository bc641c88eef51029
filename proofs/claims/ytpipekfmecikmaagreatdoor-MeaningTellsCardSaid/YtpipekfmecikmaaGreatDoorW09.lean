/- Parts of the proof. -/
import Derived.Test.YtpipekfmecikmaaGreatDoorW08
import Derived.Test.YtpipekfmecikmaaGreatDoorW07
import Derived.Test.YtpipekfmecikmaaGreatDoorW06
set_option maxHeartbeats 4000000
set_option linter.unusedVariables false
set_option linter.unusedSimpArgs false
namespace Go.Proofs.YtpipekfmecikmaaGreatDoor
open Go Go.RowKit Go.Wk
attribute [local irreducible] W RL Does Zat Zaj retQ Calls Pu Stp RD Qy Ay
structure Fits (a:DSource):Prop where
 r:a.rules.length<=1000000
 z:a.zones.length<=1000000
 l:a.links.length<=1000000
 s:a.shifts.length<=1000000
 e:∀ z∈a.zones,z.eras.length<=1000000
structure ZE where
 z:DZone
 A:Option Addr
 c:Nat
def ZE.enc (q:ZE):List Value:=[.string q.z.name,.slice q.A q.z.eras.length q.c]
theorem ZE.len (x:ZE):x.enc.length=2:=rfl
def ZnQ (Zs:List ZE)(w:World):Prop:=∀ q∈Zs,RdSl w q.A q.c DEra.enc 13 q.z.eras
theorem ZpB {w:World}{A:Option Addr}{c:Nat}{Zs:List ZE}(h:RdSl w A c ZE.enc 2 Zs)(b:ZnQ Zs w):RdZ w A (Zs.map ZE.z):=fun k z a=>by
 rw[List.getElem?_map]at a
 cases hq:Zs[k]? with
 | none=>rw[hq]at a;cases a
 | some q =>
  rw[hq]at a
  injection a with a
  subst a
  exact⟨(h.rd k q hq).1,q.enc,⟨q.A,q.c,b q (List.mem_of_getElem? hq),rfl⟩,(h.rd k q hq).2⟩
abbrev rowR (A:Option Addr)(c:Nat)(l:List DRule):It := .row (.slice A l.length c) 68 11 l.length (l.flatMap DRule.enc)
abbrev rowZ (A:Option Addr)(c:Nat)(l:List ZE):It := .row (.slice A l.length c) 71 2 l.length (l.flatMap ZE.enc)
abbrev rowL (A:Option Addr)(c:Nat)(l:List DLink):It := .row (.slice A l.length c) 77 2 l.length (l.flatMap DLink.enc)
abbrev rowS (A:Option Addr)(c:Nat)(l:List ByteArray):It := .row (.slice A l.length c) 9 1 l.length (l.flatMap ZaO)
def Zv7 (s:DSource)(v:Value)(O:List It):Prop :=
 ∃ Ar cr Az cz Al cl As cs Zs S,v=srcV Ar Az Al As cr cz cl cs s/\Zs.map ZE.z=s.zones/\O=[rowR Ar cr s.rules,rowZ Az cz Zs,rowL Al cl s.links,rowS As cs s.shifts,.fact S (ZnQ Zs)]
theorem ZAO {w:World}{Ar Az Al As:Option Addr}{b c a cs:Nat}{Zs:List ZE}{S:Nat->Prop}{s:DSource}(d:Zs.map ZE.z=s.zones)(e:(rowR Ar b s.rules).sat w)(f:(rowZ Az c Zs).sat w)(g:(rowL Al a s.links).sat w)(i:(rowS As cs s.shifts).sat w)(j:(It.fact S (ZnQ Zs)).sat w) :
  Zal w Ar Az Al As b c a cs s:=by
 have h:=ZaP ZE.len f
 have k:s.zones.length=Zs.length:=by rw[<- d,List.length_map]
 exact⟨ZaP DRule.len e,by rw[k];exact h.le,h.cap,d▸ZpB h (ZbN j),ZaP DLink.len g,ZaP ZaO.len i⟩
end Go.Proofs.YtpipekfmecikmaaGreatDoor
namespace Go.Proofs.YtpipekfmecikmaaGreatDoor
open Go Go.RowKit Go.Wk
abbrev Zg8 (q:ZE):It := .row (.slice q.A q.z.eras.length q.c) 75 13 q.z.eras.length (q.z.eras.flatMap DEra.enc)
def Zv6 (s:DSource)(v:Value)(O:List It):Prop :=
 ∃ Ar cr Az cz Al cl As cs Zs,v=srcV Ar Az Al As cr cz cl cs s/\Zs.map ZE.z=s.zones/\O=rowR Ar cr s.rules::rowZ Az cz Zs::rowL Al cl s.links::rowS As cs s.shifts::Zs.map Zg8
theorem Ztl {s:DSource}{v:Value}{O:List It}(h:Zv6 s v O):∃ O',Zv7 s v O'/\∀ a w',Zaz a O w'->Zaz a O' w':=by
 obtain⟨Ar,c,Az,d,Al,b,As,cs,Zs,rfl,k,rfl⟩:=h
 refine⟨_,⟨Ar,c,Az,d,Al,b,As,cs,Zs,foot (Zs.map Zg8),rfl,k,rfl⟩,fun a w' g=>?_⟩
 have e:Zaz a (Zs.map Zg8++[rowR Ar c s.rules,rowZ Az d Zs,rowL Al b s.links,rowS As cs s.shifts]) w':=g.perm (List.perm_append_comm (l₁:=[rowR Ar c s.rules,rowZ Az d Zs,rowL Al b s.links,rowS As cs s.shifts]))
 have f:=e.fact (p:=ZnQ Zs) (fun l i q j=>ZaP DEra.len (i (Zg8 q) (List.mem_map.2 ⟨q,j,rfl⟩)))
 exact f.perm (List.perm_append_comm (l₁:=[_]) (l₂:=[rowR Ar c s.rules,rowZ Az d Zs,rowL Al b s.links,rowS As cs s.shifts]))
theorem SubO.permT {l A B O:List It}(h:SubO (l++A) O)(b:A.Perm B):SubO (l++B) O:=by
 obtain⟨R,a⟩:=h.perm
 exact SubO.ofPerm (R:=R) (a.trans ((b.append_left l).append_right R))
section
variable {P:Program}{n:Nat}{wr:World}{fr:Fr}{O:List It}{ops:Array Oper}{K:Fr->List It->Prop}
end
attribute [local irreducible] W RL Does Zat Zaj retQ Calls Pu Stp RD Qy Ay
structure QG where
 k:Nat
 Az:Option Addr
 cz:Nat
 m:Nat
 xs:List Value
 Zr:List ZE
theorem Zr5 (Ar Az Al As:Option Addr)(E cz D cs:Nat)(a:DSource)(w:World)(x:Zal w Ar Az Al As E cz D cs a)(Y:Fits a) :
  Does Tryz.prog 14 [srcV Ar Az Al As E cz D cs a] w (Zv6 a):=by
 obtain⟨hnr,hnz,Z,hns,y⟩:=Y
 refine Zaa Tryz.func14 rfl rfl rfl rfl ?_
 repeat (first|refine walk ?_|(refine jn ?_;(try intro F);(first|(apply ZcW;rfl;rfl;(intro A' c';(focus repeat' constructor));(intro w' q _;exact(x.r.up q).rd.raw DRule.len (by decide));exact Zbg DRule.len _;exact ZeY oneR _;(simp only[maxLen];omega);omega;intro Ar' d hr1 hr2 hr3)|(apply ZcW;rfl;rfl;(intro A' c';(focus repeat' constructor));(intro w' q _;exact(x.l.up q).rd.raw DLink.len (by decide));exact Zbg DLink.len _;exact ZeY oneL _;(simp only[maxLen];omega);omega;intro Al' c U W X)|(apply ZcW;rfl;rfl;(intro A' c';(focus repeat' constructor));(intro w' q _;exact(x.s.up q).rd.raw ZaO.len (by decide));exact Zbg ZaO.len _;exact ZeY oneS _;(simp only[maxLen];omega);omega;intro As' e hs1 hs2 hs3)|(refine bx ?_;intro j)|(refine stA ?_)|(apply Zad;exact PuA));refine fin ?_)|(apply RD_W;rfl;intro j))
 refine Zdq 71 2 ?_
 refine ZxM (fun g:QG=>[(4,.int .i64 g.k),(1,_),(2,_),(3,_)]) (fun g => .row (.slice g.Az g.m g.cz) 71 2 g.m g.xs :: .blk j [.slice Ar' a.rules.length d,.slice g.Az g.m g.cz,.slice Al' a.links.length c,.slice As' a.shifts.length e] 27::rowS As' e a.shifts::rowL Al' c a.links::rowR Ar' d a.rules :: .blk _ _ _ :: .blk _ _ _::g.Zr.map Zg8)
  (fun g=>g.k<=a.zones.length/\g.m=g.Zr.length/\g.xs=g.Zr.reverse.flatMap ZE.enc/\g.Zr.reverse.map ZE.z=a.zones.take g.k)
  (fun g=>a.zones.length - g.k) ⟨0,none,0,0,[],[]⟩ ⟨rfl,rfl,rfl,rfl,trivial⟩ STA ⟨by simp,rfl,rfl,by simp⟩ ?_
 rintro⟨k,Az',cz',m,xs,Zr⟩ ⟨hk,hm,hx,hz⟩
 dsimp only at hk hm hx hz ⊢
 generalize hT:Zr.map Zg8=T
 repeat (first|refine walk ?_|(refine jn ?_;(try intro F);(first|(refine bx ?_;intro j)|(refine stA ?_)|(apply Zad;exact PuA));refine fin ?_)|(apply RD_W;rfl;intro j))
 refine Zaf rfl (fun t=>?_) (fun t=>?_)
 ·simp only[decide_eq_true_eq,Int.ofNat_lt]at t
  obtain⟨hna,I,⟨Ae,ce,J,rfl⟩,hca⟩:=x.z k _ (List.getElem?_eq_getElem t)
  have hnb:=hna
  have hcb:=hca
  have ht:=List.take_append_getElem t
  have H:=y _ (List.getElem_mem t)
  have hzl:Zr.length=k:=by rw[<- List.length_reverse,<- List.length_map (f:=ZE.z),hz,List.length_take];omega
  generalize a.zones[k]=z at *
  refine Zdq 75 13 ?_
  repeat (first|(apply RL_pu;rfl;exact PuI)|(apply RD_Q;rfl;rfl;decide +kernel;rfl;rfl;exact QyI)|refine walk1 ?_|(refine jn ?_;(try intro F);(first|(apply ZaF;rfl;rfl;(intro A' c';(focus repeat' constructor));(intro w' _ K;exact ZbD (K.of (by repeat' constructor)));rfl;rfl;(simp only[maxLen];omega);omega;intro A' c' L M N)|(apply ZcW;rfl;rfl;(intro A' c';(focus repeat' constructor));(intro w' q _;exact(J.up q).rd.raw DEra.len (by decide));exact Zbg DEra.len _;exact ZeY oneE _;(simp only[maxLen];omega);omega;intro Ae2 u Q R S)|(refine bx ?_;intro j)|(refine stA ?_)|(apply Zad;first|exact PuI|exact PuA));first|refine⟨_,EndsA,QFI,?_⟩|refine fin ?_)|(apply RD_W;rfl;intro j))
  subst hT
  exact⟨⟨k+1,A',c',m+1,xs++ZE.enc ⟨z,Ae2,u⟩,⟨z,Ae2,u⟩::Zr⟩,OA,⟨OA,by simp[hm],by simp[hx],by rw[List.reverse_cons,List.map_append,hz];exact ht⟩,SFA,STA⟩
 simp only[decide_eq_false_iff_not,Int.ofNat_lt]at t
 rw[List.take_of_length_le (by omega)]at hz
 subst hT
 refine ZBt _ (SubO.permT (l:=[_,_,_,_,_,_,_]) (.refl _) ((List.reverse_perm Zr).symm.map Zg8)) ?_
 rw[<- List.length_reverse]at hm
 generalize Zr.reverse=Zs at *
 repeat (first|refine walk ?_|(refine jn ?_;(try intro F);(first|(refine bx ?_;intro j)|(refine stA ?_)|(apply Zad;exact PuA));refine fin ?_)|(apply RD_W;rfl;intro j))
 subst hm hx
 have H:Zs.length=a.zones.length:=by rw[<- hz,List.length_map]
 exact ret_1 _ (rowR Ar' d a.rules::rowZ Az' cz' Zs::rowL Al' c a.links::rowS As' e a.shifts::Zs.map Zg8) (.cellB rfl (by repeat' constructor) rfl rfl) STA ⟨Ar',d,Az',cz',Al',c,As',e,Zs,by rw[srcV,<- H];rfl,hz,rfl⟩
theorem Zt4 (Ar Az Al As:Option Addr)(c d b cs:Nat)(a:DSource)(w:World)(e:Zal w Ar Az Al As c d b cs a)(f:Fits a) :
  Does Tryz.prog 14 [srcV Ar Az Al As c d b cs a] w (Zv7 a):=(Zr5 Ar Az Al As c d b cs a w e f).monoO fun _ _ h=>Ztl h
end Go.Proofs.YtpipekfmecikmaaGreatDoor
namespace Go.Wk
open Go Go.RowKit
theorem Zsr (z:Array Value)(k:Nat)(h:z.toList.all Value.oneCell'=true)(c:0<z.size):(Builtin.zeroCells z k).toList.all Value.oneCell'=true:=by
 rw[List.all_eq_true]at h ⊢
 intro x b
 unfold Builtin.zeroCells at b
 rw[Array.toList_map,List.mem_map]at b
 obtain⟨i,d,rfl⟩:=b
 have a:=Nat.mod_lt i c
 rw[getElem!_pos z (i % z.size) a]
 exact h _ (by simp)
theorem Zp4:∀ (vs xs:List Value) (j:Nat),xs.length<=j->lay xs j vs=xs
 | [],_,_,_=>rfl
 | v::r,xs,j,h=>by rw[lay,List.set_eq_of_length_le h,Zp4 r xs (j+1) (by omega)]
theorem ZxB:∀ (vs b cs a:List Value),cs.length=vs.length->lay (b++cs++a) b.length vs=b++vs++a
 | [],b,cs,a,h=>by
  have:cs=[]:=List.eq_nil_of_length_eq_zero h
  rw[this];rfl
 | v::r,b,[],a,h=>by simp at h
 | v::r,b,c::cs,a,h=>by
  have:=ZxB r (b++[v]) cs a (by simpa using h)
  rw[lay]
  rw[show(b++c::cs++a).set b.length v=b++[v]++cs++a by simp]
  rw[List.length_append]at this
  simpa using this
end Go.Wk
namespace Go.Proofs.YtpipekfmecikmaaGreatDoor
open Go Go.RowKit Go.Wk
attribute [local irreducible] W RL Does Zat Zaj retQ Calls Pu Stp RD Qy Ay Zak ZbV
theorem ZiF {α:Type}(p:α->Bool):∀ (l:List α) (k:Nat),(ZbW p l k = -1/\l.filter (fun r => !p r)=l)\/∃ i,ZbW p l k=((k+i:Nat):Int)/\i<l.length/\(l.take (i+1)).filter (fun r => !p r)=l.take i
 | [],k => .inl ⟨rfl,rfl⟩
 | x::l,k=>by
  rw[ZbW]
  by_cases h:p x=true
  ·rw[if_pos h]
   exact .inr ⟨0,rfl,by simp,by simp[h]⟩
  ·rw[if_neg h]
   rcases ZiF p l (k+1) with⟨h1,h2⟩|⟨i,h1,h2,h3⟩
   ·exact .inl ⟨h1,by rw[List.filter_cons,if_pos (by simp[h]),h2]⟩
   ·refine .inr ⟨i+1,by rw[h1];omega,by simpa using h2,?_⟩
    rw[List.take_succ_cons,List.filter_cons,if_pos (by simp[h]),h3,List.take_succ_cons]
theorem ZzG {a:Nat}{A:Option Addr}{c:Nat}{l:List DRule}{w:World}{O R:List It}(h:Zaz a O w)(m:Pick (rowR A c l) O R)(d:l.length<=c)(b:c<=maxLen):RdSl w A c DRule.enc 11 l :=
 ⟨d,b,fun k x e=>by
  have f:=h.sat _ (m.perm.mem_iff.2 List.mem_cons_self)
  have i:=(List.getElem?_eq_some_iff.1 e).1
  refine⟨ZpR f (by omega),fun j v g=>?_⟩
  rw[ZbB]
  exact(Za2 f (ZaC DRule.len l k x j v e g)).2⟩
instance zeroRule:ZeroV Tryz.prog 68 (.agg #[.string ByteArray.empty,.int .i64 0,.int .i64 0,.int .i64 0,.int .i64 0,.int .i64 0,.int .i64 0,.int .i64 0,.int .i64 0,.int .i64 0,.string ByteArray.empty]):=⟨by kernel_rfl⟩
structure DG where
 j:Nat
 C:List DRule
set_option maxHeartbeats 2000000 in
theorem ZoQ (A:Option Addr)(c:Nat)(l:List DRule)(f:FuncId)[Body Tryz.prog f](p:DRule->Bool)(wr:World)(hn:l.length<=1000000)(M:l.length<=c)(z:c<=maxLen)(x:0<l.length->A≠none)(T:∀ r w',Does Tryz.prog f [.agg (DRule.enc r).toArray] w' (fun v O=>v = .bool (p r)/\O=[])) :
  Zak Tryz.prog 270 [.slice A l.length c,.func (.func f) #[] #[]] wr [rowR A c l] (fun v O=>v = .slice A (l.filter fun r => !p r).length c/\O=[rowR A c (l.filter fun r => !p r)]):=by
 have d:=fun w' (y:Zaz wr.heap.size [rowR A c l] w')=>Zff A c l f [] [] p w' (ZzG y .here M z) fun r w2 _=>T r w2
 unfold maxLen at z
 generalize hres:(l.filter fun r => !p r)=res
 rcases ZiF p l 0 with⟨h1,h2⟩|⟨i,h1,h2,h3⟩
 ·rw[h1]at d
  rw[h2]at hres
  subst hres
  refine Zbz Tryz.func270 rfl rfl rfl rfl ?_
  repeat (first|(refine js ?_;(first|(apply Zae (h:=fun w' _ y=>d w' y);rfl;rintro v O' ⟨rfl,rfl⟩)|(refine bx ?_;intro u)))|refine walk ?_)
  exact ret_1 _ _ (.tmp rfl) (.refl _) ⟨rfl,rfl⟩
 ·rw[h1,Nat.zero_add]at d
  have R:=x (by omega)
  obtain⟨ad,rfl⟩:∃ ad,A=some ad:=by
   cases A with
   | none=>exact absurd rfl R
   | some ad=>exact⟨ad,rfl⟩
  clear R x
  refine Zbz Tryz.func270 rfl rfl rfl rfl ?_
  repeat (first|(refine js ?_;(first|(apply Zae (h:=fun w' _ y=>d w' y);rfl;rintro v O' ⟨rfl,rfl⟩)|(refine bx ?_;intro u)))|refine ZlS ?_)
  refine Zb6 (fun fr' O'=>Go.Wk.Sub [(0,.slice (some ad) l.length c),(5,.int .i64 res.length)] fr'/\SubO [.row (.slice (some ad) l.length c) 68 11 l.length ((res++l.drop res.length).flatMap DRule.enc)] O') ?_ ?_
  ·apply W_block
   refine Zai [(0,_),(1,_)] [] (fun g:DG=>[(5,.int .i64 g.C.length),(6,.int .i64 g.j)]) (fun g=>[.row (.slice (some ad) l.length c) 68 11 l.length ((g.C++l.drop g.C.length).flatMap DRule.enc)])
    (fun g=>g.C=(l.take g.j).filter (fun r => !p r)/\g.C.length+1<=g.j/\g.j<=l.length) (fun g=>l.length - g.j) ⟨i+1,l.take i⟩ (by dsimp only;rw[List.length_take,Nat.min_eq_left (by omega)];exact⟨rfl,rfl,rfl,rfl,trivial⟩) (by dsimp only;rw[List.length_take,Nat.min_eq_left (by omega),List.take_append_drop];exact .refl _) ⟨h3.symm,by show(l.take i).length+1<=i+1;rw[List.length_take];omega,by show i+1<=l.length;omega⟩ ?_
   rintro⟨j,C⟩ ⟨hC,hCj,hj⟩
   dsimp only at hC hCj hj ⊢
   have w:(C++l.drop C.length).length=l.length:=by rw[List.length_append,List.length_drop];omega
   repeat (first|(refine js ?_;(refine bx ?_;intro u))|refine walk ?_)
   refine Zaf rfl (fun g=>?_) (fun g=>?_)
   ·have e:j<l.length:=by simpa using g
    have V:∀ q v,(DRule.enc l[j])[q]?=some v->((C++l.drop C.length).flatMap DRule.enc)[(j:Int).toNat*11+q]?=some v:=fun q v hv=>by
     refine ZaC DRule.len _ j l[j] q v ?_ hv
     rw[List.getElem?_append_right (by omega),List.getElem?_drop,show C.length+(j - C.length)=j from by omega,List.getElem?_eq_getElem e]
    have s:(l.take (j+1)).filter (fun r => !p r)=C++(if p l[j] then [] else [l[j]]):=by
     rw[List.take_succ_eq_append_getElem e,List.filter_append,<- hC]
     by_cases U:p l[j]=true
     ·simp[U]
     ·simp[U]
    have t:lay ((C++l.drop C.length).flatMap DRule.enc) (C.length*11) (DRule.enc l[j])=((C++[l[j]])++l.drop (C.length+1)).flatMap DRule.enc:=by
     have N:C.length<l.length:=by omega
     rw[Zah N,show C++l[C.length]::l.drop (C.length+1)=C++[l[C.length]]++l.drop (C.length+1) by simp,List.flatMap_append,List.flatMap_append,List.flatMap_append,List.flatMap_append,List.flatMap_singleton,List.flatMap_singleton]
     have:=ZxB (DRule.enc l[j]) (C.flatMap DRule.enc) (DRule.enc l[C.length]) ((l.drop (C.length+1)).flatMap DRule.enc) rfl
     rw[Zbg DRule.len]at this
     exact this
    generalize l[j]=r at *
    obtain⟨J,fr,to,I,⟨F,H,dd⟩,⟨cs,E⟩,sv,le⟩:=r
    have D:=T ⟨J,fr,to,I,⟨F,H,dd⟩,⟨cs,E⟩,sv,le⟩
    generalize p ⟨J,fr,to,I,⟨F,H,dd⟩,⟨cs,E⟩,sv,le⟩=b at *
    simp only[DRule.enc]at V t D
    repeat (first|(apply RL_pu;rfl;(first|(apply Pu_indexAddr;rfl;rfl;omega;omega;nofun)|(apply Zb8;rfl;(focus repeat' constructor);exact V;rfl)))|(refine js ?_;(first|(apply Zar (f:=f) (us:=[]) (cs:=[]) (vs:=[.agg #[.string J,.int .i64 fr,.int .i64 to,.int .i64 I,.int .i64 F,.int .i64 H,.int .i64 dd,.int .i64 cs,.int .i64 E,.int .i64 sv,.string le]]) (h:=fun w' hw _=>D w');rfl;rfl;rintro v O' ⟨rfl,rfl⟩)|(refine bx ?_;intro u)))|refine walk1 ?_)
    refine Zaf rfl (fun g2=>?_) (fun g2=>?_)
    ·have K:b=false:=by simpa using g2
     rw[K,if_neg (by decide)]at s
     have L:((C++l.drop C.length).flatMap DRule.enc).length=l.length*11:=by rw[Zbg DRule.len,w]
     repeat (first|(apply RL_pu;rfl;(apply Pu_indexAddr;rfl;rfl;omega;omega;nofun))|(refine js ?_;(first|(apply ZgG (vs:=[.string J,.int .i64 fr,.int .i64 to,.int .i64 I,.int .i64 F,.int .i64 H,.int .i64 dd,.int .i64 cs,.int .i64 E,.int .i64 sv,.string le]);rfl;rfl;(focus repeat' constructor);rfl;rfl;rfl;(rw[L];omega);decide;exact t)|(refine bx ?_;intro u)))|refine walk1 ?_)
     refine⟨⟨j+1,_⟩,OA,⟨s.symm,by dsimp only;rw[List.length_append,List.length_singleton];omega,OA⟩,?_,?_⟩
     ·dsimp only
      rw[List.length_append,List.length_singleton]
      exact SFA
     ·dsimp only
      rw[List.length_append,List.length_singleton]
      exact SOA
    ·have K:b=true:=by simpa using g2
     rw[K,if_pos rfl,List.append_nil]at s
     repeat (first|(refine js ?_;(refine bx ?_;intro u))|refine walk ?_)
     exact⟨⟨j+1,C⟩,OA,⟨s.symm,OA,OA⟩,SFA,SOA⟩
   ·have e:j=l.length:=by
     have:=of_decide_eq_false g
     omega
    rw[e,List.take_length,hres]at hC
    subst hC
    repeat (first|(refine js ?_;(refine bx ?_;intro u))|refine walk ?_)
    exact⟨rfl,SFA,SOA⟩
  rintro fr' O' ⟨B,S⟩
  apply thenQ_n
  refine ZcV B S ?_
  clear B S fr' O'
  have hrl:res.length<l.length:=by
   have W:l.take (i+1)++l.drop (i+1)=l:=List.take_append_drop _ _
   have X:res=l.take i++(l.drop (i+1)).filter (fun r => !p r):=by rw[<- hres,<- h3,<- List.filter_append,W]
   have Y:=List.length_filter_le (fun r => !p r) (l.drop (i+1))
   rw[List.length_drop]at Y
   have Z:=congrArg List.length X
   rw[List.length_append,List.length_take]at Z
   omega
  have w:((res++l.drop res.length).flatMap DRule.enc).length=l.length*11:=by rw[Zbg DRule.len,List.length_append,List.length_drop];congr 1;omega
  have Q:∀ vs,(lay ((res++l.drop res.length).flatMap DRule.enc) ((res.length:Int).toNat*11) vs).take (res.length*11)=res.flatMap DRule.enc:=fun vs=>by
   rw[Zhs,List.flatMap_append,List.take_left' (by rw[Zbg DRule.len])]
   exact Zp4 _ _ _ (by rw[Zbg DRule.len];omega)
  repeat (first|((apply RL_st0;apply Zsl (p:=(res.length:Int).toNat*11) (k:=l.length - (res.length:Int).toNat);rfl;(focus repeat' constructor);exact Zsr _ _ rfl (by decide);omega;(rw[w];omega));refine Zux (m:=l.length) res.length (by omega) (by repeat' constructor) ?_;rw[Q])|(apply RL_pu;rfl;(apply ZuW;rfl;rfl;omega;omega;omega))|(refine js ?_;(refine bx ?_;intro u))|refine walk1 ?_)
  exact ret_1 _ _ (.tmp rfl) (.refl _) ⟨rfl,rfl⟩
attribute [local irreducible] Zg0
def ZB8 (l:List DRule)(v:Value)(O:List It):Prop:=∃ A c,v = .slice A l.length c/\O=[rowR A c l]/\l.length<=c/\c<=maxLen/\(0<l.length->A≠none)
theorem Zli (A:Option Addr)(c:Nat)(x:List DRule)(w:World)(j:RdSl w A c DRule.enc 11 x)(k:x.length<=1000000) :
  Does Tryz.prog 271 [.slice A x.length c] w (ZB8 x) :=
 (ZoT A c x w j k).monoH fun v O a w' ⟨A,c,e,f⟩ b=>by
  subst f
  obtain⟨A2,l,d,g,h,i,_⟩:=ZfC (b.sat _ List.mem_cons_self)
  injection d with e2 _ e3
  subst e2 e3
  exact⟨_,⟨A,c,e,rfl,g,h,i⟩,b⟩
theorem Zu3 {G:Prop}(h:G:=by(first|(apply Pu_indexAddr;rfl;rfl;(first|decide|omega);(first|decide|omega);nofun)|(apply Zb8;rfl;(focus repeat' constructor);exact hx1;rfl)|(apply Zb8;rfl;(focus repeat' constructor);exact hx2;rfl))):G:=h
theorem ZxR {G:Prop}(h:G:=by first|(apply Qy_y;rfl;exact Zu3)|exact QyA):G:=h
theorem ZBH {G:Prop}(h:G:=by repeat (first|exact QF.nil|(apply QF.mk;rfl;rfl;decide +kernel;exact ZxR))):G:=h
theorem ZtC (A:Option Addr)(c:Nat)(l:List DRule)(w:World)(I:RdSl w A c DRule.enc 11 l)(J:l.length<=1000000) :
  Does Tryz.prog 229 [.slice A l.length c] w (fun v O=>v = .bool (Zgv l)/\O=[]):=by
 have E:(l.filter fun r => !(!decide (r.to=1048576)))=l.filter fun r=>decide (r.to=1048576):=by
  congr 1;funext r;rw[Bool.not_not]
 have z:=List.length_filter_le (fun r:DRule=>decide (r.to=1048576)) l
 obtain⟨D,e⟩:∃ D,Zgv l=D:=⟨_,rfl⟩
 rw[e]
 unfold Zgv at e
 refine Zaa Tryz.func229 rfl rfl rfl rfl ?_
 repeat (first|refine walk ?_|(refine jg ?_;(try intro F);(first|(apply Zae (h:=fun w' T _=>Zli A c l w' (I.up T) J);rfl;rintro v O' ⟨B,d,rfl,rfl,s,t,u⟩)|(refine bx ?_;intro f)|(refine stA ?_));refine fin ?_)|(refine jn ?_;(try intro F);(first|(refine bx ?_;intro f)|(refine stA ?_)|(apply Zad;exact PuA));refine fin ?_)|(apply RD_W;rfl;intro f))
 have j:=ZoQ B d l 272 (fun r => !decide (r.to=1048576)) w J s t u ZrO
 rw[E]at j
 generalize (l.filter fun r=>decide (r.to=1048576))=F at *
 repeat (first|refine walk ?_|(refine Zdc ?_;intro F;(apply ZdF (h:=j);rfl;exact .refl _;rintro v O' ⟨rfl,rfl⟩);refine⟨_,EndsA,SubO.right _ _,?_⟩)|(refine jn ?_;(try intro F);(first|(apply ZdF (h:=j);rfl;exact .refl _;rintro v O' ⟨rfl,rfl⟩)|(refine bx ?_;intro f)|(refine stA ?_)|(apply Zad;exact PuA));refine fin ?_)|(apply RD_W;rfl;intro f))
 rcases F with _|⟨a,_|⟨b,_|⟨x,F⟩⟩⟩
 ·repeat (first|refine walk ?_|(refine jn ?_;(try intro F);(first|(refine bx ?_;intro f)|(refine stA ?_)|(apply Zad;exact PuA));refine fin ?_)|(apply RD_W;rfl;intro f))
  exact ret_1 _ [] (.tmp rfl) .nil ⟨by rw[<- e],rfl⟩
 ·repeat (first|refine walk ?_|(refine jn ?_;(try intro F);(first|(refine bx ?_;intro f)|(refine stA ?_)|(apply Zad;exact PuA));refine fin ?_)|(apply RD_W;rfl;intro f))
  exact ret_1 _ [] (.tmp rfl) .nil ⟨by rw[<- e],rfl⟩
 ·have S:=u (by simp at z;omega)
  obtain⟨ad,rfl⟩:∃ ad,B=some ad:=by
   cases B with
   | none=>exact absurd rfl S
   | some ad=>exact⟨ad,rfl⟩
  dsimp only at e
  have m:=ZjP a
  have p:=ZjP b
  generalize Zg0 a=pa at *
  generalize Zg0 b=pb at *
  have hx1:∀ q v,(DRule.enc a)[q]?=some v->([a,b].flatMap DRule.enc)[(0:Int).toNat*11+q]?=some v:=fun q v H=>ZaC DRule.len _ 0 a q v rfl H
  have hx2:∀ q v,(DRule.enc b)[q]?=some v->([a,b].flatMap DRule.enc)[(1:Int).toNat*11+q]?=some v:=fun q v H=>ZaC DRule.len _ 1 b q v rfl H
  simp only[rowR,List.length_cons,List.length_nil,Nat.zero_add,Nat.reduceAdd]
  generalize hxs:[a,b].flatMap DRule.enc=xs at *
  clear hxs
  obtain⟨nm,fr,to,mo,⟨dk,dw,dd⟩,⟨cs,cb⟩,sv,le⟩:=a
  obtain⟨X,R,Z,W,⟨N,Q,M⟩,⟨L,K⟩,Y,U⟩:=b
  simp only[DRule.enc]at hx1 hx2 m p
  repeat (first|(apply RL_pu;rfl;exact Zu3)|(apply RD_Q;rfl;rfl;decide +kernel;rfl;rfl;exact ZxR)|refine walk1 ?_|(refine jn ?_;(try intro F);(first|(refine bx ?_;intro f)|(refine stA ?_)|(apply Zad;first|exact Zu3|exact PuA));first|refine⟨_,EndsA,ZBH,?_⟩|refine fin ?_)|(apply RD_W;rfl;intro f))
  repeat' (first|(refine js ?_;(first|(refine Zab (fun w' _=>m w') ?_)|(refine Zab (fun w' _=>p w') ?_)|(refine bx ?_;intro f)))|refine walk ?_|(refine Zdc ?_;intro F;(first|(refine Zab (fun w' _=>m w') ?_)|(refine Zab (fun w' _=>p w') ?_));refine⟨_,EndsA,SubO.right _ _,?_⟩)|(refine RD_Lw ?_;intro F;(first|(refine Zab (fun w' _=>m w') ?_)|(refine Zab (fun w' _=>p w') ?_)|(refine bx ?_;intro f)|(refine stA ?_)|(apply Zad;exact PuA));refine⟨_,EndsA,QFA,?_⟩)|(apply RD_W;rfl;intro f)|refine und ?_|(refine Zam rfl rfl rfl (fun y=>?_) (fun y=>?_))|(refine Zas rfl rfl rfl (fun y=>?_) (fun y=>?_))|(refine Zaf rfl (fun y=>?_) (fun y=>?_)))
  all_goals clear hx1 hx2 m p j I s t
  all_goals subst e
  all_goals exact clo1
 ·repeat (first|refine walk ?_|(refine jn ?_;(try intro F);(first|(refine bx ?_;intro f)|(refine stA ?_)|(apply Zad;exact PuA));refine fin ?_)|(apply RD_W;rfl;intro f))
  exact ret_1 _ [] (.tmp rfl) .nil ⟨by rw[<- e],rfl⟩
attribute [local irreducible] RW
def Zwe (l:List DRule):Nat × Int :=
 if (l.any fun r=>decide (r.save=0))=false\/(Zag l<0/\(l.any fun r => !decide (r.save=0)&&!decide (r.save=Zag l))=true) then (0,14)
 else if Zgv l=false then (0,16)
 else (0,0)
def outR (l:List DRule):Option (Nat × Int)->Nat × Int
 | some x=>x
 | none=>Zwe l
theorem Zwk (l:List DRule):Zcv l=outR l (ZaS (Zag l) l 0):=by
 unfold Zcv outR Zwe
 cases ZaS (Zag l) l 0 <;> rfl
theorem Zrk (r:DRule)(least:Int):Zbp r least=if ZcT r least 0=false then 3 else if ZcT r least 1=false then 12 else if ZcT r least 2=false then 3 else if ZcT r least 3=false then 3 else if ZcT r least 4=false then 14 else if ZcT r least 5=false then 15 else 0:=by
 by_cases h:r.to<r.from_
 ·have e:ZcT r least 1=false:=decide_eq_false (by omega)
  rw[e,if_pos rfl,Zbp,if_pos h];rfl
 ·have e:ZcT r least 1=true:=decide_eq_true (by omega)
  rw[e,if_neg (show ¬ true=false by decide),Zbp,if_neg h];rfl
theorem Ztx (l:List DRule):∀ m:Int,-4611686018427387904<=m->m<=4611686018427387904->(∀ r∈l,-4611686018427387904<=r.save/\r.save<=4611686018427387904) -> -4611686018427387904<=l.foldl (fun m r=>min m r.save) m/\l.foldl (fun m r=>min m r.save) m<=4611686018427387904:=by
 induction l with
 | nil=>intro m a b _;exact⟨a,b⟩
 | cons r l ih =>
  intro m a b h
  have d:=h r List.mem_cons_self
  exact ih (min m r.save) (by omega) (by omega) fun x c=>h x (List.mem_cons_of_mem _ c)
theorem Zil (l:List DRule):∀ m:Int,-9223372036854775808<=m->m<=0->(∀ r∈l,-9223372036854775808<=r.save/\r.save<=9223372036854775807) -> -9223372036854775808<=l.foldl (fun m r=>min m r.save) m/\l.foldl (fun m r=>min m r.save) m<=0:=by
 induction l with
 | nil=>intro m a b _;exact⟨a,b⟩
 | cons r l ih =>
  intro m a b h
  have d:=h r List.mem_cons_self
  exact ih (min m r.save) (by omega) (by omega) fun x c=>h x (List.mem_cons_of_mem _ c)
def Zm4 (j:Nat):FuncId:=if j=0 then 390 else if j=1 then 392 else if j=2 then 393 else if j=3 then 395 else if j=4 then 397 else 398
def errN (j:Nat):Int:=if j=0 then 3 else if j=1 then 12 else if j=2 then 3 else if j=3 then 3 else if j=4 then 14 else 15
def ZgA (b:Nat->Bool):Nat->Int
 | 0=>0
 | n+1=>if b (5 - n)=false then errN (5 - n) else ZgA b n
theorem Zl0 (r:DRule)(least:Int):Zbp r least=ZgA (ZcT r least) 6:=Zrk r least
theorem Zr7 (j:Nat)(a:j<6):(Zf0.drop (((j:Int)).toNat*2)).take 2=[fnV (Zm4 j),.int .i64 (errN j)]:=by
 have h:j=0\/j=1\/j=2\/j=3\/j=4\/j=5:=by omega
 rcases h with rfl|rfl|rfl|rfl|rfl|rfl <;> rfl
theorem Zr6 (j:Nat)(d:j<6)(r:DRule)(least:Int)(w:World)(a:Glob w)(b : -9223372036854775808<=least/\least<=0)(c:(r.letter.size:Int)<=9223372036854775807) :
  Does Tryz.prog (Zm4 j) [.agg (DRule.enc r).toArray,.int .i64 least] w (fun v O=>v = .bool (ZcT r least j)/\O=[]):=by
 have h:j=0\/j=1\/j=2\/j=3\/j=4\/j=5:=by omega
 rcases h with rfl|rfl|rfl|rfl|rfl|rfl
 ·exact Zsd r least w
 ·exact Zsc r least w
 ·exact Zsb r least w a
 ·exact Zsa r least b w
 ·exact Zr9 r least w
 ·exact Zr8 r least c w
theorem ZoR (j:Nat):Body Tryz.prog (Zm4 j):=by
 unfold Zm4
 split
 ·infer_instance
 split
 ·infer_instance
 split
 ·infer_instance
 split
 ·infer_instance
 split <;> infer_instance
theorem ZyL {G:Prop}(h:G:=by(first|exact PuI|(apply Pu_loadON;rfl;exact hG.con;rfl))):G:=h
theorem ZyK {G:Prop}(h:G:=by(apply Znu;rfl;rfl;omega;omega;exact hcc)):G:=h
theorem Zl3 (A:Option Addr)(c:Nat)(l:List DRule)(w:World)(hG:Glob w)(L:RdSl w A c DRule.enc 11 l)(hn:l.length<=1000000)(W:∀ r∈l,(-9223372036854775808<=r.save/\r.save<=9223372036854775807)/\(r.letter.size:Int)<=9223372036854775807) :
  Does Tryz.prog 176 [.slice A l.length c] w (fun v O=>v = .tuple #[.int .i64 (Zcv l).1,.int .i64 (Zcv l).2]/\O=[]):=by
 have S:=Zil l 0 (by omega) (by omega) fun r hr=>(W r hr).1
 have s:=fun w' (u:Bel w.heap.size w w')=>ZtC A c l w' (L.up u) hn
 have m:=fun w' (u:Bel w.heap.size w w')=>ZeC A c l 226 [] [] (fun r=>decide (r.save=0)) w' (L.up u) fun r w2 _=>Zua r w2
 have x:=fun(b:Nat) w' (u:Bel w.heap.size w w') (E:Zau w' ⟨b,0,none⟩ [.int .i64 (Zag l)])=>ZeC A c l 227 [] [.pointer (some ⟨b,0,none⟩)] (fun r => !decide (r.save=0)&&!decide (r.save=Zag l)) w' (L.up u) fun r w2 M=>Zt9 r ⟨b,0,none⟩ (Zag l) w2 ((E.up M (Nat.le_refl _)) 0 _ rfl)
 have D:=fun w' (u:Bel w.heap.size w w')=>ZcI A c l w' (L.up u)
 obtain⟨K,y⟩:∃ K,Zcv l=K:=⟨_,rfl⟩
 rw[y]
 rw[Zwk]at y
 have htl:∃ t,Zwe l=t:=⟨_,rfl⟩
 change -9223372036854775808<=Zag l/\Zag l<=0 at S
 refine Zaa Tryz.func176 rfl rfl rfl rfl ?_
 repeat (first|refine walk ?_|(refine jg ?_;(try intro F);(first|(refine Zab D ?_)|(refine bx ?_;intro e)|(refine stA ?_));refine fin ?_)|(refine jn ?_;(try intro F);(first|(refine bx ?_;intro e)|(refine stA ?_)|(apply Zad;exact PuA));refine fin ?_)|(apply RD_W;rfl;intro e))
 refine Zai [(0,.slice A l.length c),(4,.pointer (some ⟨e,0,none⟩)),(13,.slice A l.length c),(14,.int .i64 l.length)] [.blk e [.int .i64 (Zag l)] 2] (fun k:Nat=>[(15,.int .i64 k)]) (fun _=>[]) (fun k=>k<=l.length/\outR l (ZaS (Zag l) (l.drop k) k)=K) (fun k=>l.length - k) 0 SFA SOA ⟨Nat.zero_le _,y⟩ ?_
 rintro k ⟨hk,I⟩
 repeat (first|refine walk ?_|(refine jn ?_;(try intro F);(first|(refine bx ?_;intro e)|(refine stA ?_)|(apply Zad;exact PuA));refine fin ?_)|(apply RD_W;rfl;intro e))
 refine Zaf rfl (fun h=>?_) (fun h=>?_)
 ·have J:k<l.length:=by simpa using h
  obtain⟨hna,hca⟩:=L.rd k _ (List.getElem?_eq_getElem J)
  have X:=W l[k] (List.getElem_mem J)
  rw[Zah J,ZaS,Zl0]at I
  generalize l[k]=r at *
  have R:=fun j (hj:j<6) w' (u:Bel w.heap.size w w')=>Zr6 j hj r (Zag l) w' (hG.up u) S X.2
  generalize ZcT r (Zag l)=bb at *
  obtain⟨nm,fr,to,mo,⟨dk,dw,dd⟩,⟨cs,cb⟩,sv,le⟩:=r
  simp only[DRule.enc]at hca R
  obtain⟨T,Q⟩:∃ T,e=T:=⟨_,rfl⟩
  rw[Q]at *
  clear Q e
  repeat (first|(apply RL_pu;rfl;exact ZyL)|(apply RD_Q;rfl;rfl;decide +kernel;rfl;rfl;exact QyRsE0)|refine walk1 ?_|(refine jn ?_;(try intro F);(first|(refine bx ?_;intro e)|(refine stA ?_)|(apply Zad;first|exact ZyL|exact PuA));first|refine⟨_,EndsA,QFRsE0,?_⟩|refine fin ?_)|(apply RD_W;rfl;intro e))
  refine Zai [(20,.agg Zf0.toArray),(6,.pointer (some ⟨e,0,none⟩)),(5,.int .i64 k),(15,.int .i64 k),(0,.slice A l.length c),(4,.pointer (some ⟨T,0,none⟩)),(13,.slice A l.length c),(14,.int .i64 l.length)] [.blk e [.string nm,.int .i64 fr,.int .i64 to,.int .i64 mo,.int .i64 dk,.int .i64 dw,.int .i64 dd,.int .i64 cs,.int .i64 cb,.int .i64 sv,.string le] 68,.blk T [.int .i64 (Zag l)] 2] (fun j:Nat=>[(21,.int .i64 j)]) (fun _=>[]) (fun j=>j<=6/\ZgA bb (6 - j)=ZgA bb 6) (fun j=>6 - j) 0 SFA SOA ⟨Nat.zero_le _,rfl⟩ ?_
  rintro j ⟨hj,H⟩
  repeat (first|refine walk ?_|(refine jn ?_;(try intro F);(first|(refine bx ?_;intro e)|(refine stA ?_)|(apply Zad;exact PuA));refine fin ?_)|(apply RD_W;rfl;intro e))
  refine Zaf rfl (fun M=>?_) (fun M=>?_)
  ·have z:j<6:=by have:=of_decide_eq_true M;omega
   have Z:=R j z
   have hcc:=Zr7 j z
   haveI:=ZoR j
   rw[show 6 - j=(5 - j)+1 by omega,ZgA,show 5 - (5 - j)=j by omega]at H
   have hne:errN j≠0:=by
    unfold errN
    repeat' split
    all_goals decide
   generalize Zm4 j=cf at *
   generalize bb j=bj at *
   generalize errN j=ej at *
   repeat (first|(apply RL_pu;rfl;exact ZyK)|(apply RD_Q;rfl;rfl;decide +kernel;rfl;rfl;exact QyRsE1)|refine walk1 ?_|(refine jg ?_;(try intro F);(first|(apply Zar (f:=cf) (us:=[]) (cs:=[]) (vs:=[.agg #[.string nm,.int .i64 fr,.int .i64 to,.int .i64 mo,.int .i64 dk,.int .i64 dw,.int .i64 dd,.int .i64 cs,.int .i64 cb,.int .i64 sv,.string le],.int .i64 (Zag l)]) (h:=fun w' u _=>Z w' u);rfl;rfl;rintro v O' ⟨rfl,rfl⟩)|(refine bx ?_;intro e)|(refine stA ?_));first|refine⟨_,EndsA,QFRsE1,?_⟩|refine fin ?_)|(refine jn ?_;(try intro F);(first|(refine bx ?_;intro e)|(refine stA ?_)|(apply Zad;first|exact ZyK|exact PuA));first|refine⟨_,EndsA,QFRsE1,?_⟩|refine fin ?_)|(apply RD_W;rfl;intro e))
   refine Zaf rfl (fun U=>?_) (fun U=>?_)
   ·have Y:bj=false:=by simpa using U
    rw[if_pos Y]at H
    rw[<- H,if_neg hne]at I
    repeat (first|refine walk ?_|(refine jn ?_;(try intro F);(first|(refine bx ?_;intro e)|(refine stA ?_)|(apply Zad;exact PuA));refine fin ?_)|(apply RD_W;rfl;intro e))
    exact ret_2 _ _ [] (.tmp rfl) (.tmp rfl) .nil ⟨by rw[<- I];rfl,rfl⟩
   ·have Y:bj=true:=by simpa using U
    rw[if_neg (by rw[Y];decide)]at H
    repeat (first|refine walk ?_|(refine jn ?_;(try intro F);(first|(refine bx ?_;intro e)|(refine stA ?_)|(apply Zad;exact PuA));refine fin ?_)|(apply RD_W;rfl;intro e))
    exact⟨j+1,OA,⟨OA,by rw[show 6 - (j+1)=5 - j by omega];exact H⟩,SFA,SOA⟩
  ·have z:j=6:=by have:=of_decide_eq_false M;omega
   subst z
   rw[show ZgA bb (6 - 6)=0 from rfl]at H
   rw[<- H,if_pos rfl]at I
   repeat (first|refine walk ?_|(refine jn ?_;(try intro F);(first|(refine bx ?_;intro e)|(refine stA ?_)|(apply Zad;exact PuA));refine fin ?_)|(apply RD_W;rfl;intro e))
   exact⟨k+1,OA,⟨OA,I⟩,SFA,SOA⟩
 ·have hkl:k=l.length:=by
   have:=of_decide_eq_false h
   omega
  subst hkl
  rw[List.drop_length,ZaS,outR,Zwe]at I
  generalize l.any (fun r=>decide (r.save=0))=a1 at *
  generalize l.any (fun r => !decide (r.save=0)&&!decide (r.save=Zag l))=a2 at *
  generalize Zgv l=a3 at *
  have q:=x e
  clear x D
  repeat' (first|(refine js ?_;(first|(refine Zab m ?_)|(apply Zae (h:=fun w' u N=>q w' u (N.cells (by repeat' constructor)));rfl;rintro v O' ⟨rfl,rfl⟩)|(refine Zab s ?_)|(refine bx ?_;intro e)))|refine walk ?_|(refine Zdc ?_;intro F;(first|(refine Zab m ?_)|(apply Zae (h:=fun w' u N=>q w' u (N.cells (by repeat' constructor)));rfl;rintro v O' ⟨rfl,rfl⟩)|(refine Zab s ?_));refine⟨_,EndsA,SubO.right _ _,?_⟩)|(refine RD_Lw ?_;intro F;(first|(refine Zab m ?_)|(apply Zae (h:=fun w' u N=>q w' u (N.cells (by repeat' constructor)));rfl;rintro v O' ⟨rfl,rfl⟩)|(refine Zab s ?_)|(refine bx ?_;intro e)|(refine stA ?_)|(apply Zad;exact PuA));refine⟨_,EndsA,QFA,?_⟩)|(apply RD_W;rfl;intro e)|refine und ?_|(refine Zam rfl rfl rfl (fun E=>?_) (fun E=>?_))|(refine Zas rfl rfl rfl (fun E=>?_) (fun E=>?_))|(refine Zaf rfl (fun E=>?_) (fun E=>?_)))
  all_goals clear m q s hG L W
  all_goals subst I
  all_goals try(have h0:¬ Zag l<0:=of_decide_eq_false (by assumption);simp only[h0,false_and,or_false])
  all_goals exact clo2
end Go.Proofs.YtpipekfmecikmaaGreatDoor
namespace Go.Proofs.YtpipekfmecikmaaGreatDoor
open Go Go.RowKit Go.Wk
attribute [local irreducible] W RL Does Zat Zaj retQ Calls Pu Stp RD Qy Ay Zak
theorem ZqI {G:Prop}(h:G:=by(apply Zdf;rfl;rfl;(constructor <;> omega))):G:=h
theorem Zw8 (a b:Int)(h : -9223372036854775808<=a+b/\a+b<=9223372036854775807)(w:World):Does Tryz.prog 151 [.int .i64 a,.int .i64 b] w (fun v O=>v = .tuple #[.int .i64 (a+b),.bool true]/\O=[]):=by
 have d:¬ ((!(decide (a<a+b)==decide (0<b)))=true):=by
  rw[show decide (a<a+b)=decide (0<b) from by rw[Bool.eq_iff_iff];simp only[decide_eq_true_eq];omega]
  simp
 refine Zaa Tryz.func151 rfl rfl rfl rfl ?_
 repeat' (first|(apply RL_pu;rfl;exact ZqI)|refine walk1 ?_|refine und ?_|(refine Zam rfl rfl rfl (fun c=>?_) (fun c=>?_))|(refine Zas rfl rfl rfl (fun c=>?_) (fun c=>?_))|(refine Zaf rfl (fun c=>?_) (fun c=>?_)))
 all_goals first|(exfalso;simp_all;done)|exact rtB|skip
theorem Zem (y m:Int)(d:DDay) : -2000000000000<=(onD y m d).1/\(onD y m d).1<=2000000000000:=by
 unfold onD
 split
 ·exact⟨by decide,by decide⟩
 ·rename_i a
  split
  ·exact⟨by decide,by decide⟩
  ·rename_i b
   split
   ·exact⟨by decide,by decide⟩
   ·simp only[Bool.not_eq_false]at a b
    have c:=Zlf a
    have f:=Zeu y m
    have e:=ZeB b
    simp only[Ze9,Zbt,ZaX]
    repeat' split
    all_goals omega
theorem ZgW (u:DUntil)(a : -604799<=u.at_.sec/\u.at_.sec<=604799)(w:World)(e:Glob w):Does Tryz.prog 210 [.agg (DUntil.enc u).toArray] w (fun v O=>v = .int .i64 (86400*(onD u.year u.month u.day).1+u.at_.sec)/\O=[]):=by
 have f:=fun w' (g:Bel w.heap.size w w')=>Zos u.year u.month u.day w' (e.up g)
 have q:=Zem u.year u.month u.day
 generalize onD u.year u.month u.day=x at *
 obtain⟨r,s⟩:=x
 obtain⟨i,m,j,⟨c,d,dd⟩,⟨cs,b⟩⟩:=u
 simp only at *
 show Does _ _ [.agg #[.bool i,.int .i64 m,.int .i64 j,.int .i64 c,.int .i64 d,.int .i64 dd,.int .i64 cs,.int .i64 b]] w _
 refine Zaa Tryz.func210 rfl rfl rfl rfl ?_
 repeat' (first|(apply RL_pu;rfl;exact ZqI)|(refine js ?_;(first|(refine Zab f ?_)|(refine bx ?_;intro p)))|refine walk1 ?_|(refine Zaf rfl (fun a=>?_) (fun a=>?_)))
 all_goals exact clo1
theorem ZhC {G:Prop}(h:G:=by(apply Pu_add;rfl;rfl;(constructor <;> (simp only[decide_eq_false_iff_not,decide_eq_true_eq]at *;omega)))):G:=h
theorem ZhL (u:DUntil)(least:Int)(w:World)(d:Glob w):Does Tryz.prog 241 [.agg (DUntil.enc u).toArray,.int .i64 least] w (fun v O=>v = .int .i64 (ZaD u least)/\O=[]):=by
 have e:=fun w' (f:Bel w.heap.size w w')=>Zos u.year u.month u.day w' (d.up f)
 have b:=ZdX u.at_
 have c:ZaI u.at_=true -> -604799<=u.at_.sec/\u.at_.sec<=604799:=fun a=>by
  simp only[ZaI,Bool.and_eq_true,decide_eq_true_eq]at a
  omega
 unfold ZaD
 generalize onD u.year u.month u.day=x at *
 generalize ZaI u.at_=y at *
 obtain⟨t,z⟩:=x
 obtain⟨m,q,p,⟨i,j,dd⟩,⟨cs,g⟩⟩:=u
 simp only at *
 cases y
 ·clear c
  show Does _ _ [.agg #[.bool m,.int .i64 q,.int .i64 p,.int .i64 i,.int .i64 j,.int .i64 dd,.int .i64 cs,.int .i64 g],.int .i64 least] w _
  refine Zaa Tryz.func241 rfl rfl rfl rfl ?_
  repeat' (first|(apply RL_pu;rfl;exact ZhC)|(refine js ?_;(first|(refine Zab (fun w' f=>b w') ?_)|(refine bx ?_;intro r)))|refine walk1 ?_|refine und ?_|(refine Zam rfl rfl rfl (fun a=>?_) (fun a=>?_))|(refine Zas rfl rfl rfl (fun a=>?_) (fun a=>?_))|(refine Zaf rfl (fun a=>?_) (fun a=>?_)))
  all_goals clear e b d
  all_goals exact clo1
 ·have s:=c rfl
  clear c
  show Does _ _ [.agg #[.bool m,.int .i64 q,.int .i64 p,.int .i64 i,.int .i64 j,.int .i64 dd,.int .i64 cs,.int .i64 g],.int .i64 least] w _
  refine Zaa Tryz.func241 rfl rfl rfl rfl ?_
  repeat' (first|(apply RL_pu;rfl;exact ZhC)|(refine js ?_;(first|(refine Zab (fun w' f=>b w') ?_)|(refine Zab e ?_)|(refine bx ?_;intro r)))|refine walk1 ?_|refine und ?_|(refine Zam rfl rfl rfl (fun a=>?_) (fun a=>?_))|(refine Zas rfl rfl rfl (fun a=>?_) (fun a=>?_))|(refine Zaf rfl (fun a=>?_) (fun a=>?_)))
  all_goals clear e b d
  all_goals exact clo1
theorem Zfl {u:DUntil}{least:Int}(h:ZaD u least=0):(-10800<=least/\least<=0)/\-604799<=u.at_.sec/\u.at_.sec<=604799:=by
 unfold ZaD at h
 split at h
 ·cases h
 split at h
 ·cases h
 split at h
 ·cases h
 ·rename_i c _ b
  have a:ZaI u.at_=true:=by
   cases a:ZaI u.at_
   ·exact absurd (.inr (.inr a)) b
   ·rfl
  simp only[ZaI,Bool.and_eq_true,decide_eq_true_eq]at a
  omega
theorem Zen (u:DUntil)(least:Int)(w:World)(f:Glob w):Does Tryz.prog 207 [.agg (DUntil.enc u).toArray,.int .i64 least] w (fun v O=>v = .tuple #[.int .i64 (Zao u least).1,.int .i64 (Zao u least).2]/\O=[]):=by
 have a:=fun w' (i:Bel w.heap.size w w')=>ZhL u least w' (f.up i)
 unfold Zao
 by_cases b:ZaD u least=0
 ·obtain⟨y,g⟩:=Zfl b
  have s:=fun w' (i:Bel w.heap.size w w')=>ZgW u g w' (f.up i)
  have t:=Zem u.year u.month u.day
  rw[if_neg (by simpa using b)]
  rw[b]at a
  generalize onD u.year u.month u.day=x at *
  obtain⟨z,A⟩:=x
  clear b
  obtain⟨j,p,m,⟨d,e,dd⟩,⟨cs,c⟩⟩:=u
  simp only at *
  show Does _ _ [.agg #[.bool j,.int .i64 p,.int .i64 m,.int .i64 d,.int .i64 e,.int .i64 dd,.int .i64 cs,.int .i64 c],.int .i64 least] w _
  refine Zaa Tryz.func207 rfl rfl rfl rfl ?_
  repeat' (first|(apply RL_pu;rfl;exact ZhC)|(refine js ?_;(first|(refine Zab a ?_)|(refine Zab s ?_)|(refine bx ?_;intro q)))|refine walk1 ?_|(refine Zaf rfl (fun g=>?_) (fun g=>?_)))
  all_goals clear s a f
  all_goals exact clo2
 ·rw[if_pos b]
  generalize ZaD u least=x at *
  obtain⟨j,p,m,⟨d,e,dd⟩,⟨cs,c⟩⟩:=u
  simp only at *
  show Does _ _ [.agg #[.bool j,.int .i64 p,.int .i64 m,.int .i64 d,.int .i64 e,.int .i64 dd,.int .i64 cs,.int .i64 c],.int .i64 least] w _
  refine Zaa Tryz.func207 rfl rfl rfl rfl ?_
  repeat (first|(apply RL_pu;rfl;exact ZhC)|(refine js ?_;(first|(refine Zab a ?_)|(refine bx ?_;intro q)))|refine walkB1 ?_)
  refine Zaf rfl (fun r=>?_) (fun r=>?_)
  ·repeat (first|(refine js ?_;(refine bx ?_;intro q))|refine walk ?_)
   exact rtB
  ·exact absurd (by simpa using r) b
end Go.Proofs.YtpipekfmecikmaaGreatDoor
namespace Go.Wk
open Go Go.RowKit
section
variable {P:Program}{n:Nat}{wr:World}{fr:Fr}{O:List It}{ty:TypeId}
theorem Zds {x y:Operand}{d:Array TypeId}{k:IntKind}{i j q:Int}(b:ev fr x=some (.int k i))(c:ev fr y=some (.int k j))(a:(if i<j then j else i)=q):Pu P n wr fr O (.call ⟨.builtin .max,#[x,y],d⟩) ty (.int k q):=by
 rw[<- a]
 exact Zph b c
theorem ZgN {x y:Operand}{d:Array TypeId}{k:IntKind}{i j q:Int}(b:ev fr x=some (.int k i))(c:ev fr y=some (.int k j))(a:(if j<i then j else i)=q):Pu P n wr fr O (.call ⟨.builtin .min,#[x,y],d⟩) ty (.int k q):=by
 rw[<- a]
 exact ZgO b c
end
end Go.Wk
namespace Go.Proofs.YtpipekfmecikmaaGreatDoor
open Go Go.RowKit Go.Wk
attribute [local irreducible] W RL Does Zat Zaj retQ Calls Pu Stp RD Qy Ay Zak
theorem Zj1 (r:DRule)(w:World):Does Tryz.prog 81 [.agg (DRule.enc r).toArray] w (fun v O=>v = .int .i64 (lastY r)/\O=[]):=by
 unfold lastY
 obtain⟨f,fr,to,e,⟨b,c,dd⟩,⟨cs,a⟩,sv,le⟩:=r
 simp only at *
 show Does _ _ [.agg #[.string f,.int .i64 fr,.int .i64 to,.int .i64 e,.int .i64 b,.int .i64 c,.int .i64 dd,.int .i64 cs,.int .i64 a,.int .i64 sv,.string le]] w _
 refine Zaa Tryz.func81 rfl rfl rfl rfl ?_
 rw[show min to 2000000000=if 2000000000<to then 2000000000 else to by split <;> omega]
 repeat' (first|(apply RL_pu;rfl;(apply ZgO;rfl;rfl))|(refine js ?_;(refine bx ?_;intro g))|refine walk1 ?_|(refine Zaf rfl (fun d=>?_) (fun d=>?_)))
 all_goals exact clo1
def evV:Option Zac->Value
 | some e => .agg (Zac.enc e).toArray
 | none => .agg (Zac.enc dEv0).toArray
theorem Zev (l:List DRule)(h:∀ r∈l,-4611686018427387904<=r.save/\r.save<=4611686018427387904) : -4611686018427387904<=Zag l/\Zag l<=0:=by
 have a:=Ztx l 0 (by omega) (by omega) h
 refine⟨a.1,?_⟩
 have:∀ (l:List DRule) (m:Int),l.foldl (fun m r=>min m r.save) m<=m:=fun l=>by
  induction l with
  | nil=>intro m;exact Int.le_refl _
  | cons r l ih=>intro m;have:=ih (min m r.save);simp only[List.foldl_cons];omega
 exact this l 0
theorem ZB7 {G:Prop}(h:G:=by(first|exact PuI|(apply Pu_add;rfl;rfl;(constructor <;> omega))|(apply Zdf;rfl;rfl;(constructor <;> omega))|(apply Pu_add;rfl;rfl;(constructor <;> (simp only[decide_eq_false_iff_not,decide_eq_true_eq]at *;omega)))|(apply Zds;rfl;rfl;exact hmx)|(apply Zph;rfl;rfl))):G:=h
theorem ZfU (A:Option Addr)(c:Nat)(l:List DRule)(i:Nat)(y:Int)(r:DRule)(w:World)(H:Glob w)(C:RdSl w A c DRule.enc 11 l)(p:l[i]?=some r)(Q:l.length<=1000000)(D:∀ r∈l,-4611686018427387904<=r.save/\r.save<=4611686018427387904) :
  Does Tryz.prog 82 [.slice A l.length c,.int .i64 i,.int .i64 y] w (fun v O=>v = .tuple #[evV (onR (Zag l) r i y),.bool (onR (Zag l) r i y).isSome]/\O=[]):=by
 have J:i<l.length:=(List.getElem?_eq_some_iff.1 p).1
 have I:=Zev l D
 have f:=fun w' (g:Bel w.heap.size w w')=>ZcI A c l w' (C.up g)
 have e:=Zj1 r
 have m:=ZdX r.at_
 have hcb:ZaI r.at_=true -> -604799<=r.at_.sec/\r.at_.sec<=604799:=fun b=>by
  simp only[ZaI,Bool.and_eq_true,decide_eq_true_eq]at b
  omega
 have s:=fun w' (g:Bel w.heap.size w w')=>Zos y r.month r.day w' (H.up g)
 have t:=Zem y r.month r.day
 obtain⟨hna,hca⟩:=C.rd i _ p
 obtain⟨d,a⟩:∃ d,onR (Zag l) r i y=d:=⟨_,rfl⟩
 rw[a]
 unfold onR at a
 clear p D
 generalize Zag l=least at *
 generalize lastY r=ly at *
 generalize onD y r.month r.day=x at *
 generalize ZaI r.at_=z at *
 obtain⟨E,B⟩:=x
 obtain⟨S,fr,to,R,⟨L,M,dd⟩,⟨cs,K⟩,sv,le⟩:=r
 simp only[DRule.enc]at *
 rw[show max fr (-2000000000)=if fr < -2000000000 then -2000000000 else fr by split <;> omega]at a
 rw[show max least (-10800)=if least < -10800 then -10800 else least by split <;> omega]at a
 have q : -10800<=(if least < -10800 then (-10800:Int) else least)/\(if least < -10800 then (-10800:Int) else least)<=0:=by split <;> omega
 obtain⟨u,hmx⟩:∃ u,(if least < -10800 then (-10800:Int) else least)=u:=⟨_,rfl⟩
 rw[hmx]at a q
 cases z
 ·clear hcb s t
  obtain rfl:none=d:=by rw[<- a,if_pos (by simp)]
  clear a
  refine Zaa Tryz.func82 rfl rfl rfl rfl ?_
  repeat' (first|(apply RL_pu;rfl;exact ZB7)|(refine js ?_;(first|(refine Zab f ?_)|(refine Zab (fun w' g=>e w') ?_)|(refine Zab (fun w' g=>m w') ?_)|(refine Zab s ?_)|(refine bx ?_;intro F)))|refine walk1 ?_|refine und ?_|(refine Zam rfl rfl rfl (fun b=>?_) (fun b=>?_))|(refine Zas rfl rfl rfl (fun b=>?_) (fun b=>?_))|(refine Zaf rfl (fun b=>?_) (fun b=>?_)))
  ·exact absurd (of_decide_eq_true b) (by omega)
  all_goals first|exact rtC|(exfalso;simp_all;done)
 ·have N:=hcb rfl
  clear hcb
  refine Zaa Tryz.func82 rfl rfl rfl rfl ?_
  repeat' (first|(apply RL_pu;rfl;exact ZB7)|(refine js ?_;(first|(refine Zab f ?_)|(refine Zab (fun w' g=>e w') ?_)|(refine Zab (fun w' g=>m w') ?_)|(refine Zab s ?_)|(refine bx ?_;intro F)))|refine walk1 ?_|refine und ?_|(refine Zam rfl rfl rfl (fun b=>?_) (fun b=>?_))|(refine Zas rfl rfl rfl (fun b=>?_) (fun b=>?_))|(refine Zaf rfl (fun b=>?_) (fun b=>?_)))
  ·exact absurd (of_decide_eq_true b) (by omega)
  ·have h:=of_decide_eq_true b
   obtain rfl:none=d:=by rw[<- a,if_pos (.inl h)]
   exact rtC
  ·have h:=of_decide_eq_true b
   obtain rfl:none=d:=by rw[<- a,if_pos (.inr (.inl h))]
   exact rtC
  ·have hx:¬ B=0:=by simpa using b
   obtain rfl:none=d:=by rw[<- a,if_neg (fun h=>h.elim (fun h=>absurd h (of_decide_eq_false (by assumption))) (fun h=>h.elim (fun h=>absurd h (of_decide_eq_false (by assumption))) (fun h=>by cases h))),if_pos hx]
   exact rtC
  ·rename_i j
   have hx:¬ ¬ B=0:=by simpa using j
   obtain rfl:some ⟨y,(i:Int),86400*E+cs+u⟩=d:=by rw[<- a,if_neg (fun h=>h.elim (fun h=>absurd h (of_decide_eq_false (by assumption))) (fun h=>h.elim (fun h=>absurd h (of_decide_eq_false (by assumption))) (fun h=>by cases h))),if_neg hx,if_pos (of_decide_eq_true b)]
   exact rtC
  ·rename_i j
   have hx:¬ ¬ B=0:=by simpa using j
   obtain rfl:some ⟨y,(i:Int),86400*E+cs⟩=d:=by rw[<- a,if_neg (fun h=>h.elim (fun h=>absurd h (of_decide_eq_false (by assumption))) (fun h=>h.elim (fun h=>absurd h (of_decide_eq_false (by assumption))) (fun h=>by cases h))),if_neg hx,if_neg (of_decide_eq_false b),Int.add_zero]
   exact rtC
end Go.Proofs.YtpipekfmecikmaaGreatDoor
