/- Parts of the proof. -/
import Derived.Test.YtdlmhmmhdbbliaaGreatDoorV18
import Derived.Test.YtdlmhmmhdbbliaaGreatDoorV12
set_option maxHeartbeats 4000000
set_option linter.unusedVariables false
set_option linter.unusedSimpArgs false
namespace Go.Wk
open Go Go.RowKit
theorem Zse (z:Array Value)(k:Nat)(h:z.toList.all Value.oneCell'=true)(h0:0<z.size):(Builtin.zeroCells z k).toList.all Value.oneCell'=true:=by
 rw[List.all_eq_true]at h ⊢
 intro x hx
 unfold Builtin.zeroCells at hx
 rw[Array.toList_map,List.mem_map]at hx
 obtain⟨i,hi,rfl⟩:=hx
 have hlt:=Nat.mod_lt i h0
 rw[getElem!_pos z (i % z.size) hlt]
 exact h _ (by simp)
theorem Zp6:∀ (vs xs:List Value) (j:Nat),xs.length<=j->lay xs j vs=xs
 | [],_,_,_=>rfl
 | v::r,xs,j,h=>by rw[lay,List.set_eq_of_length_le h,Zp6 r xs (j+1) (by omega)]
theorem Zxx:∀ (vs pre cs post:List Value),cs.length=vs.length->lay (pre++cs++post) pre.length vs=pre++vs++post
 | [],pre,cs,post,h=>by
  have:cs=[]:=List.eq_nil_of_length_eq_zero h
  rw[this];rfl
 | v::r,pre,[],post,h=>by simp at h
 | v::r,pre,c::cs,post,h=>by
  have:=Zxx r (pre++[v]) cs post (by simpa using h)
  rw[lay]
  rw[show(pre++c::cs++post).set pre.length v=pre++[v]++cs++post by simp]
  rw[List.length_append]at this
  simpa using this
end Go.Wk
namespace Go.Proofs.YtdlmhmmhdbbliaaGreatDoor
open Go Go.RowKit Go.Wk
attribute [local irreducible] W RL Does Zau Zak retQ Calls Pu Stp RD Qy Ay Zaj Zdd
theorem ZiX {α:Type}(p:α->Bool):∀ (l:List α) (k:Nat),(Zb6 p l k = -1/\l.filter (fun r => !p r)=l)\/∃ i,Zb6 p l k=((k+i:Nat):Int)/\i<l.length/\(l.take (i+1)).filter (fun r => !p r)=l.take i
 | [],k => .inl ⟨rfl,rfl⟩
 | x::l,k=>by
  rw[Zb6]
  by_cases h:p x=true
  ·rw[if_pos h]
   exact .inr ⟨0,rfl,by simp,by simp[h]⟩
  ·rw[if_neg h]
   rcases ZiX p l (k+1) with⟨h1,h2⟩|⟨i,h1,h2,h3⟩
   ·exact .inl ⟨h1,by rw[List.filter_cons,if_pos (by simp[h]),h2]⟩
   ·refine .inr ⟨i+1,by rw[h1];omega,by simpa using h2,?_⟩
    rw[List.take_succ_cons,List.filter_cons,if_pos (by simp[h]),h3,List.take_succ_cons]
theorem Zy0 {base:Nat}{A:Option Addr}{c:Nat}{l:List Zab}{w:World}{O R:List It}(h:Zay base O w)(hp:Pick (rowR A c l) O R)(hlc:l.length<=c)(hcm:c<=maxLen):RdSl w A c Zab.enc 11 l :=
 ⟨hlc,hcm,fun k x hk=>by
  have hs:=h.sat _ (hp.perm.mem_iff.2 List.mem_cons_self)
  have hlt:=(List.getElem?_eq_some_iff.1 hk).1
  refine⟨ZpQ hs (by omega),fun j v hj=>?_⟩
  rw[Za6]
  exact(Za0 hs (ZaF Zab.len l k x j v hk hj)).2⟩
instance zeroRule:ZeroV Tryz.prog 82 (.agg #[.string ByteArray.empty,.int .i64 0,.int .i64 0,.int .i64 0,.int .i64 0,.int .i64 0,.int .i64 0,.int .i64 0,.int .i64 0,.int .i64 0,.string ByteArray.empty]):=⟨by kernel_rfl⟩
structure DG where
 j:Nat
 C:List Zab
set_option maxHeartbeats 2000000 in
theorem ZoJ (A:Option Addr)(c:Nat)(l:List Zab)(f:FuncId)[Body Tryz.prog f](p:Zab->Bool)(wr:World)(hn:l.length<=1000000)(hlc:l.length<=c)(hcm:c<=maxLen)(hAn:0<l.length->A≠none)(hf:∀ r w',Does Tryz.prog f [.agg (Zab.enc r).toArray] w' (fun v O=>v = .bool (p r)/\O=[])) :
  Zaj Tryz.prog 210 [.slice A l.length c,.func (.func f) #[] #[]] wr [rowR A c l] (fun v O=>v = .slice A (l.filter fun r => !p r).length c/\O=[rowR A c (l.filter fun r => !p r)]):=by
 have hidx:=fun w' (hH:Zay wr.heap.size [rowR A c l] w')=>ZfI A c l f [] [] p w' (Zy0 hH .here hlc hcm) fun r w2 _=>hf r w2
 unfold maxLen at hcm
 generalize hres:(l.filter fun r => !p r)=res
 rcases ZiX p l 0 with⟨h1,h2⟩|⟨i,h1,h2,h3⟩
 ·rw[h1]at hidx
  rw[h2]at hres
  subst hres
  refine ZaG Tryz.func210 rfl rfl rfl rfl ?_
  repeat (first|(refine js ?_;(first|(apply Zag (h:=fun w' _ hH=>hidx w' hH);rfl;rintro v O' ⟨rfl,rfl⟩)|(refine bx ?_;intro bk)))|refine walk ?_)
  exact ret_1 _ _ (.tmp rfl) (.refl _) ⟨rfl,rfl⟩
 ·rw[h1,Nat.zero_add]at hidx
  have hA:=hAn (by omega)
  obtain⟨ad,rfl⟩:∃ ad,A=some ad:=by
   cases A with
   | none=>exact absurd rfl hA
   | some ad=>exact⟨ad,rfl⟩
  clear hA hAn
  refine ZaG Tryz.func210 rfl rfl rfl rfl ?_
  repeat (first|(refine js ?_;(first|(apply Zag (h:=fun w' _ hH=>hidx w' hH);rfl;rintro v O' ⟨rfl,rfl⟩)|(refine bx ?_;intro bk)))|refine ZhQ ?_)
  refine Zbx (fun fr' O'=>Go.Wk.Sub [(0,.slice (some ad) l.length c),(5,.int .i64 res.length)] fr'/\SubO [.row (.slice (some ad) l.length c) 82 11 l.length ((res++l.drop res.length).flatMap Zab.enc)] O') ?_ ?_
  ·apply W_block
   refine Zao [(0,_),(1,_)] [] (fun g:DG=>[(5,.int .i64 g.C.length),(6,.int .i64 g.j)]) (fun g=>[.row (.slice (some ad) l.length c) 82 11 l.length ((g.C++l.drop g.C.length).flatMap Zab.enc)])
    (fun g=>g.C=(l.take g.j).filter (fun r => !p r)/\g.C.length+1<=g.j/\g.j<=l.length) (fun g=>l.length - g.j) ⟨i+1,l.take i⟩ (by dsimp only;rw[List.length_take,Nat.min_eq_left (by omega)];exact⟨rfl,rfl,rfl,rfl,trivial⟩) (by dsimp only;rw[List.length_take,Nat.min_eq_left (by omega),List.take_append_drop];exact .refl _) ⟨h3.symm,by show(l.take i).length+1<=i+1;rw[List.length_take];omega,by show i+1<=l.length;omega⟩ ?_
   rintro⟨j,C⟩ ⟨hC,hCj,hj⟩
   dsimp only at hC hCj hj ⊢
   have hLl:(C++l.drop C.length).length=l.length:=by rw[List.length_append,List.length_drop];omega
   repeat (first|(refine js ?_;(refine bx ?_;intro bk))|refine walk ?_)
   refine Zaf rfl (fun g=>?_) (fun g=>?_)
   ·have hjl:j<l.length:=by simpa using g
    have hx:∀ q v,(Zab.enc l[j])[q]?=some v->((C++l.drop C.length).flatMap Zab.enc)[(j:Int).toNat*11+q]?=some v:=fun q v hv=>by
     refine ZaF Zab.len _ j l[j] q v ?_ hv
     rw[List.getElem?_append_right (by omega),List.getElem?_drop,show C.length+(j - C.length)=j from by omega,List.getElem?_eq_getElem hjl]
    have hst:(l.take (j+1)).filter (fun r => !p r)=C++(if p l[j] then [] else [l[j]]):=by
     rw[List.take_succ_eq_append_getElem hjl,List.filter_append,<- hC]
     by_cases hp:p l[j]=true
     ·simp[hp]
     ·simp[hp]
    have hput:lay ((C++l.drop C.length).flatMap Zab.enc) (C.length*11) (Zab.enc l[j])=((C++[l[j]])++l.drop (C.length+1)).flatMap Zab.enc:=by
     have hlt:C.length<l.length:=by omega
     rw[Zap hlt,show C++l[C.length]::l.drop (C.length+1)=C++[l[C.length]]++l.drop (C.length+1) by simp,List.flatMap_append,List.flatMap_append,List.flatMap_append,List.flatMap_append,List.flatMap_singleton,List.flatMap_singleton]
     have:=Zxx (Zab.enc l[j]) (C.flatMap Zab.enc) (Zab.enc l[C.length]) ((l.drop (C.length+1)).flatMap Zab.enc) rfl
     rw[Zbf Zab.len]at this
     exact this
    generalize l[j]=r at *
    obtain⟨nm,fr,to,mo,⟨dk,dw,dd⟩,⟨cs,cb⟩,sv,le⟩:=r
    have hfr:=hf ⟨nm,fr,to,mo,⟨dk,dw,dd⟩,⟨cs,cb⟩,sv,le⟩
    generalize p ⟨nm,fr,to,mo,⟨dk,dw,dd⟩,⟨cs,cb⟩,sv,le⟩=b at *
    simp only[Zab.enc]at hx hput hfr
    repeat (first|(apply RL_pu;rfl;(first|(apply Pu_indexAddr;rfl;rfl;omega;omega;nofun)|(apply Zba;rfl;(focus repeat' constructor);exact hx;rfl)))|(refine js ?_;(first|(apply Zar (f:=f) (us:=[]) (cs:=[]) (vs:=[.agg #[.string nm,.int .i64 fr,.int .i64 to,.int .i64 mo,.int .i64 dk,.int .i64 dw,.int .i64 dd,.int .i64 cs,.int .i64 cb,.int .i64 sv,.string le]]) (h:=fun w' hw _=>hfr w');rfl;rfl;rintro v O' ⟨rfl,rfl⟩)|(refine bx ?_;intro bk)))|refine walk1 ?_)
    refine Zaf rfl (fun g2=>?_) (fun g2=>?_)
    ·have hb:b=false:=by simpa using g2
     rw[hb,if_neg (by decide)]at hst
     have hfl:((C++l.drop C.length).flatMap Zab.enc).length=l.length*11:=by rw[Zbf Zab.len,hLl]
     repeat (first|(apply RL_pu;rfl;(apply Pu_indexAddr;rfl;rfl;omega;omega;nofun))|(refine js ?_;(first|(apply ZkH (vs:=[.string nm,.int .i64 fr,.int .i64 to,.int .i64 mo,.int .i64 dk,.int .i64 dw,.int .i64 dd,.int .i64 cs,.int .i64 cb,.int .i64 sv,.string le]);rfl;rfl;(focus repeat' constructor);rfl;rfl;rfl;(rw[hfl];omega);decide;exact hput)|(refine bx ?_;intro bk)))|refine walk1 ?_)
     refine⟨⟨j+1,_⟩,OA,⟨hst.symm,by dsimp only;rw[List.length_append,List.length_singleton];omega,OA⟩,?_,?_⟩
     ·dsimp only
      rw[List.length_append,List.length_singleton]
      exact SFA
     ·dsimp only
      rw[List.length_append,List.length_singleton]
      exact SOA
    ·have hb:b=true:=by simpa using g2
     rw[hb,if_pos rfl,List.append_nil]at hst
     repeat (first|(refine js ?_;(refine bx ?_;intro bk))|refine walk ?_)
     exact⟨⟨j+1,C⟩,OA,⟨hst.symm,OA,OA⟩,SFA,SOA⟩
   ·have hjl:j=l.length:=by
     have:=of_decide_eq_false g
     omega
    rw[hjl,List.take_length,hres]at hC
    subst hC
    repeat (first|(refine js ?_;(refine bx ?_;intro bk))|refine walk ?_)
    exact⟨rfl,SFA,SOA⟩
  rintro fr' O' ⟨hf1,hO⟩
  apply thenQ_n
  refine Zb0 hf1 hO ?_
  clear hf1 hO fr' O'
  have hrl:res.length<l.length:=by
   have h4:l.take (i+1)++l.drop (i+1)=l:=List.take_append_drop _ _
   have h5:res=l.take i++(l.drop (i+1)).filter (fun r => !p r):=by rw[<- hres,<- h3,<- List.filter_append,h4]
   have h6:=List.length_filter_le (fun r => !p r) (l.drop (i+1))
   rw[List.length_drop]at h6
   have h7:=congrArg List.length h5
   rw[List.length_append,List.length_take]at h7
   omega
  have hLl:((res++l.drop res.length).flatMap Zab.enc).length=l.length*11:=by rw[Zbf Zab.len,List.length_append,List.length_drop];congr 1;omega
  have htk:∀ vs,(lay ((res++l.drop res.length).flatMap Zab.enc) ((res.length:Int).toNat*11) vs).take (res.length*11)=res.flatMap Zab.enc:=fun vs=>by
   rw[ZhZ,List.flatMap_append,List.take_left' (by rw[Zbf Zab.len])]
   exact Zp6 _ _ _ (by rw[Zbf Zab.len];omega)
  repeat (first|((apply RL_st0;apply Zr2 (p:=(res.length:Int).toNat*11) (k:=l.length - (res.length:Int).toNat);rfl;(focus repeat' constructor);exact Zse _ _ rfl (by decide);omega;(rw[hLl];omega));refine ZuH (m:=l.length) res.length (by omega) (by repeat' constructor) ?_;rw[htk])|(apply RL_pu;rfl;(apply Zu5;rfl;rfl;omega;omega;omega))|(refine js ?_;(refine bx ?_;intro bk))|refine walk1 ?_)
  exact ret_1 _ _ (.tmp rfl) (.refl _) ⟨rfl,rfl⟩
attribute [local irreducible] Zeu
def ZBd (l:List Zab)(v:Value)(O:List It):Prop:=∃ A c,v = .slice A l.length c/\O=[rowR A c l]/\l.length<=c/\c<=maxLen/\(0<l.length->A≠none)
theorem Zlq (A:Option Addr)(c:Nat)(x:List Zab)(w:World)(hA:RdSl w A c Zab.enc 11 x)(hn:x.length<=1000000) :
  Does Tryz.prog 211 [.slice A x.length c] w (ZBd x) :=
 (ZoM A c x w hA hn).monoH fun v O base w' ⟨A,c,h1,h2⟩ hH=>by
  subst h2
  obtain⟨A2,c2,e1,h3,h4,h5,_⟩:=Zgh (hH.sat _ List.mem_cons_self)
  injection e1 with e2 _ e3
  subst e2 e3
  exact⟨_,⟨A,c,h1,rfl,h3,h4,h5⟩,hH⟩
theorem Zvc {G:Prop}(h:G:=by(first|(apply Pu_indexAddr;rfl;rfl;(first|decide|omega);(first|decide|omega);nofun)|(apply Zba;rfl;(focus repeat' constructor);exact hx1;rfl)|(apply Zba;rfl;(focus repeat' constructor);exact hx2;rfl))):G:=h
theorem ZxQ {G:Prop}(h:G:=by first|(apply Qy_y;rfl;exact Zvc)|exact QyA):G:=h
theorem ZA2 {G:Prop}(h:G:=by repeat (first|exact QF.nil|(apply QF.mk;rfl;rfl;decide +kernel;exact ZxQ))):G:=h
theorem Zty (A:Option Addr)(c:Nat)(l:List Zab)(w:World)(hA:RdSl w A c Zab.enc 11 l)(hn:l.length<=1000000) :
  Does Tryz.prog 176 [.slice A l.length c] w (fun v O=>v = .bool (ZiF l)/\O=[]):=by
 have hfl:(l.filter fun r => !(!decide (r.to=1048576)))=l.filter fun r=>decide (r.to=1048576):=by
  congr 1;funext r;rw[Bool.not_not]
 have hlen:=List.length_filter_le (fun r:Zab=>decide (r.to=1048576)) l
 obtain⟨res,hres⟩:∃ res,ZiF l=res:=⟨_,rfl⟩
 rw[hres]
 unfold ZiF at hres
 refine Zaa Tryz.func176 rfl rfl rfl rfl ?_
 repeat (first|refine walk ?_|(refine jg ?_;(try intro F);(first|(apply Zag (h:=fun w' hw _=>Zlq A c l w' (hA.up hw) hn);rfl;rintro v O' ⟨B,d,rfl,rfl,hb1,hb2,hb3⟩)|(refine bx ?_;intro bk)|(refine stA ?_));refine fin ?_)|(refine jn ?_;(try intro F);(first|(refine bx ?_;intro bk)|(refine stA ?_)|(apply Zae;exact PuA));refine fin ?_)|(apply RD_W;rfl;intro bk))
 have hdel:=ZoJ B d l 212 (fun r => !decide (r.to=1048576)) w hn hb1 hb2 hb3 Zrt
 rw[hfl]at hdel
 generalize (l.filter fun r=>decide (r.to=1048576))=F at *
 repeat (first|refine walk ?_|(refine Ze0 ?_;intro F;(apply Zam (h:=hdel);rfl;exact .refl _;rintro v O' ⟨rfl,rfl⟩);refine⟨_,EndsA,SubO.right _ _,?_⟩)|(refine jn ?_;(try intro F);(first|(apply Zam (h:=hdel);rfl;exact .refl _;rintro v O' ⟨rfl,rfl⟩)|(refine bx ?_;intro bk)|(refine stA ?_)|(apply Zae;exact PuA));refine fin ?_)|(apply RD_W;rfl;intro bk))
 rcases F with _|⟨a,_|⟨b,_|⟨x,F⟩⟩⟩
 ·repeat (first|refine walk ?_|(refine jn ?_;(try intro F);(first|(refine bx ?_;intro bk)|(refine stA ?_)|(apply Zae;exact PuA));refine fin ?_)|(apply RD_W;rfl;intro bk))
  exact ret_1 _ [] (.tmp rfl) .nil ⟨by rw[<- hres],rfl⟩
 ·repeat (first|refine walk ?_|(refine jn ?_;(try intro F);(first|(refine bx ?_;intro bk)|(refine stA ?_)|(apply Zae;exact PuA));refine fin ?_)|(apply RD_W;rfl;intro bk))
  exact ret_1 _ [] (.tmp rfl) .nil ⟨by rw[<- hres],rfl⟩
 ·have hB:=hb3 (by simp at hlen;omega)
  obtain⟨ad,rfl⟩:∃ ad,B=some ad:=by
   cases B with
   | none=>exact absurd rfl hB
   | some ad=>exact⟨ad,rfl⟩
  dsimp only at hres
  have hpa:=Zj5 a
  have hpb:=Zj5 b
  generalize Zeu a=pa at *
  generalize Zeu b=pb at *
  have hx1:∀ q v,(Zab.enc a)[q]?=some v->([a,b].flatMap Zab.enc)[(0:Int).toNat*11+q]?=some v:=fun q v hv=>ZaF Zab.len _ 0 a q v rfl hv
  have hx2:∀ q v,(Zab.enc b)[q]?=some v->([a,b].flatMap Zab.enc)[(1:Int).toNat*11+q]?=some v:=fun q v hv=>ZaF Zab.len _ 1 b q v rfl hv
  simp only[rowR,List.length_cons,List.length_nil,Nat.zero_add,Nat.reduceAdd]
  generalize hxs:[a,b].flatMap Zab.enc=xs at *
  clear hxs
  obtain⟨nm,fr,to,mo,⟨dk,dw,dd⟩,⟨cs,cb⟩,sv,le⟩:=a
  obtain⟨nm2,fr2,to2,mo2,⟨dk2,dw2,dd2⟩,⟨cs2,cb2⟩,sv2,le2⟩:=b
  simp only[Zab.enc]at hx1 hx2 hpa hpb
  repeat (first|(apply RL_pu;rfl;exact Zvc)|(apply RD_Q;rfl;rfl;decide +kernel;rfl;rfl;exact ZxQ)|refine walk1 ?_|(refine jn ?_;(try intro F);(first|(refine bx ?_;intro bk)|(refine stA ?_)|(apply Zae;first|exact Zvc|exact PuA));first|refine⟨_,EndsA,ZA2,?_⟩|refine fin ?_)|(apply RD_W;rfl;intro bk))
  repeat' (first|(refine js ?_;(first|(refine Zac (fun w' _=>hpa w') ?_)|(refine Zac (fun w' _=>hpb w') ?_)|(refine bx ?_;intro bk)))|refine walk ?_|(refine Ze0 ?_;intro F;(first|(refine Zac (fun w' _=>hpa w') ?_)|(refine Zac (fun w' _=>hpb w') ?_));refine⟨_,EndsA,SubO.right _ _,?_⟩)|(refine RD_Lw ?_;intro F;(first|(refine Zac (fun w' _=>hpa w') ?_)|(refine Zac (fun w' _=>hpb w') ?_)|(refine bx ?_;intro bk)|(refine stA ?_)|(apply Zae;exact PuA));refine⟨_,EndsA,QFA,?_⟩)|(apply RD_W;rfl;intro bk)|refine und ?_|(refine Zat rfl rfl rfl (fun hc=>?_) (fun hc=>?_))|(refine Zas rfl rfl rfl (fun hc=>?_) (fun hc=>?_))|(refine Zaf rfl (fun hc=>?_) (fun hc=>?_)))
  all_goals clear hx1 hx2 hpa hpb hdel hA hb1 hb2
  all_goals subst hres
  all_goals exact clo1
 ·repeat (first|refine walk ?_|(refine jn ?_;(try intro F);(first|(refine bx ?_;intro bk)|(refine stA ?_)|(apply Zae;exact PuA));refine fin ?_)|(apply RD_W;rfl;intro bk))
  exact ret_1 _ [] (.tmp rfl) .nil ⟨by rw[<- hres],rfl⟩
attribute [local irreducible] RW
def Zv6 (l:List Zab):Nat × Int :=
 if (l.any fun r=>decide (r.save=0))=false\/(Zah l<0/\(l.any fun r => !decide (r.save=0)&&!decide (r.save=Zah l))=true) then (0,14)
 else if ZiF l=false then (0,16)
 else (0,0)
def outR (l:List Zab):Option (Nat × Int)->Nat × Int
 | some x=>x
 | none=>Zv6 l
theorem Zwe (l:List Zab):Zfx l=outR l (Zbg (Zah l) l 0):=by
 unfold Zfx outR Zv6
 cases Zbg (Zah l) l 0 <;> rfl
theorem Zq5 (r:Zab)(least:Int):Zcn r least=if Zdl r least 0=false then 3 else if Zdl r least 1=false then 12 else if Zdl r least 2=false then 3 else if Zdl r least 3=false then 3 else if Zdl r least 4=false then 14 else if Zdl r least 5=false then 15 else 0:=by
 by_cases h:r.to<r.from_
 ·have e:Zdl r least 1=false:=decide_eq_false (by omega)
  rw[e,if_pos rfl,Zcn,if_pos h];rfl
 ·have e:Zdl r least 1=true:=decide_eq_true (by omega)
  rw[e,if_neg (show ¬ true=false by decide),Zcn,if_neg h];rfl
theorem Ztv (l:List Zab):∀ m:Int,-4611686018427387904<=m->m<=4611686018427387904->(∀ r∈l,-4611686018427387904<=r.save/\r.save<=4611686018427387904) -> -4611686018427387904<=l.foldl (fun m r=>min m r.save) m/\l.foldl (fun m r=>min m r.save) m<=4611686018427387904:=by
 induction l with
 | nil=>intro m h1 h2 _;exact⟨h1,h2⟩
 | cons r l ih =>
  intro m h1 h2 h
  have hr:=h r List.mem_cons_self
  exact ih (min m r.save) (by omega) (by omega) fun x hx=>h x (List.mem_cons_of_mem _ hx)
theorem Zow (l:List Zab):∀ m:Int,-9223372036854775808<=m->m<=0->(∀ r∈l,-9223372036854775808<=r.save/\r.save<=9223372036854775807) -> -9223372036854775808<=l.foldl (fun m r=>min m r.save) m/\l.foldl (fun m r=>min m r.save) m<=0:=by
 induction l with
 | nil=>intro m h1 h2 _;exact⟨h1,h2⟩
 | cons r l ih =>
  intro m h1 h2 h
  have hr:=h r List.mem_cons_self
  exact ih (min m r.save) (by omega) (by omega) fun x hx=>h x (List.mem_cons_of_mem _ hx)
def Znf (j:Nat):FuncId:=if j=0 then 306 else if j=1 then 308 else if j=2 then 309 else if j=3 then 311 else if j=4 then 313 else 314
def errN (j:Nat):Int:=if j=0 then 3 else if j=1 then 12 else if j=2 then 3 else if j=3 then 3 else if j=4 then 14 else 15
def Zhf (b:Nat->Bool):Nat->Int
 | 0=>0
 | n+1=>if b (5 - n)=false then errN (5 - n) else Zhf b n
theorem Zmb (r:Zab)(least:Int):Zcn r least=Zhf (Zdl r least) 6:=Zq5 r least
theorem ZrO (j:Nat)(hj:j<6):(ZgA.drop (((j:Int)).toNat*2)).take 2=[fnV (Znf j),.int .i64 (errN j)]:=by
 have h:j=0\/j=1\/j=2\/j=3\/j=4\/j=5:=by omega
 rcases h with rfl|rfl|rfl|rfl|rfl|rfl <;> rfl
theorem ZrN (j:Nat)(hj:j<6)(r:Zab)(least:Int)(w:World)(hG:Glob w)(hl : -9223372036854775808<=least/\least<=0)(hs:(r.letter.size:Int)<=9223372036854775807) :
  Does Tryz.prog (Znf j) [.agg (Zab.enc r).toArray,.int .i64 least] w (fun v O=>v = .bool (Zdl r least j)/\O=[]):=by
 have h:j=0\/j=1\/j=2\/j=3\/j=4\/j=5:=by omega
 rcases h with rfl|rfl|rfl|rfl|rfl|rfl
 ·exact ZrU r least w
 ·exact ZrT r least w
 ·exact ZrS r least w hG
 ·exact ZrR r least hl w
 ·exact ZrQ r least w
 ·exact ZrP r least hs w
theorem ZoK (j:Nat):Body Tryz.prog (Znf j):=by
 unfold Znf
 split
 ·infer_instance
 split
 ·infer_instance
 split
 ·infer_instance
 split
 ·infer_instance
 split <;> infer_instance
theorem Zym {G:Prop}(h:G:=by(first|exact PuI|(apply Pu_loadON;rfl;exact hG.con;rfl))):G:=h
theorem Zyl {G:Prop}(h:G:=by(apply ZnD;rfl;rfl;omega;omega;exact hcc)):G:=h
theorem Zmc (A:Option Addr)(c:Nat)(l:List Zab)(w:World)(hG:Glob w)(hA:RdSl w A c Zab.enc 11 l)(hn:l.length<=1000000)(hR:∀ r∈l,(-9223372036854775808<=r.save/\r.save<=9223372036854775807)/\(r.letter.size:Int)<=9223372036854775807) :
  Does Tryz.prog 134 [.slice A l.length c] w (fun v O=>v = .tuple #[.int .i64 (Zfx l).1,.int .i64 (Zfx l).2]/\O=[]):=by
 have hls:=Zow l 0 (by omega) (by omega) fun r hr=>(hR r hr).1
 have hlast:=fun w' (hw:Bel w.heap.size w w')=>Zty A c l w' (hA.up hw) hn
 have hany1:=fun w' (hw:Bel w.heap.size w w')=>ZeW A c l 173 [] [] (fun r=>decide (r.save=0)) w' (hA.up hw) fun r w2 _=>Zuh r w2
 have hany2:=fun(b:Nat) w' (hw:Bel w.heap.size w w') (hc:Zal w' ⟨b,0,none⟩ [.int .i64 (Zah l)])=>ZeW A c l 174 [] [.pointer (some ⟨b,0,none⟩)] (fun r => !decide (r.save=0)&&!decide (r.save=Zah l)) w' (hA.up hw) fun r w2 h2=>Zug r ⟨b,0,none⟩ (Zah l) w2 ((hc.up h2 (Nat.le_refl _)) 0 _ rfl)
 have hlst:=fun w' (hw:Bel w.heap.size w w')=>Zc1 A c l w' (hA.up hw)
 obtain⟨res,hres⟩:∃ res,Zfx l=res:=⟨_,rfl⟩
 rw[hres]
 rw[Zwe]at hres
 have htl:∃ t,Zv6 l=t:=⟨_,rfl⟩
 change -9223372036854775808<=Zah l/\Zah l<=0 at hls
 refine Zaa Tryz.func134 rfl rfl rfl rfl ?_
 repeat (first|refine walk ?_|(refine jg ?_;(try intro F);(first|(refine Zac hlst ?_)|(refine bx ?_;intro bk)|(refine stA ?_));refine fin ?_)|(refine jn ?_;(try intro F);(first|(refine bx ?_;intro bk)|(refine stA ?_)|(apply Zae;exact PuA));refine fin ?_)|(apply RD_W;rfl;intro bk))
 refine Zao [(0,.slice A l.length c),(4,.pointer (some ⟨bk,0,none⟩)),(13,.slice A l.length c),(14,.int .i64 l.length)] [.blk bk [.int .i64 (Zah l)] 2] (fun k:Nat=>[(15,.int .i64 k)]) (fun _=>[]) (fun k=>k<=l.length/\outR l (Zbg (Zah l) (l.drop k) k)=res) (fun k=>l.length - k) 0 SFA SOA ⟨Nat.zero_le _,hres⟩ ?_
 rintro k ⟨hk,hi⟩
 repeat (first|refine walk ?_|(refine jn ?_;(try intro F);(first|(refine bx ?_;intro bk)|(refine stA ?_)|(apply Zae;exact PuA));refine fin ?_)|(apply RD_W;rfl;intro bk))
 refine Zaf rfl (fun h=>?_) (fun h=>?_)
 ·have hlt:k<l.length:=by simpa using h
  obtain⟨hna,hca⟩:=hA.rd k _ (List.getElem?_eq_getElem hlt)
  have hRr:=hR l[k] (List.getElem_mem hlt)
  rw[Zap hlt,Zbg,Zmb]at hi
  generalize l[k]=r at *
  have hcs:=fun j (hj:j<6) w' (hw:Bel w.heap.size w w')=>ZrN j hj r (Zah l) w' (hG.up hw) hls hRr.2
  generalize Zdl r (Zah l)=bb at *
  obtain⟨nm,fr,to,mo,⟨dk,dw,dd⟩,⟨cs,cb⟩,sv,le⟩:=r
  simp only[Zab.enc]at hca hcs
  obtain⟨b4,hb4⟩:∃ b4,bk=b4:=⟨_,rfl⟩
  rw[hb4]at *
  clear hb4 bk
  repeat (first|(apply RL_pu;rfl;exact Zym)|(apply RD_Q;rfl;rfl;decide +kernel;rfl;rfl;exact QyRsE0)|refine walk1 ?_|(refine jn ?_;(try intro F);(first|(refine bx ?_;intro bk)|(refine stA ?_)|(apply Zae;first|exact Zym|exact PuA));first|refine⟨_,EndsA,QFRsE0,?_⟩|refine fin ?_)|(apply RD_W;rfl;intro bk))
  refine Zao [(20,.agg ZgA.toArray),(6,.pointer (some ⟨bk,0,none⟩)),(5,.int .i64 k),(15,.int .i64 k),(0,.slice A l.length c),(4,.pointer (some ⟨b4,0,none⟩)),(13,.slice A l.length c),(14,.int .i64 l.length)] [.blk bk [.string nm,.int .i64 fr,.int .i64 to,.int .i64 mo,.int .i64 dk,.int .i64 dw,.int .i64 dd,.int .i64 cs,.int .i64 cb,.int .i64 sv,.string le] 82,.blk b4 [.int .i64 (Zah l)] 2] (fun j:Nat=>[(21,.int .i64 j)]) (fun _=>[]) (fun j=>j<=6/\Zhf bb (6 - j)=Zhf bb 6) (fun j=>6 - j) 0 SFA SOA ⟨Nat.zero_le _,rfl⟩ ?_
  rintro j ⟨hj,he⟩
  repeat (first|refine walk ?_|(refine jn ?_;(try intro F);(first|(refine bx ?_;intro bk)|(refine stA ?_)|(apply Zae;exact PuA));refine fin ?_)|(apply RD_W;rfl;intro bk))
  refine Zaf rfl (fun h2=>?_) (fun h2=>?_)
  ·have hj6:j<6:=by have:=of_decide_eq_true h2;omega
   have hcj:=hcs j hj6
   have hcc:=ZrO j hj6
   haveI:=ZoK j
   rw[show 6 - j=(5 - j)+1 by omega,Zhf,show 5 - (5 - j)=j by omega]at he
   have hne:errN j≠0:=by
    unfold errN
    repeat' split
    all_goals decide
   generalize Znf j=cf at *
   generalize bb j=bj at *
   generalize errN j=ej at *
   repeat (first|(apply RL_pu;rfl;exact Zyl)|(apply RD_Q;rfl;rfl;decide +kernel;rfl;rfl;exact QyRsE1)|refine walk1 ?_|(refine jg ?_;(try intro F);(first|(apply Zar (f:=cf) (us:=[]) (cs:=[]) (vs:=[.agg #[.string nm,.int .i64 fr,.int .i64 to,.int .i64 mo,.int .i64 dk,.int .i64 dw,.int .i64 dd,.int .i64 cs,.int .i64 cb,.int .i64 sv,.string le],.int .i64 (Zah l)]) (h:=fun w' hw _=>hcj w' hw);rfl;rfl;rintro v O' ⟨rfl,rfl⟩)|(refine bx ?_;intro bk)|(refine stA ?_));first|refine⟨_,EndsA,QFRsE1,?_⟩|refine fin ?_)|(refine jn ?_;(try intro F);(first|(refine bx ?_;intro bk)|(refine stA ?_)|(apply Zae;first|exact Zyl|exact PuA));first|refine⟨_,EndsA,QFRsE1,?_⟩|refine fin ?_)|(apply RD_W;rfl;intro bk))
   refine Zaf rfl (fun h3=>?_) (fun h3=>?_)
   ·have hb:bj=false:=by simpa using h3
    rw[if_pos hb]at he
    rw[<- he,if_neg hne]at hi
    repeat (first|refine walk ?_|(refine jn ?_;(try intro F);(first|(refine bx ?_;intro bk)|(refine stA ?_)|(apply Zae;exact PuA));refine fin ?_)|(apply RD_W;rfl;intro bk))
    exact ret_2 _ _ [] (.tmp rfl) (.tmp rfl) .nil ⟨by rw[<- hi];rfl,rfl⟩
   ·have hb:bj=true:=by simpa using h3
    rw[if_neg (by rw[hb];decide)]at he
    repeat (first|refine walk ?_|(refine jn ?_;(try intro F);(first|(refine bx ?_;intro bk)|(refine stA ?_)|(apply Zae;exact PuA));refine fin ?_)|(apply RD_W;rfl;intro bk))
    exact⟨j+1,OA,⟨OA,by rw[show 6 - (j+1)=5 - j by omega];exact he⟩,SFA,SOA⟩
  ·have hj6:j=6:=by have:=of_decide_eq_false h2;omega
   subst hj6
   rw[show Zhf bb (6 - 6)=0 from rfl]at he
   rw[<- he,if_pos rfl]at hi
   repeat (first|refine walk ?_|(refine jn ?_;(try intro F);(first|(refine bx ?_;intro bk)|(refine stA ?_)|(apply Zae;exact PuA));refine fin ?_)|(apply RD_W;rfl;intro bk))
   exact⟨k+1,OA,⟨OA,hi⟩,SFA,SOA⟩
 ·have hkl:k=l.length:=by
   have:=of_decide_eq_false h
   omega
  subst hkl
  rw[List.drop_length,Zbg,outR,Zv6]at hi
  generalize l.any (fun r=>decide (r.save=0))=a1 at *
  generalize l.any (fun r => !decide (r.save=0)&&!decide (r.save=Zah l))=a2 at *
  generalize ZiF l=a3 at *
  have hany3:=hany2 bk
  clear hany2 hlst
  repeat' (first|(refine js ?_;(first|(refine Zac hany1 ?_)|(apply Zag (h:=fun w' hw hH=>hany3 w' hw (hH.cells (by repeat' constructor)));rfl;rintro v O' ⟨rfl,rfl⟩)|(refine Zac hlast ?_)|(refine bx ?_;intro bk)))|refine walk ?_|(refine Ze0 ?_;intro F;(first|(refine Zac hany1 ?_)|(apply Zag (h:=fun w' hw hH=>hany3 w' hw (hH.cells (by repeat' constructor)));rfl;rintro v O' ⟨rfl,rfl⟩)|(refine Zac hlast ?_));refine⟨_,EndsA,SubO.right _ _,?_⟩)|(refine RD_Lw ?_;intro F;(first|(refine Zac hany1 ?_)|(apply Zag (h:=fun w' hw hH=>hany3 w' hw (hH.cells (by repeat' constructor)));rfl;rintro v O' ⟨rfl,rfl⟩)|(refine Zac hlast ?_)|(refine bx ?_;intro bk)|(refine stA ?_)|(apply Zae;exact PuA));refine⟨_,EndsA,QFA,?_⟩)|(apply RD_W;rfl;intro bk)|refine und ?_|(refine Zat rfl rfl rfl (fun hc=>?_) (fun hc=>?_))|(refine Zas rfl rfl rfl (fun hc=>?_) (fun hc=>?_))|(refine Zaf rfl (fun hc=>?_) (fun hc=>?_)))
  all_goals clear hany1 hany3 hlast hG hA hR
  all_goals subst hi
  all_goals try(have h0:¬ Zah l<0:=of_decide_eq_false (by assumption);simp only[h0,false_and,or_false])
  all_goals exact clo2
end Go.Proofs.YtdlmhmmhdbbliaaGreatDoor
namespace Go.Proofs.YtdlmhmmhdbbliaaGreatDoor
open Go Go.RowKit Go.Wk
attribute [local irreducible] W RL Does Zau Zak retQ Calls Pu Stp RD Qy Ay Zaj
theorem ZqD {G:Prop}(h:G:=by(apply ZcQ;rfl;rfl;(constructor <;> omega))):G:=h
theorem Zw9 (a b:Int)(h : -9223372036854775808<=a+b/\a+b<=9223372036854775807)(w:World):Does Tryz.prog 106 [.int .i64 a,.int .i64 b] w (fun v O=>v = .tuple #[.int .i64 (a+b),.bool true]/\O=[]):=by
 have hd:¬ ((!(decide (a<a+b)==decide (0<b)))=true):=by
  rw[show decide (a<a+b)=decide (0<b) from by rw[Bool.eq_iff_iff];simp only[decide_eq_true_eq];omega]
  simp
 refine Zaa Tryz.func106 rfl rfl rfl rfl ?_
 repeat' (first|(apply RL_pu;rfl;exact ZqD)|refine walk1 ?_|refine und ?_|(refine Zat rfl rfl rfl (fun hc=>?_) (fun hc=>?_))|(refine Zas rfl rfl rfl (fun hc=>?_) (fun hc=>?_))|(refine Zaf rfl (fun hc=>?_) (fun hc=>?_)))
 all_goals first|(exfalso;simp_all;done)|exact rtB|skip
theorem ZhC (y m:Int)(d:DDay) : -2000000000000<=(onD y m d).1/\(onD y m d).1<=2000000000000:=by
 unfold onD
 split
 ·exact⟨by decide,by decide⟩
 ·rename_i h1
  split
  ·exact⟨by decide,by decide⟩
  ·rename_i h2
   split
   ·exact⟨by decide,by decide⟩
   ·simp only[Bool.not_eq_false]at h1 h2
    have hb:=Zfl h1
    have hl:=Zg9 y m
    have hd:=Zi8 h2
    simp only[Zey,ZeX,Zel]
    repeat' split
    all_goals omega
theorem ZhB (u:ZaY)(hc : -604799<=u.at_.sec/\u.at_.sec<=604799)(w:World)(hG:Glob w):Does Tryz.prog 152 [.agg (ZaY.enc u).toArray] w (fun v O=>v = .int .i64 (86400*(onD u.year u.month u.day).1+u.at_.sec)/\O=[]):=by
 have ho:=fun w' (hw:Bel w.heap.size w w')=>Ziw u.year u.month u.day w' (hG.up hw)
 have hb:=ZhC u.year u.month u.day
 generalize onD u.year u.month u.day=x at *
 obtain⟨x1,x2⟩:=x
 obtain⟨is,yr,mo,⟨dk,dw,dd⟩,⟨cs,cb⟩⟩:=u
 simp only at *
 show Does _ _ [.agg #[.bool is,.int .i64 yr,.int .i64 mo,.int .i64 dk,.int .i64 dw,.int .i64 dd,.int .i64 cs,.int .i64 cb]] w _
 refine Zaa Tryz.func152 rfl rfl rfl rfl ?_
 repeat' (first|(apply RL_pu;rfl;exact ZqD)|(refine js ?_;(first|(refine Zac ho ?_)|(refine bx ?_;intro bk)))|refine walk1 ?_|(refine Zaf rfl (fun hc=>?_) (fun hc=>?_)))
 all_goals exact clo1
theorem Zh7 {G:Prop}(h:G:=by(apply Pu_add;rfl;rfl;(constructor <;> (simp only[decide_eq_false_iff_not,decide_eq_true_eq]at *;omega)))):G:=h
theorem Zib (u:ZaY)(least:Int)(w:World)(hG:Glob w):Does Tryz.prog 188 [.agg (ZaY.enc u).toArray,.int .i64 least] w (fun v O=>v = .int .i64 (ZaW u least)/\O=[]):=by
 have ho:=fun w' (hw:Bel w.heap.size w w')=>Ziw u.year u.month u.day w' (hG.up hw)
 have hcc:=Zcp u.at_
 have hcb:ZaP u.at_=true -> -604799<=u.at_.sec/\u.at_.sec<=604799:=fun hc=>by
  simp only[ZaP,Bool.and_eq_true,decide_eq_true_eq]at hc
  omega
 unfold ZaW
 generalize onD u.year u.month u.day=x at *
 generalize ZaP u.at_=y at *
 obtain⟨x1,x2⟩:=x
 obtain⟨is,yr,mo,⟨dk,dw,dd⟩,⟨cs,cb⟩⟩:=u
 simp only at *
 cases y
 ·clear hcb
  show Does _ _ [.agg #[.bool is,.int .i64 yr,.int .i64 mo,.int .i64 dk,.int .i64 dw,.int .i64 dd,.int .i64 cs,.int .i64 cb],.int .i64 least] w _
  refine Zaa Tryz.func188 rfl rfl rfl rfl ?_
  repeat' (first|(apply RL_pu;rfl;exact Zh7)|(refine js ?_;(first|(refine Zac (fun w' hw=>hcc w') ?_)|(refine bx ?_;intro bk)))|refine walk1 ?_|refine und ?_|(refine Zat rfl rfl rfl (fun hc=>?_) (fun hc=>?_))|(refine Zas rfl rfl rfl (fun hc=>?_) (fun hc=>?_))|(refine Zaf rfl (fun hc=>?_) (fun hc=>?_)))
  all_goals clear ho hcc hG
  all_goals exact clo1
 ·have hb:=hcb rfl
  clear hcb
  show Does _ _ [.agg #[.bool is,.int .i64 yr,.int .i64 mo,.int .i64 dk,.int .i64 dw,.int .i64 dd,.int .i64 cs,.int .i64 cb],.int .i64 least] w _
  refine Zaa Tryz.func188 rfl rfl rfl rfl ?_
  repeat' (first|(apply RL_pu;rfl;exact Zh7)|(refine js ?_;(first|(refine Zac (fun w' hw=>hcc w') ?_)|(refine Zac ho ?_)|(refine bx ?_;intro bk)))|refine walk1 ?_|refine und ?_|(refine Zat rfl rfl rfl (fun hc=>?_) (fun hc=>?_))|(refine Zas rfl rfl rfl (fun hc=>?_) (fun hc=>?_))|(refine Zaf rfl (fun hc=>?_) (fun hc=>?_)))
  all_goals clear ho hcc hG
  all_goals exact clo1
theorem ZfS {u:ZaY}{least:Int}(h:ZaW u least=0):(-10800<=least/\least<=0)/\-604799<=u.at_.sec/\u.at_.sec<=604799:=by
 unfold ZaW at h
 split at h
 ·cases h
 split at h
 ·cases h
 split at h
 ·cases h
 ·rename_i h1 _ h2
  have hc:ZaP u.at_=true:=by
   cases hc:ZaP u.at_
   ·exact absurd (.inr (.inr hc)) h2
   ·rfl
  simp only[ZaP,Bool.and_eq_true,decide_eq_true_eq]at hc
  omega
theorem ZeI (u:ZaY)(least:Int)(w:World)(hG:Glob w):Does Tryz.prog 149 [.agg (ZaY.enc u).toArray,.int .i64 least] w (fun v O=>v = .tuple #[.int .i64 (ZaH u least).1,.int .i64 (ZaH u least).2]/\O=[]):=by
 have hcu:=fun w' (hw:Bel w.heap.size w w')=>Zib u least w' (hG.up hw)
 unfold ZaH
 by_cases he:ZaW u least=0
 ·obtain⟨hl,hc⟩:=ZfS he
  have hs:=fun w' (hw:Bel w.heap.size w w')=>ZhB u hc w' (hG.up hw)
  have hb:=ZhC u.year u.month u.day
  rw[if_neg (by simpa using he)]
  rw[he]at hcu
  generalize onD u.year u.month u.day=x at *
  obtain⟨x1,x2⟩:=x
  clear he
  obtain⟨is,yr,mo,⟨dk,dw,dd⟩,⟨cs,cb⟩⟩:=u
  simp only at *
  show Does _ _ [.agg #[.bool is,.int .i64 yr,.int .i64 mo,.int .i64 dk,.int .i64 dw,.int .i64 dd,.int .i64 cs,.int .i64 cb],.int .i64 least] w _
  refine Zaa Tryz.func149 rfl rfl rfl rfl ?_
  repeat' (first|(apply RL_pu;rfl;exact Zh7)|(refine js ?_;(first|(refine Zac hcu ?_)|(refine Zac hs ?_)|(refine bx ?_;intro bk)))|refine walk1 ?_|(refine Zaf rfl (fun hc=>?_) (fun hc=>?_)))
  all_goals clear hs hcu hG
  all_goals exact clo2
 ·rw[if_pos he]
  generalize ZaW u least=x at *
  obtain⟨is,yr,mo,⟨dk,dw,dd⟩,⟨cs,cb⟩⟩:=u
  simp only at *
  show Does _ _ [.agg #[.bool is,.int .i64 yr,.int .i64 mo,.int .i64 dk,.int .i64 dw,.int .i64 dd,.int .i64 cs,.int .i64 cb],.int .i64 least] w _
  refine Zaa Tryz.func149 rfl rfl rfl rfl ?_
  repeat (first|(apply RL_pu;rfl;exact Zh7)|(refine js ?_;(first|(refine Zac hcu ?_)|(refine bx ?_;intro bk)))|refine walkB1 ?_)
  refine Zaf rfl (fun h1=>?_) (fun h1=>?_)
  ·repeat (first|(refine js ?_;(refine bx ?_;intro bk))|refine walk ?_)
   exact rtB
  ·exact absurd (by simpa using h1) he
end Go.Proofs.YtdlmhmmhdbbliaaGreatDoor
