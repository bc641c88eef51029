/- Parts of the proof. -/
import Derived.Test.YtpipekfmecikmaaGreatDoorA12
import Derived.Shelf.Lay
import Derived.Shelf.Strings.OnBuilder
import Derived.Shelf.Strings.Prefix
import Derived.Shelf.Strings.Shaped
import Derived.Shelf.Strings.Cut
import Derived.Shelf.Pu.ParseUintPublic10
import Derived.Shelf.GgClosure.StringsRunes
import Derived.Lib.CutLaws
import Derived.Lib.TrimUEq
import Derived.Lib.SmallJoins
set_option maxHeartbeats 0
set_option linter.all false
namespace Go.Proofs.YtpipekfmecikmaaGreatDoor
open Go Go.RowKit Go.Wk Tryz
attribute [local irreducible] W RL Does Zaq Zai retQ Calls Pu Stp RD Qy Ay
theorem ZDH {G:Prop}(h:G:=by(first|(apply Pu_indexAddr;rfl;rfl;omega;omega;(exact hna))|(apply Pu_loadON;rfl;(exact hca);rfl))):G:=h
theorem Zga (Ar Az Al As:Option Addr)(j q i cs:Nat)(a:DSource)(set:ByteArray)(w:World)(s:Zam w Ar Az Al As j q i cs a)(z:a.rules.length<=1000000) :
  Does prog 76 [srcV Ar Az Al As j q i cs a,.string set] w (ZgC 68 11 DRule.enc (ofB a.rules set)):=by
 generalize hres:ofB a.rules set=res
 refine Zaa func76 rfl rfl rfl rfl ?_
 repeat (first|(refine js ?_;(refine bx ?_;intro d))|refine walk ?_)
 refine Zdy 68 11 ?_
 refine Zah [(1,_),(2,_),(4,_),(9,_),(10,_)] [_] (fun g:AG DRule=>[(5,.slice g.A g.m g.c),(11,.int .i64 g.k)]) (fun g=>[.row (.slice g.A g.m g.c) 68 11 g.m g.xs]) (fun g=>g.k<=a.rules.length/\g.m=g.acc.length/\g.xs=g.acc.flatMap DRule.enc/\g.m<=g.k/\g.acc++ofB (a.rules.drop g.k) set=res) (fun g=>a.rules.length - g.k) ⟨0,none,0,0,[],[]⟩ ⟨rfl,rfl,rfl,rfl,rfl,rfl,rfl,trivial⟩ (.cons cS_ (.refl _)) ⟨by simp,rfl,rfl,Nat.le_refl _,by simpa using hres⟩ ?_
 rintro⟨k,A,c,m,xs,acc⟩ ⟨hk,hm,hx,hmk,hi⟩
 dsimp only at hk hm hx hmk hi ⊢
 repeat (first|(refine js ?_;(refine bx ?_;intro d))|refine walk ?_)
 refine Zaf rfl (fun e=>?_) (fun e=>?_)
 ·simp only[decide_eq_true_eq,Int.ofNat_lt]at e
  obtain⟨hna,hca⟩:=s.r.rd k _ (List.getElem?_eq_getElem e)
  rw[Zag e,ofB,List.filter_cons]at hi
  generalize a.rules[k]=r at *
  repeat (first|(apply RL_pu;rfl;exact ZDH)|(refine js ?_;(refine bx ?_;intro d))|refine walk1 ?_)
  refine Zaf rfl (fun f=>?_) (fun f=>?_)
  ·rw[if_pos f]at hi
   repeat (first|(refine js ?_;(first|(apply ZaC;rfl;rfl;(intro A' c';(focus repeat' constructor));(intro w' _ t;exact Zbr (t.of cS_));rfl;rfl;(simp only[maxLen];omega);omega;intro A' c' u x y)|(refine bx ?_;intro d)))|refine walk1 ?_)
   exact⟨⟨k+1,A',c',m+1,xs++r.enc,acc++[r]⟩,OA,⟨OA,by simp[hm],by rw[hx];exact ZbB acc r,OA,by rw[<- hi];simp[ofB]⟩,SFA,SOA⟩
  rw[f]at hi
  repeat (first|(refine js ?_;(refine bx ?_;intro d))|refine walk ?_)
  exact⟨⟨k+1,A,c,m,xs,acc⟩,OA,⟨OA,hm,hx,OA,hi⟩,SFA,SOA⟩
 simp only[decide_eq_false_iff_not,Int.ofNat_lt]at e
 rw[List.drop_eq_nil_of_le (by omega)]at hi
 simp only[ofB,List.filter_nil,List.append_nil]at hi
 subst hi
 repeat (first|(refine js ?_;(refine bx ?_;intro d))|refine walk ?_)
 exact ret_1 _ [.row (.slice A acc.length c) 68 11 acc.length (acc.flatMap DRule.enc)] (.tmp rfl) (by subst hm hx;exact SOA) ⟨A,c,by rw[hm],rfl⟩
attribute [local irreducible] Zaj
def KnP (rs:List DRule)(m:List (ByteArray × Value)):Prop:=∀ k v,mget m k=some v->∃ A c,v = .slice A (ofB rs k).length c
def KnAt (rs:List DRule)(m:List (ByteArray × Value))(w:World):Prop:=∀ k A n c,mget m k=some (.slice A n c)->RdSl w A c DRule.enc 11 (ofB rs k)
def ruEr (rs:List DRule)(e:DEra):List DRule:=if e.kind=2 then ofB rs e.set else []
def ZB4 (Ar Az Al As:Option Addr)(cr cz cl cs:Nat)(s:DSource)(b:Nat):Value := .agg #[.slice Ar s.rules.length cr,.slice Az s.zones.length cz,.slice Al s.links.length cl,.slice As s.shifts.length cs,.map (some b)]
def BkR (rs:List DRule)(b:Nat)(e:DEra)(R:List It)(v:Value)(O':List It):Prop :=
 ∃ A c m' S',v = .slice A (ruEr rs e).length c/\KnP rs m'/\O' = .mp b m' :: .fact S' (fun w=>KnAt rs m' w/\RdSl w A c DRule.enc 11 (ruEr rs e))::R
theorem ZpC {P:Program}{f:FuncId}{args:List Value}{w:World}{I:List It}{R R':Value->List It->Prop}(h:Zaj P f args w I R)(k:∀ v O base w',R v O->Zaz base O w'->∃ O',R' v O'/\Zaz base O' w'):Zaj P f args w I R':=by
 unfold Zaj at h ⊢
 exact fun w' i j=>Calls.mono (h w' i j) fun _ _ ⟨v,O,a,b,c,d⟩=>by
  obtain⟨O',e,g⟩:=k v O _ _ d c
  exact⟨v,O',a,b,g,e⟩
theorem Zz4 {G:Prop}(h:G:=by(first|(apply Zal;rfl;rfl;exact b1)|(apply Zb5;rfl;rfl;(focus repeat' constructor);exact hv;exact hs))):G:=h
theorem Zo1 (Ar Az Al As:Option Addr)(r t q cs:Nat)(s:DSource)(b:Nat)(m:List (ByteArray × Value))(S:Nat->Prop)(P:World->Prop)(R:List It)(e:DEra)(wr:World)(Q:Zam wr Ar Az Al As r t q cs s)(U:s.rules.length<=1000000)(x:KnP s.rules m)(u:∀ w,P w->KnAt s.rules m w) :
  Zaj prog 143 [ZB4 Ar Az Al As r t q cs s b,.agg e.enc.toArray] wr (.mp b m :: .fact S P::R) (BkR s.rules b e R):=by
 have p:=fun w' (C:Bel wr.heap.size wr w')=>Zga Ar Az Al As r t q cs s e.set w' (Q.up C) U
 unfold BkR ruEr
 obtain⟨D,y,z,a,M,⟨V,X,W,⟨H,I,J⟩,⟨E,F⟩⟩⟩:=e
 dsimp only at p ⊢
 show Zaj _ _ [.agg #[.slice Ar s.rules.length r,.slice Az s.zones.length t,.slice Al s.links.length q,.slice As s.shifts.length cs,.map (some b)],.agg #[.int .i64 D,.int .i64 y,.int .i64 z,.string a,.string M,.bool V,.int .i64 X,.int .i64 W,.int .i64 H,.int .i64 I,.int .i64 J,.int .i64 E,.int .i64 F]] wr _ _
 by_cases d:y=2
 ·have b1:(!decide (y=2))=false:=by rw[dT_ d];rfl
  rw[if_pos d]
  cases hg:mget m a with
  | some v =>
   obtain⟨A,c,rfl⟩:=x a v hg
   have hv:(mget m a).getD (.slice none 0 0) = .slice A (ofB s.rules a).length c:=by rw[hg];rfl
   have hs:(mget m a).isSome=true:=by rw[hg];rfl
   refine ZbA func143 rfl rfl rfl rfl ?_
   refine ZhI [.fact S P] (.mp b m::R) (fun w=>KnAt s.rules m w/\RdSl w A c DRule.enc 11 (ofB s.rules a)) (.cons (.there .here) (.cons .here (.refl _))) (fun w' j=>⟨u _ (Zbj (j _ List.mem_cons_self)),u _ (Zbj (j _ List.mem_cons_self)) a A _ c hg⟩) ?_
   repeat (first|(apply RL_pu;rfl;exact Zz4)|(refine js ?_;(refine bx ?_;intro K))|refine walk1 ?_)
   exact ret_1 _ _ (.tmp rfl) (.drop (.drop (.cons (.there .here) (.cons .here (.refl _))))) ⟨A,c,m,_,rfl,x,rfl⟩
  | none =>
   have hv:(mget m a).getD (.slice none 0 0) = .slice none 0 0:=by rw[hg];rfl
   have hs:(mget m a).isSome=false:=by rw[hg];rfl
   refine ZpC (R:=fun v O=>∃ A3 f,v = .slice A3 (ofB s.rules a).length f/\O=[.fact S P,.row (.slice A3 (ofB s.rules a).length f) 68 11 (ofB s.rules a).length ((ofB s.rules a).flatMap DRule.enc)]++(.mp b (mset m a (.slice A3 (ofB s.rules a).length f))::R)) ?_ ?_
   ·refine ZbA func143 rfl rfl rfl rfl ?_
    repeat (first|(apply RL_pu;rfl;exact Zz4)|(refine js ?_;(first|(apply Zad (h:=fun w' C _=>p w' C);rfl;rintro v O' ⟨A3,f,rfl,rfl⟩)|(refine bx ?_;intro K)))|refine walk1 ?_)
    exact ret_1 _ _ (.tmp rfl) (.cons (.there (.there (.there (.there .here)))) (.cons .here (.cons (.there (.there .here)) (.drop (.drop (.refl _)))))) ⟨A3,f,rfl,rfl⟩
   ·rintro v O base w' ⟨A3,f,rfl,rfl⟩ T
    have B:∀ w',(∀ i∈[It.fact S P,.row (.slice A3 (ofB s.rules a).length f) 68 11 (ofB s.rules a).length ((ofB s.rules a).flatMap DRule.enc)],i.sat w')->KnAt s.rules (mset m a (.slice A3 (ofB s.rules a).length f)) w'/\RdSl w' A3 f DRule.enc 11 (ofB s.rules a):=by
     intro w' j
     have N:=u _ (Zbj (j _ List.mem_cons_self))
     have L:=ZaJ DRule.len (j _ (List.mem_cons_of_mem _ List.mem_cons_self))
     refine⟨fun k A n c d=>?_,L⟩
     rw[ZeH]at d
     by_cases g:k=a
     ·subst g
      rw[if_pos rfl]at d
      cases d
      exact L
     ·rw[if_neg g]at d
      exact N k A n c d
    refine⟨_,⟨A3,f,mset m a (.slice A3 (ofB s.rules a).length f),foot [It.fact S P,.row (.slice A3 (ofB s.rules a).length f) 68 11 (ofB s.rules a).length ((ofB s.rules a).flatMap DRule.enc)],rfl,fun k v d=>?_,rfl⟩,(T.fact B).sub (.cons (.there .here) (.cons .here (.refl _)))⟩
    rw[ZeH]at d
    by_cases g:k=a
    ·subst g
     rw[if_pos rfl]at d
     cases d
     exact⟨A3,f,rfl⟩
    ·rw[if_neg g]at d
     exact x k v d
 ·have b1:(!decide (y=2))=true:=by rw[dF_ d];rfl
  rw[if_neg d]
  refine ZbA func143 rfl rfl rfl rfl ?_
  refine ZhI [.fact S P] (.mp b m::R) (fun w=>KnAt s.rules m w/\RdSl w none 0 DRule.enc 11 []) (.cons (.there .here) (.cons .here (.refl _))) (fun w' j=>⟨u _ (Zbj (j _ List.mem_cons_self)),Ztl _ _ _⟩) ?_
  repeat (first|(apply RL_pu;rfl;(apply Zal;rfl;rfl;exact b1))|(refine js ?_;(refine bx ?_;intro K))|refine walk1 ?_)
  exact ret_1 _ _ (.tmp rfl) (.drop (.drop (.cons (.there .here) (.cons .here (.refl _))))) ⟨none,0,m,_,rfl,x,rfl⟩
end Go.Proofs.YtpipekfmecikmaaGreatDoor
namespace Go.Wk
open Go Go.RowKit
structure SpG where
 k:Nat
 st:Int
 A:Option Addr
 c:Nat
 m:Nat
 xs:List Value
 acc:List ZaE
 mp:List (ByteArray × Value)
 S:Nat->Prop
 P:World->Prop
end Go.Wk
namespace Go.Proofs.YtpipekfmecikmaaGreatDoor
open Go Go.RowKit Go.Wk Tryz
attribute [local irreducible] W RL Does Zaq Zai retQ Calls Pu Stp RD Qy Ay Zaj
def spGo (rs:List DRule):List DEra->Int->Nat->Option (List ZaE)
 | [],_,_=>some []
 | [_],st,i=>some [⟨st,9223372036854775807,i⟩]
 | e::f::l,st,i=>if endT e (ruEr rs e)<=st then none else (spGo rs (f::l) (endT e (ruEr rs e)) (i+1)).map fun r=>⟨st,endT e (ruEr rs e),i⟩::r
def Zey (rs:List DRule)(l:List DEra):Option (List ZaE):=spGo rs l (-9223372036854775808) 0
def SpR (l:List ZaE)(v:Value)(O:List It):Prop:=∃ A c,v = .tuple #[.slice A l.length c,.int .i64 0]/\O=[.row (.slice A l.length c) 109 3 l.length (l.flatMap ZaE.enc)]
theorem Zz3 {G:Prop}(h:G:=by(first|(apply Zau;rfl;rfl;exact hb0)|(apply ZbF;rfl;rfl;exact hb1)|(apply Pu_indexAddr;rfl;rfl;omega;omega;exact hnz)|(apply Pu_loadO1;rfl;exact hcz 1 _ rfl))):G:=h
theorem ZyF {G:Prop}(h:G:=by first|(apply Qy_y;rfl;exact Zz3)|exact QyA):G:=h
theorem ZCR {G:Prop}(h:G:=by repeat (first|exact QF.nil|(apply QF.mk;rfl;rfl;decide +kernel;exact ZyF))):G:=h
theorem Zz2 {G:Prop}(h:G:=by(first|exact PuI|(apply Zau;rfl;rfl;exact q1)|(apply Zbl;rfl;rfl;exact q2))):G:=h
theorem ZyE {G:Prop}(h:G:=by first|(apply Qy_y;rfl;exact Zz2)|exact QyA):G:=h
theorem ZCQ {G:Prop}(h:G:=by repeat (first|exact QF.nil|(apply QF.mk;rfl;rfl;decide +kernel;exact ZyE))):G:=h
theorem ZDL {G:Prop}(h:G:=by(first|exact PuI|(apply Zau;rfl;rfl;exact q1))):G:=h
set_option maxHeartbeats 0 in
theorem Zq9 (Ar Az Al As:Option Addr)(y D x cs:Nat)(a:DSource)(i:Nat)(z:DZone)(q:List ZaE)(w:World)(hG:Glob w)(N:Zam w Ar Az Al As y D x cs a)(hn:a.rules.length<=1000000)(hl:z.eras.length<=1000000)(hz:a.zones[i]?=some z)
  (hE:∀ k e,z.eras[k]?=some e->k+1<z.eras.length->RsSm (ruEr a.rules e)/\UnOk e (ruEr a.rules e)) (ad:Zey a.rules z.eras=some q) :
  Does prog 97 [srcV Ar Az Al As y D x cs a,.int .i64 i] w (SpR q):=by
 have an:i<a.zones.length:=(List.getElem?_eq_some_iff.1 hz).1
 obtain⟨hnz,al,⟨Ae,ce,r,rfl⟩,hcz⟩:=N.z i _ hz
 have E:=N.zcap
 simp only[maxLen]at E
 have hb0:decide ((i:Int)<0)=false:=dF_ (by omega)
 have hb1:decide ((a.zones.length:Int)<=(i:Int))=false:=dF_ (by omega)
 refine Zaa func97 rfl rfl rfl rfl ?_
 repeat (first|(apply RL_pu;rfl;exact Zz3)|(apply RD_Q;rfl;rfl;decide +kernel;rfl;rfl;exact ZyF)|refine walk1 ?_|(refine jn ?_;(try intro F);(first|(refine bx ?_;intro L)|(refine stA ?_)|(apply Zan;exact PuA));first|refine⟨_,EndsA,ZCR,?_⟩|refine fin ?_))
 rename_i t _
 generalize L=b6
 have am:=r.le
 have aa:=r.cap
 simp only[maxLen]at aa
 refine Zdy 109 3 ?_
 refine ZhI [] [.row (.slice none 0 0) 109 3 0 [],.blk b6 [.slice Ar a.rules.length y,.slice Az a.zones.length D,.slice Al a.links.length x,.slice As a.shifts.length cs,.map (some t)] 195,.mp t []] (fun w=>KnAt a.rules [] w) SOA (fun w' _ k A n c I=>by cases I) ?_
 refine Zah [(6,.pointer (some ⟨b6,0,none⟩)),(9,.slice Ae z.eras.length ce),(33,.slice Ae z.eras.length ce),(34,.int .i64 z.eras.length)] [.blk b6 [.slice Ar a.rules.length y,.slice Az a.zones.length D,.slice Al a.links.length x,.slice As a.shifts.length cs,.map (some t)] 195]
  (fun g:SpG=>[(7,.slice g.A g.m g.c),(8,.int .i64 g.st),(35,.int .i64 g.k)]) (fun g=>[.row (.slice g.A g.m g.c) 109 3 g.m g.xs,.mp t g.mp,.fact g.S g.P])
  (fun g=>g.k<=z.eras.length/\g.m=g.acc.length/\g.xs=g.acc.flatMap ZaE.enc/\g.m=g.k/\KnP a.rules g.mp/\(∀ w,g.P w->KnAt a.rules g.mp w)/\∃ f,spGo a.rules (z.eras.drop g.k) g.st g.k=some f/\g.acc++f=q) (fun g=>z.eras.length - g.k)
  ⟨0,-9223372036854775808,none,0,0,[],[],[],foot [],KnAt a.rules []⟩ SFA SOA ⟨Nat.zero_le _,rfl,rfl,rfl,(fun k v I=>by cases I),fun _ h=>h,q,ad,rfl⟩ ?_
 rintro⟨k,st,A,c,m,xs,acc,mp,S,P⟩ ⟨I,hm,hx,hmk,hP,hK,f,hi,hacc⟩
 dsimp only at I hm hx hmk hP hK hi hacc ⊢
 repeat (refine walk ?_)
 refine Zaf rfl (fun s=>?_) (fun s=>?_)
 ·simp only[decide_eq_true_eq,Int.ofNat_lt]at s
  obtain⟨hna,hca⟩:=r.rd k _ (List.getElem?_eq_getElem s)
  have ab:=List.getElem?_eq_getElem s
  rw[Zag s]at hi
  generalize z.eras[k]=e at *
  by_cases d:k+1<z.eras.length
  ·have q1:decide ((k:Int)<(z.eras.length:Int) - 1)=true:=dT_ (by omega)
   obtain⟨J,ae⟩:=hE k _ ab d
   rw[Zag d,spGo]at hi
   have H:=fun(A3:Option Addr) (u:Nat) w' (hw:Bel w.heap.size w w') hR=>Zq4 e A3 u (ruEr a.rules e) w' (hG.up hw) hR J ae
   have j:=fun R=>Zo1 Ar Az Al As y D x cs a t mp S P R e w N hn hP hK
   have ao:(ruEr a.rules e).length<=1000000:=J.n
   generalize endT e (ruEr a.rules e)=T at *
   by_cases W:T<=st
   ·rw[if_pos W]at hi
    cases hi
   rw[if_neg W,<- Zag d]at hi
   have q2:decide (T<=st)=false:=dF_ W
   obtain⟨r2,ac,rfl⟩:=Option.map_eq_some_iff.1 hi
   unfold BkR at j
   generalize ruEr a.rules e=rr at *
   obtain⟨af,kd,M,K,fm,⟨ui,uy,um,⟨ai,aj,ak⟩,⟨ag,ah⟩⟩⟩:=e
   simp only[DEra.enc]at hca H j
   unfold ZB4 at j
   repeat (first|(apply RL_pu;rfl;exact Zz2)|(apply RD_Q;rfl;rfl;decide +kernel;rfl;rfl;exact ZyE)|refine walk1 ?_|(refine jn ?_;(try intro F);(first|(apply Zg3 (h:=j _);rfl;exact .cons cS_ (.cons cS_ (.refl _));rintro v O' ⟨A3,u,m3,S3,rfl,U,rfl⟩)|(apply Zad (h:=fun w' hw hH=>H A3 u w' hw (Zbj (hH.of (A := .fact S3 (fun w=>KnAt a.rules m3 w/\RdSl w A3 u DRule.enc 11 rr)) cS_)).2);rfl;rintro v O' ⟨rfl,rfl⟩)|(apply ZaC;rfl;rfl;(intro A' c';(focus repeat' constructor));(intro w' _ Q;exact Zbr (Q.of cS_));rfl;rfl;(simp only[maxLen];omega);omega;intro A' c' X Y Z)|(refine bx ?_;intro L)|(apply Zan;exact PuA));first|refine⟨_,EndsA,ZCQ,?_⟩|refine fin ?_))
   exact⟨⟨k+1,T,A',c',m+1,xs++(⟨st,T,k⟩:ZaE).enc,acc++[⟨st,T,k⟩],m3,S3,fun w=>KnAt a.rules m3 w/\RdSl w A3 u DRule.enc 11 rr⟩,OA,⟨OA,by simp[hm],by rw[hx];exact ZbB acc _,OA,U,fun _ h=>h.1,r2,ac,by rw[<- hacc];simp⟩,SFA,SOA⟩
  ·have q1:decide ((k:Int)<(z.eras.length:Int) - 1)=false:=dF_ (by omega)
   rw[List.drop_eq_nil_of_le (by omega),spGo]at hi
   cases hi
   obtain⟨af,kd,M,K,fm,⟨ui,uy,um,⟨ai,aj,ak⟩,⟨ag,ah⟩⟩⟩:=e
   simp only[DEra.enc]at hca
   repeat (first|(apply RL_pu;rfl;exact ZDL)|refine walk1 ?_|(refine jn ?_;(try intro F);(first|(apply ZaC;rfl;rfl;(intro A' c';(focus repeat' constructor));(intro w' _ Q;exact Zbr (Q.of cS_));rfl;rfl;(simp only[maxLen];omega);omega;intro A' c' X Y Z)|(refine bx ?_;intro L));first|refine⟨_,EndsA,QFErC2,?_⟩|refine fin ?_))
   exact⟨⟨k+1,9223372036854775807,A',c',m+1,xs++(⟨st,9223372036854775807,k⟩:ZaE).enc,acc++[⟨st,9223372036854775807,k⟩],mp,S,P⟩,OA,⟨OA,by simp[hm],by rw[hx];exact ZbB acc _,OA,hP,hK,[],by dsimp only;rw[List.drop_eq_nil_of_le (by omega)];rfl,by rw[List.append_nil];exact hacc⟩,SFA,SOA⟩
 ·simp only[decide_eq_false_iff_not,Int.ofNat_lt]at s
  obtain rfl:k=z.eras.length:=by omega
  rw[List.drop_length,spGo]at hi
  cases hi
  rw[List.append_nil]at hacc
  subst hacc
  repeat (refine walk ?_)
  exact ret_2 _ _ [.row (.slice A acc.length c) 109 3 acc.length (acc.flatMap ZaE.enc)] (.tmp rfl) (.tmp rfl) (by subst hm hx;exact SOA) ⟨A,c,by rw[hm],rfl⟩
end Go.Proofs.YtpipekfmecikmaaGreatDoor
namespace Go.Proofs.YtpipekfmecikmaaGreatDoor
open Go.Shelf Go.RowKit Go.Lib Tryz
def Zit:Ren where
 f:=fun|156=>317|165=>332|166=>333|169=>334|240=>339|241=>340|276=>342|277=>343|n=>n
 t:=fun|31=>25|9=>9|3=>3|4=>4|0=>0|20=>20|72=>344|76=>346|70=>342|37=>239|75=>299|127=>360|164=>364|5=>5|80=>348|n=>n
 g:=fun n=>n
theorem ZtJ:Lays.n156 prog Zit where
 mixed:=by kernel_rfl
 f156:=func317.trans (congrArg some (by kernel_rfl))
 f165:=func332.trans (congrArg some (by kernel_rfl))
 f166:=func333.trans (congrArg some (by kernel_rfl))
 f169:=func334.trans (congrArg some (by kernel_rfl))
 f240:=func339.trans (congrArg some (by kernel_rfl))
 f241:=func340.trans (congrArg some (by kernel_rfl))
 f276:=func342.trans (congrArg some (by kernel_rfl))
 f277:=func343.trans (congrArg some (by kernel_rfl))
 t0:=underlying0
 a0:=isAgg0
 z0:=sizeOf0
 v0:=zeroValue0
 t3:=underlying3
 a3:=isAgg3
 z3:=sizeOf3
 v3:=zeroValue3
 t4:=underlying4
 a4:=isAgg4
 z4:=sizeOf4
 v4:=zeroValue4
 t9:=underlying9
 a9:=isAgg9
 z9:=sizeOf9
 v9:=zeroValue9
 t20:=underlying20
 a20:=isAgg20
 z20:=sizeOf20
 v20:=zeroValue20
 t31:=underlying25
 a31:=isAgg25
 z31:=sizeOf25
 v31:=zeroValue25
 t37:=underlying239
 a37:=isAgg239
 z37:=sizeOf239
 v37:=zeroValue239
 t70:=underlying342
 a70:=isAgg342
 z70:=sizeOf342
 v70:=zeroValue342
 t72:=underlying344
 a72:=isAgg344
 z72:=sizeOf344
 v72:=zeroValue344
 t75:=underlying299
 a75:=isAgg299
 z75:=sizeOf299
 v75:=zeroValue299
 t76:=underlying346
 a76:=isAgg346
 z76:=sizeOf346
 v76:=zeroValue346
 t127:=underlying360
 a127:=isAgg360
 z127:=sizeOf360
 v127:=zeroValue360
 t164:=underlying364
 a164:=isAgg364
 z164:=sizeOf364
 v164:=zeroValue364
def Zor:Ren where
 f:=fun|99=>287|206=>301|n=>n
 t:=fun|9=>9|4=>4|3=>3|n=>n
 g:=fun n=>n
theorem ZAn:Lays.n99 prog Zor where
 mixed:=by kernel_rfl
 f99:=func287.trans (congrArg some (by kernel_rfl))
 f206:=func301.trans (congrArg some (by kernel_rfl))
 t3:=underlying3
 a3:=isAgg3
 z3:=sizeOf3
 v3:=zeroValue3
 t4:=underlying4
 a4:=isAgg4
 z4:=sizeOf4
 v4:=zeroValue4
 t9:=underlying9
 a9:=isAgg9
 z9:=sizeOf9
 v9:=zeroValue9
def Zie:Ren where
 f:=fun|14=>286|16=>299|17=>300|19=>320|20=>321|21=>322|22=>323|23=>324|24=>325|25=>335|27=>337|26=>336|28=>341|29=>344|30=>345|31=>346|32=>347|33=>348|35=>312|34=>349|36=>350|37=>351|38=>352|39=>353|40=>354|n=>n
 t:=fun|9=>9|3=>3|22=>286|24=>299|25=>300|4=>4|34=>331|5=>5|36=>308|37=>239|0=>0|39=>333|21=>21|44=>351|47=>360|50=>363|48=>361|2=>2|52=>368|55=>370|59=>373|60=>324|20=>20|61=>374|65=>375|66=>376|67=>348|n=>n
 g:=fun|0=>6|1=>7|2=>10|3=>11|4=>12|n=>n
theorem ZBL:LaysPu.n14 prog Zie where
 mixed:=by kernel_rfl
 f14:=func286.trans (congrArg some (by kernel_rfl))
 f16:=func299.trans (congrArg some (by kernel_rfl))
 f17:=func300.trans (congrArg some (by kernel_rfl))
 f19:=func320.trans (congrArg some (by kernel_rfl))
 f20:=func321.trans (congrArg some (by kernel_rfl))
 f21:=func322.trans (congrArg some (by kernel_rfl))
 f22:=func323.trans (congrArg some (by kernel_rfl))
 f23:=func324.trans (congrArg some (by kernel_rfl))
 f24:=func325.trans (congrArg some (by kernel_rfl))
 f25:=func335.trans (congrArg some (by kernel_rfl))
 f26:=func336.trans (congrArg some (by kernel_rfl))
 f27:=func337.trans (congrArg some (by kernel_rfl))
 f28:=func341.trans (congrArg some (by kernel_rfl))
 f29:=func344.trans (congrArg some (by kernel_rfl))
 f30:=func345.trans (congrArg some (by kernel_rfl))
 f31:=func346.trans (congrArg some (by kernel_rfl))
 f32:=func347.trans (congrArg some (by kernel_rfl))
 f33:=func348.trans (congrArg some (by kernel_rfl))
 f34:=func349.trans (congrArg some (by kernel_rfl))
 f35:=func312.trans (congrArg some (by kernel_rfl))
 f36:=func350.trans (congrArg some (by kernel_rfl))
 f37:=func351.trans (congrArg some (by kernel_rfl))
 f38:=func352.trans (congrArg some (by kernel_rfl))
 f39:=func353.trans (congrArg some (by kernel_rfl))
 f40:=func354.trans (congrArg some (by kernel_rfl))
 t0:=underlying0
 a0:=isAgg0
 z0:=sizeOf0
 v0:=zeroValue0
 t2:=underlying2
 a2:=isAgg2
 z2:=sizeOf2
 v2:=zeroValue2
 t3:=underlying3
 a3:=isAgg3
 z3:=sizeOf3
 v3:=zeroValue3
 t4:=underlying4
 a4:=isAgg4
 z4:=sizeOf4
 v4:=zeroValue4
 t5:=underlying5
 a5:=isAgg5
 z5:=sizeOf5
 v5:=zeroValue5
 t9:=underlying9
 a9:=isAgg9
 z9:=sizeOf9
 v9:=zeroValue9
 t20:=underlying20
 a20:=isAgg20
 z20:=sizeOf20
 v20:=zeroValue20
 t21:=underlying21
 a21:=isAgg21
 z21:=sizeOf21
 v21:=zeroValue21
 t22:=underlying286
 a22:=isAgg286
 z22:=sizeOf286
 v22:=zeroValue286
 t24:=underlying299
 a24:=isAgg299
 z24:=sizeOf299
 v24:=zeroValue299
 t25:=underlying300
 a25:=isAgg300
 z25:=sizeOf300
 v25:=zeroValue300
 t34:=underlying331
 a34:=isAgg331
 z34:=sizeOf331
 v34:=zeroValue331
 t36:=underlying308
 a36:=isAgg308
 z36:=sizeOf308
 v36:=zeroValue308
 t37:=underlying239
 a37:=isAgg239
 z37:=sizeOf239
 v37:=zeroValue239
 t39:=underlying333
 a39:=isAgg333
 z39:=sizeOf333
 v39:=zeroValue333
 t44:=underlying351
 a44:=isAgg351
 z44:=sizeOf351
 v44:=zeroValue351
 t47:=underlying360
 a47:=isAgg360
 z47:=sizeOf360
 v47:=zeroValue360
 t48:=underlying361
 a48:=isAgg361
 z48:=sizeOf361
 v48:=zeroValue361
 t50:=underlying363
 a50:=isAgg363
 z50:=sizeOf363
 v50:=zeroValue363
 t52:=underlying368
 a52:=isAgg368
 z52:=sizeOf368
 v52:=zeroValue368
 t55:=underlying370
 a55:=isAgg370
 z55:=sizeOf370
 v55:=zeroValue370
 t59:=underlying373
 a59:=isAgg373
 z59:=sizeOf373
 v59:=zeroValue373
 t60:=underlying324
 a60:=isAgg324
 z60:=sizeOf324
 v60:=zeroValue324
 t61:=underlying374
 a61:=isAgg374
 z61:=sizeOf374
 t65:=underlying375
 a65:=isAgg375
 z65:=sizeOf375
 v65:=zeroValue375
 t66:=underlying376
 a66:=isAgg376
 z66:=sizeOf376
 v66:=zeroValue376
 t67:=underlying348
 a67:=isAgg348
 z67:=sizeOf348
 v67:=zeroValue348
 i0:=by kernel_rfl
 i2:=by kernel_rfl
 i3:=by kernel_rfl
 i4:=by kernel_rfl
 i5:=by kernel_rfl
 i9:=by kernel_rfl
 i20:=by kernel_rfl
 i21:=by kernel_rfl
 i22:=by kernel_rfl
 i24:=by kernel_rfl
 i25:=by kernel_rfl
 i34:=by kernel_rfl
 c34:=by kernel_rfl
 i36:=by kernel_rfl
 i37:=by kernel_rfl
 i39:=by kernel_rfl
 i44:=by kernel_rfl
 i47:=by kernel_rfl
 i48:=by kernel_rfl
 i50:=by kernel_rfl
 i52:=by kernel_rfl
 i55:=by kernel_rfl
 i59:=by kernel_rfl
 i60:=by kernel_rfl
 i65:=by kernel_rfl
 i66:=by kernel_rfl
 i67:=by kernel_rfl
 g0:=by kernel_rfl
 m0:=by kernel_rfl
 g1:=by kernel_rfl
 m1:=by kernel_rfl
 g2:=by kernel_rfl
 m2:=by kernel_rfl
 g3:=by kernel_rfl
 m3:=by kernel_rfl
 g4:=by kernel_rfl
 m4:=by kernel_rfl
def Zkf:Ren where
 f:=fun|145=>211|220=>261|219=>285|217=>295|225=>296|224=>297|267=>298|266=>318|314=>319|n=>n
 t:=fun|9=>9|4=>4|59=>188|3=>3|5=>5|46=>308|146=>329|51=>324|n=>n
 g:=fun|1=>5|n=>n
theorem Zx2:LaysM.n145 prog Zkf where
 mixed:=by kernel_rfl
 f145:=func211.trans (congrArg some (by kernel_rfl))
 f217:=func295.trans (congrArg some (by kernel_rfl))
 f219:=func285.trans (congrArg some (by kernel_rfl))
 f220:=func261.trans (congrArg some (by kernel_rfl))
 f224:=func297.trans (congrArg some (by kernel_rfl))
 f225:=func296.trans (congrArg some (by kernel_rfl))
 f266:=func318.trans (congrArg some (by kernel_rfl))
 f267:=func298.trans (congrArg some (by kernel_rfl))
 f314:=func319.trans (congrArg some (by kernel_rfl))
 t3:=underlying3
 a3:=isAgg3
 z3:=sizeOf3
 v3:=zeroValue3
 t4:=underlying4
 a4:=isAgg4
 z4:=sizeOf4
 v4:=zeroValue4
 t5:=underlying5
 a5:=isAgg5
 z5:=sizeOf5
 v5:=zeroValue5
 t9:=underlying9
 a9:=isAgg9
 z9:=sizeOf9
 v9:=zeroValue9
 t46:=underlying308
 a46:=isAgg308
 z46:=sizeOf308
 v46:=zeroValue308
 t51:=underlying324
 a51:=isAgg324
 z51:=sizeOf324
 v51:=zeroValue324
 t59:=underlying188
 a59:=isAgg188
 z59:=sizeOf188
 v59:=zeroValue188
 t146:=underlying329
 a146:=isAgg329
 z146:=sizeOf329
 v146:=zeroValue329
 g1:=by kernel_rfl
 i3:=by kernel_rfl
 i4:=by kernel_rfl
 i5:=by kernel_rfl
 i9:=by kernel_rfl
 i46:=by kernel_rfl
 i51:=by kernel_rfl
 i59:=by kernel_rfl
 i146:=by kernel_rfl
 m1:=by kernel_rfl
 s1_3:=fun w h=>cell_of_shapedOpen_int (zero := #[.int .i64 0]) h (by decide) (by kernel_rfl) rfl (by kernel_rfl) (by kernel_rfl) underlying3
def ZrJ:Ren where
 f:=fun|15=>213|20=>263|n=>n
 t:=fun|9=>9|23=>236|3=>3|4=>4|0=>0|21=>21|n=>n
 g:=fun n=>n
theorem ZBU:LaysGw.n15 prog ZrJ where
 mixed:=by kernel_rfl
 f15:=func213.trans (congrArg some (by kernel_rfl))
 f20:=func263.trans (congrArg some (by kernel_rfl))
 t0:=underlying0
 a0:=isAgg0
 z0:=sizeOf0
 v0:=zeroValue0
 t3:=underlying3
 a3:=isAgg3
 z3:=sizeOf3
 v3:=zeroValue3
 t4:=underlying4
 a4:=isAgg4
 z4:=sizeOf4
 v4:=zeroValue4
 t9:=underlying9
 a9:=isAgg9
 z9:=sizeOf9
 v9:=zeroValue9
 t21:=underlying21
 a21:=isAgg21
 z21:=sizeOf21
 v21:=zeroValue21
 t23:=underlying236
 a23:=isAgg236
 z23:=sizeOf236
 v23:=zeroValue236
 i0:=by kernel_rfl
 i3:=by kernel_rfl
 i4:=by kernel_rfl
 i9:=by kernel_rfl
 i21:=by kernel_rfl
 i23:=by kernel_rfl
theorem ZmP:Builder.Extra prog Zit where
 sizeBuilder:=by kernel_rfl
 liesBuilder:=by kernel_rfl
 t5:=underlying5
 a5:=isAgg5
 z5:=sizeOf5
 v5:=zeroValue5
 infoByte:=by kernel_rfl
 cellsByte:=by kernel_rfl
 sizeByte:=by kernel_rfl
 neB5:=by decide
end Go.Proofs.YtpipekfmecikmaaGreatDoor
namespace Go.Wk
open Go Go.RowKit
theorem Zqg (p:List UInt8):∀ (f a:List UInt8),Zbn p f a=if 0<=Lib.index f p then some (a++f.take (Lib.index f p).toNat,f.drop ((Lib.index f p).toNat+p.length)) else none
 | [],a=>by
  simp only[Zbn,Lib.index,List.isEmpty_iff]
  by_cases h:p=[]
  ·simp[h]
  ·rw[if_neg h,if_neg h];rfl
 | c::l,a=>by
  by_cases h:p.isPrefixOf (c::l)=true
  ·simp[Zbn,Lib.index,h]
  ·have d:Lib.index (c::l) p=if (Lib.index l p==-1)=true then -1 else Lib.index l p+1:=by rw[Lib.index,if_neg h]
   generalize hI:Lib.index (c::l) p=I at *
   subst d
   rw[Zbn,if_neg h,Zqg p l]
   clear hI
   have i:=Lib.index_ge l p
   by_cases b:Lib.index l p = -1
   ·simp[b]
   ·rw[if_pos (show 0<=Lib.index l p by omega)]
    have g:(Lib.index l p==-1)=false:=by simpa using b
    rw[g]
    simp only[Bool.false_eq_true,if_false]
    rw[if_pos (show 0<=Lib.index l p+1 by omega)]
    have e:(Lib.index l p+1).toNat=(Lib.index l p).toNat+1:=by omega
    rw[e,show(Lib.index l p).toNat+1+p.length=((Lib.index l p).toNat+p.length)+1 by omega]
    simp
def cutV (f p:List UInt8):List UInt8 × List UInt8 × Bool:=match Zbn p f [] with|some (a,b)=>(a,b,true)|none=>(f,[],false)
theorem ZAK (f p:List UInt8):Lib.cut f p=cutV f p:=by
 unfold Lib.cut cutV
 rw[Zqg]
 by_cases h:0<=Lib.index f p
 ·rw[if_pos h,if_pos h];rfl
 ·rw[if_neg h,if_neg h]
theorem Znh {p f d a b:List UInt8}(h:Zbn p f d=some (a,b)):a.length+b.length+p.length<=d.length+f.length:=by
 induction f generalizing d with
 | nil =>
  simp only[Zbn]at h
  split at h
  ·rename_i e;simp only[Option.some.injEq,Prod.mk.injEq]at h;obtain⟨rfl,rfl⟩:=h;simp[e]
  ·cases h
 | cons c l ih =>
  simp only[Zbn]at h
  split at h
  ·rename_i e
   simp only[Option.some.injEq,Prod.mk.injEq]at h
   obtain⟨rfl,rfl⟩:=h
   have:=List.IsPrefix.length_le (List.isPrefixOf_iff_prefix.1 e)
   rw[List.length_drop]
   omega
  ·have:=ih h
   simp only[List.length_append,List.length_cons,List.length_nil]at this ⊢
   omega
end Go.Wk
namespace Go.Proofs.YtpipekfmecikmaaGreatDoor
open Go Go.RowKit Go.Wk
attribute [local irreducible] W RL Does Zaq Zai retQ Calls Pu Stp RD Qy Ay Zaj
end Go.Proofs.YtpipekfmecikmaaGreatDoor
namespace Go.Wk
open Go Go.RowKit
def ZdJ (c:Int):Bool:=(decide (c<65)||decide (90<c))&&(decide (c<97)||decide (122<c))
end Go.Wk
namespace Go.Proofs.YtpipekfmecikmaaGreatDoor
open Go Go.RowKit Go.Wk Tryz
attribute [local irreducible] W RL Does Zaq Zai retQ Calls Pu Stp RD Qy Ay Zaj
theorem ZgK (s:ByteArray)(ok:Bool)(w:World):Does prog 149 [.string s,.bool ok] w (fun v O=>v = .tuple #[.string (if ok then s else ByteArray.empty),.int .i64 (if ok then 0 else 15)]/\O=[]):=by
 rw[show ByteArray.empty=⟨#[]⟩ from rfl]
 refine Zaa func149 rfl rfl rfl rfl ?_
 cases ok
 ·repeat' (first|refine walk ?_|fail)
  all_goals exact clo2
 ·repeat' (first|refine walk ?_|fail)
  all_goals exact clo2
end Go.Proofs.YtpipekfmecikmaaGreatDoor
namespace Go.Wk
open Go Go.RowKit Go.Lib
theorem ZiS {P:Program}{f:FuncId}{args:List Value}{w:World}{v:Value}(h:Calls P f args.toArray w fun e w'=>e = .returned v/\Below w.heap.size w w'):Does P f args w fun c O=>c=v/\O=[] :=
 h.mono fun _ _ ⟨b,a⟩=>⟨v,[],b,⟨a⟩,Zaz.nil _ _,rfl,rfl⟩
theorem ZAS (B:Nat)(w:World)(n:Nat):Below B w (w.drewN n):=⟨rfl,rfl,rfl,Nat.le_refl _,fun _ _=>rfl⟩
theorem ZtM (s:ByteArray):∀ (f pos:Nat),s.size<=pos+f->(idxFuncFrom (fun r=>ZdJ (r:Int)) true s f pos<0↔Zcq (s.data.toList.drop pos)=true)
 | 0,pos,h=>by
  rw[List.drop_eq_nil_of_le (by simpa using h)]
  simp[idxFuncFrom,Zcq]
 | f+1,pos,h=>by
  unfold idxFuncFrom
  by_cases g:pos<s.size
  ·rw[if_pos g]
   have d:pos<s.data.toList.length:=by simpa using g
   rw[List.drop_eq_getElem_cons d,Zcq,List.all_cons]
   have j:s.get! pos=s.data.toList[pos]:=by
    rw[Array.getElem_toList]
    show s.data[pos]! = _
    rw[getElem!_pos s.data pos (by simpa using d)]
   have i:=ZtM s f (pos+1) (by omega)
   unfold Zcq at i
   have e:(s.data.toList[pos].toNat<128/\Utf8.decode s pos=(s.data.toList[pos].toNat,1))\/(128<=s.data.toList[pos].toNat/\128<=(Utf8.decode s pos).1):=by
    unfold Utf8.decode
    simp only[Nat.add_zero,j]
    generalize s.data.toList[pos].toNat=b
    by_cases c:b<128
    ·exact .inl ⟨c,by rw[if_pos c]⟩
    ·refine .inr ⟨by omega,?_⟩
     rw[if_neg c]
     repeat' split
     all_goals first|(simp only[Utf8.runeError];omega)|(dsimp only;omega)|(dsimp only;simp only[Bool.and_eq_true,decide_eq_true_eq,ge_iff_le]at *;omega)|decide
   generalize s.data.toList[pos]=b at *
   rcases e with⟨c,e⟩|⟨c,e⟩
   ·rw[e]
    dsimp only
    by_cases a:ZdJ (b.toNat:Int)=true
    ·rw[if_pos a]
     have:decide (ZbX b.toNat=1)=false:=by
      unfold ZdJ at a
      simp only[Bool.and_eq_true,Bool.or_eq_true,decide_eq_true_eq]at a
      unfold ZbX
      rw[if_neg (by omega)]
      repeat' split
      all_goals decide
     rw[this]
     simp
    ·rw[if_neg a,i]
     have:decide (ZbX b.toNat=1)=true:=by
      unfold ZdJ at a
      simp only[Bool.and_eq_true,Bool.or_eq_true,decide_eq_true_eq]at a
      unfold ZbX
      rw[if_pos (by omega)]
      rfl
     rw[this,Bool.true_and]
   ·have a:ZdJ ((Utf8.decode s pos).1:Int)=true:=by
     unfold ZdJ
     simp only[Bool.and_eq_true,Bool.or_eq_true,decide_eq_true_eq]
     omega
    rw[if_pos a]
    have:decide (ZbX b.toNat=1)=false:=by
     unfold ZbX
     rw[if_neg (by omega)]
     repeat' split
     all_goals decide
    rw[this]
    simp
  ·rw[if_neg g,List.drop_eq_nil_of_le (by simpa using g)]
   simp[Zcq]
theorem Zmt:∀ (l:List UInt8),l.length<=2->(match numU l with|some n=>∃ u:Nat,parseUintB 8 l = .ok u/\n=u/\u<=99|none=>parseUintB 8 l = .syntax)
 | [],_=>rfl
 | [a],_=>by
  unfold numU parseUintB
  simp only[parseUintM,List.isEmpty_cons,Bool.false_eq_true,if_false,List.all_cons,List.all_nil,Bool.and_true,List.foldl_cons,List.foldl_nil,reduceCtorEq]
  by_cases h:48<=a/\a<=57
  ·have d:48<=a.toNat/\a.toNat<=57:=⟨UInt8.le_iff_toNat_le.1 h.1,UInt8.le_iff_toNat_le.1 h.2⟩
   rw[if_pos (by simp[h.1,h.2]),if_pos d]
   dsimp only
   refine⟨_,by rw[if_neg (by omega),if_neg (by omega)],by omega,by omega⟩
  ·have d:¬ (48<=a.toNat/\a.toNat<=57):=fun c=>h ⟨UInt8.le_iff_toNat_le.2 c.1,UInt8.le_iff_toNat_le.2 c.2⟩
   rw[if_neg (by simpa using h),if_neg d]
 | [a,b],_=>by
  unfold numU parseUintB
  simp only[parseUintM,List.isEmpty_cons,Bool.false_eq_true,if_false,List.all_cons,List.all_nil,Bool.and_true,List.foldl_cons,List.foldl_nil,reduceCtorEq]
  by_cases h:48<=a/\a<=57
  ·have d:48<=a.toNat/\a.toNat<=57:=⟨UInt8.le_iff_toNat_le.1 h.1,UInt8.le_iff_toNat_le.1 h.2⟩
   by_cases e:48<=b/\b<=57
   ·have f:48<=b.toNat/\b.toNat<=57:=⟨UInt8.le_iff_toNat_le.1 e.1,UInt8.le_iff_toNat_le.1 e.2⟩
    rw[if_pos (by simp[h.1,h.2,e.1,e.2]),if_pos d,if_neg (by omega),if_neg (by omega),if_pos f]
    dsimp only
    refine⟨_,by rw[if_neg (by omega),if_neg (by omega)],by omega,by omega⟩
   ·have f:¬ (48<=b.toNat/\b.toNat<=57):=fun c=>e ⟨UInt8.le_iff_toNat_le.2 c.1,UInt8.le_iff_toNat_le.2 c.2⟩
    rw[if_neg (by intro c;simp only[Bool.and_eq_true,decide_eq_true_eq]at c;exact e c.2),if_pos d,if_neg (by omega),if_neg (by omega),if_neg f]
  ·have d:¬ (48<=a.toNat/\a.toNat<=57):=fun c=>h ⟨UInt8.le_iff_toNat_le.2 c.1,UInt8.le_iff_toNat_le.2 c.2⟩
   rw[if_neg (by intro c;simp only[Bool.and_eq_true,decide_eq_true_eq]at c;exact h c.1),if_neg d]
 | _::_::_::_,h=>by simp only[List.length_cons]at h;omega
end Go.Wk
namespace Go.Proofs.YtpipekfmecikmaaGreatDoor
open Go Go.RowKit Go.Wk Go.Lib Tryz
structure LibW (w:World):Prop where
 mxl:∃ m,w.cell? ⟨Zkf.g 1,0,none⟩=some (.int .i64 m)
 syn:∃ ev,w.cell? ⟨Zie.g 0,0,none⟩=some ev/\(ev = .nilIface\/∃ te pe,ev = .iface te pe)
theorem Zln (s p:ByteArray)(w:World)(a:LibW w)(d:s.size<4294967281) :
  Does prog 211 [.string s,.string p] w (fun v O=>v = .tuple #[.string ⟨(cutV s.data.toList p.data.toList).1.toArray⟩,.string ⟨(cutV s.data.toList p.data.toList).2.1.toArray⟩,.bool (cutV s.data.toList p.data.toList).2.2]/\O=[]):=by
 obtain⟨m,c⟩:=a.mxl
 rw[<- ZAK]
 exact ZiS ((Any.strings_Cut { Zx2 with } s p m w d c).mono fun e w' ⟨b,n,f⟩=>⟨b,f▸ZAS _ _ _⟩)
theorem Zs9 (s p:ByteArray)(w:World):Does prog 287 [.string s,.string p] w (fun v O=>v = .bool (p.data.toList.isPrefixOf s.data.toList)/\O=[]) :=
 ZiS ((Any.strings_HasPrefix ZAn s p w).mono fun e w' ⟨a,b⟩=>⟨a,b▸Below.refl _ _⟩)
theorem Zut (c:Int)(w:World):Calls prog 214 #[.int .i32 c] w fun e w'=>e = .returned (.bool (ZdJ c))/\∃ q,w'=w.drewN q:=by
 go_enter func214,Tryz.ntmps214
 go_wp2
 all_goals go_ret
 all_goals refine⟨congrArg Ending.returned (congrArg Value.bool (?_:_=ZdJ c)),0,rfl⟩
 all_goals unfold ZdJ
 all_goals first|rfl|(simp[*];done)|(simp_all;done)|(simp_all;omega)
theorem ZwT (s:ByteArray)(w:World):Does prog 213 [.string s,.func (.func 214) #[] #[]] w (fun v O=>v = .int .i64 (idxFunc (fun r=>ZdJ (r:Int)) true s)/\O=[]) :=
 ZiS (Any.strings_IndexFunc_runes ZBU 214 #[] (enters_of func214 (by kernel_rfl) rfl) (fun r=>ZdJ (r:Int)) s w (fun W x _ _=>by unfold FnGives;simpa using Zut x W))
theorem Zwy (s:ByteArray)(w:World)(f:LibW w)(g:s.size<=2) :
  Does prog 286 [.string s,.int .i64 10,.int .i64 8] w (fun v O=>(match numU s.data.toList with|some n=>v = .tuple #[.int .u64 n,.nilIface]/\0<=n/\n<=99|none=>∃ t p,v = .tuple #[.int .u64 0,.iface t (.pointer p)])/\O=[]):=by
 have h:=Zmt s.data.toList (by simpa using g)
 cases hn:numU s.data.toList with
 | none =>
  rw[hn]at h
  obtain⟨ev,a,d⟩:=f.syn
  exact(Any.strconv_ParseUint_10_at8_syntax ZBL s (by omega) h ev w a d).mono fun e w' ⟨N,c,_,_,b⟩=>⟨_,[],c,⟨b⟩,Zaz.nil _ _,⟨_,_,rfl⟩,rfl⟩
 | some n =>
  rw[hn]at h
  obtain⟨u,a,rfl,i⟩:=h
  exact(Any.strconv_ParseUint_10_at8_ok ZBL s (by omega) u a w).mono fun e w' ⟨c,b⟩=>⟨_,[],c,⟨by rcases b with rfl|rfl;exact Below.refl _ _;exact Go.Joins.below_bytesWorld _ _ _ _ (Nat.le_refl _)⟩,Zaz.nil _ _,⟨rfl,by omega,by omega⟩,rfl⟩
end Go.Proofs.YtpipekfmecikmaaGreatDoor
namespace Go.Wk
open Go Go.RowKit
theorem ZBY (n:Int)(c:0<=n)(d:n<=99):(dig2 n).map Zo0=[.int .u8 (48+n / 10),.int .u8 (48+n % 10)]:=by
 have a:(UInt8.ofNat (48+(n / 10).toNat)).toNat=48+(n / 10).toNat:=by rw[UInt8.toNat_ofNat'];omega
 have b:(UInt8.ofNat (48+(n % 10).toNat)).toNat=48+(n % 10).toNat:=by rw[UInt8.toNat_ofNat'];omega
 simp only[dig2,List.map_cons,List.map_nil,Zo0,a,b]
 congr 2
 ·congr 1;omega
 ·congr 2;omega
def ZsK (off:Int):UInt8:=if off<0 then 45 else 43
def ZsJ (off:Int):Int:=if off<0 then 45 else 43
def Ztd (p q r:Int):Nat:=if r≠0 then 3 else if q≠0 then 2 else 1
theorem Zwi (a:Int)(e : -86400<a)(f:a<86400)(x:Int)(d:(if a<0 then -a else a)=x):ZaM a=ZsK a::(([x / 3600,x / 60 % 60,x % 60].take (Ztd (x / 3600) (x / 60 % 60) (x % 60))).flatMap dig2):=by
 unfold ZaM
 rw[if_neg (by omega)]
 simp only[d,ZsK]
 congr 1
 unfold Ztd
 by_cases b:x % 60=0
 ·by_cases c:x / 60 % 60=0
  ·have:x % 3600=0:=by omega
   simp[b,c,this]
  ·have:¬ x % 3600=0:=by omega
   simp[b,c,this]
 ·have:¬ x % 3600=0:=by omega
  simp[b,this]
section
variable {P:Program}{n:Nat}{wr:World}{fr:Fr}{O:List It}{ty:TypeId}
theorem ZfQ {t len e sz:Nat}{p:Bool}{m:List (Nat × Operand)}{vs:List (Nat × Value)}{z cs c:List Value}[hA:ArrT P t len e sz p][hz:ZeroT P t z](C:evpO fr m=some vs)(r:bld (Zfs len sz) z vs=some cs)(v:Nf cs c) :
  Pu P n wr fr O (.build t m.toArray) ty (.agg c.toArray):=by
 rw[<- v.eq]
 intro a w y _ _ _ _
 have h:=hz.h
 unfold ZfA at h
 split at h
 ·rename_i i u
  split at h
  ·rename_i o l
   simp only[Option.some.injEq]at h
   subst h
   have h:=hA.h
   unfold Zks at h
   split at h
   ·rename_i f E B
    split at h
    ·rename_i b q A
     simp only[Option.some.injEq,Prod.mk.injEq]at h
     obtain⟨rfl,rfl,rfl,rfl⟩:=h
     obtain⟨D,dd,d,k,_,_⟩:=Ty.parts A
     have s:=ZiL b f vs o.cells.toList cs r
     have g:Instr.fill (fun i=>some (i*b,b)) o.cells vs=some cs.toArray:=by simpa using s
     have j:(Array.map (fun(x:Nat × Operand)=>(x.1,a.eval x.2)) m.toArray).toList=vs:=by simpa using y.sim.evpO C
     simp only[execOp,Instr.build,Sem.run_bind,zeroValue,ZaN u,Result.andThen_ok,l,Sem.run_pure,run_underlying B,sizeOf,ZaN d,k]
     rw[j]
     simp[g]
    ·cases h
   ·cases h
  ·cases h
 ·cases h
end
end Go.Wk
namespace Go.Proofs.YtpipekfmecikmaaGreatDoor
open Go Go.RowKit Go.Wk Tryz
attribute [local irreducible] W RL Does Zaq Zai retQ Calls Pu Stp RD Qy Ay Zaj RW
structure TG where
 k:Nat
 A:Option Addr
 c:Nat
 xs:List Value
theorem Zzb {G:Prop}(h:G:=by(apply Zbl;rfl;rfl;exact hb)):G:=h
theorem Zza {G:Prop}(h:G:=by(first|exact Zzb|(apply ZbF;rfl;rfl;exact hb2))):G:=h
theorem Zy9 {G:Prop}(h:G:=by(first|(apply Zav;rfl;rfl;rfl)|(apply Zbz;rfl;rfl;decide;decide)|(apply ZnH;rfl;(focus repeat' constructor);rfl)|(apply Zap;rfl;rfl;exact b2))):G:=h
theorem Zy8 {G:Prop}(h:G:=by(first|(apply Zav;rfl;rfl;rfl)|(apply Zbz;rfl;rfl;decide;decide)|(apply ZnH;rfl;(focus repeat' constructor);rfl)|(apply Zap;rfl;rfl;exact b1))):G:=h
theorem Zev (d:Int)(w:World):Does prog 152 [.int .i64 d] w (fun v O=>v = .string ⟨(ZaM d).toArray⟩/\O=[]):=by
 refine Zaa func152 rfl rfl rfl rfl ?_
 repeat (refine walk ?_)
 refine ZA4 (fun _ _ _=>ZwX) ?_
 by_cases F:d <= -86400
 ·have e:ZaM d=[]:=by unfold ZaM;rw[if_pos (.inl F)]
  rw[e]
  have hb:decide (d <= -86400)=true:=dT_ F
  repeat (first|(apply RL_pu;rfl;exact Zzb)|refine walk1 ?_)
  exact rtA
 have hb:decide (d <= -86400)=false:=dF_ F
 by_cases E:86400<=d
 ·have e:ZaM d=[]:=by unfold ZaM;rw[if_pos (.inr E)]
  rw[e]
  have hb2:decide (86400<=d)=true:=dT_ E
  repeat (first|(apply RL_pu;rfl;exact Zza)|refine walk1 ?_)
  exact rtA
 have hb2:decide (86400<=d)=false:=dF_ E
 obtain⟨x,u⟩:∃ x,(if d<0 then -d else d)=x:=⟨_,rfl⟩
 have ak:0<=x/\x<86400:=by split at u <;> omega
 have H:Zo0 (ZsK d) = .int .u8 (ZsJ d):=by unfold Zo0 ZsK ZsJ;split <;> rfl
 rw[Zwi d (by omega) (by omega) x u]
 generalize ZsK d=sb at H ⊢
 obtain⟨I,j⟩:∃ I,ZsJ d=I:=⟨_,rfl⟩
 rw[j]at H
 repeat (first|(apply RL_pu;rfl;exact Zza)|refine walk1 ?_)
 refine Zb4 (fun fr' O'=>Sub [(0,.int .i64 x),(3,.int .u8 I)] fr') ?_ ?_
 ·refine Zaf rfl (fun D=>?_) (fun D=>?_)
  ·have f:=of_decide_eq_true D
   rw[if_pos f]at u
   subst u
   obtain rfl:I=45:=by rw[<- j,ZsJ,if_pos f]
   repeat (first|(apply RL_pu;rfl;(apply Zgz;rfl;(constructor <;> omega)))|refine walk1 ?_)
   exact⟨rfl,SFA⟩
  ·have f:=of_decide_eq_false D
   rw[if_neg f]at u
   subst u
   obtain rfl:I=43:=by rw[<- j,ZsJ,if_neg f]
   repeat (refine walk ?_)
   exact⟨rfl,SFA⟩
 intro fr' O' Q
 refine thenQ_n ?_
 refine ZcG Q .nil ?_
 have ag:0<=x / 3600/\x / 3600<=99:=by omega
 have ah:0<=x / 60 % 60/\x / 60 % 60<=99:=by omega
 have ai:0<=x % 60/\x % 60<=99:=by omega
 repeat (first|(apply RL_pu;rfl;(first|(apply Pu_quo64;rfl;rfl;omega;omega;decide)|(apply Pu_remE;rfl;rfl;omega;decide)|(apply ZfQ;rfl;rfl;(focus repeat (first|exact Nf.nil|apply Nf.cons)))))|(refine js ?_;(refine bx ?_;intro B))|refine walk1 ?_)
 generalize x / 3600=p at *
 generalize x / 60 % 60=q at *
 generalize x % 60=r at *
 refine ZA6 (thenQ_n ?_)
 obtain⟨N,t⟩:∃ N,Ztd p q r=N:=⟨_,rfl⟩
 have ad:1<=N/\N<=3:=by rw[<- t];unfold Ztd;split <;> (try split) <;> omega
 refine W_seq (Zb4 (fun fr' O'=>Sub [(3,.int .u8 I),(4,.pointer (some ⟨B,0,none⟩)),(5,.int .i64 N)] fr'/\SubO [.blk B [.int .i64 p,.int .i64 q,.int .i64 r] 238] O') ?_ ?_)
 ·refine W_block (Zqu 3 (Zeh ?_))
  unfold Ztd at t
  by_cases V:r=0
  ·rw[if_neg (fun h=>h V)]at t
   have b2:decide (r=0)=true:=dT_ V
   repeat (first|(apply RL_pu;rfl;exact Zy9)|refine walk1 ?_)
   refine Zeh ?_
   by_cases U:q=0
   ·rw[if_neg (fun h=>h U)]at t
    subst t
    have b1:decide (q=0)=true:=dT_ U
    repeat (first|(apply RL_pu;rfl;exact Zy8)|refine walk1 ?_)
    refine Zeh ?_
    repeat (first|(apply RL_pu;rfl;(apply Zav;rfl;rfl;rfl))|refine walk1 ?_)
    exact⟨rfl,SFA,SOA⟩
   ·rw[if_pos U]at t
    subst t
    have b1:decide (q=0)=false:=dF_ U
    repeat (first|(apply RL_pu;rfl;exact Zy8)|refine walk1 ?_)
    exact⟨rfl,SFA,SOA⟩
  ·rw[if_pos V]at t
   subst t
   have b2:decide (r=0)=false:=dF_ V
   repeat (first|(apply RL_pu;rfl;exact Zy9)|refine walk1 ?_)
   exact⟨rfl,SFA,SOA⟩
 rintro W O2 ⟨M,J⟩
 rw[t]
 refine thenQ_n ?_
 refine ZcG M J ?_
 clear M J Q W O2
 obtain⟨T,K⟩:∃ T,B=T:=⟨_,rfl⟩
 rw[K]
 clear K B
 repeat (first|(apply RL_pu;rfl;(apply ZnE;rfl;rfl;omega;omega))|(refine js ?_;(refine bx ?_;intro B))|refine walk1 ?_)
 refine Zpe (b:=B) (m:=1) 1 cS_ rfl (by decide) ?_
 obtain⟨s,z⟩:∃ s,[p,q,r]=s:=⟨_,rfl⟩
 have aj:s.length=3:=by rw[<- z];rfl
 have aa:∀ (k:Nat) (x:Int),s[k]?=some x->0<=x/\x<=99:=by
  intro k x i
  rw[<- z]at i
  match k,i with
  | 0,i=>simp only[List.getElem?_cons_zero,Option.some.injEq]at i;omega
  | 1,i=>simp only[List.getElem?_cons_succ,List.getElem?_cons_zero,Option.some.injEq]at i;omega
  | 2,i=>simp only[List.getElem?_cons_succ,List.getElem?_cons_zero,Option.some.injEq]at i;omega
  | k+3,i=>simp at i
 have ab:[Value.int .i64 p,.int .i64 q,.int .i64 r]=s.map (Value.int .i64):=by rw[<- z];rfl
 rw[ab,z]
 refine Zah [(40,.slice (some ⟨T,0,none⟩) N 3),(41,.int .i64 N)] [.blk T (s.map (Value.int .i64)) 238] (fun g:TG=>[(6,.slice g.A (1+2*g.k) g.c),(42,.int .i64 g.k)]) (fun g=>[.row (.slice g.A (1+2*g.k) g.c) 5 1 (1+2*g.k) g.xs])
  (fun g=>g.k<=N/\g.A≠none/\g.xs=(sb::(s.take g.k).flatMap dig2).map Zo0) (fun g=>N - g.k) ⟨0,some ⟨B,0,none⟩,1,[.int .u8 I]⟩ SFA SOA ⟨Nat.zero_le _,by simp,by rw[<- H];rfl⟩ ?_
 rintro⟨k,A,c,xs⟩ ⟨i,hA,u⟩
 dsimp only at i hA u ⊢
 repeat (refine walk ?_)
 refine Zaf rfl (fun D=>?_) (fun D=>?_)
 ·simp only[decide_eq_true_eq,Int.ofNat_lt]at D
  have R:k<s.length:=by omega
  have C:=List.getElem?_eq_getElem R
  have L:=aa k _ C
  have ac:=List.take_append_getElem R
  generalize s[k]=x at *
  have Y:(s.map (Value.int .i64))[k*1]?=some (.int .i64 x):=by rw[Nat.mul_one,List.getElem?_map,C];rfl
  repeat (first|(apply RL_pu;rfl;(first|(apply Pu_indexAddr;rfl;rfl;omega;omega;simp)|(apply Zji;rfl;(focus repeat' constructor);exact Y)|(apply Pu_quo64;rfl;rfl;omega;omega;decide)|(apply Pu_remE;rfl;rfl;omega;decide)|(apply Zxu;rfl;omega;omega)|(apply ZBn;rfl;rfl;(constructor <;> omega))))|(refine js ?_;(first|(apply ZaC;rfl;rfl;(intro A' c';(focus repeat' constructor));(intro w' _ hO;exact Zbr (hO.of cS_));rfl;rfl;(simp only[maxLen];omega);omega;intro A' c' ae af X)|(refine bx ?_;intro B)))|refine walk1 ?_)
  refine⟨⟨k+1,A',c',xs++[.int .u8 (48+x / 10),.int .u8 (48+x % 10)]⟩,OA,⟨OA,X (by omega),?_⟩,SFA,SOA⟩
  dsimp only
  rw[<- ac,u,<- ZBY x L.1 L.2]
  simp
 ·have Z:k=N:=by simp only[decide_eq_false_iff_not,Int.ofNat_lt]at D;omega
  subst Z
  have S:1+2*k=(sb::(s.take k).flatMap dig2).length:=by
   have:∀ l:List Int,(l.flatMap dig2).length=2*l.length:=fun l=>by
    induction l with
    | nil=>rfl
    | cons y l ih=>simp only[List.flatMap_cons,List.length_append,ih,List.length_cons,dig2,List.length_nil];omega
   rw[List.length_cons,this,List.length_take]
   omega
  repeat (first|(apply RL_pu;rfl;(apply ZnL;rfl;(focus repeat' constructor);exact u;exact S;exact hA))|refine walk1 ?_)
  exact rtA
