/- Parts of the proof. -/
import Derived.Test.YtdlmhmmhdbbliaaGreatDoorV14
import Derived.Test.YtdlmhmmhdbbliaaGreatDoorV13
import Derived.Test.YtdlmhmmhdbbliaaGreatDoorV05
import Derived.LaidHandle
import Derived.LaidLaws
import Derived.LaidSub
import Derived.Stop.Joined
set_option maxHeartbeats 4000000
set_option linter.unusedVariables false
set_option linter.unusedSimpArgs false
namespace Go.Proofs.YtdlmhmmhdbbliaaGreatDoor
open Go Go.RowKit Go.Wk
attribute [local irreducible] W RL Does Zau Zak retQ Calls Pu Stp RD Qy Ay Zaj Zca Zlk ZaO Zbz ZbE ZaV dig Zhc
structure Pl (α:Type) where
 l:List α
 B:Option Addr
 c:Nat
structure RdLF {α:Type}(w:World)(A:Option Addr)(enc:α->List Value)(sz:Nat)(pl:List (Pl α)):Prop where
 rd:∀ k p,pl[k]?=some p->A≠none/\RdSl w p.B p.c enc sz p.l/\Zal w ((adr A).add (k*1)) [.slice p.B p.l.length p.c]
theorem RdLF.up {α:Type}{w w':World}{A:Option Addr}{enc:α->List Value}{sz:Nat}{pl:List (Pl α)}(h:RdLF w A enc sz pl)(hb:Bel w.heap.size w w'):RdLF w' A enc sz pl :=
 ⟨fun k p hk=>⟨(h.rd k p hk).1,(h.rd k p hk).2.1.up hb,(h.rd k p hk).2.2.up hb (Nat.le_refl _)⟩⟩
theorem RdLL.places {α:Type}{w:World}{A:Option Addr}{c:Nat}{enc:α->List Value}{sz:Nat}{ll:List (List α)}(h:RdLL w A c enc sz ll):∃ pl:List (Pl α),pl.map Pl.l=ll/\RdLF w A enc sz pl/\∀ p∈pl,p.l.length<=p.c/\p.c<=maxLen:=by
 have key:∀ i:Fin ll.length,∃ p:Pl α,p.l=ll[i]/\A≠none/\RdSl w p.B p.c enc sz p.l/\Zal w ((adr A).add (i.val*1)) [.slice p.B p.l.length p.c]:=fun i=>by
  obtain⟨h1,B,cb,h2,h3⟩:=h.rd i.val ll[i] (List.getElem?_eq_getElem i.isLt)
  exact⟨⟨ll[i],B,cb⟩,rfl,h1,h2,h3⟩
 obtain⟨f,hf⟩:=Classical.axiomOfChoice key
 have hget:∀ k p,(List.ofFn f)[k]?=some p->∃ hk:k<ll.length,p=f ⟨k,hk⟩:=fun k p hp=>by
  have hk:=(List.getElem?_eq_some_iff.1 hp).1
  rw[List.length_ofFn]at hk
  rw[List.getElem?_ofFn,dif_pos hk]at hp
  exact⟨hk,(Option.some.inj hp).symm⟩
 refine⟨List.ofFn f,?_,⟨fun k p hp=>?_⟩,fun p hp=>?_⟩
 ·apply List.ext_getElem
  ·simp
  ·intro k h1 h2
   simp[(hf ⟨k,h2⟩).1]
 ·obtain⟨hk,rfl⟩:=hget k p hp
  exact(hf ⟨k,hk⟩).2
 ·obtain⟨k,hk⟩:=List.getElem?_of_mem hp
  obtain⟨hk1,rfl⟩:=hget k p hk
  exact⟨(hf ⟨k,hk1⟩).2.2.1.le,(hf ⟨k,hk1⟩).2.2.1.cap⟩
structure R3 where
 k:Nat
 A:Option Addr
 c:Nat
 m:Nat
 xs:List Value
structure Z3 where
 k:Nat
 A:Option Addr
 c:Nat
 m:Nat
 xs:List Value
 Zr:List ZE
structure E3 where
 k:Nat
 y:Int
 A:Option Addr
 c:Nat
 m:Nat
 xs:List Value
theorem Za7 {G G':Prop}(k:G')(h:Hold G'->G:=by intro k9;(first|refine walk ?_|(refine jn ?_;(try intro F);(first|(refine stA ?_)|(apply Zae;exact PuA));refine fin ?_));exact k9.out):G:=h ⟨k⟩
theorem ZnN {G:Prop}(h:G:=by(first|(apply Pu_indexAddr;rfl;rfl;omega;omega;exact hAn)|exact PuI)):G:=h
theorem Zdn {G:Prop}(h:G:=by(apply Ze4;rfl;rfl;(rw[Zh3 _ (by omega) (by omega)];decide))):G:=h
theorem ZgO {G:Prop}(h:G:=by first|(apply Qy_y;rfl;exact Zdn)|exact QyA):G:=h
theorem ZdW {G:Prop}(h:G:=by repeat (first|exact QF.nil|(apply QF.mk;rfl;rfl;decide +kernel;exact ZgO))):G:=h
theorem ZgQ {G:Prop}(h:G:=by(first|(apply Ze2;rfl;rfl)|(apply Pu_sliceH;rfl;rfl;(split <;> omega);(split <;> omega)))):G:=h
theorem ZnM {G:Prop}(h:G:=by(first|exact PuI|(apply Ze4;rfl;rfl;(rw[Zh3 _ (by omega) (by omega)];decide)))):G:=h
theorem ZnL {G:Prop}(h:G:=by(first|(apply ZaI;rfl;rfl;omega;omega;(intro w' hb hO;exact((hX w' hb (hO.of (A:=X) (by repeat' constructor))).rd k _ hpk).1))|(apply Zep (v := .slice B l.length cb);rfl;(intro w' hb hO;exact((hX w' hb (hO.of (A:=X) (by repeat' constructor))).rd k _ hpk).2.2 0 _ rfl))|(apply Ze4;rfl;rfl;(rw[Zh3 _ (by omega) (by omega)];decide))|(apply Ze2;rfl;rfl)|(apply Pu_sliceH;rfl;rfl;(split <;> omega);(split <;> omega)))):G:=h
theorem ZjB {G:Prop}(h:G:=by(first|(apply ZaI;rfl;rfl;omega;omega;(intro w' hb hO;exact((hX2 w' hb (hO.of (A:=X) (by repeat' constructor)) (hO.of (A:=X2) (by repeat' constructor))).rd j e hge).1))|(apply ZgP (cs:=e.enc);rfl;rfl;(intro w' hb hO;exact((hX2 w' hb (hO.of (A:=X) (by repeat' constructor)) (hO.of (A:=X2) (by repeat' constructor))).rd j e hge).2)))):G:=h
theorem Znv {G:Prop}(h:G:=by first|(apply Qy_y;rfl;exact ZjB)|exact QyA):G:=h
theorem Znx {G:Prop}(h:G:=by repeat (first|exact QF.nil|(apply QF.mk;rfl;rfl;decide +kernel;exact Znv))):G:=h
set_option maxHeartbeats 8000000 in
theorem Zop (As Az Al:Option Addr)(cs cz cl:Nat)(d:DD23)(w:World)(hS:RdLL w As cs Zez 1 d.sets)(hZ:RdLL w Az cz E23.enc 8 d.zones)(hL:RdSl w Al cl Zez 1 d.links)(hrs:∀ l∈d.sets,∀ x∈l,inR .u8 x)(hrz:∀ l∈d.zones,∀ x∈l,x.ok)(hrl:∀ x∈d.links,inR .u8 x) :
  Does Tryz.prog 5 [d23V As Az Al cs cz cl d] w (ZvW (ZbD d)):=by
 have hs1:=hS.le
 have hs2:=hS.cap
 have hz1:=hZ.le
 have hz2:=hZ.cap
 have hl1:=hL.le
 have hl2:=hL.cap
 simp only[maxLen]at hs2 hz2 hl2
 have hns:1<=d.ns/\d.ns<=3:=by unfold DD23.ns;omega
 refine Zaa Tryz.func5 rfl rfl rfl rfl ?_
 repeat (first|((apply RL_pu;rfl;first|(apply Ze2;rfl;rfl)|(apply ZzX;rfl;rfl)))|refine ZhQ ?_|(refine jn ?_;(try intro F);(first|(refine bx ?_;intro bk)|(refine stA ?_)|(apply Zae;exact PuA));refine fin ?_)|(apply RD_W;rfl;intro bk))
 rename_i b1 b2
 generalize bk=b3
 rw[show(if (1:Int)<(if (3:Int)<d.sets.length then (3:Int) else d.sets.length) then (if (3:Int)<d.sets.length then (3:Int) else d.sets.length) else 1)=(d.ns:Int) from by unfold DD23.ns;split <;> split <;> omega]
 refine ZfA 82 11 (ZfA 50 2 (ZfA 78 2 (ZfA 9 1 ?_)))
 refine Zbx (fun fr' O'=>∃ A1 c1,Sub [(1,.pointer (some ⟨b1,0,none⟩)),(2,.pointer (some ⟨b2,0,none⟩)),(3,.pointer (some ⟨b3,0,none⟩)),(4,.int .i64 d.ns)] fr'/\SubO [.blk b3 [.slice A1 (ZaV d.sets d.ns).length c1,.slice none 0 0,.slice none 0 0,.slice none 0 0] 32,rowR A1 c1 (ZaV d.sets d.ns),rowZ none 0 [],rowL none 0 [],rowS none 0 [],.blk b1 [.slice As d.sets.length cs,.slice Az d.zones.length cz,.slice Al d.links.length cl] 26,.blk b2 [.slice none 0 0,.slice none 0 0,.slice none 0 0,.slice none 0 0] 32] O') ?_ ?_
 ·apply W_block
  refine Zao [(23,.int .i64 d.ns),(1,.pointer (some ⟨b1,0,none⟩)),(2,.pointer (some ⟨b2,0,none⟩)),(3,.pointer (some ⟨b3,0,none⟩)),(4,.int .i64 d.ns)] [rowZ none 0 [],rowL none 0 [],rowS none 0 [],.blk b1 [.slice As d.sets.length cs,.slice Az d.zones.length cz,.slice Al d.links.length cl] 26,.blk b2 [.slice none 0 0,.slice none 0 0,.slice none 0 0,.slice none 0 0] 32] (fun g:R3=>[(24,.int .i64 g.k)]) (fun g=>[.blk b3 [.slice g.A g.m g.c,.slice none 0 0,.slice none 0 0,.slice none 0 0] 32,.row (.slice g.A g.m g.c) 82 11 g.m g.xs]) (fun g=>g.k<=d.ns/\g.m=(ZaV d.sets g.k).length/\g.xs=(ZaV d.sets g.k).flatMap Zab.enc) (fun g=>d.ns - g.k) ⟨0,none,0,0,[]⟩ SFA SOA ⟨Nat.zero_le _,by simp[ZaV],by simp[ZaV]⟩ ?_
  rintro⟨k,A0,c0,m0,x0⟩ ⟨hk,hm0,hx0⟩
  dsimp only at hk hm0 hx0 ⊢
  have hlen:=Zda d.sets k
  repeat (first|refine Za7 ?_|(refine jn ?_;(try intro F);(refine bx ?_;intro bk);refine fin ?_)|(apply RD_W;rfl;intro bk))
  refine Zaf rfl (fun h=>?_) (fun h=>?_)
  ·have hk2:k<d.ns:=by simpa using h
   have hlen2:=Zkh (d.sets.getD k []) (sR++dig k)
   repeat (first|refine Za7 ?_|(refine jn ?_;(try intro F);(refine bx ?_;intro bk);refine fin ?_)|(apply RD_W;rfl;intro bk))
   refine Zbx (fun fr' O'=>∃ B cb,RdSl w B cb Zez 1 (d.sets.getD k [])/\(∀ x∈d.sets.getD k [],inR .u8 x)/\Sub [(6,.slice B (d.sets.getD k []).length cb),(5,.int .i64 k),(24,.int .i64 k),(23,.int .i64 d.ns),(1,.pointer (some ⟨b1,0,none⟩)),(2,.pointer (some ⟨b2,0,none⟩)),(3,.pointer (some ⟨b3,0,none⟩)),(4,.int .i64 d.ns)] fr'/\SubO [.blk b3 [.slice A0 m0 c0,.slice none 0 0,.slice none 0 0,.slice none 0 0] 32,.row (.slice A0 m0 c0) 82 11 m0 x0,rowZ none 0 [],rowL none 0 [],rowS none 0 [],.blk b1 [.slice As d.sets.length cs,.slice Az d.zones.length cz,.slice Al d.links.length cl] 26,.blk b2 [.slice none 0 0,.slice none 0 0,.slice none 0 0,.slice none 0 0] 32] O') ?_ ?_
   ·refine Zaf rfl (fun h2=>?_) (fun h2=>?_)
    ·have hks:k<d.sets.length:=by simpa using h2
     obtain⟨hAn,B,cb,hB,hca⟩:=hS.rd k _ (List.getElem?_eq_getElem hks)
     have hrl2:=hrs _ (List.getElem_mem hks)
     have e:d.sets.getD k []=d.sets[k]:=by rw[List.getD_eq_getElem?_getD,List.getElem?_eq_getElem hks];rfl
     rw[e]
     generalize d.sets[k]=l at *
     repeat (first|(apply RL_pu;rfl;exact ZnN)|(apply RD_Q;rfl;rfl;decide +kernel;rfl;rfl;exact QyMade230)|refine walk1 ?_|(refine jn ?_;(try intro F);(first|(refine bx ?_;intro bk)|(refine stA ?_)|(apply Zae;first|exact ZnN|exact PuA));first|refine⟨_,EndsA,QFMade230,?_⟩|refine fin ?_)|(apply RD_W;rfl;intro bk))
     exact⟨rfl,B,cb,hB,hrl2,SFA,SOA⟩
    ·have hks:¬ k<d.sets.length:=by simpa using h2
     have e:d.sets.getD k []=[]:=by rw[List.getD_eq_getElem?_getD,List.getElem?_eq_none (by omega)];rfl
     rw[e]
     repeat (first|refine Za7 ?_|(refine jn ?_;(try intro F);(refine bx ?_;intro bk);refine fin ?_)|(apply RD_W;rfl;intro bk))
     exact⟨rfl,none,0,Zok _ _ _,fun x hx=>by simp at hx,SFA,SOA⟩
   rintro fr' O' ⟨B,cb,hB,hrl2,hf,hO⟩
   apply thenQ_n
   refine Zb0 hf hO ?_
   clear hf hO fr' O'
   have hstep:ZaV d.sets (k+1)=ZaV d.sets k++Zca (d.sets.getD k []) (sR++dig k):=by rw[ZaV]
   generalize d.sets.getD k []=l at *
   repeat (first|(apply RL_pu;rfl;exact Zdn)|(apply RD_Q;rfl;rfl;decide +kernel;rfl;rfl;exact ZgO)|refine walk1 ?_|(refine jg ?_;(try intro F);(first|(refine Zac (fun w' _=>Zdg k (by omega) (by omega) w') ?_)|(apply Zag (h:=fun w' hw _=>Zor B cb l (sR++dig k) w' (hB.up hw) hrl2);rfl;rintro v O' ⟨A1,c1,rfl,rfl⟩)|(apply ZaE (t:=27);rfl;rfl;(intro A' c';(focus repeat' constructor));(intro w' _ hO;exact Zxq (hO.of (A := .row (.slice A1 _ c1) _ _ _ _) (by repeat' constructor)));exact Zbf Zab.len _;exact Zfp oneR _;(simp only[maxLen];omega);omega;intro A' c' hc1 hc2 hc3)|(refine bx ?_;intro bk)|(refine stA ?_));first|refine⟨_,EndsA,ZdW,?_⟩|refine fin ?_)|(refine jn ?_;(try intro F);(first|(apply ZaE (t:=27);rfl;rfl;(intro A' c';(focus repeat' constructor));(intro w' _ hO;exact Zxq (hO.of (A := .row (.slice A1 _ c1) _ _ _ _) (by repeat' constructor)));exact Zbf Zab.len _;exact Zfp oneR _;(simp only[maxLen];omega);omega;intro A' c' hc1 hc2 hc3)|(refine bx ?_;intro bk)|(refine stA ?_)|(apply Zae;first|exact Zdn|exact PuA));first|refine⟨_,EndsA,ZdW,?_⟩|refine fin ?_)|(apply RD_W;rfl;intro bk))
   exact⟨⟨k+1,A',c',m0+(Zca l (sR++dig k)).length,x0++(Zca l (sR++dig k)).flatMap Zab.enc⟩,OA,⟨OA,by rw[hstep,List.length_append,hm0],by rw[hstep,List.flatMap_append,hx0]⟩,SFA,SOA⟩
  have hk2:k=d.ns:=by simp only[decide_eq_false_iff_not,Int.ofNat_lt]at h;omega
  subst hm0 hx0
  rw[hk2]
  repeat (first|refine Za7 ?_|(refine jn ?_;(try intro F);(refine bx ?_;intro bk);refine fin ?_)|(apply RD_W;rfl;intro bk))
  exact⟨rfl,A0,c0,SFA,SOA⟩
 rintro fr' O' ⟨A1,c1,hf,hO⟩
 apply thenQ_n
 refine Zb0 hf hO ?_
 clear hf hO fr' O'
 have hRR:=Zda d.sets d.ns
 unfold ZbD
 generalize ZaV d.sets d.ns=RR at *
 repeat (first|(apply RL_pu;rfl;exact ZgQ)|(apply RD_Q;rfl;rfl;decide +kernel;rfl;rfl;exact QyMade232)|refine walk1 ?_|(refine jn ?_;(try intro F);(first|(refine bx ?_;intro bk)|(refine stA ?_)|(apply Zae;first|exact ZgQ|exact PuA));first|refine⟨_,EndsA,QFMade232,?_⟩|refine fin ?_)|(apply RD_W;rfl;intro bk))
 rw[show(if (3:Int)<d.zones.length then (3:Int) else d.zones.length).toNat=(d.zones.take 3).length from by rw[List.length_take];split <;> omega]
 refine Zbx (fun fr' O'=>∃ (X:It) (A:Option Addr) (c:Nat) (pl:List (Pl E23)),pl.map Pl.l=zl23 d.zones/\(∀ p∈pl,p.l.length<=p.c/\p.c<=maxLen)/\(∀ w',Bel w.heap.size w w'->X.sat w'->RdLF w' A E23.enc 8 pl)/\Sub [(7,.slice A (zl23 d.zones).length c),(1,.pointer (some ⟨b1,0,none⟩)),(2,.pointer (some ⟨b2,0,none⟩)),(3,.pointer (some ⟨b3,0,none⟩)),(4,.int .i64 d.ns)] fr'/\SubO (X :: .blk b3 [.slice A1 RR.length c1,.slice none 0 0,.slice none 0 0,.slice none 0 0] 32::rowZ none 0 []::rowR A1 c1 RR::rowL none 0 []::rowS none 0 [] :: .blk b1 [.slice As d.sets.length cs,.slice Az d.zones.length cz,.slice Al d.links.length cl] 26 :: .blk b2 [.slice none 0 0,.slice none 0 0,.slice none 0 0,.slice none 0 0] 32::[]) O') ?_ ?_
 ·refine Zaf rfl (fun h=>?_) (fun h=>?_)
  ·have h0:d.zones.length=0:=by
    have:=of_decide_eq_true h
    rw[List.length_take]at this
    omega
   rw[show zl23 d.zones=[[]] from if_pos h0]
   repeat (first|refine Za7 ?_|(refine jn ?_;(try intro F);(refine bx ?_;intro bk);refine fin ?_)|(apply RD_W;rfl;intro bk))
   exact⟨rfl,.blk bk [.slice none 0 0] _,some ⟨bk,0,none⟩,1,[⟨[],none,0⟩],rfl,fun p hp=>by rw[List.mem_singleton.1 hp];exact⟨Nat.le_refl 0,Nat.zero_le _⟩,fun w' _ hX=>⟨fun k p hk=>by
    cases k with
    | zero =>
     simp only[List.getElem?_cons_zero,Option.some.injEq]at hk
     subst hk
     exact⟨by simp,Zok _ _ _,fun j v hj=>by rw[Za6,Nat.zero_mul,Nat.zero_add];exact(ZbP hX _ v hj).2⟩
    | succ k=>simp at hk⟩,SFA,SOA⟩
  ·have h0:d.zones.length≠0:=by
    have:=of_decide_eq_false h
    rw[List.length_take]at this
    omega
   rw[show zl23 d.zones=d.zones.take 3 from if_neg h0]
   obtain⟨pl,p1,p2,p3⟩:=(hZ.take 3).places
   refine ZgL [] _ (fun _=>True) (.refl _) (fun _ _=>trivial) ?_
   repeat (first|refine Za7 ?_|(refine jn ?_;(try intro F);(refine bx ?_;intro bk);refine fin ?_)|(apply RD_W;rfl;intro bk))
   exact⟨rfl,.fact (foot []) (fun _=>True),Az,cz,pl,p1,p3,fun w' hb _=>p2.up hb,SFA,SOA⟩
 rintro fr' O' ⟨X,Az',cz',pl,hpl,hpb,hX,hf,hO⟩
 apply thenQ_n
 refine Zb0 hf hO ?_
 clear hf hO fr' O'
 obtain⟨zb1,zb2⟩:=Ze7 d.zones
 have hzok:∀ l∈zl23 d.zones,∀ x∈l,x.ok:=by
  intro l hl x hx
  unfold zl23 at hl
  split at hl
  ·rw[List.mem_singleton.1 hl]at hx;simp at hx
  ·exact hrz l (List.mem_of_mem_take hl) x hx
 generalize hZL:zl23 d.zones=ZL at *
 repeat (first|refine ZhQ ?_|(refine jn ?_;(try intro F);(first|(refine bx ?_;intro bk)|(refine stA ?_)|(apply Zae;exact PuA));refine fin ?_)|(apply RD_W;rfl;intro bk))
 refine Zbx (fun fr' O'=>∃ (A:Option Addr) (cc m:Nat) (xs:List Value) (Zr:List ZE),(m=Zr.length/\xs=Zr.reverse.flatMap ZE.enc/\Zr.reverse.map ZE.z=Zbz d.ns ZL ZL.length)/\Sub [(7,.slice Az' ZL.length cz'),(1,.pointer (some ⟨b1,0,none⟩)),(2,.pointer (some ⟨b2,0,none⟩)),(3,.pointer (some ⟨b3,0,none⟩)),(4,.int .i64 d.ns)] fr'/\SubO (.blk b3 [.slice A1 RR.length c1,.slice A m cc,.slice none 0 0,.slice none 0 0] 32 :: .row (.slice A m cc) 50 2 m xs::X::rowR A1 c1 RR::rowL none 0 []::rowS none 0 [] :: .blk b1 [.slice As d.sets.length cs,.slice Az d.zones.length cz,.slice Al d.links.length cl] 26 :: .blk b2 [.slice none 0 0,.slice none 0 0,.slice none 0 0,.slice none 0 0] 32::Zr.map ZfK) O') ?_ ?_
 rotate_left
 ·rintro fr' O' ⟨A2,c2,m2,x2,Zr,⟨hm,hx,hzz⟩,hf,hO⟩
  replace hO:=SubO.permT (l:=[_,_,_,_,_,_,_,_]) hO ((List.reverse_perm Zr).symm.map ZfK)
  apply thenQ_n
  refine Zb0 hf hO ?_
  clear hf hO fr' O'
  rw[<- List.length_reverse]at hm
  generalize Zr.reverse=Zs at *
  have hzl:=Zc2 d.ns ZL ZL.length
  generalize Zbz d.ns ZL ZL.length=ZS at *
  have hZl:Zs.length=ZL.length:=by rw[<- hzl,<- hzz,List.length_map]
  subst hm hx
  repeat (first|(apply RL_pu;rfl;exact ZgQ)|(apply RD_Q;rfl;rfl;decide +kernel;rfl;rfl;exact QyMade232)|refine walk1 ?_|(refine jn ?_;(try intro F);(first|(refine bx ?_;intro bk)|(refine stA ?_)|(apply Zae;first|exact ZgQ|exact PuA));first|refine⟨_,EndsA,QFMade232,?_⟩|refine fin ?_)|(apply RD_W;rfl;intro bk))
  rw[show(if (4:Int)<d.links.length then (4:Int) else d.links.length).toNat=(d.links.take 4).length from by rw[List.length_take];split <;> omega]
  have hL4:=hL.take 4
  have hr4:∀ x∈d.links.take 4,inR .u8 x:=fun x hx=>hrl x (List.mem_of_mem_take hx)
  have hl4:(d.links.take 4).length<=4:=by rw[List.length_take];omega
  generalize d.links.take 4=LL at *
  refine Zao [(7,.slice Az' ZL.length cz'),(123,.slice Al LL.length cl),(124,.int .i64 LL.length),(1,.pointer (some ⟨b1,0,none⟩)),(2,.pointer (some ⟨b2,0,none⟩)),(3,.pointer (some ⟨b3,0,none⟩)),(4,.int .i64 d.ns)] (.row (.slice A2 Zs.length c2) 50 2 Zs.length (Zs.flatMap ZE.enc)::X::rowR A1 c1 RR::rowS none 0 [] :: .blk b1 [.slice As d.sets.length cs,.slice Az d.zones.length cz,.slice Al d.links.length cl] 26 :: .blk b2 [.slice none 0 0,.slice none 0 0,.slice none 0 0,.slice none 0 0] 32::Zs.map ZfK) (fun g:R3=>[(125,.int .i64 g.k)]) (fun g=>[.blk b3 [.slice A1 RR.length c1,.slice A2 Zs.length c2,.slice g.A g.m g.c,.slice none 0 0] 32,.row (.slice g.A g.m g.c) 78 2 g.m g.xs]) (fun g=>g.k<=LL.length/\g.m=(ZbE ZL.length LL g.k).length/\g.xs=(ZbE ZL.length LL g.k).flatMap Zcj.enc) (fun g=>LL.length - g.k) ⟨0,none,0,0,[]⟩ SFA STA ⟨Nat.zero_le _,by simp[ZbE],by simp[ZbE]⟩ ?_
  rintro⟨k,A3,c3,m3,x3⟩ ⟨hk,hm3,hx3⟩
  dsimp only at hk hm3 hx3 ⊢
  have hll:=Zeb ZL.length LL k
  rw[hll]at hm3
  repeat (first|refine Za7 ?_|(refine jn ?_;(try intro F);(refine bx ?_;intro bk);refine fin ?_)|(apply RD_W;rfl;intro bk))
  refine Zaf rfl (fun h=>?_) (fun h=>?_)
  ·have hk2:k<LL.length:=by simpa using h
   obtain⟨hna,hca⟩:=hL4.rd _ _ (List.getElem?_eq_getElem hk2)
   have hv:=hr4 _ (List.getElem_mem hk2)
   have hstp:ZbE ZL.length LL (k+1)=ZbE ZL.length LL k++[ZhI ZL.length LL[k] k]:=by
    rw[ZbE,List.getD_eq_getElem?_getD,List.getElem?_eq_getElem hk2]
    rfl
   rw[Zkn]at hv
   generalize LL[k]=v at *
   have g1:=Int.emod_nonneg v (b:=(ZL.length:Int)) (by omega)
   have g2:=Int.emod_lt_of_pos v (b:=(ZL.length:Int)) (by omega)
   have g3:=Int.emod_nonneg v (b:=(ZL.length:Int)+k) (by omega)
   have g4:=Int.emod_lt_of_pos v (b:=(ZL.length:Int)+k) (by omega)
   repeat (first|(apply RL_pu;rfl;exact ZnM)|(apply RD_Q;rfl;rfl;decide +kernel;rfl;rfl;exact QyMade233)|refine walk1 ?_|(refine jg ?_;(try intro F);(first|(refine Zac (fun w' _=>Zdg (v % (ZL.length:Int)) (by omega) (by omega) w') ?_)|(refine bx ?_;intro bk)|(refine stA ?_));first|refine⟨_,EndsA,QFMade233,?_⟩|refine fin ?_)|(refine jn ?_;(try intro F);(first|(refine bx ?_;intro bk)|(refine stA ?_)|(apply Zae;first|exact ZnM|exact PuA));first|refine⟨_,EndsA,QFMade233,?_⟩|refine fin ?_)|(apply RD_W;rfl;intro bk))
   refine Zaf rfl (fun h2=>?_) (fun h2=>?_)
   ·have h2':=of_decide_eq_true h2
    have e:ZhI ZL.length v k=⟨sL++dig (v % ((ZL.length:Int)+k) - ZL.length),sL++dig k⟩:=by rw[ZhI,if_pos h2']
    rw[e]at hstp
    repeat (first|(apply RL_pu;rfl;exact Zdn)|(apply RD_Q;rfl;rfl;decide +kernel;rfl;rfl;exact ZgO)|refine walk1 ?_|(refine jg ?_;(try intro F);(first|(refine Zac (fun w' _=>Zdg (v % ((ZL.length:Int)+k) - ZL.length) (by omega) (by omega) w') ?_)|(refine Zac (fun w' _=>Zdg k (by omega) (by omega) w') ?_)|(apply ZaE (t:=29);rfl;rfl;(intro A' c';(focus repeat' constructor));(intro w' _ hO;exact ZbP (hO.of (by repeat' constructor)));rfl;rfl;(simp only[maxLen];omega);omega;intro A' c' hc1 hc2 hc3)|(refine bx ?_;intro bk)|(refine stA ?_));first|refine⟨_,EndsA,ZdW,?_⟩|refine fin ?_)|(refine jn ?_;(try intro F);(first|(apply ZaE (t:=29);rfl;rfl;(intro A' c';(focus repeat' constructor));(intro w' _ hO;exact ZbP (hO.of (by repeat' constructor)));rfl;rfl;(simp only[maxLen];omega);omega;intro A' c' hc1 hc2 hc3)|(refine bx ?_;intro bk)|(refine stA ?_)|(apply Zae;first|exact Zdn|exact PuA));first|refine⟨_,EndsA,ZdW,?_⟩|refine fin ?_)|(apply RD_W;rfl;intro bk))
    exact⟨⟨k+1,A',c',m3+1,x3++(⟨sL++dig (v % ((ZL.length:Int)+k) - ZL.length),sL++dig k⟩:Zcj).enc⟩,OA,⟨OA,by rw[hstp,List.length_append,hll,hm3];rfl,by rw[hstp,List.flatMap_append,hx3];rfl⟩,SFA,STA⟩
   have h2':=of_decide_eq_false h2
   have e:ZhI ZL.length v k=⟨sZ++dig (v % (ZL.length:Int)),sL++dig k⟩:=by rw[ZhI,if_neg h2']
   rw[e]at hstp
   repeat (first|(apply RL_pu;rfl;exact Zdn)|(apply RD_Q;rfl;rfl;decide +kernel;rfl;rfl;exact ZgO)|refine walk1 ?_|(refine jg ?_;(try intro F);(first|(refine Zac (fun w' _=>Zdg k (by omega) (by omega) w') ?_)|(apply ZaE (t:=29);rfl;rfl;(intro A' c';(focus repeat' constructor));(intro w' _ hO;exact ZbP (hO.of (by repeat' constructor)));rfl;rfl;(simp only[maxLen];omega);omega;intro A' c' hc1 hc2 hc3)|(refine bx ?_;intro bk)|(refine stA ?_));first|refine⟨_,EndsA,ZdW,?_⟩|refine fin ?_)|(refine jn ?_;(try intro F);(first|(apply ZaE (t:=29);rfl;rfl;(intro A' c';(focus repeat' constructor));(intro w' _ hO;exact ZbP (hO.of (by repeat' constructor)));rfl;rfl;(simp only[maxLen];omega);omega;intro A' c' hc1 hc2 hc3)|(refine bx ?_;intro bk)|(refine stA ?_)|(apply Zae;first|exact Zdn|exact PuA));first|refine⟨_,EndsA,ZdW,?_⟩|refine fin ?_)|(apply RD_W;rfl;intro bk))
   exact⟨⟨k+1,A',c',m3+1,x3++(⟨sZ++dig (v % (ZL.length:Int)),sL++dig k⟩:Zcj).enc⟩,OA,⟨OA,by rw[hstp,List.length_append,hll,hm3];rfl,by rw[hstp,List.flatMap_append,hx3];rfl⟩,SFA,STA⟩
  have hkl:k=LL.length:=by simp only[decide_eq_false_iff_not,Int.ofNat_lt]at h;omega
  rw[<- hkl]
  rw[<- hll]at hm3
  generalize ZbE ZL.length LL k=ls at *
  subst hm3 hx3
  repeat (first|refine Za7 ?_|(refine jn ?_;(try intro F);(refine bx ?_;intro bk);refine fin ?_)|(apply RD_W;rfl;intro bk))
  exact ret_1 (.agg #[.slice A1 RR.length c1,.slice A2 Zs.length c2,.slice A3 ls.length c3,.slice none 0 0]) (rowR A1 c1 RR::rowZ A2 c2 Zs::rowL A3 c3 ls::rowS none 0 []::Zs.map ZfK) (.cellB rfl (by repeat' constructor) rfl rfl) STA ⟨A1,c1,A2,c2,A3,c3,none,0,Zs,by simp[srcV,<- hzz],hzz,rfl⟩
 apply W_block
 refine ZxL (fun g:Z3=>[(60,.int .i64 g.k),(58,.slice Az' ZL.length cz'),(59,.int .i64 ZL.length),(7,.slice Az' ZL.length cz'),(1,.pointer (some ⟨b1,0,none⟩)),(2,.pointer (some ⟨b2,0,none⟩)),(3,.pointer (some ⟨b3,0,none⟩)),(4,.int .i64 d.ns)]) (fun g => .blk b3 [.slice A1 RR.length c1,.slice g.A g.m g.c,.slice none 0 0,.slice none 0 0] 32 :: .row (.slice g.A g.m g.c) 50 2 g.m g.xs::X::rowR A1 c1 RR::rowL none 0 []::rowS none 0 [] :: .blk b1 [.slice As d.sets.length cs,.slice Az d.zones.length cz,.slice Al d.links.length cl] 26 :: .blk b2 [.slice none 0 0,.slice none 0 0,.slice none 0 0,.slice none 0 0] 32::g.Zr.map ZfK)
  (fun g=>g.k<=ZL.length/\g.m=g.Zr.length/\g.xs=g.Zr.reverse.flatMap ZE.enc/\g.Zr.reverse.map ZE.z=Zbz d.ns ZL g.k) (fun g=>ZL.length - g.k) ⟨0,none,0,0,[],[]⟩ SFA SOA ⟨Nat.zero_le _,rfl,rfl,by simp[Zbz]⟩ ?_
 rintro⟨k,A2,c2,m2,x2,Zr⟩ ⟨hk,hm,hx,hzz⟩
 dsimp only at hk hm hx hzz ⊢
 have hzl:=Zc2 d.ns ZL k
 have hZl:Zr.length=k:=by rw[<- hzl,<- hzz,List.length_map,List.length_reverse]
 repeat (first|refine Za7 ?_|(refine jn ?_;(try intro F);(refine bx ?_;intro bk);refine fin ?_)|(apply RD_W;rfl;intro bk))
 refine Zaf rfl (fun h=>?_) (fun h=>?_)
 ·have hk2:k<ZL.length:=by simpa using h
  have hkp:k<pl.length:=by rw[<- hpl,List.length_map]at hk2;exact hk2
  have hpk:pl[k]?=some pl[k]:=List.getElem?_eq_getElem hkp
  have hpm:pl[k]∈pl:=List.getElem_mem hkp
  obtain⟨pb1,pb2⟩:=hpb _ hpm
  have hlm:pl[k].l∈ZL:=by rw[<- hpl];exact List.mem_map.2 ⟨_,hpm,rfl⟩
  have hok:=hzok _ hlm
  have hstz:Zbz d.ns ZL (k+1)=Zbz d.ns ZL k++[Zpz d.ns k pl[k].l]:=by
   rw[Zbz,List.getD_eq_getElem?_getD,<- hpl,List.getElem?_map,hpk]
   rfl
  generalize pl[k]=p at *
  obtain⟨l,B,cb⟩:=p
  dsimp only at *
  simp only[maxLen]at pb2
  generalize hT:Zr.map ZfK=T
  repeat (first|(apply RL_pu;rfl;exact ZnL)|(apply RD_Q;rfl;rfl;decide +kernel;rfl;rfl;exact QyMade234)|refine walk1 ?_|(refine jg ?_;(try intro F);(first|(refine Zac (fun w' _=>Zdg k (by omega) (by omega) w') ?_)|(refine bx ?_;intro bk)|(refine stA ?_));first|refine⟨_,EndsA,QFMade234,?_⟩|refine fin ?_)|(refine jn ?_;(try intro F);(first|(refine bx ?_;intro bk)|(refine stA ?_)|(apply Zae;first|exact ZnL|exact PuA));first|refine⟨_,EndsA,QFMade234,?_⟩|refine fin ?_)|(apply RD_W;rfl;intro bk))
  rw[show(if (4:Int)<l.length then (4:Int) else l.length).toNat=(l.take 4).length from by rw[List.length_take];split <;> omega]
  generalize bk=b10
  refine Zbx (fun fr' O'=>∃ (X2:It) (B2:Option Addr) (c4:Nat),(el23 l).length<=c4/\(∀ w',Bel w.heap.size w w'->X.sat w'->X2.sat w'->RdSl w' B2 c4 E23.enc 8 (el23 l))/\Sub [(9,.slice B2 (el23 l).length c4),(8,.int .i64 k),(10,.pointer (some ⟨b10,0,none⟩)),(60,.int .i64 k),(58,.slice Az' ZL.length cz'),(59,.int .i64 ZL.length),(7,.slice Az' ZL.length cz'),(1,.pointer (some ⟨b1,0,none⟩)),(2,.pointer (some ⟨b2,0,none⟩)),(3,.pointer (some ⟨b3,0,none⟩)),(4,.int .i64 d.ns)] fr'/\SubO (.blk b10 [.string (sZ++dig k),.slice none 0 0] 50::X2 :: .blk b3 [.slice A1 RR.length c1,.slice A2 m2 c2,.slice none 0 0,.slice none 0 0] 32 :: .row (.slice A2 m2 c2) 50 2 m2 x2::X::rowR A1 c1 RR::rowL none 0 []::rowS none 0 [] :: .blk b1 [.slice As d.sets.length cs,.slice Az d.zones.length cz,.slice Al d.links.length cl] 26 :: .blk b2 [.slice none 0 0,.slice none 0 0,.slice none 0 0,.slice none 0 0] 32::T) O') ?_ ?_
  ·refine Zaf rfl (fun h2=>?_) (fun h2=>?_)
   ·have h0:l.length=0:=by
     have:=of_decide_eq_true h2
     rw[List.length_take]at this
     omega
    rw[show el23 l=[e23Z] from if_pos h0]
    repeat (first|refine Za7 ?_|(refine jn ?_;(try intro F);(refine bx ?_;intro bk);refine fin ?_)|(apply RD_W;rfl;intro bk))
    exact⟨rfl,.blk bk e23Z.enc _,some ⟨bk,0,none⟩,1,Nat.le_refl 1,fun w' _ _ hX2=>Zk9 (c:=1) (l:=[e23Z]) E23.len (Nat.le_refl 1) (by decide) hX2,SFA,STA⟩
   ·have h0:l.length≠0:=by
     have:=of_decide_eq_false h2
     rw[List.length_take]at this
     omega
    rw[show el23 l=l.take 4 from if_neg h0]
    refine ZgL [] _ (fun _=>True) (.refl _) (fun _ _=>trivial) ?_
    repeat (first|refine Za7 ?_|(refine jn ?_;(try intro F);(refine bx ?_;intro bk);refine fin ?_)|(apply RD_W;rfl;intro bk))
    exact⟨rfl,.fact (foot []) (fun _=>True),B,cb,by rw[List.length_take];omega,fun w' hb hx1 _=>((hX w' hb hx1).rd k _ hpk).2.1.take 4,SFA,STA⟩
  rintro fr' O' ⟨X2,B2,c4,hc4,hX2,hf,hO⟩
  apply thenQ_n
  refine Zb0 hf hO ?_
  clear hf hO fr' O'
  obtain⟨eb1,eb2⟩:=Zqg l
  have heok:∀ e∈el23 l,e.ok:=by
   intro e he
   unfold el23 at he
   split at he
   ·rw[List.mem_singleton.1 he];refine⟨?_,?_,?_,?_,?_,?_,?_,?_⟩ <;> first|exact Zkn.2 ⟨by decide,by decide⟩|exact ZxC.2 ⟨by decide,by decide⟩
   ·exact hok e (List.mem_of_mem_take he)
  rw[Zpz]at hstz
  generalize el23 l=EL at *
  repeat (first|refine Za7 ?_|(refine jn ?_;(try intro F);(refine bx ?_;intro bk);refine fin ?_)|(apply RD_W;rfl;intro bk))
  refine ZfA 75 13 ?_
  refine Zao [(9,.slice B2 EL.length c4),(8,.int .i64 k),(10,.pointer (some ⟨b10,0,none⟩)),(60,.int .i64 k),(79,.slice B2 EL.length c4),(80,.int .i64 EL.length),(58,.slice Az' ZL.length cz'),(59,.int .i64 ZL.length),(7,.slice Az' ZL.length cz'),(1,.pointer (some ⟨b1,0,none⟩)),(2,.pointer (some ⟨b2,0,none⟩)),(3,.pointer (some ⟨b3,0,none⟩)),(4,.int .i64 d.ns)] (X2 :: .blk b3 [.slice A1 RR.length c1,.slice A2 m2 c2,.slice none 0 0,.slice none 0 0] 32 :: .row (.slice A2 m2 c2) 50 2 m2 x2::X::rowR A1 c1 RR::rowL none 0 []::rowS none 0 [] :: .blk b1 [.slice As d.sets.length cs,.slice Az d.zones.length cz,.slice Al d.links.length cl] 26 :: .blk b2 [.slice none 0 0,.slice none 0 0,.slice none 0 0,.slice none 0 0] 32::T) (fun g:E3=>[(81,.int .i64 g.k),(11,.int .i64 g.y)]) (fun g=>[.blk b10 [.string (sZ++dig k),.slice g.A g.m g.c] 50,.row (.slice g.A g.m g.c) 75 13 g.m g.xs])
   (fun g=>g.k<=EL.length/\g.y=(ZaO d.ns EL g.k).2/\g.m=(ZaO d.ns EL g.k).1.length/\g.xs=(ZaO d.ns EL g.k).1.flatMap DEra.enc) (fun g=>EL.length - g.k) ⟨0,1904,none,0,0,[]⟩ SFA STA ⟨Nat.zero_le _,by simp[ZaO],by simp[ZaO],by simp[ZaO]⟩ ?_
  rintro⟨j,y,A3,c3,m3,x3⟩ ⟨hj,hy,hm3,hx3⟩
  dsimp only at hj hy hm3 hx3 ⊢
  have hel:=Zfk d.ns EL j
  obtain⟨y1,y2⟩:=Zi5 d.ns EL heok j
  rw[<- hy]at y1 y2
  have hm4:m3=j:=by rw[hm3,hel]
  repeat (first|refine Za7 ?_|(refine jn ?_;(try intro F);(refine bx ?_;intro bk);refine fin ?_)|(apply RD_W;rfl;intro bk))
  refine Zaf rfl (fun h=>?_) (fun h=>?_)
  ·have hj2:j<EL.length:=by simpa using h
   have hge:EL[j]?=some EL[j]:=List.getElem?_eq_getElem hj2
   have heo:=heok _ (List.getElem_mem hj2)
   have hst:ZaO d.ns EL (j+1)=((ZaO d.ns EL j).1++[Zlk EL[j] (decide ((j:Int)=0)) d.ns (y+(1+EL[j].years % 30)) (decide ((j:Int)<(EL.length:Int) - 1))],y+(1+EL[j].years % 30)):=by
    rw[ZaO,List.getD_eq_getElem?_getD,hge,<- hy]
    rfl
   generalize EL[j]=e at *
   obtain⟨k1,k2,k3,k4,k5,k6,k7,k8⟩:=id heo
   rw[Zkn]at k4
   repeat (first|(apply RL_pu;rfl;exact ZjB)|(apply RD_Q;rfl;rfl;decide +kernel;rfl;rfl;exact Znv)|refine walk1 ?_|(refine jg ?_;(try intro F);(first|(refine Zac (fun w' _=>ZrI e heo (decide ((j:Int)=0)) d.ns (y+(1+e.years % 30)) (decide ((j:Int)<(EL.length:Int) - 1)) (by omega) (by omega) w') ?_)|(apply ZaE (t:=48);rfl;rfl;(intro A' c';(focus repeat' constructor));(intro w' _ hO;exact ZbP (hO.of (by repeat' constructor)));rfl;rfl;(simp only[maxLen];omega);omega;intro A' c' hc1 hc2 hc3)|(refine bx ?_;intro bk)|(refine stA ?_));first|refine⟨_,EndsA,Znx,?_⟩|refine fin ?_)|(refine jn ?_;(try intro F);(first|(apply ZaE (t:=48);rfl;rfl;(intro A' c';(focus repeat' constructor));(intro w' _ hO;exact ZbP (hO.of (by repeat' constructor)));rfl;rfl;(simp only[maxLen];omega);omega;intro A' c' hc1 hc2 hc3)|(refine bx ?_;intro bk)|(refine stA ?_)|(apply Zae;first|exact ZjB|exact PuA));first|refine⟨_,EndsA,Znx,?_⟩|refine fin ?_)|(apply RD_W;rfl;intro bk))
   exact⟨⟨j+1,y+(1+e.years % 30),A',c',m3+1,x3++(Zlk e (decide ((j:Int)=0)) d.ns (y+(1+e.years % 30)) (decide ((j:Int)<(EL.length:Int) - 1))).enc⟩,OA,⟨OA,by rw[hst],by rw[hst,List.length_append,<- hm3];rfl,by rw[hst,List.flatMap_append,hx3];simp⟩,SFA,STA⟩
  have hjl:j=EL.length:=by simp only[decide_eq_false_iff_not,Int.ofNat_lt]at h;omega
  rw[<- hjl]at hstz
  generalize (ZaO d.ns EL j).1=es at *
  subst hm3 hx3
  repeat (first|refine walk ?_|(refine jn ?_;(try intro F);(first|(apply ZaE (t:=28);rfl;rfl;(intro A' c';(focus repeat' constructor));(intro w' _ hO;exact ZbP (hO.of (by repeat' constructor)));rfl;rfl;(simp only[maxLen];omega);omega;intro A' c' hc1 hc2 hc3)|(refine bx ?_;intro bk)|(refine stA ?_)|(apply Zae;exact PuA));refine fin ?_)|(apply RD_W;rfl;intro bk))
  subst hT
  exact⟨⟨k+1,A',c',m2+1,x2++ZE.enc ⟨⟨sZ++dig k,es⟩,A3,c3⟩,⟨⟨sZ++dig k,es⟩,A3,c3⟩::Zr⟩,OA,⟨OA,by simp[hm],by simp[hx],by rw[hstz,<- hzz];simp⟩,SFA,STA⟩
 have hkz:k=ZL.length:=by simp only[decide_eq_false_iff_not,Int.ofNat_lt]at h;omega
 rw[hkz]at hzz
 repeat (first|refine Za7 ?_|(refine jn ?_;(try intro F);(refine bx ?_;intro bk);refine fin ?_)|(apply RD_W;rfl;intro bk))
 exact⟨rfl,A2,c2,m2,x2,Zr,⟨hm,hx,hzz⟩,SFA,STA⟩
end Go.Proofs.YtdlmhmmhdbbliaaGreatDoor
namespace Go.Proofs.YtdlmhmmhdbbliaaGreatDoor
open Go Go.RowKit Go.Wk Go.ChangeShapes Go.WideShapes Go.ChangeAt
section
variable {H:Type}{enc:TypeId × Value->H}{w:World}{sp:Nat->Bool}{held:Bool}
theorem Ztd {n:Nat}{cs:List Value}{y:DataW H × List MemPlace}(h:DataW.trod enc Tryz.prog w 0 sp held n 5 cs=some y):∃ d:Int,cs=Zez d/\inR .u8 d:=by
 obtain⟨x,e,_,b⟩:=DataW.trod_int Tryz.underlying5 h
 exact⟨x,e,ZeT b⟩
def Zns {α:Type}(w:World)(en:α->List Value)(sz:Nat)(ok:α->Prop)(l:List α)(cs:List Value):Prop:=∃ B cb,RdSl w B cb en sz l/\cs=[.slice B l.length cb]/\∀ x∈l,ok x
theorem Zza {n:Nat}{cs:List Value}{y:DataW H × List MemPlace}(h:DataW.trod enc Tryz.prog w 0 sp held n 61 cs=some y):∃ l,Zns w Zez 1 (inR .u8) l cs:=by
 obtain⟨v,rfl⟩:∃ v,cs=[v]:=by
  rcases Deep.open_slice Tryz.underlying61 h with⟨h0,_⟩|⟨a,len,cap,m,n,D,Pl,hcs,_⟩
  ·exact⟨_,h0⟩
  ·exact⟨_,hcs⟩
 obtain⟨B,l,cb,rfl,h1,h2⟩:=Zk1 Tryz.underlying61 Zez (inR .u8) (sz:=1) (by kernel_rfl) (fun n cs y h=>Ztd h) h
 exact⟨l,B,cb,h1,rfl,h2⟩
theorem Zww {n:Nat}{cs:List Value}{y:DataW H × List MemPlace}(h:DataW.trod enc Tryz.prog w 0 sp held n 64 cs=some y):∃ l,Zns w E23.enc 8 E23.ok l cs:=by
 obtain⟨v,rfl⟩:∃ v,cs=[v]:=by
  rcases Deep.open_slice Tryz.underlying64 h with⟨h0,_⟩|⟨a,len,cap,m,n,D,Pl,hcs,_⟩
  ·exact⟨_,h0⟩
  ·exact⟨_,hcs⟩
 obtain⟨B,l,cb,rfl,h1,h2⟩:=Zk1 Tryz.underlying64 E23.enc E23.ok (sz:=8) (by kernel_rfl) (fun n cs y h=>ZAg h) h
 exact⟨l,B,cb,h1,rfl,h2⟩
theorem ZsN {α:Type}{en:α->List Value}{sz:Nat}{ok:α->Prop}{A:Option Addr}{ls:List (List α)}{c:Nat}(s1:ls.length<=c)(s2:c<=maxLen)(s3:∀ k l,ls[k]?=some l->A≠none/\∃ cs,Zns w en sz ok l cs/\Zal w ((adr A).add (k*1)) cs) :
  RdLL w A c en sz ls/\∀ l∈ls,∀ x∈l,ok x:=by
 refine⟨⟨s1,s2,fun k l hk=>?_⟩,fun l hl=>?_⟩
 ·obtain⟨h4,cs',⟨B,cb,h5,rfl,_⟩,h6⟩:=s3 k l hk
  exact⟨h4,B,cb,h5,h6⟩
 ·obtain⟨k,hk⟩:=List.getElem?_of_mem hl
  obtain⟨_,_,⟨_,_,_,_,h5⟩,_⟩:=s3 k l hk
  exact h5
set_option maxRecDepth 100000 in
theorem Zwq {v:Value}{r:Reach}{b0:Nat}{d:DataW H}{ps:List MemPlace}(hv:Value.okWide Tryz.prog w r b0 26 v)(h:DataW.Trod enc Tryz.prog w 0 sp held 26 v d ps) :
  ∃ As Az Al cs cz cl d,v=d23V As Az Al cs cz cl d/\RdLL w As cs Zez 1 d.sets/\RdLL w Az cz E23.enc 8 d.zones/\RdSl w Al cl Zez 1 d.links/\(∀ l∈d.sets,∀ x∈l,inR .u8 x)/\(∀ l∈d.zones,∀ x∈l,x.ok)/\(∀ x∈d.links,inR .u8 x):=by
 obtain⟨vs,rfl,hsz⟩:=okWide_struct Tryz.underlying26 hv
 obtain⟨fuel,h⟩:=h
 obtain⟨hl,hf⟩:=Zqe Tryz.underlying26 h
 rw[show Tryz.prog.cellsOf 26=3 from by kernel_rfl]at hl
 obtain⟨vs⟩:=vs
 simp only[Value.cells]at hl hf
 obtain⟨a0,cs0,rfl,hl0⟩:=Zbs hl
 obtain⟨a1,cs1,rfl,hl1⟩:=Zbs hl0
 obtain⟨a2,cs2,rfl,hl2⟩:=Zbs hl1
 obtain rfl:=List.eq_nil_of_length_eq_zero hl2
 obtain⟨n0,y0,h0⟩:=hf 0 22 0 1 rfl (by kernel_rfl)
 obtain⟨n1,y1,h1⟩:=hf 1 23 1 1 rfl (by kernel_rfl)
 obtain⟨n2,y2,h2⟩:=hf 2 24 2 1 rfl (by kernel_rfl)
 obtain⟨As,ls,cs,rfl,s1,s2,s3⟩:=Zk2 Tryz.underlying22 (fun(l:List Int) cs=>Zns w Zez 1 (inR .u8) l cs) (fun n cs y h=>Zza h) h0
 obtain⟨Az,lz,cz,rfl,z1,z2,z3⟩:=Zk2 Tryz.underlying23 (fun(l:List E23) cs=>Zns w E23.enc 8 E23.ok l cs) (fun n cs y h=>Zww h) h1
 obtain⟨Al,ll,cl,rfl,l1,l2⟩:=Zk1 Tryz.underlying24 Zez (inR .u8) (sz:=1) (by kernel_rfl) (fun n cs y h=>Ztd h) h2
 rw[show Tryz.prog.cellsOf 61=1 from by kernel_rfl]at s3
 rw[show Tryz.prog.cellsOf 64=1 from by kernel_rfl]at z3
 obtain⟨g1,g2⟩:=ZsN s1 s2 s3
 obtain⟨g3,g4⟩:=ZsN z1 z2 z3
 exact⟨As,Az,Al,cs,cz,cl,⟨ls,lz,ll⟩,rfl,g1,g3,l1,g2,g4,l2⟩
set_option maxRecDepth 100000 in
theorem ZAo {v:Value}{r:Reach}{b0:Nat}{d:DataW H}{ps:List MemPlace}(hv:Value.okWide Tryz.prog w r b0 5 v)(h:DataW.Trod enc Tryz.prog w 0 sp held 5 v d ps):∃ x:Int,v = .int .u8 x/\inR .u8 x:=by
 obtain⟨n,rfl⟩:=okWide_int Tryz.underlying5 hv
 obtain⟨fuel,h⟩:=h
 obtain⟨x,e,b⟩:=Ztd h
 simp only[Value.cells,Zez,List.cons.injEq,and_true]at e
 exact⟨x,e,b⟩
end
section
variable {H:Type}{enc:TypeId × Value->H}{w:World}{sp:Nat->Bool}{held:Bool}
set_option maxRecDepth 100000 in
theorem Zwo {v:Value}{r:Reach}{b0:Nat}{d:DataW H}{ps:List MemPlace}(hv:Value.okWide Tryz.prog w r b0 54 v)(h:DataW.Trod enc Tryz.prog w 0 sp held 54 v d ps):∃ x:Int,v = .int .u32 x/\inR .u32 x:=by
 obtain⟨n,rfl⟩:=okWide_int Tryz.underlying54 hv
 obtain⟨fuel,h⟩:=h
 have h2:DataW.trod enc Tryz.prog w 0 sp held fuel 54 [.int .u32 n]=some (d,ps):=h
 obtain⟨x,e,_,b⟩:=DataW.trod_int Tryz.underlying54 h2
 simp only[List.cons.injEq,and_true]at e
 exact⟨x,e,ZeT b⟩
set_option maxRecDepth 100000 in
theorem Zy5 {v:Value}{r:Reach}{b0:Nat}{d:DataW H}{ps:List MemPlace}(hv:Value.okWide Tryz.prog w r b0 5 v)(h:DataW.Trod enc Tryz.prog w 0 sp held 5 v d ps):∃ x:Int,v = .int .u8 x/\inR .u8 x:=ZAo hv h
set_option maxRecDepth 100000 in
theorem Zwp {v:Value}{r:Reach}{b0:Nat}{d:DataW H}{ps:List MemPlace}(hv:Value.okWide Tryz.prog w r b0 55 v)(h:DataW.Trod enc Tryz.prog w 0 sp held 55 v d ps):∃ x:Int,v = .int .u16 x/\inR .u16 x:=by
 obtain⟨n,rfl⟩:=okWide_int Tryz.underlying55 hv
 obtain⟨fuel,h⟩:=h
 have h2:DataW.trod enc Tryz.prog w 0 sp held fuel 55 [.int .u16 n]=some (d,ps):=h
 obtain⟨x,e,_,b⟩:=DataW.trod_int Tryz.underlying55 h2
 simp only[List.cons.injEq,and_true]at e
 exact⟨x,e,ZeT b⟩
end
end Go.Proofs.YtdlmhmmhdbbliaaGreatDoor
namespace Go.Wk
open Go Go.RowKit Go.ChangeShapes Go.WideShapes Go.ChangeAt
section
variable {H:Type}{enc:TypeId × Value->H}
def Zw4:DataW Unit->List Value
 | .agg l=>l.map fun | .lit (.int k n) => .int k n|_=>undef
 | .lit (.int k n)=>[.int k n]
 | _=>[]
end
end Go.Wk
