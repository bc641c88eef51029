/- Parts of the proof. -/
import Derived.Test.YtbjomhdhkpgbaaaGreatDoorV27
import Derived.Test.YtbjomhdhkpgbaaaGreatDoorV09
import Derived.Test.YtbjomhdhkpgbaaaGreatDoorV07
import Derived.Test.YtbjomhdhkpgbaaaGreatDoorV26
import Derived.Test.YtbjomhdhkpgbaaaGreatDoorV04
set_option maxHeartbeats 4000000
set_option linter.unusedVariables false
set_option linter.unusedSimpArgs false
namespace Go.Proofs.YtbjomhdhkpgbaaaGreatDoor
open Go Go.RowKit Go.Wk
attribute [local irreducible] W RL Does Zar Zal retQ Calls Pu Stp RD Qy Ay Zak Zb3 Zl1 ZaY ZbJ ZbM Za5 dig ZhA
structure Pl (α:Type) where
 l:List α
 B:Option Addr
 c:Nat
structure RdLF {α:Type}(w:World)(A:Option Addr)(enc:α->List Value)(sz:Nat)(pl:List (Pl α)):Prop where
 rd:∀ k p,pl[k]?=some p->A≠none/\RdSl w p.B p.c enc sz p.l/\Zam w ((adr A).add (k*1)) [.slice p.B p.l.length p.c]
theorem RdLF.up {α:Type}{w w':World}{A:Option Addr}{enc:α->List Value}{sz:Nat}{pl:List (Pl α)}(h:RdLF w A enc sz pl)(hb:Bel w.heap.size w w'):RdLF w' A enc sz pl :=
 ⟨fun k p hk=>⟨(h.rd k p hk).1,(h.rd k p hk).2.1.up hb,(h.rd k p hk).2.2.up hb (Nat.le_refl _)⟩⟩
theorem RdLL.places {α:Type}{w:World}{A:Option Addr}{c:Nat}{enc:α->List Value}{sz:Nat}{ll:List (List α)}(h:RdLL w A c enc sz ll):∃ pl:List (Pl α),pl.map Pl.l=ll/\RdLF w A enc sz pl/\∀ p∈pl,p.l.length<=p.c/\p.c<=maxLen:=by
 have key:∀ i:Fin ll.length,∃ p:Pl α,p.l=ll[i]/\A≠none/\RdSl w p.B p.c enc sz p.l/\Zam w ((adr A).add (i.val*1)) [.slice p.B p.l.length p.c]:=fun i=>by
  obtain⟨h1,B,cb,h2,h3⟩:=h.rd i.val ll[i] (List.getElem?_eq_getElem i.isLt)
  exact⟨⟨ll[i],B,cb⟩,rfl,h1,h2,h3⟩
 obtain⟨f,hf⟩:=Classical.axiomOfChoice key
 have hget:∀ k p,(List.ofFn f)[k]?=some p->∃ hk:k<ll.length,p=f ⟨k,hk⟩:=fun k p hp=>by
  have hk:=(List.getElem?_eq_some_iff.1 hp).1
  rw[List.length_ofFn]at hk
  rw[List.getElem?_ofFn,dif_pos hk]at hp
  exact⟨hk,(Option.some.inj hp).symm⟩
 refine⟨List.ofFn f,?_,⟨fun k p hp=>?_⟩,fun p hp=>?_⟩
 ·apply List.ext_getElem
  ·simp
  ·intro k h1 h2
   simp[(hf ⟨k,h2⟩).1]
 ·obtain⟨hk,rfl⟩:=hget k p hp
  exact(hf ⟨k,hk⟩).2
 ·obtain⟨k,hk⟩:=List.getElem?_of_mem hp
  obtain⟨hk1,rfl⟩:=hget k p hk
  exact⟨(hf ⟨k,hk1⟩).2.2.1.le,(hf ⟨k,hk1⟩).2.2.1.cap⟩
structure R3 where
 k:Nat
 A:Option Addr
 c:Nat
 m:Nat
 xs:List Value
structure Z3 where
 k:Nat
 A:Option Addr
 c:Nat
 m:Nat
 xs:List Value
 Zr:List ZE
structure E3 where
 k:Nat
 y:Int
 A:Option Addr
 c:Nat
 m:Nat
 xs:List Value
theorem Zbm {G G':Prop}(k:G')(h:Hold G'->G:=by intro k9;(first|refine walk ?_|(refine jn ?_;(try intro F);(first|(refine stA ?_)|(apply Zag;exact PuA));refine fin ?_));exact k9.out):G:=h ⟨k⟩
theorem ZoI {G:Prop}(h:G:=by(first|(apply Pu_indexAddr;rfl;rfl;omega;omega;exact hAn)|exact PuI)):G:=h
theorem ZdL {G:Prop}(h:G:=by(apply Zfz;rfl;rfl;(rw[Ziw _ (by omega) (by omega)];decide))):G:=h
theorem Zhc {G:Prop}(h:G:=by first|(apply Qy_y;rfl;exact ZdL)|exact QyA):G:=h
theorem Zej {G:Prop}(h:G:=by repeat (first|exact QF.nil|(apply QF.mk;rfl;rfl;decide +kernel;exact Zhc))):G:=h
theorem Zhh {G:Prop}(h:G:=by(first|(apply Zfy;rfl;rfl)|(apply Pu_sliceH;rfl;rfl;(split <;> omega);(split <;> omega)))):G:=h
theorem ZoH {G:Prop}(h:G:=by(first|exact PuI|(apply Zfz;rfl;rfl;(rw[Ziw _ (by omega) (by omega)];decide)))):G:=h
theorem ZoG {G:Prop}(h:G:=by(first|(apply ZaB;rfl;rfl;omega;omega;(intro w' hb hO;exact((hX w' hb (hO.of (A:=X) (by repeat' constructor))).rd k _ hpk).1))|(apply ZeO (v := .slice B l.length cb);rfl;(intro w' hb hO;exact((hX w' hb (hO.of (A:=X) (by repeat' constructor))).rd k _ hpk).2.2 0 _ rfl))|(apply Zfz;rfl;rfl;(rw[Ziw _ (by omega) (by omega)];decide))|(apply Zfy;rfl;rfl)|(apply Pu_sliceH;rfl;rfl;(split <;> omega);(split <;> omega)))):G:=h
theorem Zkc {G:Prop}(h:G:=by(first|(apply ZaB;rfl;rfl;omega;omega;(intro w' hb hO;exact((hX2 w' hb (hO.of (A:=X) (by repeat' constructor)) (hO.of (A:=X2) (by repeat' constructor))).rd j e hge).1))|(apply ZfU (cs:=e.enc);rfl;rfl;(intro w' hb hO;exact((hX2 w' hb (hO.of (A:=X) (by repeat' constructor)) (hO.of (A:=X2) (by repeat' constructor))).rd j e hge).2)))):G:=h
theorem Zot {G:Prop}(h:G:=by first|(apply Qy_y;rfl;exact Zkc)|exact QyA):G:=h
theorem Zou {G:Prop}(h:G:=by repeat (first|exact QF.nil|(apply QF.mk;rfl;rfl;decide +kernel;exact Zot))):G:=h
set_option maxHeartbeats 8000000 in
theorem Zpv (As Az Al:Option Addr)(cs cz cl:Nat)(d:DD23)(w:World)(hS:RdLL w As cs Zei 1 d.sets)(hZ:RdLL w Az cz E23.enc 8 d.zones)(hL:RdSl w Al cl Zei 1 d.links)(hrs:∀ l∈d.sets,∀ x∈l,inR .u8 x)(hrz:∀ l∈d.zones,∀ x∈l,x.ok)(hrl:∀ x∈d.links,inR .u8 x) :
  Does Tryz.prog 8 [d23V As Az Al cs cz cl d] w (Zd4 (Zai d)):=by
 have hs1:=hS.le
 have hs2:=hS.cap
 have hz1:=hZ.le
 have hz2:=hZ.cap
 have hl1:=hL.le
 have hl2:=hL.cap
 simp only[maxLen]at hs2 hz2 hl2
 have hns:1<=d.ns/\d.ns<=3:=by unfold DD23.ns;omega
 refine Zaa Tryz.func8 rfl rfl rfl rfl ?_
 repeat (first|((apply RL_pu;rfl;first|(apply Zfy;rfl;rfl)|(apply ZBP;rfl;rfl)))|refine Zkj ?_|(refine jn ?_;(try intro F);(first|(refine bx ?_;intro bk)|(refine stA ?_)|(apply Zag;exact PuA));refine fin ?_)|(apply RD_W;rfl;intro bk))
 rename_i b1 b2
 generalize bk=b3
 rw[show(if (1:Int)<(if (3:Int)<d.sets.length then (3:Int) else d.sets.length) then (if (3:Int)<d.sets.length then (3:Int) else d.sets.length) else 1)=(d.ns:Int) from by unfold DD23.ns;split <;> split <;> omega]
 refine Zdj 56 11 (Zdj 46 2 (Zdj 69 2 (Zdj 9 1 ?_)))
 refine Zcw (fun fr' O'=>∃ A1 c1,Sub [(1,.pointer (some ⟨b1,0,none⟩)),(2,.pointer (some ⟨b2,0,none⟩)),(3,.pointer (some ⟨b3,0,none⟩)),(4,.int .i64 d.ns)] fr'/\SubO [.blk b3 [.slice A1 (Za5 d.sets d.ns).length c1,.slice none 0 0,.slice none 0 0,.slice none 0 0] 32,rowR A1 c1 (Za5 d.sets d.ns),rowZ none 0 [],rowL none 0 [],rowS none 0 [],.blk b1 [.slice As d.sets.length cs,.slice Az d.zones.length cz,.slice Al d.links.length cl] 26,.blk b2 [.slice none 0 0,.slice none 0 0,.slice none 0 0,.slice none 0 0] 32] O') ?_ ?_
 ·apply W_block
  refine Zaq [(23,.int .i64 d.ns),(1,.pointer (some ⟨b1,0,none⟩)),(2,.pointer (some ⟨b2,0,none⟩)),(3,.pointer (some ⟨b3,0,none⟩)),(4,.int .i64 d.ns)] [rowZ none 0 [],rowL none 0 [],rowS none 0 [],.blk b1 [.slice As d.sets.length cs,.slice Az d.zones.length cz,.slice Al d.links.length cl] 26,.blk b2 [.slice none 0 0,.slice none 0 0,.slice none 0 0,.slice none 0 0] 32] (fun g:R3=>[(24,.int .i64 g.k)]) (fun g=>[.blk b3 [.slice g.A g.m g.c,.slice none 0 0,.slice none 0 0,.slice none 0 0] 32,.row (.slice g.A g.m g.c) 56 11 g.m g.xs]) (fun g=>g.k<=d.ns/\g.m=(Za5 d.sets g.k).length/\g.xs=(Za5 d.sets g.k).flatMap Zab.enc) (fun g=>d.ns - g.k) ⟨0,none,0,0,[]⟩ SFA SOA ⟨Nat.zero_le _,by simp[Za5],by simp[Za5]⟩ ?_
  rintro⟨k,A0,c0,m0,x0⟩ ⟨hk,hm0,hx0⟩
  dsimp only at hk hm0 hx0 ⊢
  have hlen:=Zdv d.sets k
  repeat (first|refine Zbm ?_|(refine jn ?_;(try intro F);(refine bx ?_;intro bk);refine fin ?_)|(apply RD_W;rfl;intro bk))
  refine Zah rfl (fun h=>?_) (fun h=>?_)
  ·have hk2:k<d.ns:=by simpa using h
   have hlen2:=ZkS (d.sets.getD k []) (sR++dig k)
   repeat (first|refine Zbm ?_|(refine jn ?_;(try intro F);(refine bx ?_;intro bk);refine fin ?_)|(apply RD_W;rfl;intro bk))
   refine Zcw (fun fr' O'=>∃ B cb,RdSl w B cb Zei 1 (d.sets.getD k [])/\(∀ x∈d.sets.getD k [],inR .u8 x)/\Sub [(6,.slice B (d.sets.getD k []).length cb),(5,.int .i64 k),(24,.int .i64 k),(23,.int .i64 d.ns),(1,.pointer (some ⟨b1,0,none⟩)),(2,.pointer (some ⟨b2,0,none⟩)),(3,.pointer (some ⟨b3,0,none⟩)),(4,.int .i64 d.ns)] fr'/\SubO [.blk b3 [.slice A0 m0 c0,.slice none 0 0,.slice none 0 0,.slice none 0 0] 32,.row (.slice A0 m0 c0) 56 11 m0 x0,rowZ none 0 [],rowL none 0 [],rowS none 0 [],.blk b1 [.slice As d.sets.length cs,.slice Az d.zones.length cz,.slice Al d.links.length cl] 26,.blk b2 [.slice none 0 0,.slice none 0 0,.slice none 0 0,.slice none 0 0] 32] O') ?_ ?_
   ·refine Zah rfl (fun h2=>?_) (fun h2=>?_)
    ·have hks:k<d.sets.length:=by simpa using h2
     obtain⟨hAn,B,cb,hB,hca⟩:=hS.rd k _ (List.getElem?_eq_getElem hks)
     have hrl2:=hrs _ (List.getElem_mem hks)
     have e:d.sets.getD k []=d.sets[k]:=by rw[List.getD_eq_getElem?_getD,List.getElem?_eq_getElem hks];rfl
     rw[e]
     generalize d.sets[k]=l at *
     repeat (first|(apply RL_pu;rfl;exact ZoI)|(apply RD_Q;rfl;rfl;decide +kernel;rfl;rfl;exact QyMade230)|refine walk1 ?_|(refine jn ?_;(try intro F);(first|(refine bx ?_;intro bk)|(refine stA ?_)|(apply Zag;first|exact ZoI|exact PuA));first|refine⟨_,EndsA,QFMade230,?_⟩|refine fin ?_)|(apply RD_W;rfl;intro bk))
     exact⟨rfl,B,cb,hB,hrl2,SFA,SOA⟩
    ·have hks:¬ k<d.sets.length:=by simpa using h2
     have e:d.sets.getD k []=[]:=by rw[List.getD_eq_getElem?_getD,List.getElem?_eq_none (by omega)];rfl
     rw[e]
     repeat (first|refine Zbm ?_|(refine jn ?_;(try intro F);(refine bx ?_;intro bk);refine fin ?_)|(apply RD_W;rfl;intro bk))
     exact⟨rfl,none,0,ZuS _ _ _,fun x hx=>by simp at hx,SFA,SOA⟩
   rintro fr' O' ⟨B,cb,hB,hrl2,hf,hO⟩
   apply thenQ_n
   refine ZcH hf hO ?_
   clear hf hO fr' O'
   have hstep:Za5 d.sets (k+1)=Za5 d.sets k++Zb3 (d.sets.getD k []) (sR++dig k):=by rw[Za5]
   generalize d.sets.getD k []=l at *
   repeat (first|(apply RL_pu;rfl;exact ZdL)|(apply RD_Q;rfl;rfl;decide +kernel;rfl;rfl;exact Zhc)|refine walk1 ?_|(refine jg ?_;(try intro F);(first|(refine Zae (fun w' _=>ZdC k (by omega) (by omega) w') ?_)|(apply Zad (h:=fun w' hw _=>Zpz B cb l (sR++dig k) w' (hB.up hw) hrl2);rfl;rintro v O' ⟨A1,c1,rfl,rfl⟩)|(apply Zay (t:=27);rfl;rfl;(intro A' c';(focus repeat' constructor));(intro w' _ hO;exact Zzp (hO.of (A := .row (.slice A1 _ c1) _ _ _ _) (by repeat' constructor)));exact ZaJ Zab.len _;exact ZcR oneR _;(simp only[maxLen];omega);omega;intro A' c' hc1 hc2 hc3)|(refine bx ?_;intro bk)|(refine stA ?_));first|refine⟨_,EndsA,Zej,?_⟩|refine fin ?_)|(refine jn ?_;(try intro F);(first|(apply Zay (t:=27);rfl;rfl;(intro A' c';(focus repeat' constructor));(intro w' _ hO;exact Zzp (hO.of (A := .row (.slice A1 _ c1) _ _ _ _) (by repeat' constructor)));exact ZaJ Zab.len _;exact ZcR oneR _;(simp only[maxLen];omega);omega;intro A' c' hc1 hc2 hc3)|(refine bx ?_;intro bk)|(refine stA ?_)|(apply Zag;first|exact ZdL|exact PuA));first|refine⟨_,EndsA,Zej,?_⟩|refine fin ?_)|(apply RD_W;rfl;intro bk))
   exact⟨⟨k+1,A',c',m0+(Zb3 l (sR++dig k)).length,x0++(Zb3 l (sR++dig k)).flatMap Zab.enc⟩,OA,⟨OA,by rw[hstep,List.length_append,hm0],by rw[hstep,List.flatMap_append,hx0]⟩,SFA,SOA⟩
  have hk2:k=d.ns:=by simp only[decide_eq_false_iff_not,Int.ofNat_lt]at h;omega
  subst hm0 hx0
  rw[hk2]
  repeat (first|refine Zbm ?_|(refine jn ?_;(try intro F);(refine bx ?_;intro bk);refine fin ?_)|(apply RD_W;rfl;intro bk))
  exact⟨rfl,A0,c0,SFA,SOA⟩
 rintro fr' O' ⟨A1,c1,hf,hO⟩
 apply thenQ_n
 refine ZcH hf hO ?_
 clear hf hO fr' O'
 have hRR:=Zdv d.sets d.ns
 unfold Zai
 generalize Za5 d.sets d.ns=RR at *
 repeat (first|(apply RL_pu;rfl;exact Zhh)|(apply RD_Q;rfl;rfl;decide +kernel;rfl;rfl;exact QyMade232)|refine walk1 ?_|(refine jn ?_;(try intro F);(first|(refine bx ?_;intro bk)|(refine stA ?_)|(apply Zag;first|exact Zhh|exact PuA));first|refine⟨_,EndsA,QFMade232,?_⟩|refine fin ?_)|(apply RD_W;rfl;intro bk))
 rw[show(if (3:Int)<d.zones.length then (3:Int) else d.zones.length).toNat=(d.zones.take 3).length from by rw[List.length_take];split <;> omega]
 refine Zcw (fun fr' O'=>∃ (X:It) (A:Option Addr) (c:Nat) (pl:List (Pl E23)),pl.map Pl.l=zl23 d.zones/\(∀ p∈pl,p.l.length<=p.c/\p.c<=maxLen)/\(∀ w',Bel w.heap.size w w'->X.sat w'->RdLF w' A E23.enc 8 pl)/\Sub [(7,.slice A (zl23 d.zones).length c),(1,.pointer (some ⟨b1,0,none⟩)),(2,.pointer (some ⟨b2,0,none⟩)),(3,.pointer (some ⟨b3,0,none⟩)),(4,.int .i64 d.ns)] fr'/\SubO (X :: .blk b3 [.slice A1 RR.length c1,.slice none 0 0,.slice none 0 0,.slice none 0 0] 32::rowZ none 0 []::rowR A1 c1 RR::rowL none 0 []::rowS none 0 [] :: .blk b1 [.slice As d.sets.length cs,.slice Az d.zones.length cz,.slice Al d.links.length cl] 26 :: .blk b2 [.slice none 0 0,.slice none 0 0,.slice none 0 0,.slice none 0 0] 32::[]) O') ?_ ?_
 ·refine Zah rfl (fun h=>?_) (fun h=>?_)
  ·have h0:d.zones.length=0:=by
    have:=of_decide_eq_true h
    rw[List.length_take]at this
    omega
   rw[show zl23 d.zones=[[]] from if_pos h0]
   repeat (first|refine Zbm ?_|(refine jn ?_;(try intro F);(refine bx ?_;intro bk);refine fin ?_)|(apply RD_W;rfl;intro bk))
   exact⟨rfl,.blk bk [.slice none 0 0] _,some ⟨bk,0,none⟩,1,[⟨[],none,0⟩],rfl,fun p hp=>by rw[List.mem_singleton.1 hp];exact⟨Nat.le_refl 0,Nat.zero_le _⟩,fun w' _ hX=>⟨fun k p hk=>by
    cases k with
    | zero =>
     simp only[List.getElem?_cons_zero,Option.some.injEq]at hk
     subst hk
     exact⟨by simp,ZuS _ _ _,fun j v hj=>by rw[Zbe,Nat.zero_mul,Nat.zero_add];exact(Zbv hX _ v hj).2⟩
    | succ k=>simp at hk⟩,SFA,SOA⟩
  ·have h0:d.zones.length≠0:=by
    have:=of_decide_eq_false h
    rw[List.length_take]at this
    omega
   rw[show zl23 d.zones=d.zones.take 3 from if_neg h0]
   obtain⟨pl,p1,p2,p3⟩:=(hZ.take 3).places
   refine ZeM [] _ (fun _=>True) (.refl _) (fun _ _=>trivial) ?_
   repeat (first|refine Zbm ?_|(refine jn ?_;(try intro F);(refine bx ?_;intro bk);refine fin ?_)|(apply RD_W;rfl;intro bk))
   exact⟨rfl,.fact (foot []) (fun _=>True),Az,cz,pl,p1,p3,fun w' hb _=>p2.up hb,SFA,SOA⟩
 rintro fr' O' ⟨X,Az',cz',pl,hpl,hpb,hX,hf,hO⟩
 apply thenQ_n
 refine ZcH hf hO ?_
 clear hf hO fr' O'
 obtain⟨zb1,zb2⟩:=ZdN d.zones
 have hzok:∀ l∈zl23 d.zones,∀ x∈l,x.ok:=by
  intro l hl x hx
  unfold zl23 at hl
  split at hl
  ·rw[List.mem_singleton.1 hl]at hx;simp at hx
  ·exact hrz l (List.mem_of_mem_take hl) x hx
 generalize hZL:zl23 d.zones=ZL at *
 repeat (first|refine Zkj ?_|(refine jn ?_;(try intro F);(first|(refine bx ?_;intro bk)|(refine stA ?_)|(apply Zag;exact PuA));refine fin ?_)|(apply RD_W;rfl;intro bk))
 refine Zcw (fun fr' O'=>∃ (A:Option Addr) (cc m:Nat) (xs:List Value) (Zr:List ZE),(m=Zr.length/\xs=Zr.reverse.flatMap ZE.enc/\Zr.reverse.map ZE.z=ZbJ d.ns ZL ZL.length)/\Sub [(7,.slice Az' ZL.length cz'),(1,.pointer (some ⟨b1,0,none⟩)),(2,.pointer (some ⟨b2,0,none⟩)),(3,.pointer (some ⟨b3,0,none⟩)),(4,.int .i64 d.ns)] fr'/\SubO (.blk b3 [.slice A1 RR.length c1,.slice A m cc,.slice none 0 0,.slice none 0 0] 32 :: .row (.slice A m cc) 46 2 m xs::X::rowR A1 c1 RR::rowL none 0 []::rowS none 0 [] :: .blk b1 [.slice As d.sets.length cs,.slice Az d.zones.length cz,.slice Al d.links.length cl] 26 :: .blk b2 [.slice none 0 0,.slice none 0 0,.slice none 0 0,.slice none 0 0] 32::Zr.map ZaG) O') ?_ ?_
 rotate_left
 ·rintro fr' O' ⟨A2,c2,m2,x2,Zr,⟨hm,hx,hzz⟩,hf,hO⟩
  replace hO:=SubO.permT (l:=[_,_,_,_,_,_,_,_]) hO ((List.reverse_perm Zr).symm.map ZaG)
  apply thenQ_n
  refine ZcH hf hO ?_
  clear hf hO fr' O'
  rw[<- List.length_reverse]at hm
  generalize Zr.reverse=Zs at *
  have hzl:=ZcC d.ns ZL ZL.length
  generalize ZbJ d.ns ZL ZL.length=ZS at *
  have hZl:Zs.length=ZL.length:=by rw[<- hzl,<- hzz,List.length_map]
  subst hm hx
  repeat (first|(apply RL_pu;rfl;exact Zhh)|(apply RD_Q;rfl;rfl;decide +kernel;rfl;rfl;exact QyMade232)|refine walk1 ?_|(refine jn ?_;(try intro F);(first|(refine bx ?_;intro bk)|(refine stA ?_)|(apply Zag;first|exact Zhh|exact PuA));first|refine⟨_,EndsA,QFMade232,?_⟩|refine fin ?_)|(apply RD_W;rfl;intro bk))
  rw[show(if (4:Int)<d.links.length then (4:Int) else d.links.length).toNat=(d.links.take 4).length from by rw[List.length_take];split <;> omega]
  have hL4:=hL.take 4
  have hr4:∀ x∈d.links.take 4,inR .u8 x:=fun x hx=>hrl x (List.mem_of_mem_take hx)
  have hl4:(d.links.take 4).length<=4:=by rw[List.length_take];omega
  generalize d.links.take 4=LL at *
  refine Zaq [(7,.slice Az' ZL.length cz'),(123,.slice Al LL.length cl),(124,.int .i64 LL.length),(1,.pointer (some ⟨b1,0,none⟩)),(2,.pointer (some ⟨b2,0,none⟩)),(3,.pointer (some ⟨b3,0,none⟩)),(4,.int .i64 d.ns)] (.row (.slice A2 Zs.length c2) 46 2 Zs.length (Zs.flatMap ZE.enc)::X::rowR A1 c1 RR::rowS none 0 [] :: .blk b1 [.slice As d.sets.length cs,.slice Az d.zones.length cz,.slice Al d.links.length cl] 26 :: .blk b2 [.slice none 0 0,.slice none 0 0,.slice none 0 0,.slice none 0 0] 32::Zs.map ZaG) (fun g:R3=>[(125,.int .i64 g.k)]) (fun g=>[.blk b3 [.slice A1 RR.length c1,.slice A2 Zs.length c2,.slice g.A g.m g.c,.slice none 0 0] 32,.row (.slice g.A g.m g.c) 69 2 g.m g.xs]) (fun g=>g.k<=LL.length/\g.m=(ZbM ZL.length LL g.k).length/\g.xs=(ZbM ZL.length LL g.k).flatMap Zbl.enc) (fun g=>LL.length - g.k) ⟨0,none,0,0,[]⟩ SFA STA ⟨Nat.zero_le _,by simp[ZbM],by simp[ZbM]⟩ ?_
  rintro⟨k,A3,c3,m3,x3⟩ ⟨hk,hm3,hx3⟩
  dsimp only at hk hm3 hx3 ⊢
  have hll:=ZdA ZL.length LL k
  rw[hll]at hm3
  repeat (first|refine Zbm ?_|(refine jn ?_;(try intro F);(refine bx ?_;intro bk);refine fin ?_)|(apply RD_W;rfl;intro bk))
  refine Zah rfl (fun h=>?_) (fun h=>?_)
  ·have hk2:k<LL.length:=by simpa using h
   obtain⟨hna,hca⟩:=hL4.rd _ _ (List.getElem?_eq_getElem hk2)
   have hv:=hr4 _ (List.getElem_mem hk2)
   have hstp:ZbM ZL.length LL (k+1)=ZbM ZL.length LL k++[Zh4 ZL.length LL[k] k]:=by
    rw[ZbM,List.getD_eq_getElem?_getD,List.getElem?_eq_getElem hk2]
    rfl
   rw[Zjf]at hv
   generalize LL[k]=v at *
   have g1:=Int.emod_nonneg v (b:=(ZL.length:Int)) (by omega)
   have g2:=Int.emod_lt_of_pos v (b:=(ZL.length:Int)) (by omega)
   have g3:=Int.emod_nonneg v (b:=(ZL.length:Int)+k) (by omega)
   have g4:=Int.emod_lt_of_pos v (b:=(ZL.length:Int)+k) (by omega)
   repeat (first|(apply RL_pu;rfl;exact ZoH)|(apply RD_Q;rfl;rfl;decide +kernel;rfl;rfl;exact QyMade233)|refine walk1 ?_|(refine jg ?_;(try intro F);(first|(refine Zae (fun w' _=>ZdC (v % (ZL.length:Int)) (by omega) (by omega) w') ?_)|(refine bx ?_;intro bk)|(refine stA ?_));first|refine⟨_,EndsA,QFMade233,?_⟩|refine fin ?_)|(refine jn ?_;(try intro F);(first|(refine bx ?_;intro bk)|(refine stA ?_)|(apply Zag;first|exact ZoH|exact PuA));first|refine⟨_,EndsA,QFMade233,?_⟩|refine fin ?_)|(apply RD_W;rfl;intro bk))
   refine Zah rfl (fun h2=>?_) (fun h2=>?_)
   ·have h2':=of_decide_eq_true h2
    have e:Zh4 ZL.length v k=⟨sL++dig (v % ((ZL.length:Int)+k) - ZL.length),sL++dig k⟩:=by rw[Zh4,if_pos h2']
    rw[e]at hstp
    repeat (first|(apply RL_pu;rfl;exact ZdL)|(apply RD_Q;rfl;rfl;decide +kernel;rfl;rfl;exact Zhc)|refine walk1 ?_|(refine jg ?_;(try intro F);(first|(refine Zae (fun w' _=>ZdC (v % ((ZL.length:Int)+k) - ZL.length) (by omega) (by omega) w') ?_)|(refine Zae (fun w' _=>ZdC k (by omega) (by omega) w') ?_)|(apply Zay (t:=29);rfl;rfl;(intro A' c';(focus repeat' constructor));(intro w' _ hO;exact Zbv (hO.of (by repeat' constructor)));rfl;rfl;(simp only[maxLen];omega);omega;intro A' c' hc1 hc2 hc3)|(refine bx ?_;intro bk)|(refine stA ?_));first|refine⟨_,EndsA,Zej,?_⟩|refine fin ?_)|(refine jn ?_;(try intro F);(first|(apply Zay (t:=29);rfl;rfl;(intro A' c';(focus repeat' constructor));(intro w' _ hO;exact Zbv (hO.of (by repeat' constructor)));rfl;rfl;(simp only[maxLen];omega);omega;intro A' c' hc1 hc2 hc3)|(refine bx ?_;intro bk)|(refine stA ?_)|(apply Zag;first|exact ZdL|exact PuA));first|refine⟨_,EndsA,Zej,?_⟩|refine fin ?_)|(apply RD_W;rfl;intro bk))
    exact⟨⟨k+1,A',c',m3+1,x3++(⟨sL++dig (v % ((ZL.length:Int)+k) - ZL.length),sL++dig k⟩:Zbl).enc⟩,OA,⟨OA,by rw[hstp,List.length_append,hll,hm3];rfl,by rw[hstp,List.flatMap_append,hx3];rfl⟩,SFA,STA⟩
   have h2':=of_decide_eq_false h2
   have e:Zh4 ZL.length v k=⟨sZ++dig (v % (ZL.length:Int)),sL++dig k⟩:=by rw[Zh4,if_neg h2']
   rw[e]at hstp
   repeat (first|(apply RL_pu;rfl;exact ZdL)|(apply RD_Q;rfl;rfl;decide +kernel;rfl;rfl;exact Zhc)|refine walk1 ?_|(refine jg ?_;(try intro F);(first|(refine Zae (fun w' _=>ZdC k (by omega) (by omega) w') ?_)|(apply Zay (t:=29);rfl;rfl;(intro A' c';(focus repeat' constructor));(intro w' _ hO;exact Zbv (hO.of (by repeat' constructor)));rfl;rfl;(simp only[maxLen];omega);omega;intro A' c' hc1 hc2 hc3)|(refine bx ?_;intro bk)|(refine stA ?_));first|refine⟨_,EndsA,Zej,?_⟩|refine fin ?_)|(refine jn ?_;(try intro F);(first|(apply Zay (t:=29);rfl;rfl;(intro A' c';(focus repeat' constructor));(intro w' _ hO;exact Zbv (hO.of (by repeat' constructor)));rfl;rfl;(simp only[maxLen];omega);omega;intro A' c' hc1 hc2 hc3)|(refine bx ?_;intro bk)|(refine stA ?_)|(apply Zag;first|exact ZdL|exact PuA));first|refine⟨_,EndsA,Zej,?_⟩|refine fin ?_)|(apply RD_W;rfl;intro bk))
   exact⟨⟨k+1,A',c',m3+1,x3++(⟨sZ++dig (v % (ZL.length:Int)),sL++dig k⟩:Zbl).enc⟩,OA,⟨OA,by rw[hstp,List.length_append,hll,hm3];rfl,by rw[hstp,List.flatMap_append,hx3];rfl⟩,SFA,STA⟩
  have hkl:k=LL.length:=by simp only[decide_eq_false_iff_not,Int.ofNat_lt]at h;omega
  rw[<- hkl]
  rw[<- hll]at hm3
  generalize ZbM ZL.length LL k=ls at *
  subst hm3 hx3
  repeat (first|refine Zbm ?_|(refine jn ?_;(try intro F);(refine bx ?_;intro bk);refine fin ?_)|(apply RD_W;rfl;intro bk))
  exact ret_1 (.agg #[.slice A1 RR.length c1,.slice A2 Zs.length c2,.slice A3 ls.length c3,.slice none 0 0]) (rowR A1 c1 RR::rowZ A2 c2 Zs::rowL A3 c3 ls::rowS none 0 []::Zs.map ZaG) (.cellB rfl (by repeat' constructor) rfl rfl) STA ⟨A1,c1,A2,c2,A3,c3,none,0,Zs,by simp[srcV,<- hzz],hzz,rfl⟩
 apply W_block
 refine Zha (fun g:Z3=>[(60,.int .i64 g.k),(58,.slice Az' ZL.length cz'),(59,.int .i64 ZL.length),(7,.slice Az' ZL.length cz'),(1,.pointer (some ⟨b1,0,none⟩)),(2,.pointer (some ⟨b2,0,none⟩)),(3,.pointer (some ⟨b3,0,none⟩)),(4,.int .i64 d.ns)]) (fun g => .blk b3 [.slice A1 RR.length c1,.slice g.A g.m g.c,.slice none 0 0,.slice none 0 0] 32 :: .row (.slice g.A g.m g.c) 46 2 g.m g.xs::X::rowR A1 c1 RR::rowL none 0 []::rowS none 0 [] :: .blk b1 [.slice As d.sets.length cs,.slice Az d.zones.length cz,.slice Al d.links.length cl] 26 :: .blk b2 [.slice none 0 0,.slice none 0 0,.slice none 0 0,.slice none 0 0] 32::g.Zr.map ZaG)
  (fun g=>g.k<=ZL.length/\g.m=g.Zr.length/\g.xs=g.Zr.reverse.flatMap ZE.enc/\g.Zr.reverse.map ZE.z=ZbJ d.ns ZL g.k) (fun g=>ZL.length - g.k) ⟨0,none,0,0,[],[]⟩ SFA SOA ⟨Nat.zero_le _,rfl,rfl,by simp[ZbJ]⟩ ?_
 rintro⟨k,A2,c2,m2,x2,Zr⟩ ⟨hk,hm,hx,hzz⟩
 dsimp only at hk hm hx hzz ⊢
 have hzl:=ZcC d.ns ZL k
 have hZl:Zr.length=k:=by rw[<- hzl,<- hzz,List.length_map,List.length_reverse]
 repeat (first|refine Zbm ?_|(refine jn ?_;(try intro F);(refine bx ?_;intro bk);refine fin ?_)|(apply RD_W;rfl;intro bk))
 refine Zah rfl (fun h=>?_) (fun h=>?_)
 ·have hk2:k<ZL.length:=by simpa using h
  have hkp:k<pl.length:=by rw[<- hpl,List.length_map]at hk2;exact hk2
  have hpk:pl[k]?=some pl[k]:=List.getElem?_eq_getElem hkp
  have hpm:pl[k]∈pl:=List.getElem_mem hkp
  obtain⟨pb1,pb2⟩:=hpb _ hpm
  have hlm:pl[k].l∈ZL:=by rw[<- hpl];exact List.mem_map.2 ⟨_,hpm,rfl⟩
  have hok:=hzok _ hlm
  have hstz:ZbJ d.ns ZL (k+1)=ZbJ d.ns ZL k++[ZqM d.ns k pl[k].l]:=by
   rw[ZbJ,List.getD_eq_getElem?_getD,<- hpl,List.getElem?_map,hpk]
   rfl
  generalize pl[k]=p at *
  obtain⟨l,B,cb⟩:=p
  dsimp only at *
  simp only[maxLen]at pb2
  generalize hT:Zr.map ZaG=T
  repeat (first|(apply RL_pu;rfl;exact ZoG)|(apply RD_Q;rfl;rfl;decide +kernel;rfl;rfl;exact QyMade234)|refine walk1 ?_|(refine jg ?_;(try intro F);(first|(refine Zae (fun w' _=>ZdC k (by omega) (by omega) w') ?_)|(refine bx ?_;intro bk)|(refine stA ?_));first|refine⟨_,EndsA,QFMade234,?_⟩|refine fin ?_)|(refine jn ?_;(try intro F);(first|(refine bx ?_;intro bk)|(refine stA ?_)|(apply Zag;first|exact ZoG|exact PuA));first|refine⟨_,EndsA,QFMade234,?_⟩|refine fin ?_)|(apply RD_W;rfl;intro bk))
  rw[show(if (4:Int)<l.length then (4:Int) else l.length).toNat=(l.take 4).length from by rw[List.length_take];split <;> omega]
  generalize bk=b10
  refine Zcw (fun fr' O'=>∃ (X2:It) (B2:Option Addr) (c4:Nat),(el23 l).length<=c4/\(∀ w',Bel w.heap.size w w'->X.sat w'->X2.sat w'->RdSl w' B2 c4 E23.enc 8 (el23 l))/\Sub [(9,.slice B2 (el23 l).length c4),(8,.int .i64 k),(10,.pointer (some ⟨b10,0,none⟩)),(60,.int .i64 k),(58,.slice Az' ZL.length cz'),(59,.int .i64 ZL.length),(7,.slice Az' ZL.length cz'),(1,.pointer (some ⟨b1,0,none⟩)),(2,.pointer (some ⟨b2,0,none⟩)),(3,.pointer (some ⟨b3,0,none⟩)),(4,.int .i64 d.ns)] fr'/\SubO (.blk b10 [.string (sZ++dig k),.slice none 0 0] 46::X2 :: .blk b3 [.slice A1 RR.length c1,.slice A2 m2 c2,.slice none 0 0,.slice none 0 0] 32 :: .row (.slice A2 m2 c2) 46 2 m2 x2::X::rowR A1 c1 RR::rowL none 0 []::rowS none 0 [] :: .blk b1 [.slice As d.sets.length cs,.slice Az d.zones.length cz,.slice Al d.links.length cl] 26 :: .blk b2 [.slice none 0 0,.slice none 0 0,.slice none 0 0,.slice none 0 0] 32::T) O') ?_ ?_
  ·refine Zah rfl (fun h2=>?_) (fun h2=>?_)
   ·have h0:l.length=0:=by
     have:=of_decide_eq_true h2
     rw[List.length_take]at this
     omega
    rw[show el23 l=[e23Z] from if_pos h0]
    repeat (first|refine Zbm ?_|(refine jn ?_;(try intro F);(refine bx ?_;intro bk);refine fin ?_)|(apply RD_W;rfl;intro bk))
    exact⟨rfl,.blk bk e23Z.enc _,some ⟨bk,0,none⟩,1,Nat.le_refl 1,fun w' _ _ hX2=>Zyl (c:=1) (l:=[e23Z]) E23.len (Nat.le_refl 1) (by decide) hX2,SFA,STA⟩
   ·have h0:l.length≠0:=by
     have:=of_decide_eq_false h2
     rw[List.length_take]at this
     omega
    rw[show el23 l=l.take 4 from if_neg h0]
    refine ZeM [] _ (fun _=>True) (.refl _) (fun _ _=>trivial) ?_
    repeat (first|refine Zbm ?_|(refine jn ?_;(try intro F);(refine bx ?_;intro bk);refine fin ?_)|(apply RD_W;rfl;intro bk))
    exact⟨rfl,.fact (foot []) (fun _=>True),B,cb,by rw[List.length_take];omega,fun w' hb hx1 _=>((hX w' hb hx1).rd k _ hpk).2.1.take 4,SFA,STA⟩
  rintro fr' O' ⟨X2,B2,c4,hc4,hX2,hf,hO⟩
  apply thenQ_n
  refine ZcH hf hO ?_
  clear hf hO fr' O'
  obtain⟨eb1,eb2⟩:=Zrz l
  have heok:∀ e∈el23 l,e.ok:=by
   intro e he
   unfold el23 at he
   split at he
   ·rw[List.mem_singleton.1 he];refine⟨?_,?_,?_,?_,?_,?_,?_,?_⟩ <;> first|exact Zjf.2 ⟨by decide,by decide⟩|exact ZzA.2 ⟨by decide,by decide⟩
   ·exact hok e (List.mem_of_mem_take he)
  rw[ZqM]at hstz
  generalize el23 l=EL at *
  repeat (first|refine Zbm ?_|(refine jn ?_;(try intro F);(refine bx ?_;intro bk);refine fin ?_)|(apply RD_W;rfl;intro bk))
  refine Zdj 54 13 ?_
  refine Zaq [(9,.slice B2 EL.length c4),(8,.int .i64 k),(10,.pointer (some ⟨b10,0,none⟩)),(60,.int .i64 k),(79,.slice B2 EL.length c4),(80,.int .i64 EL.length),(58,.slice Az' ZL.length cz'),(59,.int .i64 ZL.length),(7,.slice Az' ZL.length cz'),(1,.pointer (some ⟨b1,0,none⟩)),(2,.pointer (some ⟨b2,0,none⟩)),(3,.pointer (some ⟨b3,0,none⟩)),(4,.int .i64 d.ns)] (X2 :: .blk b3 [.slice A1 RR.length c1,.slice A2 m2 c2,.slice none 0 0,.slice none 0 0] 32 :: .row (.slice A2 m2 c2) 46 2 m2 x2::X::rowR A1 c1 RR::rowL none 0 []::rowS none 0 [] :: .blk b1 [.slice As d.sets.length cs,.slice Az d.zones.length cz,.slice Al d.links.length cl] 26 :: .blk b2 [.slice none 0 0,.slice none 0 0,.slice none 0 0,.slice none 0 0] 32::T) (fun g:E3=>[(81,.int .i64 g.k),(11,.int .i64 g.y)]) (fun g=>[.blk b10 [.string (sZ++dig k),.slice g.A g.m g.c] 46,.row (.slice g.A g.m g.c) 54 13 g.m g.xs])
   (fun g=>g.k<=EL.length/\g.y=(ZaY d.ns EL g.k).2/\g.m=(ZaY d.ns EL g.k).1.length/\g.xs=(ZaY d.ns EL g.k).1.flatMap DEra.enc) (fun g=>EL.length - g.k) ⟨0,1904,none,0,0,[]⟩ SFA STA ⟨Nat.zero_le _,by simp[ZaY],by simp[ZaY],by simp[ZaY]⟩ ?_
  rintro⟨j,y,A3,c3,m3,x3⟩ ⟨hj,hy,hm3,hx3⟩
  dsimp only at hj hy hm3 hx3 ⊢
  have hel:=ZfM d.ns EL j
  obtain⟨y1,y2⟩:=ZjE d.ns EL heok j
  rw[<- hy]at y1 y2
  have hm4:m3=j:=by rw[hm3,hel]
  repeat (first|refine Zbm ?_|(refine jn ?_;(try intro F);(refine bx ?_;intro bk);refine fin ?_)|(apply RD_W;rfl;intro bk))
  refine Zah rfl (fun h=>?_) (fun h=>?_)
  ·have hj2:j<EL.length:=by simpa using h
   have hge:EL[j]?=some EL[j]:=List.getElem?_eq_getElem hj2
   have heo:=heok _ (List.getElem_mem hj2)
   have hst:ZaY d.ns EL (j+1)=((ZaY d.ns EL j).1++[Zl1 EL[j] (decide ((j:Int)=0)) d.ns (y+(1+EL[j].years % 30)) (decide ((j:Int)<(EL.length:Int) - 1))],y+(1+EL[j].years % 30)):=by
    rw[ZaY,List.getD_eq_getElem?_getD,hge,<- hy]
    rfl
   generalize EL[j]=e at *
   obtain⟨k1,k2,k3,k4,k5,k6,k7,k8⟩:=id heo
   rw[Zjf]at k4
   repeat (first|(apply RL_pu;rfl;exact Zkc)|(apply RD_Q;rfl;rfl;decide +kernel;rfl;rfl;exact Zot)|refine walk1 ?_|(refine jg ?_;(try intro F);(first|(refine Zae (fun w' _=>Zte e heo (decide ((j:Int)=0)) d.ns (y+(1+e.years % 30)) (decide ((j:Int)<(EL.length:Int) - 1)) (by omega) (by omega) w') ?_)|(apply Zay (t:=44);rfl;rfl;(intro A' c';(focus repeat' constructor));(intro w' _ hO;exact Zbv (hO.of (by repeat' constructor)));rfl;rfl;(simp only[maxLen];omega);omega;intro A' c' hc1 hc2 hc3)|(refine bx ?_;intro bk)|(refine stA ?_));first|refine⟨_,EndsA,Zou,?_⟩|refine fin ?_)|(refine jn ?_;(try intro F);(first|(apply Zay (t:=44);rfl;rfl;(intro A' c';(focus repeat' constructor));(intro w' _ hO;exact Zbv (hO.of (by repeat' constructor)));rfl;rfl;(simp only[maxLen];omega);omega;intro A' c' hc1 hc2 hc3)|(refine bx ?_;intro bk)|(refine stA ?_)|(apply Zag;first|exact Zkc|exact PuA));first|refine⟨_,EndsA,Zou,?_⟩|refine fin ?_)|(apply RD_W;rfl;intro bk))
   exact⟨⟨j+1,y+(1+e.years % 30),A',c',m3+1,x3++(Zl1 e (decide ((j:Int)=0)) d.ns (y+(1+e.years % 30)) (decide ((j:Int)<(EL.length:Int) - 1))).enc⟩,OA,⟨OA,by rw[hst],by rw[hst,List.length_append,<- hm3];rfl,by rw[hst,List.flatMap_append,hx3];simp⟩,SFA,STA⟩
  have hjl:j=EL.length:=by simp only[decide_eq_false_iff_not,Int.ofNat_lt]at h;omega
  rw[<- hjl]at hstz
  generalize (ZaY d.ns EL j).1=es at *
  subst hm3 hx3
  repeat (first|refine walk ?_|(refine jn ?_;(try intro F);(first|(apply Zay (t:=28);rfl;rfl;(intro A' c';(focus repeat' constructor));(intro w' _ hO;exact Zbv (hO.of (by repeat' constructor)));rfl;rfl;(simp only[maxLen];omega);omega;intro A' c' hc1 hc2 hc3)|(refine bx ?_;intro bk)|(refine stA ?_)|(apply Zag;exact PuA));refine fin ?_)|(apply RD_W;rfl;intro bk))
  subst hT
  exact⟨⟨k+1,A',c',m2+1,x2++ZE.enc ⟨⟨sZ++dig k,es⟩,A3,c3⟩,⟨⟨sZ++dig k,es⟩,A3,c3⟩::Zr⟩,OA,⟨OA,by simp[hm],by simp[hx],by rw[hstz,<- hzz];simp⟩,SFA,STA⟩
 have hkz:k=ZL.length:=by simp only[decide_eq_false_iff_not,Int.ofNat_lt]at h;omega
 rw[hkz]at hzz
 repeat (first|refine Zbm ?_|(refine jn ?_;(try intro F);(refine bx ?_;intro bk);refine fin ?_)|(apply RD_W;rfl;intro bk))
 exact⟨rfl,A2,c2,m2,x2,Zr,⟨hm,hx,hzz⟩,SFA,STA⟩
end Go.Proofs.YtbjomhdhkpgbaaaGreatDoor
namespace Go.Proofs.YtbjomhdhkpgbaaaGreatDoor
open Go Go.RowKit Go.Wk
attribute [local irreducible] W RL Does Zar Zal retQ Calls Pu Stp RD Qy Ay Zak
end Go.Proofs.YtbjomhdhkpgbaaaGreatDoor
namespace Go.Proofs.YtbjomhdhkpgbaaaGreatDoor
open Go Go.RowKit Go.Wk
attribute [local irreducible] W RL Does Zar Zal retQ Calls Pu Stp RD Qy Ay
structure SE (α:Type) where
 l:List α
 A:Option Addr
 c:Nat
def SE.enc {α:Type}(q:SE α):List Value:=[.slice q.A q.l.length q.c]
end Go.Proofs.YtbjomhdhkpgbaaaGreatDoor
namespace Go.Proofs.YtbjomhdhkpgbaaaGreatDoor
open Go Go.RowKit Go.Wk
theorem Zdg (x:ByteArray):∀ l:List ByteArray,memB x l=true↔x∈l
 | []=>by simp[memB]
 | y::l=>by
  simp only[memB,Bool.or_eq_true,decide_eq_true_eq,Zdg x l,List.mem_cons]
  constructor
  ·rintro(h|h)
   ·exact .inl h.symm
   ·exact .inr h
  ·rintro(h|h)
   ·exact .inl h.symm
   ·exact .inr h
theorem Zhx (x:ByteArray):∀ (l:List Zab) (acc:List ByteArray),x∈ZaS l acc↔x∈acc\/∃ r∈l,r.name=x
 | [],acc=>by simp[ZaS]
 | r::l,acc=>by
  simp only[ZaS]
  split
  ·rename_i h
   rw[Zhx x l acc]
   have hm:=(Zdg r.name acc).1 h
   constructor
   ·rintro(h|⟨q,h1,h2⟩)
    ·exact .inl h
    ·exact .inr ⟨q,List.mem_cons_of_mem _ h1,h2⟩
   ·rintro(h|⟨q,h1,h2⟩)
    ·exact .inl h
    ·rcases List.mem_cons.1 h1 with rfl|h1
     ·exact .inl (h2▸hm)
     ·exact .inr ⟨q,h1,h2⟩
  ·rw[Zhx x l _]
   constructor
   ·rintro(h|⟨q,h1,h2⟩)
    ·rcases List.mem_append.1 h with h|h
     ·exact .inl h
     ·exact .inr ⟨r,List.mem_cons_self,(List.mem_singleton.1 h).symm⟩
    ·exact .inr ⟨q,List.mem_cons_of_mem _ h1,h2⟩
   ·rintro(h|⟨q,h1,h2⟩)
    ·exact .inl (List.mem_append_left _ h)
    ·rcases List.mem_cons.1 h1 with rfl|h1
     ·exact .inl (List.mem_append_right _ (List.mem_singleton.2 h2.symm))
     ·exact .inr ⟨q,h1,h2⟩
theorem ZcY:∀ (l:List Zab)(acc:List ByteArray),acc.Nodup->(ZaS l acc).Nodup
 | [],_,h=>h
 | r::l,acc,h=>by
  rw[ZaS]
  split
  ·exact ZcY l acc h
  ·rename_i hn
   refine ZcY l _ (List.nodup_append.2 ⟨h,by simp,fun x hx y hy he=>?_⟩)
   rw[List.mem_singleton.1 hy]at he
   exact hn ((Zdg _ _).2 (he▸hx))
theorem Zi6 (d:DD23):1<=(Zai d).zones.length:=by
 rw[Zai]
 dsimp only
 rw[ZcC]
 exact(ZdN d.zones).1
end Go.Proofs.YtbjomhdhkpgbaaaGreatDoor
