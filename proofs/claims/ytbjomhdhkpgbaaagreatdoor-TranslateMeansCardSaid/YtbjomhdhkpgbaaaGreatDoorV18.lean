/- Parts of the proof. -/
import Derived.Test.YtbjomhdhkpgbaaaGreatDoorV17
import Derived.Test.YtbjomhdhkpgbaaaGreatDoorV16
import Derived.Test.YtbjomhdhkpgbaaaGreatDoorV09
import Derived.Test.YtbjomhdhkpgbaaaGreatDoorV11
import Derived.Test.YtbjomhdhkpgbaaaGreatDoorV06
set_option maxHeartbeats 4000000
set_option linter.unusedVariables false
set_option linter.unusedSimpArgs false
set_option maxHeartbeats 4000000
set_option maxRecDepth 20000
namespace Go.Proofs.YtbjomhdhkpgbaaaGreatDoor
open Go Go.RowKit Go.Wk
attribute [local irreducible] W RL Does Zar Zal retQ Calls Pu Stp RD Qy Ay Zak RLI WI
abbrev fiO (A:Option Addr)(c:Nat)(n:Nat)(all:Bool)(but:Int)(b3 b4 b5 b6 b8 b9 ll D:Nat)(r:Loop)(s:Option Zaf):List It :=
 [Za1 ll r,ZbC D,.blk b3 [.slice A n c] 27,.blk b4 [.bool all] 4,.blk b5 [.int .i64 but] 2,.blk b6 [.int .i64 0,.int .i64 0,.int .i64 0] 170,.blk b8 (evC s) 170,.blk b9 [.bool s.isSome] 4]
theorem ZDh (o:Option Zaf):evV o = .agg (evC o).toArray:=by cases o <;> rfl
theorem ZvL (o:Option Zaf):(evC o).length=3:=by cases o <;> rfl
def fiR (o:Option Zaf)(wr:World):Ending->World->Prop:=fun e w'=>∃ v O',e = .returned v/\Bel wr.heap.size wr w'/\Zau wr.heap.size O' w'/\(v = .tuple #[evV o,.bool o.isSome]/\O'=[])
theorem ZyK (o:Option Zaf)(wr:World){a:Act}{w':World}{D b6:Nat}(hs:St 39 wr [(6,.pointer (some ⟨b6,0,none⟩)),(7,.bool o.isSome)] [ZbC D,.blk b6 (evC o) 170] a w') :
  bodyPostM Fence.wide 0 Tryz.prog Tryz.f269 (fiR o wr) .ret (actD (ZdX D) a) w':=by
 have hK:=ZbC.at (hs.own.sat _ List.mem_cons_self)
 have hs2:=Zil hs
 refine⟨by simp,.inl ⟨_,_,rfl,run_takeDeferred hK,?_⟩⟩
 refine⟨.tuple #[evV o,.bool o.isSome],?_,_,[],rfl,hs2.old,hs2.own.sub .nil,rfl,rfl⟩
 have hres:Tryz.f269.results=[ResultVar.cell 6 170,ResultVar.tmp 7].toArray:=rfl
 show(results Tryz.f269 a.tmps).run Tryz.prog _=_
 unfold results
 rw[hres,List.mapM_toArray]
 simp only[Sem.run_bind,Sem.run_map]
 rw[ZbT (P:=Tryz.prog) hs2 _ (fun _=>rfl) (fun _ _=>rfl) [ResultVar.cell 6 170,ResultVar.tmp 7] [.agg (evC o).toArray,.bool o.isSome] ⟨_,_,rfl,.cellB (sz:=3) rfl .here (by rw[List.take_of_length_le (by rw[ZvL];exact Nat.le_refl 3)]) (ZvL o),_,[],rfl,rfl,rfl⟩]
 simp only[Result.andThen_ok,Sem.run_pure]
 rw[ZDh]
 rfl
theorem ZoE {G:Prop}(h:G:=by(first|exact PuI|(apply Pu_loadO1;rfl;exact hca 9 _ rfl))):G:=h
theorem ZCQ {G:Prop}(h:G:=by first|(apply Qy_y;rfl;exact ZoE)|exact QyA):G:=h
theorem Zsb {G:Prop}(h:G:=by(first|exact ZoE|(apply ZaA;rfl;rfl;exact q1))):G:=h
theorem ZCP {G:Prop}(h:G:=by first|(apply Qy_y;rfl;exact Zsb)|exact QyA):G:=h
theorem ZtN {G G':Prop}(k:G')(h:Hold G'->G:=by intro k9;(first|(apply RL_pu;rfl;exact Zsb)|(apply RD_Q;rfl;rfl;decide +kernel;rfl;rfl;exact ZCP)|refine walk1 ?_|(refine jn ?_;(try intro F);(first|(refine stA ?_)|(apply Zag;first|exact Zsb|exact PuA));first|refine⟨_,EndsA,QFStI1,?_⟩|refine fin ?_));exact k9.out):G:=h ⟨k⟩
theorem ZoD {G:Prop}(h:G:=by(first|exact ZoE|(apply ZeP;rfl;rfl;exact q2))):G:=h
theorem ZzO {G:Prop}(h:G:=by first|(apply Qy_y;rfl;exact ZoD)|exact QyA):G:=h
theorem ZoC {G:Prop}(h:G:=by(first|exact Zsb|(apply ZeP;rfl;rfl;exact q2))):G:=h
theorem ZzN {G:Prop}(h:G:=by first|(apply Qy_y;rfl;exact ZoC)|exact QyA):G:=h
theorem Zs8 (A:Option Addr)(c:Nat)(l:List Zab)(all:Bool)(but:Int)(wr:World)(hG:Glob wr)(hA:RdSl wr A c Zab.enc 11 l)(hn:l.length<=1000000)(hR:∀ r∈l,-4611686018427387904<=r.save/\r.save<=4611686018427387904)(hF:∀ r∈l,r.from_<=4611686018427387904) :
  Zak Tryz.prog 269 [.slice A l.length c,.bool all,.int .i64 but] wr [] (fun v O=>v = .tuple #[evV (fstD l all but),.bool (fstD l all but).isSome]/\O=[]):=by
 unfold Zak
 intro w0 hB0 hH0
 refine Zie Tryz.func269 rfl rfl rfl hB0 hH0 ?_
 intro a0 hst
 -- Zaa Tryz.func269
 refine ZdW (fun fr' O'=>∃ b3 b4 b5 b6,Sub [(3,.pointer (some ⟨b3,0,none⟩)),(4,.pointer (some ⟨b4,0,none⟩)),(5,.pointer (some ⟨b5,0,none⟩)),(6,.pointer (some ⟨b6,0,none⟩))] fr'/\SubO [.blk b3 [.slice A l.length c] 27,.blk b4 [.bool all] 4,.blk b5 [.int .i64 but] 2,.blk b6 [.int .i64 0,.int .i64 0,.int .i64 0] 170] O') ?_ ?_ a0 w0 hst
 ·repeat (first|refine walk ?_|(refine jn ?_;(try intro F);(first|(refine bx ?_;intro bk)|(refine stA ?_)|(apply Zag;exact PuA));refine fin ?_)|(apply RD_W;rfl;intro bk))
  rename_i b3 b4 b5
  exact⟨rfl,b3,b4,b5,bk,SFA,SOA⟩
 rintro a1 w1 fr1 O1 hs0 ⟨b3,b4,b5,b6,hf1,hO1⟩
 have hs1:=hs0.sub hf1 hO1
 clear hf1 hO1 hs0 hst a0 fr1 O1
 refine ZdW (fun fr' O'=>∃ b8,Sub [(3,.pointer (some ⟨b3,0,none⟩)),(4,.pointer (some ⟨b4,0,none⟩)),(5,.pointer (some ⟨b5,0,none⟩)),(6,.pointer (some ⟨b6,0,none⟩)),(8,.pointer (some ⟨b8,0,none⟩))] fr'/\SubO [.blk b3 [.slice A l.length c] 27,.blk b4 [.bool all] 4,.blk b5 [.int .i64 but] 2,.blk b6 [.int .i64 0,.int .i64 0,.int .i64 0] 170,.blk b8 [.int .i64 0,.int .i64 0,.int .i64 0] 170] O') ?_ ?_ a1 w1 hs1
 ·repeat (first|refine walk ?_|(refine jn ?_;(try intro F);(first|(refine bx ?_;intro bk)|(refine stA ?_)|(apply Zag;exact PuA));refine fin ?_)|(apply RD_W;rfl;intro bk))
  exact⟨rfl,bk,SFA,SOA⟩
 rintro a2 w2 fr2 O2 hs0 ⟨b8,hf1,hO1⟩
 have hs2:=hs0.sub hf1 hO1
 clear hf1 hO1 hs0 hs1 a1 fr2 O2
 refine ZdW (fun fr' O'=>∃ b9,Sub [(3,.pointer (some ⟨b3,0,none⟩)),(4,.pointer (some ⟨b4,0,none⟩)),(5,.pointer (some ⟨b5,0,none⟩)),(6,.pointer (some ⟨b6,0,none⟩)),(8,.pointer (some ⟨b8,0,none⟩)),(9,.pointer (some ⟨b9,0,none⟩))] fr'/\SubO [.blk b3 [.slice A l.length c] 27,.blk b4 [.bool all] 4,.blk b5 [.int .i64 but] 2,.blk b6 [.int .i64 0,.int .i64 0,.int .i64 0] 170,.blk b8 [.int .i64 0,.int .i64 0,.int .i64 0] 170,.blk b9 [.bool false] 4] O') ?_ ?_ a2 w2 hs2
 ·repeat (first|refine walk ?_|(refine jn ?_;(try intro F);(first|(refine bx ?_;intro bk)|(refine stA ?_)|(apply Zag;exact PuA));refine fin ?_)|(apply RD_W;rfl;intro bk))
  exact⟨rfl,bk,SFA,SOA⟩
 rintro a3 w3 fr3 O3 hs0 ⟨b9,hf1,hO1⟩
 have hs3:=hs0.sub hf1 hO1
 clear hf1 hO1 hs0 hs2 a2 fr3 O3
 refine wp_seq ?_
 refine ZdW (fun fr' O'=>∃ bl,Sub [(3,.pointer (some ⟨b3,0,none⟩)),(4,.pointer (some ⟨b4,0,none⟩)),(5,.pointer (some ⟨b5,0,none⟩)),(6,.pointer (some ⟨b6,0,none⟩)),(8,.pointer (some ⟨b8,0,none⟩)),(9,.pointer (some ⟨b9,0,none⟩)),(12,.func (.func 283) #[] #[.pointer (some ⟨bl,0,none⟩)])] fr'/\SubO [.blk bl [.slice A l.length c] 27,.blk b3 [.slice A l.length c] 27,.blk b4 [.bool all] 4,.blk b5 [.int .i64 but] 2,.blk b6 [.int .i64 0,.int .i64 0,.int .i64 0] 170,.blk b8 [.int .i64 0,.int .i64 0,.int .i64 0] 170,.blk b9 [.bool false] 4] O') ?_ ?_ a3 w3 hs3
 ·repeat (first|refine walk ?_|(refine jg ?_;(try intro F);(first|(apply Zad (h:=fun w' _ _=>ZpN A l.length c w');rfl;rintro v O' ⟨bl,rfl,rfl⟩)|(refine bx ?_;intro bk)|(refine stA ?_));refine fin ?_)|(refine jn ?_;(try intro F);(first|(refine bx ?_;intro bk)|(refine stA ?_)|(apply Zag;exact PuA));refine fin ?_)|(apply RD_W;rfl;intro bk))
  exact⟨rfl,bl,SFA,SOA⟩
 rintro a4 w4 fr4 O4 hs0 ⟨bl,hf1,hO1⟩
 have hs4:=hs0.sub hf1 hO1
 clear hf1 hO1 hs0 hs3 a3 fr4 O4
 refine wp_block ?_
 refine Zim (gf:=283) (lb:=[.pointer (some ⟨bl,0,none⟩)]) (fun jump O2=>jump=none/\SubO [.blk b6 [.int .i64 0,.int .i64 0,.int .i64 0] 170,.blk b8 (evC (fstD l all but)) 170,.blk b9 [.bool (fstD l all but).isSome] 4] O2) hs4 rfl ?_ ?_
 ·intro fn ll D
  generalize hr:ZfW fn a4.tmps 13 _ _ D=r
  have hit:=ZnP ll bl A c l (fun s=>fiO A c l.length all but b3 b4 b5 b6 b8 b9 ll D r s) (fun d s=>s=d.foldl (fstB l all but) none) wr none rfl hG hA hn hR hF ?_
  ·refine hit.sub SOA fun v O' ⟨_,s,h1,h6⟩=>?_
   subst h1
   exact⟨none,_,.ready,SubO.trans (by rw[<- hr];exact SOA) h6,by decide,rfl,.refl _⟩
  ·rintro d ⟨ey,er,en⟩ s X Y ⟨k,ru,hk,her⟩ hs
   dsimp only at her
   subst her
   have hkl:k<l.length:=(List.getElem?_eq_some_iff.1 hk).1
   have hrE:ruE l ⟨ey,k,en⟩=ru:=ZqY (by dsimp only;exact hk)
   obtain⟨hna,hca⟩:=hA.rd k _ hk
   have hle:=hA.le
   have hcp:=hA.cap
   simp only[maxLen]at hcp
   obtain⟨s2,hs2⟩:∃ s2,fstB l all but s ⟨ey,k,en⟩=s2:=⟨_,rfl⟩
   have hfold:s2=(d++[(⟨ey,k,en⟩:Zaf)]).foldl (fstB l all but) none:=by rw[List.foldl_append,<- hs,<- hs2];rfl
   unfold fstB at hs2
   rw[hrE]at hs2
   refine Zls (r:=r) (p:=13) (fr:=[(3,.pointer (some ⟨b3,0,none⟩)),(4,.pointer (some ⟨b4,0,none⟩)),(5,.pointer (some ⟨b5,0,none⟩)),(6,.pointer (some ⟨b6,0,none⟩)),(8,.pointer (some ⟨b8,0,none⟩)),(9,.pointer (some ⟨b9,0,none⟩))]) (a0:=a4) (by rw[<- hr];rfl) (by rw[<- hr];rfl) (by rw[<- hr];rfl) (hs4.sim.sub SFA) rfl (by simp) (by rw[<- hr];rfl) ?_
   dsimp only[Zaf.enc]
   apply ZbH (Or.inr ⟨_,rfl⟩);(intro d hd;cases hd;rfl);(intro c h;cases h);(intro a w hs;exact Zc9 rfl w)
   apply Stp_alloc;intro b10
   apply ZbH (Or.inr ⟨_,rfl⟩);(intro d hd;cases hd);(intro c h;cases h);(intro a w hs;exact Zc9 rfl w)
   (apply Stp_storeNf;rfl;rfl;(focus repeat' constructor);(focus repeat (first|exact Nf.nil|apply Nf.cons));rfl;rfl;rfl;(focus repeat' constructor))
   refine Za0 ?_
   refine⟨_,(by repeat' constructor),?_⟩
   have hbody:∀ Q fr O,(∀ b:Code,b=r.body->WI (Fence.wide.inRound ll) [] Tryz.prog 39 wr b Q fr O)->WI (Fence.wide.inRound ll) [] Tryz.prog 39 wr r.body Q fr O:=fun Q fr O h=>h _ rfl
   refine hbody _ _ _ fun b hb=>?_
   rw[<- hr]at hb
   dsimp only[ZfW]at hb
   subst hb
   refine Zdk (ZbP (ZbP (Zwo (Or.inr ⟨_,rfl⟩) rfl (by decide +kernel) rfl ?_)))
   rcases s with _|⟨by_,br,bn⟩
   ·cases all with
    | true =>
     obtain rfl:some ⟨ey,k,en⟩=s2:=by rw[<- hs2];rfl
     clear hs2
     dsimp only[fiO,evC,Zaf.enc,dEv0,Option.isSome]
     repeat (first|(apply RL_pu;rfl;exact ZoE)|(apply RD_Q;rfl;rfl;decide +kernel;rfl;rfl;exact ZCQ)|refine walk1 ?_|(refine jn ?_;(try intro F);(first|(refine bx ?_;intro bk)|(refine stA ?_)|(apply Zag;first|exact ZoE|exact PuA));first|refine⟨_,EndsA,QFStI0,?_⟩|refine fin ?_)|(apply RD_W;rfl;intro bk))
     refine ZbW rfl (fun h=>(by cases h)) (fun h=>?_)
     refine Zfw ?_
     apply thenQ_n
     refine Zbb ?_
     apply Za9 (Or.inr ⟨_,rfl⟩);rfl;(intro c h;cases h);(apply Pu_loadNf;rfl;(focus repeat' constructor);exact NfA;rfl)
     apply ZbH (Or.inr ⟨_,rfl⟩);(intro d hd;cases hd);(intro c h;cases h);(intro a w hs;exact Zc9 rfl w)
     (apply Stp_storeNf;rfl;rfl;(focus repeat' constructor);(focus repeat (first|exact Nf.nil|apply Nf.cons));rfl;rfl;rfl;(focus repeat' constructor))
     apply ZbH (Or.inr ⟨_,rfl⟩);(intro d hd;cases hd);(intro c h;cases h);(intro a w hs;exact Zc9 rfl w)
     (apply Stp_storeNf;rfl;rfl;(focus repeat' constructor);(focus repeat (first|exact Nf.nil|apply Nf.cons));rfl;rfl;rfl;(focus repeat' constructor))
     refine Za0 ?_
     refine blockQ_n ?_
     refine⟨_,(by repeat' constructor),rfl,some ⟨ey,k,en⟩,hfold,?_⟩
     dsimp only[fiO,evC,Zaf.enc,dEv0,Option.isSome]
     rw[<- hr]
     exact SOA
    | false =>
     by_cases hsv:ru.save=but
     ·have q1:decide (ru.save=but)=true:=decide_eq_true hsv
      obtain rfl:none=s2:=by rw[<- hs2,q1];rfl
      clear hs2
      dsimp only[fiO,evC,Zaf.enc,dEv0,Option.isSome]
      repeat (first|refine ZtN ?_|(refine jn ?_;(try intro F);(refine bx ?_;intro bk);first|refine⟨_,EndsA,QFStI1,?_⟩|refine fin ?_)|(apply RD_W;rfl;intro bk))
      refine ZbW rfl (fun h=>?_) (fun h=>(by cases h))
      refine Zj3 ?_
      apply thenQ_e
      apply blockQ_hit
      refine⟨_,(by repeat' constructor),rfl,none,hfold,?_⟩
      dsimp only[fiO,evC,Zaf.enc,dEv0,Option.isSome]
      rw[<- hr]
      exact SOA
     ·have q1:decide (ru.save=but)=false:=decide_eq_false hsv
      obtain rfl:some ⟨ey,k,en⟩=s2:=by rw[<- hs2,q1];rfl
      clear hs2
      dsimp only[fiO,evC,Zaf.enc,dEv0,Option.isSome]
      repeat (first|refine ZtN ?_|(refine jn ?_;(try intro F);(refine bx ?_;intro bk);first|refine⟨_,EndsA,QFStI1,?_⟩|refine fin ?_)|(apply RD_W;rfl;intro bk))
      refine ZbW rfl (fun h=>(by cases h)) (fun h=>?_)
      refine Zfw ?_
      apply thenQ_n
      refine Zbb ?_
      apply Za9 (Or.inr ⟨_,rfl⟩);rfl;(intro c h;cases h);(apply Pu_loadNf;rfl;(focus repeat' constructor);exact NfA;rfl)
      apply ZbH (Or.inr ⟨_,rfl⟩);(intro d hd;cases hd);(intro c h;cases h);(intro a w hs;exact Zc9 rfl w)
      (apply Stp_storeNf;rfl;rfl;(focus repeat' constructor);(focus repeat (first|exact Nf.nil|apply Nf.cons));rfl;rfl;rfl;(focus repeat' constructor))
      apply ZbH (Or.inr ⟨_,rfl⟩);(intro d hd;cases hd);(intro c h;cases h);(intro a w hs;exact Zc9 rfl w)
      (apply Stp_storeNf;rfl;rfl;(focus repeat' constructor);(focus repeat (first|exact Nf.nil|apply Nf.cons));rfl;rfl;rfl;(focus repeat' constructor))
      refine Za0 ?_
      refine blockQ_n ?_
      refine⟨_,(by repeat' constructor),rfl,some ⟨ey,k,en⟩,hfold,?_⟩
      dsimp only[fiO,evC,Zaf.enc,dEv0,Option.isSome]
      rw[<- hr]
      exact SOA
   ·cases all with
    | true =>
     by_cases hle2:bn<=en
     ·have q2:decide (bn<=en)=true:=decide_eq_true hle2
      obtain rfl:some ⟨by_,br,bn⟩=s2:=by rw[<- hs2];simp[hle2]
      clear hs2
      dsimp only[fiO,evC,Zaf.enc,dEv0,Option.isSome]
      repeat (first|(apply RL_pu;rfl;exact ZoD)|(apply RD_Q;rfl;rfl;decide +kernel;rfl;rfl;exact ZzO)|refine walk1 ?_|(refine jn ?_;(try intro F);(first|(refine bx ?_;intro bk)|(refine stA ?_)|(apply Zag;first|exact ZoD|exact PuA));first|refine⟨_,EndsA,QFStI2,?_⟩|refine fin ?_)|(apply RD_W;rfl;intro bk))
      refine ZbW rfl (fun h=>?_) (fun h=>(by cases h))
      refine Zj3 ?_
      apply thenQ_e
      apply blockQ_hit
      refine⟨_,(by repeat' constructor),rfl,some ⟨by_,br,bn⟩,hfold,?_⟩
      dsimp only[fiO,evC,Zaf.enc,dEv0,Option.isSome]
      rw[<- hr]
      exact SOA
     ·have q2:decide (bn<=en)=false:=decide_eq_false hle2
      obtain rfl:some ⟨ey,k,en⟩=s2:=by rw[<- hs2];simp[hle2]
      clear hs2
      dsimp only[fiO,evC,Zaf.enc,dEv0,Option.isSome]
      repeat (first|(apply RL_pu;rfl;exact ZoD)|(apply RD_Q;rfl;rfl;decide +kernel;rfl;rfl;exact ZzO)|refine walk1 ?_|(refine jn ?_;(try intro F);(first|(refine bx ?_;intro bk)|(refine stA ?_)|(apply Zag;first|exact ZoD|exact PuA));first|refine⟨_,EndsA,QFStI2,?_⟩|refine fin ?_)|(apply RD_W;rfl;intro bk))
      refine ZbW rfl (fun h=>(by cases h)) (fun h=>?_)
      refine Zfw ?_
      apply thenQ_n
      refine Zbb ?_
      apply Za9 (Or.inr ⟨_,rfl⟩);rfl;(intro c h;cases h);(apply Pu_loadNf;rfl;(focus repeat' constructor);exact NfA;rfl)
      apply ZbH (Or.inr ⟨_,rfl⟩);(intro d hd;cases hd);(intro c h;cases h);(intro a w hs;exact Zc9 rfl w)
      (apply Stp_storeNf;rfl;rfl;(focus repeat' constructor);(focus repeat (first|exact Nf.nil|apply Nf.cons));rfl;rfl;rfl;(focus repeat' constructor))
      apply ZbH (Or.inr ⟨_,rfl⟩);(intro d hd;cases hd);(intro c h;cases h);(intro a w hs;exact Zc9 rfl w)
      (apply Stp_storeNf;rfl;rfl;(focus repeat' constructor);(focus repeat (first|exact Nf.nil|apply Nf.cons));rfl;rfl;rfl;(focus repeat' constructor))
      refine Za0 ?_
      refine blockQ_n ?_
      refine⟨_,(by repeat' constructor),rfl,some ⟨ey,k,en⟩,hfold,?_⟩
      dsimp only[fiO,evC,Zaf.enc,dEv0,Option.isSome]
      rw[<- hr]
      exact SOA
    | false =>
     by_cases hsv:ru.save=but
     ·have q1:decide (ru.save=but)=true:=decide_eq_true hsv
      obtain rfl:some ⟨by_,br,bn⟩=s2:=by rw[<- hs2,q1];rfl
      clear hs2
      dsimp only[fiO,evC,Zaf.enc,dEv0,Option.isSome]
      repeat (first|refine ZtN ?_|(refine jn ?_;(try intro F);(refine bx ?_;intro bk);first|refine⟨_,EndsA,QFStI1,?_⟩|refine fin ?_)|(apply RD_W;rfl;intro bk))
      refine ZbW rfl (fun h=>?_) (fun h=>(by cases h))
      refine Zj3 ?_
      apply thenQ_e
      apply blockQ_hit
      refine⟨_,(by repeat' constructor),rfl,some ⟨by_,br,bn⟩,hfold,?_⟩
      dsimp only[fiO,evC,Zaf.enc,dEv0,Option.isSome]
      rw[<- hr]
      exact SOA
     ·have q1:decide (ru.save=but)=false:=decide_eq_false hsv
      by_cases hle2:bn<=en
      ·have q2:decide (bn<=en)=true:=decide_eq_true hle2
       obtain rfl:some ⟨by_,br,bn⟩=s2:=by rw[<- hs2];simp[hsv,hle2]
       clear hs2
       dsimp only[fiO,evC,Zaf.enc,dEv0,Option.isSome]
       repeat (first|(apply RL_pu;rfl;exact ZoC)|(apply RD_Q;rfl;rfl;decide +kernel;rfl;rfl;exact ZzN)|refine walk1 ?_|(refine jn ?_;(try intro F);(first|(refine bx ?_;intro bk)|(refine stA ?_)|(apply Zag;first|exact ZoC|exact PuA));first|refine⟨_,EndsA,QFStI3,?_⟩|refine fin ?_)|(apply RD_W;rfl;intro bk))
       refine ZbW rfl (fun h=>?_) (fun h=>(by cases h))
       refine Zj3 ?_
       apply thenQ_e
       apply blockQ_hit
       refine⟨_,(by repeat' constructor),rfl,some ⟨by_,br,bn⟩,hfold,?_⟩
       dsimp only[fiO,evC,Zaf.enc,dEv0,Option.isSome]
       rw[<- hr]
       exact SOA
      ·have q2:decide (bn<=en)=false:=decide_eq_false hle2
       obtain rfl:some ⟨ey,k,en⟩=s2:=by rw[<- hs2];simp[hsv,hle2]
       clear hs2
       dsimp only[fiO,evC,Zaf.enc,dEv0,Option.isSome]
       repeat (first|(apply RL_pu;rfl;exact ZoC)|(apply RD_Q;rfl;rfl;decide +kernel;rfl;rfl;exact ZzN)|refine walk1 ?_|(refine jn ?_;(try intro F);(first|(refine bx ?_;intro bk)|(refine stA ?_)|(apply Zag;first|exact ZoC|exact PuA));first|refine⟨_,EndsA,QFStI3,?_⟩|refine fin ?_)|(apply RD_W;rfl;intro bk))
       refine ZbW rfl (fun h=>(by cases h)) (fun h=>?_)
       refine Zfw ?_
       apply thenQ_n
       refine Zbb ?_
       apply Za9 (Or.inr ⟨_,rfl⟩);rfl;(intro c h;cases h);(apply Pu_loadNf;rfl;(focus repeat' constructor);exact NfA;rfl)
       apply ZbH (Or.inr ⟨_,rfl⟩);(intro d hd;cases hd);(intro c h;cases h);(intro a w hs;exact Zc9 rfl w)
       (apply Stp_storeNf;rfl;rfl;(focus repeat' constructor);(focus repeat (first|exact Nf.nil|apply Nf.cons));rfl;rfl;rfl;(focus repeat' constructor))
       apply ZbH (Or.inr ⟨_,rfl⟩);(intro d hd;cases hd);(intro c h;cases h);(intro a w hs;exact Zc9 rfl w)
       (apply Stp_storeNf;rfl;rfl;(focus repeat' constructor);(focus repeat (first|exact Nf.nil|apply Nf.cons));rfl;rfl;rfl;(focus repeat' constructor))
       refine Za0 ?_
       refine blockQ_n ?_
       refine⟨_,(by repeat' constructor),rfl,some ⟨ey,k,en⟩,hfold,?_⟩
       dsimp only[fiO,evC,Zaf.enc,dEv0,Option.isSome]
       rw[<- hr]
       exact SOA
 ·rintro jump O2 D w5 ⟨rfl,hsub⟩ hs6
  obtain⟨res,hres⟩:∃ res,fstD l all but=res:=⟨_,rfl⟩
  rw[hres]at hsub ⊢
  have hs5:St 39 wr [(6,.pointer (some ⟨b6,0,none⟩)),(8,.pointer (some ⟨b8,0,none⟩)),(9,.pointer (some ⟨b9,0,none⟩))] [ZbC D,.blk b6 [.int .i64 0,.int .i64 0,.int .i64 0] 170,.blk b8 (evC res) 170,.blk b9 [.bool res.isSome] 4] a4 w5:=hs6.sub SFA (.cons .here hsub)
  have key:∀ c' Q' Q3,WI Fence.wide (ZdX D) Tryz.prog 39 wr c' Q' [(6,.pointer (some ⟨b6,0,none⟩)),(8,.pointer (some ⟨b8,0,none⟩)),(9,.pointer (some ⟨b9,0,none⟩))] [ZbC D,.blk b6 [.int .i64 0,.int .i64 0,.int .i64 0] 170,.blk b8 (evC res) 170,.blk b9 [.bool res.isSome] 4]->(∀ e a' w',ZpD (ZdX D) 39 wr Q' e a' w'->Q3 e a' w')->c'.wp Tryz.prog Q3 (actD (ZdX D) a4) w5:=fun c' Q' Q3 h hq=>(wpIn_wide (n:=0)).1 (wpIn_mono (h.at hs5) hq)
  show(Code.seq _ _).wp _ _ _ _
  refine key _ (fun e fr O=>e = .ret/\Sub [(6,.pointer (some ⟨b6,0,none⟩)),(7,.bool res.isSome)] fr/\SubO [ZbC D,.blk b6 (evC res) 170] O) _ (ZbP (Zwo (.inl rfl) rfl (by decide +kernel) rfl ?_)) ?_
  ·rcases res with _|⟨ry,rr,rn⟩
   ·dsimp only[evC,Zaf.enc,dEv0,Option.isSome]
    repeat (first|refine walk ?_|(refine jn ?_;(try intro F);(first|(refine bx ?_;intro bk)|(refine stA ?_)|(apply Zag;exact PuA));refine fin ?_)|(apply RD_W;rfl;intro bk))
    refine Zgd ?_
    exact⟨rfl,SFA,SOA⟩
   ·dsimp only[evC,Zaf.enc,dEv0,Option.isSome]
    repeat (first|refine walk ?_|(refine jn ?_;(try intro F);(first|(refine bx ?_;intro bk)|(refine stA ?_)|(apply Zag;exact PuA));refine fin ?_)|(apply RD_W;rfl;intro bk))
    refine Zgd ?_
    exact⟨rfl,SFA,SOA⟩
  ·rintro e a' w' ⟨hd,fr',O',hs',rfl,hf,hO⟩
   have h:=ZyK res wr (hs'.sub hf hO)
   rw[Zc3 hd]at h
   exact h
end Go.Proofs.YtbjomhdhkpgbaaaGreatDoor
namespace Go.Proofs.YtbjomhdhkpgbaaaGreatDoor
open Go Go.RowKit Go.Wk
attribute [local irreducible] W RL Does Zar Zal retQ Calls Pu Stp RD Qy Ay Zak
structure RsSm (l:List Zab):Prop where
 n:l.length<=1000000
 s:∀ r∈l,-1000000000<=r.save/\r.save<=1000000000
 f:∀ r∈l,r.from_<=4611686018427387904
 t:∀ r∈l,-4611686018427387904<=r.to
theorem RsSm.r {l:List Zab}(h:RsSm l):∀ r∈l,-4611686018427387904<=r.save/\r.save<=4611686018427387904:=fun r hr=>by have:=h.s r hr;omega
theorem RsSm.b {l:List Zab}(h:RsSm l):ZCG l:=fun r hr=>⟨h.r r hr,h.f r hr,h.t r hr⟩
theorem Zh7 (A:Option Addr)(c:Nat)(l:List Zab)(all:Bool)(but:Int)(w:World)(hG:Glob w)(hA:RdSl w A c Zab.enc 11 l)(h:RsSm l) :
  Does Tryz.prog 269 [.slice A l.length c,.bool all,.int .i64 but] w (fun v O=>v = .tuple #[evV (fstD l all but),.bool (fstD l all but).isSome]/\O=[]):=by
 have:=Zs8 A c l all but w hG hA h.n h.r h.f
 unfold Zak at this
 unfold Does
 exact this w (Bel.refl _ _) (Zau.nil _ _)
def EvAt (N:Nat)(o:Option Zaf):Prop:=∀ e,o=some e->0<=e.rule/\e.rule<N
theorem Zq6 {least:Int}{r:Zab}{i y:Int}{e:Zaf}(h:onR least r i y=some e):e.rule=i:=by
 unfold onR at h
 split at h
 ·cases h
 ·split at h
  ·cases h
  ·cases h;rfl
theorem ZjY {least nominal:Int}{r:Zab}{i:Int}{e:Zaf}:∀ (k:Nat) (y:Int),beIn least nominal r i y k=some e->e.rule=i
 | 0,_,h=>by cases h
 | k+1,y,h=>by
  rw[beIn]at h
  split at h
  ·rename_i x hx
   split at h
   ·cases h;exact Zq6 hx
   ·exact ZjY k _ h
  ·exact ZjY k _ h
theorem ZnU {least:Int}{r:Zab}{i:Int}{e:Zaf}:∀ (k:Nat) (y:Int),fiIn least r i y k=some e->e.rule=i
 | 0,_,h=>by cases h
 | k+1,y,h=>by
  rw[fiIn]at h
  split at h
  ·rename_i x hx
   cases h;exact Zq6 hx
  ·exact ZnU k _ h
theorem ZrT {least nominal yr:Int}{N:Nat}:∀ (l:List Zab) (i:Nat) (b:Option Zaf),i+l.length<=N->EvAt N b->EvAt N (Ze0 least nominal yr l i b)
 | [],_,_,_,h=>h
 | r::l,i,b,hi,h=>by
  rw[List.length_cons]at hi
  rw[Ze0]
  refine ZrT l (i+1) _ (by omega) ?_
  have hb:EvAt N (beIn least nominal r i (min (lastY r) (yr+2)) 20):=fun e he=>by
   have:=ZjY 20 _ he
   omega
  generalize beIn least nominal r i (min (lastY r) (yr+2)) 20=o at *
  cases o with
  | none=>exact h
  | some x =>
   cases b with
   | none=>exact hb
   | some y =>
    dsimp only
    split
    ·exact hb
    ·exact h
theorem Zv9 (l:List Zab)(nominal:Int):EvAt l.length (befD l nominal):=ZrT l 0 none (by omega) fun e h=>by cases h
theorem ZvE {least:Int}{N:Nat}:∀ (l:List Zab) (i:Nat),i+l.length<=N->∀ e∈firL least l i,0<=e.rule/\e.rule<N
 | [],_,_,e,h=>by cases h
 | r::l,i,hi,e,h=>by
  rw[List.length_cons]at hi
  rw[firL]at h
  rcases List.mem_append.1 h with h|h
  ·cases ho:fiIn least r i (max r.from_ (-2000000000)) 9 with
   | none=>rw[ho]at h;cases h
   | some x =>
    rw[ho]at h
    simp only[Option.toList,List.mem_singleton]at h
    subst h
    have:=ZnU 9 _ ho
    omega
  ·exact ZvE l (i+1) (by omega) e h
theorem ZzB {l:List Zab}{all:Bool}{but:Int}{N:Nat}:∀ (L:List Zaf) (b:Option Zaf),(∀ e∈L,0<=e.rule/\e.rule<N)->EvAt N b->EvAt N (L.foldl (fstB l all but) b)
 | [],_,_,h=>h
 | x::L,b,hL,h=>by
  rw[List.foldl_cons]
  refine ZzB L _ (fun e he=>hL e (List.mem_cons_of_mem _ he)) ?_
  have key:∀ q:Bool,EvAt N (if q=true then b else some x):=fun q=>by
   cases q
   ·intro e he
    cases he
    exact hL x List.mem_cons_self
   ·exact h
  unfold fstB
  exact key _
theorem Zvv (l:List Zab)(all:Bool)(but:Int):EvAt l.length (fstD l all but):=ZzB _ none (ZvE l 0 (by omega)) fun e h=>by cases h
theorem ZAe {G:Prop}(h:G:=by(first|exact PuI|(apply Pu_loadO1;rfl;exact hca 9 _ rfl))):G:=h
theorem Zh6 (A:Option Addr)(c:Nat)(l:List Zab)(w:World)(hG:Glob w)(hA:RdSl w A c Zab.enc 11 l)(h:RsSm l):Does Tryz.prog 231 [.slice A l.length c] w (fun v O=>v=stV (iniS l)/\O=[]):=by
 have h1:=fun w' (hw:Bel w.heap.size w w')=>Zh7 A c l true 0 w' (hG.up hw) (hA.up hw) h
 have hat:=Zvv l true 0
 have hle:=hA.le
 have hcp:=hA.cap
 simp only[maxLen]at hcp
 unfold iniS
 generalize fstD l true 0=o at *
 rcases o with _|⟨ey,er,en⟩
 ·simp only[evV,Zaf.enc,dEv0,Option.isSome]at h1
  refine Zaa Tryz.func231 rfl rfl rfl rfl ?_
  repeat (first|(refine js ?_;(first|(refine Zae h1 ?_)|(refine bx ?_;intro bk)))|refine walk ?_)
  exact ret_1 _ [] (.cellB rfl (by repeat' constructor) rfl rfl) .nil ⟨rfl,rfl⟩
 ·simp only[evV,Zaf.enc,Option.isSome]at h1 ⊢
  obtain⟨e0,e1⟩:=hat _ rfl
  dsimp only at e0 e1
  obtain⟨ru,hru⟩:∃ ru,l[er.toNat]?=some ru:=⟨_,List.getElem?_eq_getElem (by omega)⟩
  obtain⟨hna,hca⟩:=hA.rd _ _ hru
  rw[show ruE l ⟨ey,er,en⟩=ru from ZqY hru]
  have h2:=fun w' (hw:Bel w.heap.size w w')=>Zh7 A c l false ru.save w' (hG.up hw) (hA.up hw) h
  have hat2:=Zvv l false ru.save
  generalize fstD l false ru.save=o2 at *
  rcases o2 with _|⟨fy,frr,fn⟩
  ·simp only[evV,Zaf.enc,dEv0,Option.isSome]at h2 ⊢
   have hb:=fun w' (hw:Bel w.heap.size w w')=>Zdh A c l ⟨ey,er,en⟩ w' (hA.up hw) ⟨e0,e1⟩
   unfold stV at hb ⊢
   generalize behS l ⟨ey,er,en⟩=st at *
   refine Zaa Tryz.func231 rfl rfl rfl rfl ?_
   repeat (first|(apply RL_pu;rfl;exact ZAe)|(refine js ?_;(first|(refine Zae h1 ?_)|(refine Zae hb ?_)|(refine Zae h2 ?_)|(refine bx ?_;intro bk)))|refine walk1 ?_)
   exact ret_1 _ [] (.cellB rfl (by repeat' constructor) rfl rfl) .nil ⟨rfl,rfl⟩
  ·simp only[evV,Zaf.enc,Option.isSome]at h2 ⊢
   have hb:=fun w' (hw:Bel w.heap.size w w')=>Zdh A c l ⟨fy,frr,fn⟩ w' (hA.up hw) (hat2 _ rfl)
   unfold stV at hb ⊢
   generalize behS l ⟨fy,frr,fn⟩=st at *
   refine Zaa Tryz.func231 rfl rfl rfl rfl ?_
   repeat (first|(apply RL_pu;rfl;exact ZAe)|(refine js ?_;(first|(refine Zae h1 ?_)|(refine Zae hb ?_)|(refine Zae h2 ?_)|(refine bx ?_;intro bk)))|refine walk1 ?_)
   exact ret_1 _ [] (.cellB rfl (by repeat' constructor) rfl rfl) .nil ⟨rfl,rfl⟩
theorem Zeo (A:Option Addr)(c:Nat)(l:List Zab)(nominal:Int)(w:World)(hG:Glob w)(hA:RdSl w A c Zab.enc 11 l)(h:RsSm l)(ht : -4611686018427387904<=nominal/\nominal<=4611686018427387904) :
  Does Tryz.prog 197 [.slice A l.length c,.int .i64 nominal] w (fun v O=>v=stV (befS l nominal)/\O=[]):=by
 have h1:=fun w' (hw:Bel w.heap.size w w')=>ZgZ A c l nominal w' (hG.up hw) (hA.up hw) h.n h.b ht
 have hat:=Zv9 l nominal
 unfold befS
 generalize befD l nominal=o at *
 rcases o with _|⟨ey,er,en⟩
 ·simp only[evV,Zaf.enc,dEv0,Option.isSome]at h1 ⊢
  have hb:=fun w' (hw:Bel w.heap.size w w')=>Zh6 A c l w' (hG.up hw) (hA.up hw) h
  unfold stV at hb ⊢
  generalize iniS l=st at *
  refine Zaa Tryz.func197 rfl rfl rfl rfl ?_
  repeat (first|(refine js ?_;(first|(refine Zae h1 ?_)|(refine Zae hb ?_)|(refine bx ?_;intro bk)))|refine walk ?_)
  exact ret_1 _ [] (.cellB rfl (by repeat' constructor) rfl rfl) .nil ⟨rfl,rfl⟩
 ·simp only[evV,Zaf.enc,Option.isSome]at h1 ⊢
  have hb:=fun w' (hw:Bel w.heap.size w w')=>Zdh A c l ⟨ey,er,en⟩ w' (hA.up hw) (hat _ rfl)
  unfold stV at hb ⊢
  generalize behS l ⟨ey,er,en⟩=st at *
  refine Zaa Tryz.func197 rfl rfl rfl rfl ?_
  repeat (first|(refine js ?_;(first|(refine Zae h1 ?_)|(refine Zae hb ?_)|(refine bx ?_;intro bk)))|refine walk ?_)
  exact ret_1 _ [] (.cellB rfl (by repeat' constructor) rfl rfl) .nil ⟨rfl,rfl⟩
theorem Zuw {l:List Zab}(h:RsSm l)(e:Zaf) : -1000000000<=(ruE l e).save/\(ruE l e).save<=1000000000:=by
 unfold ruE
 rw[List.getD_eq_getElem?_getD]
 cases hx:l[e.rule.toNat]? with
 | none=>exact⟨by decide,by decide⟩
 | some r=>exact h.s r (List.mem_of_getElem? hx)
theorem ZA7 {l:List Zab}(h:RsSm l) : -1000000000<=(iniS l).1/\(iniS l).1<=1000000000:=by
 unfold iniS
 cases fstD l true 0 with
 | none =>
  dsimp only
  exact⟨by decide,by decide⟩
 | some e =>
  dsimp only
  cases fstD l false (ruE l e).save with
  | none=>exact Zuw h e
  | some o=>exact Zuw h o
theorem ZBo {l:List Zab}(h:RsSm l)(n:Int) : -1000000000<=(befS l n).1/\(befS l n).1<=1000000000:=by
 unfold befS
 cases befD l n with
 | none=>exact ZA7 h
 | some e=>exact Zuw h e
theorem ZAd {G:Prop}(h:G:=by(apply ZaA;rfl;rfl;first|exact q0|exact q1)):G:=h
set_option maxHeartbeats 4000000 in
theorem Zvn (A:Option Addr)(c:Nat)(l:List Zab)(e:Zaf)(off:Int)(w:World)(hG:Glob w)(hA:RdSl w A c Zab.enc 11 l)(h:RsSm l)(he:0<=e.rule/\e.rule<l.length)(hnm : -1000000000000000000<=e.nominal/\e.nominal<=1000000000000000000)(ho : -1000000000<=off/\off<=1000000000) :
  Does Tryz.prog 311 [.slice A l.length c,.agg e.enc.toArray,.int .i64 off] w (fun v O=>v = .int .i64 (ZpI l e off)/\O=[]):=by
 have hle:=hA.le
 have hcp:=hA.cap
 simp only[maxLen]at hcp
 obtain⟨ru,hru⟩:∃ ru,l[e.rule.toNat]?=some ru:=⟨_,List.getElem?_eq_getElem (by omega)⟩
 obtain⟨hna,hca⟩:=hA.rd _ _ hru
 have hba:=fun w' (hw:Bel w.heap.size w w')=>Zqa A c l w' (hA.up hw)
 have hbf:=fun w' (hw:Bel w.heap.size w w')=>Zeo A c l e.nominal w' (hG.up hw) (hA.up hw) h (by omega)
 have hbd:=ZBo h e.nominal
 have hld:=Zfm l h.r
 have hld2 : -1000000000<=max (Zaj l) (-10800)/\max (Zaj l) (-10800)<=0:=by omega
 unfold ZpI
 rw[ZqY hru]
 obtain⟨ey,er,en⟩:=e
 dsimp only at he hnm hru hca hbf hbd ⊢
 have b1:decide (er<0)=false:=decide_eq_false (by omega)
 have b2:decide ((l.length:Int)<=er)=false:=decide_eq_false (by omega)
 have hcb:w.cell? ((((adr A).add (er.toNat*11)).add 7).add 1)=some (.int .i64 ru.at_.base):=by
  rw[Zbe]
  exact hca 8 _ rfl
 clear hru hca
 generalize ru.at_.base=rb at *
 generalize max (Zaj l) (-10800)=mb at *
 unfold stV at hbf
 generalize befS l en=st at *
 obtain⟨sv,sl⟩:=st
 dsimp only at hbd hbf ⊢
 show Does _ _ [_,.agg #[.int .i64 ey,.int .i64 er,.int .i64 en],_] w _
 refine Zaa Tryz.func311 rfl rfl rfl rfl ?_
 repeat (first|refine und ?_|(apply RL_pu;rfl;(first|(apply Za2;rfl;rfl;exact b1)|(apply ZcJ;rfl;rfl;exact b2)|exact PuI|(apply Pu_loadO1;rfl;exact hcb)))|(refine js ?_;(refine bx ?_;intro bk))|refine walk1 ?_)
 rename_i b4 b7
 generalize bk=b8
 refine Zah rfl (fun hc=>?_) (fun hc=>?_)
 ·obtain rfl:rb=1:=of_decide_eq_true hc
  rw[if_pos rfl]
  obtain⟨x1,hx1⟩:∃ x1,mb=x1:=⟨_,rfl⟩
  rw[hx1]at hba hld2 ⊢
  repeat (first|(refine js ?_;(first|(refine Zae hba ?_)|(apply ZbX (f:=312) (us:=[]) (vs:=[.int .i64 x1]) (cs:=[.pointer (some ⟨b7,0,none⟩),.pointer (some ⟨b8,0,none⟩)]) (h:=ZfK (.blk b4 [.int .i64 ey,.int .i64 er,.int .i64 en] 170) x1 en b7 b8 w (by omega) (by omega));rfl;rfl;exact SOA;rintro v O' ⟨rfl,rfl⟩)|(apply ZbX (f:=312) (us:=[]) (vs:=[.int .i64 off]) (cs:=[.pointer (some ⟨b7,0,none⟩),.pointer (some ⟨b8,0,none⟩)]) (h:=ZfK (.blk b4 [.int .i64 ey,.int .i64 er,.int .i64 en] 170) off (en - x1) b7 b8 w (by omega) (by omega));rfl;rfl;exact SOA;rintro v O' ⟨rfl,rfl⟩)|(refine bx ?_;intro bk)))|refine walk ?_)
  exact rtA
 ·have hn1:¬ rb=1:=of_decide_eq_false hc
  have q1:decide (rb=1)=false:=decide_eq_false hn1
  rw[if_neg hn1]
  by_cases h0:rb=0
  ·have q0:decide (rb=0)=true:=decide_eq_true h0
   rw[if_pos h0]
   obtain⟨x1,hx1⟩:∃ x1,sv=x1:=⟨_,rfl⟩
   rw[hx1]at hbf hbd ⊢
   repeat (first|(apply RL_pu;rfl;exact ZAd)|(refine js ?_;(first|(refine Zae hbf ?_)|(apply ZbX (f:=312) (us:=[]) (vs:=[.int .i64 x1]) (cs:=[.pointer (some ⟨b7,0,none⟩),.pointer (some ⟨b8,0,none⟩)]) (h:=ZfK (.blk b4 [.int .i64 ey,.int .i64 er,.int .i64 en] 170) x1 en b7 b8 w (by omega) (by omega));rfl;rfl;exact SOA;rintro v O' ⟨rfl,rfl⟩)|(apply ZbX (f:=312) (us:=[]) (vs:=[.int .i64 off]) (cs:=[.pointer (some ⟨b7,0,none⟩),.pointer (some ⟨b8,0,none⟩)]) (h:=ZfK (.blk b4 [.int .i64 ey,.int .i64 er,.int .i64 en] 170) off (en - x1) b7 b8 w (by omega) (by omega));rfl;rfl;exact SOA;rintro v O' ⟨rfl,rfl⟩)|(refine bx ?_;intro bk)))|refine walk1 ?_)
   exact rtA
  ·have q0:decide (rb=0)=false:=decide_eq_false h0
   rw[if_neg h0]
   repeat (first|(apply RL_pu;rfl;exact ZAd)|(refine js ?_;(refine bx ?_;intro bk))|refine walk1 ?_)
   exact rtA
end Go.Proofs.YtbjomhdhkpgbaaaGreatDoor
namespace Go.Wk
open Go Go.RowKit
def atGo (l:List Zab)(off t:Int):Nat->Int->Int × ByteArray
 | 0,nm=>befS l nm
 | k+1,nm=>match befD l nm with
  | none=>iniS l
  | some e=>if ZpI l e off<=t then behS l e else atGo l off t k e.nominal
def atS (l:List Zab)(off t:Int):Int × ByteArray:=atGo l off t 3 (t+259200)
end Go.Wk
namespace Go.Proofs.YtbjomhdhkpgbaaaGreatDoor
open Go Go.RowKit Go.Wk
attribute [local irreducible] W RL Does Zar Zal retQ Calls Pu Stp RD Qy Ay Zak
theorem Zp9 (least nominal:Int)(hl:least<=0)(r:Zab)(i:Int):∀ (k:Nat) (y:Int),EvOk (beIn least nominal r i y k)
 | 0,_=>fun e he=>by cases he
 | k+1,y=>by
  rw[beIn]
  have h:=ZuO least hl r i y
  split
  ·rename_i e he
   split
   ·intro e2 h2;cases h2;exact h e he
   ·exact Zp9 least nominal hl r i k (y - 1)
  ·exact Zp9 least nominal hl r i k (y - 1)
theorem ZrS (least nominal yr:Int)(hl:least<=0):∀ (l:List Zab) (i:Nat) (b:Option Zaf),EvOk b->EvOk (Ze0 least nominal yr l i b)
 | [],_,_,h=>h
 | r::l,i,b,h=>by
  rw[Ze0]
  refine ZrS least nominal yr hl l (i+1) _ ?_
  have he:=Zp9 least nominal hl r i 20 (min (lastY r) (yr+2))
  generalize beIn least nominal r i (min (lastY r) (yr+2)) 20=o at *
  cases o with
  | none=>exact h
  | some e =>
   cases b with
   | none=>exact he
   | some x =>
    dsimp only
    split
    ·exact he
    ·exact h
theorem ZBp {l:List Zab}(h:RsSm l)(n:Int):EvOk (befD l n):=ZrS _ _ _ (Zfm l h.r).2 l 0 none fun e he=>by cases he
structure AtG where
 k:Nat
 nm:Int
theorem ZAc {G:Prop}(h:G:=by(apply ZeP;rfl;rfl;exact q1)):G:=h
set_option maxHeartbeats 4000000 in
theorem Zuc (A:Option Addr)(c:Nat)(l:List Zab)(off t:Int)(w:World)(hG:Glob w)(hA:RdSl w A c Zab.enc 11 l)(h:RsSm l)(ho : -1000000000<=off/\off<=1000000000)(ht : -1000000000000000000<=t/\t<=1000000000000000000) :
  Does Tryz.prog 310 [.slice A l.length c,.int .i64 off,.int .i64 t] w (fun v O=>v=stV (atS l off t)/\O=[]):=by
 have hadd:=fun w'=>Zy1 t 259200 (by omega) w'
 have hbf:=fun nm (hb : -4611686018427387904<=nm/\nm<=4611686018427387904) w' (hw:Bel w.heap.size w w')=>ZgZ A c l nm w' (hG.up hw) (hA.up hw) h.n h.b hb
 have hib:=fun w' (hw:Bel w.heap.size w w')=>Zh6 A c l w' (hG.up hw) (hA.up hw) h
 have hst:=fun nm (hb : -4611686018427387904<=nm/\nm<=4611686018427387904) w' (hw:Bel w.heap.size w w')=>Zeo A c l nm w' (hG.up hw) (hA.up hw) h hb
 obtain⟨res,hres⟩:∃ res,atS l off t=res:=⟨_,rfl⟩
 rw[hres]
 unfold atS at hres
 unfold stV at hib hst ⊢
 refine Zaa Tryz.func310 rfl rfl rfl rfl ?_
 repeat (first|(refine js ?_;(first|(refine Zae (fun w' _=>hadd w') ?_)|(refine bx ?_;intro bk)))|refine walk ?_)
 generalize bk=b6
 refine Zaq [(0,.slice A l.length c),(1,.int .i64 off),(2,.int .i64 t),(6,.pointer (some ⟨b6,0,none⟩))] [.blk b6 [.int .i64 0,.string ByteArray.empty] 156] (fun g:AtG=>[(18,.int .i64 g.k),(7,.int .i64 g.nm)]) (fun _=>[]) (fun g=>g.k<=3/\(-4611686018427387904<=g.nm/\g.nm<=4611686018427387904)/\atGo l off t (3 - g.k) g.nm=res) (fun g=>3 - g.k) ⟨0,t+259200⟩ SFA SOA ⟨Nat.zero_le _,by dsimp only;omega,hres⟩ ?_
 clear hres
 rintro⟨k,nm⟩ ⟨hk,hnb,hi⟩
 dsimp only at hk hnb hi ⊢
 repeat (first|(refine js ?_;(refine bx ?_;intro bk))|refine walk ?_)
 refine Zah rfl (fun hc=>?_) (fun hc=>?_)
 ·have hk3:k<3:=by have:=of_decide_eq_true hc;omega
  have hb1:=hbf nm hnb
  have hat:=Zv9 l nm
  have hbd:=ZBp h nm
  rw[show 3 - k=(2 - k)+1 by omega,atGo]at hi
  generalize befD l nm=o at *
  rcases o with _|⟨ey,er,en⟩
  ·dsimp only at hi
   subst hi
   simp only[evV,Zaf.enc,dEv0,Option.isSome]at hb1
   repeat (first|(refine js ?_;(first|(refine Zae hb1 ?_)|(refine Zae hib ?_)|(refine bx ?_;intro bk)))|refine walk ?_)
   exact ret_1 _ [] (.cellB rfl (by repeat' constructor) rfl rfl) .nil ⟨rfl,rfl⟩
  ·dsimp only at hi
   have hen:=hbd _ rfl
   dsimp only at hen
   simp only[evV,Zaf.enc,Option.isSome]at hb1
   have hins:=fun w' (hw:Bel w.heap.size w w')=>Zvn A c l ⟨ey,er,en⟩ off w' (hG.up hw) (hA.up hw) h (hat _ rfl) (by dsimp only;omega) ho
   have hbh:=fun w' (hw:Bel w.heap.size w w')=>Zdh A c l ⟨ey,er,en⟩ w' (hA.up hw) (hat _ rfl)
   unfold stV at hbh
   generalize ZpI l ⟨ey,er,en⟩ off=I at *
   by_cases hle:I<=t
   ·have q1:decide (I<=t)=true:=decide_eq_true hle
    rw[if_pos hle]at hi
    subst hi
    repeat (first|(apply RL_pu;rfl;exact ZAc)|(refine js ?_;(first|(refine Zae hb1 ?_)|(refine Zae hins ?_)|(refine Zae hbh ?_)|(refine bx ?_;intro bk)))|refine walk1 ?_)
    exact ret_1 _ [] (.cellB rfl (by repeat' constructor) rfl rfl) .nil ⟨rfl,rfl⟩
   ·have q1:decide (I<=t)=false:=decide_eq_false hle
    rw[if_neg hle]at hi
    repeat (first|(apply RL_pu;rfl;exact ZAc)|(refine js ?_;(first|(refine Zae hb1 ?_)|(refine Zae hins ?_)|(refine bx ?_;intro bk)))|refine walk1 ?_)
    exact⟨⟨k+1,en⟩,OA,⟨OA,by dsimp only;omega,by dsimp only;rw[show 3 - (k+1)=2 - k by omega];exact hi⟩,SFA,SOA⟩
 ·obtain rfl:k=3:=by have:=of_decide_eq_false hc;omega
  have hs:=hst nm hnb
  rw[show atGo l off t (3 - 3) nm=befS l nm from rfl]at hi
  subst hi
  repeat (first|(refine js ?_;(first|(refine Zae hs ?_)|(refine bx ?_;intro bk)))|refine walk ?_)
  exact ret_1 _ [] (.cellB rfl (by repeat' constructor) rfl rfl) .nil ⟨rfl,rfl⟩
end Go.Proofs.YtbjomhdhkpgbaaaGreatDoor
namespace Go.Wk
open Go Go.RowKit
structure Zzh where
 kind:Int
 day:Int
 month:Int
 week:Int
 sec:Int
deriving DecidableEq
def Zzh.enc (x:Zzh):List Value:=[.int .i64 x.kind,.int .i64 x.day,.int .i64 x.month,.int .i64 x.week,.int .i64 x.sec]
def ZlW (n:Int):Bool:=decide (-604799<=n)&&decide (n<=604799)
def bsE (e:DEra)(l:List Zab):Int:=if e.kind=2 then max (Zaj l) (-10800) else 0
def bfE (e:DEra)(l:List Zab)(nm:Int):Int:=if e.kind=1 then e.save else if e.kind=2 then (befS l nm).1 else 0
def endB (e:DEra)(l:List Zab):Int:=bfE e l (ZaF e.til (bsE e l)).1
def endT (e:DEra)(l:List Zab):Int :=
 if e.til.at_.base=0 then 86400*(onD e.til.year e.til.month e.til.day).1+e.til.at_.sec - endB e l - e.off
 else if e.til.at_.base=1 then 86400*(onD e.til.year e.til.month e.til.day).1+e.til.at_.sec - e.off
 else 86400*(onD e.til.year e.til.month e.til.day).1+e.til.at_.sec
structure UnOk (e:DEra)(l:List Zab):Prop where
 k:0<=e.kind/\e.kind<=2
 o:ZlW e.off=true
 s:ZlW e.save=true
 c:ZaI e.til (bsE e l)=0
 b:ZlW (endB e l)=true
end Go.Wk
namespace Go.Proofs.YtbjomhdhkpgbaaaGreatDoor
open Go Go.RowKit Go.Wk
attribute [local irreducible] W RL Does Zar Zal retQ Calls Pu Stp RD Qy Ay Zak
theorem Zro {n:Int}(h:ZlW n=true) : -604799<=n/\n<=604799:=by
 unfold ZlW at h
 simpa using h
theorem Zz6 {G:Prop}(h:G:=by(first|(apply Zhe;rfl;(constructor <;> omega))|(apply ZcJ;rfl;rfl;exact b1))):G:=h
theorem Ze6 (n:Int)(w:World):Does Tryz.prog 159 [.int .i64 n,.int .i64 604799] w (fun v O=>v = .bool (ZlW n)/\O=[]):=by
 unfold ZlW
 refine Zaa Tryz.func159 rfl rfl rfl rfl ?_
 by_cases h : -604799<=n
 ·have b1:decide (-604799<=n)=true:=decide_eq_true h
  rw[b1,Bool.true_and]
  repeat (first|refine und ?_|(apply RL_pu;rfl;exact Zz6)|refine walk1 ?_)
  exact rtA
 ·have b1:decide (-604799<=n)=false:=decide_eq_false h
  rw[b1,Bool.false_and]
  repeat (first|refine und ?_|(apply RL_pu;rfl;exact Zz6)|refine walk1 ?_)
  exact rtA
theorem Zss (e:DEra)(A:Option Addr)(c:Nat)(l:List Zab)(w:World)(hA:RdSl w A c Zab.enc 11 l):Does Tryz.prog 160 [.agg e.enc.toArray,.slice A l.length c] w (fun v O=>v = .int .i64 (bsE e l)/\O=[]):=by
 have hl:=fun w' (hw:Bel w.heap.size w w')=>Zch A c l w' (hA.up hw)
 unfold bsE
 generalize Zaj l=m at *
 have hmx:(if m < -10800 then -10800 else m)=max m (-10800):=by split <;> omega
 obtain⟨off,kd,esv,st,fm,⟨ui,uy,um,⟨ud1,ud2,ud3⟩,⟨uc1,uc2⟩⟩⟩:=e
 dsimp only
 show Does _ _ [.agg #[.int .i64 off,.int .i64 kd,.int .i64 esv,.string st,.string fm,.bool ui,.int .i64 uy,.int .i64 um,.int .i64 ud1,.int .i64 ud2,.int .i64 ud3,.int .i64 uc1,.int .i64 uc2],_] w _
 refine Zaa Tryz.func160 rfl rfl rfl rfl ?_
 by_cases h:kd=2
 ·have b1:(!decide (kd=2))=false:=by rw[decide_eq_true h];rfl
  rw[if_pos h]
  repeat (first|(apply RL_pu;rfl;(first|(apply ZaH;rfl;rfl;exact b1)|(apply ZhP;rfl;rfl;exact hmx)))|(refine js ?_;(first|(refine Zae hl ?_)|(refine bx ?_;intro bk)))|refine walk1 ?_)
  exact rtA
 ·have b1:(!decide (kd=2))=true:=by rw[decide_eq_false h];rfl
  rw[if_neg h]
  repeat (first|(apply RL_pu;rfl;(apply ZaH;rfl;rfl;exact b1))|(refine js ?_;(refine bx ?_;intro bk))|refine walk1 ?_)
  exact rtA
theorem Zz5 {G:Prop}(h:G:=by(apply ZaA;rfl;rfl;first|exact b1|exact b2)):G:=h
theorem Zsp (e:DEra)(A:Option Addr)(c:Nat)(l:List Zab)(nm:Int)(w:World)(hG:Glob w)(hA:RdSl w A c Zab.enc 11 l)(h:RsSm l)(hn : -4611686018427387904<=nm/\nm<=4611686018427387904) :
  Does Tryz.prog 161 [.agg e.enc.toArray,.slice A l.length c,.int .i64 nm] w (fun v O=>v = .int .i64 (bfE e l nm)/\O=[]):=by
 have hb:=fun w' (hw:Bel w.heap.size w w')=>Zeo A c l nm w' (hG.up hw) (hA.up hw) h hn
 unfold bfE
 unfold stV at hb
 generalize befS l nm=x at *
 obtain⟨sv,sl⟩:=x
 obtain⟨off,kd,esv,st,fm,⟨ui,uy,um,⟨ud1,ud2,ud3⟩,⟨uc1,uc2⟩⟩⟩:=e
 dsimp only at hb ⊢
 show Does _ _ [.agg #[.int .i64 off,.int .i64 kd,.int .i64 esv,.string st,.string fm,.bool ui,.int .i64 uy,.int .i64 um,.int .i64 ud1,.int .i64 ud2,.int .i64 ud3,.int .i64 uc1,.int .i64 uc2],_,_] w _
 refine Zaa Tryz.func161 rfl rfl rfl rfl ?_
 by_cases h1:kd=1
 ·have b1:decide (kd=1)=true:=decide_eq_true h1
  rw[if_pos h1]
  repeat (first|(apply RL_pu;rfl;(apply ZaA;rfl;rfl;exact b1))|(refine js ?_;(refine bx ?_;intro bk))|refine walk1 ?_)
  exact rtA
 ·have b1:decide (kd=1)=false:=decide_eq_false h1
  rw[if_neg h1]
  by_cases h2:kd=2
  ·have b2:decide (kd=2)=true:=decide_eq_true h2
   rw[if_pos h2]
   repeat (first|(apply RL_pu;rfl;exact Zz5)|(refine js ?_;(first|(refine Zae hb ?_)|(refine bx ?_;intro bk)))|refine walk1 ?_)
   exact rtA
  ·have b2:decide (kd=2)=false:=decide_eq_false h2
   rw[if_neg h2]
   repeat (first|(apply RL_pu;rfl;exact Zz5)|(refine js ?_;(refine bx ?_;intro bk))|refine walk1 ?_)
   exact rtA
theorem ZwR {G:Prop}(h:G:=by(first|(apply Za2;rfl;rfl;exact t1)|(apply Za3;rfl;rfl;exact t2)|(apply ZaA;rfl;rfl;first|exact k1|exact u0|exact u1))):G:=h
theorem ZzM {G:Prop}(h:G:=by first|(apply Qy_y;rfl;exact ZwR)|exact QyA):G:=h
theorem ZdT {G:Prop}(h:G:=by repeat (first|exact QF.nil|(apply QF.mk;rfl;rfl;decide +kernel;exact ZzM))):G:=h
theorem Zkz {G G':Prop}(k:G')(h:Hold G'->G:=by intro k9;(first|refine und ?_|(apply RL_pu;rfl;exact ZwR)|(apply RD_Q;rfl;rfl;decide +kernel;rfl;rfl;exact ZzM)|refine walk1 ?_|(refine jg ?_;(try intro F);(first|(refine Zae (fun w' _=>w1 w') ?_)|(refine Zae (fun w' _=>w2 w') ?_)|(refine Zae (fun w' _=>w3 w') ?_)|(refine Zae hb ?_)|(refine Zae hn ?_)|(refine Zae hs ?_)|(refine Zae hc ?_));first|refine⟨_,EndsA,ZdT,?_⟩|refine fin ?_)|(refine jn ?_;(try intro F);(apply Zag;first|exact ZwR|exact PuA);first|refine⟨_,EndsA,ZdT,?_⟩|refine fin ?_));exact k9.out):G:=h ⟨k⟩
set_option maxHeartbeats 4000000 in
theorem Zsr (e:DEra)(A:Option Addr)(c:Nat)(l:List Zab)(w:World)(hG:Glob w)(hA:RdSl w A c Zab.enc 11 l)(h:RsSm l)(hu:UnOk e l) :
  Does Tryz.prog 110 [.agg e.enc.toArray,.slice A l.length c] w (fun v O=>v = .tuple #[.int .i64 (endT e l),.int .i64 0]/\O=[]):=by
 have w1:=fun w'=>Ze6 e.off w'
 have w2:=fun w'=>Ze6 e.save w'
 have w3:=fun w'=>Ze6 (endB e l) w'
 rw[hu.o]at w1
 rw[hu.s]at w2
 rw[hu.b]at w3
 have ho:=Zro hu.o
 have hbb:=Zro hu.b
 obtain⟨_,hcl⟩:=Zgi hu.c
 have hb:=fun w' (hw:Bel w.heap.size w w')=>Zss e A c l w' (hA.up hw)
 have hn:=fun w' (hw:Bel w.heap.size w w')=>Zff e.til (bsE e l) w' (hG.up hw)
 have hn2:(ZaF e.til (bsE e l)).2=0:=by
  unfold ZaF
  rw[if_neg (by rw[hu.c];decide)]
 have hnb : -4611686018427387904<=(ZaF e.til (bsE e l)).1/\(ZaF e.til (bsE e l)).1<=4611686018427387904:=by
  have h1:=Zi0 e.til.year e.til.month e.til.day
  have h2:=(Zgi hu.c).1
  unfold ZaF
  rw[if_neg (by rw[hu.c];decide)]
  dsimp only
  split <;> omega
 have hs:=fun w' (hw:Bel w.heap.size w w')=>Zsp e A c l (ZaF e.til (bsE e l)).1 w' (hG.up hw) (hA.up hw) h hnb
 have hc:=fun w' (hw:Bel w.heap.size w w')=>ZhW e.til hcl w' (hG.up hw)
 have hob:=Zi0 e.til.year e.til.month e.til.day
 have hk:=hu.k
 rw[hn2]at hn
 change ∀ w',Bel w.heap.size w w'->Does _ _ _ w' (fun v O=>v = .int .i64 (endB e l)/\O=[]) at hs
 unfold endT
 generalize endB e l=bf at *
 generalize (ZaF e.til (bsE e l)).1=nm at *
 generalize bsE e l=bs at *
 generalize (onD e.til.year e.til.month e.til.day).1=dn at *
 clear hu hG hA h hn2 hnb
 obtain⟨off,kd,esv,st,fm,⟨ui,uy,um,⟨ud1,ud2,ud3⟩,⟨uc1,uc2⟩⟩⟩:=e
 dsimp only at ho hcl hk w1 w2 hc ⊢
 have t1:decide (kd<0)=false:=decide_eq_false (by omega)
 have t2:decide (2<kd)=false:=decide_eq_false (by omega)
 show Does _ _ [.agg #[.int .i64 off,.int .i64 kd,.int .i64 esv,.string st,.string fm,.bool ui,.int .i64 uy,.int .i64 um,.int .i64 ud1,.int .i64 ud2,.int .i64 ud3,.int .i64 uc1,.int .i64 uc2],_] w _
 by_cases h0:uc2=0
 ·have u0:decide (uc2=0)=true:=decide_eq_true h0
  rw[if_pos h0]
  by_cases h1:kd=1
  ·have k1:decide (kd=1)=true:=decide_eq_true h1
   refine Zaa Tryz.func110 rfl rfl rfl rfl ?_
   repeat (first|refine Zkz ?_|(refine jg ?_;(try intro F);(refine bx ?_;intro bk);first|refine⟨_,EndsA,ZdT,?_⟩|refine fin ?_)|(refine jn ?_;(try intro F);(refine bx ?_;intro bk);first|refine⟨_,EndsA,ZdT,?_⟩|refine fin ?_))
   exact rtB
  ·have k1:decide (kd=1)=false:=decide_eq_false h1
   refine Zaa Tryz.func110 rfl rfl rfl rfl ?_
   repeat (first|refine Zkz ?_|(refine jg ?_;(try intro F);(refine bx ?_;intro bk);first|refine⟨_,EndsA,ZdT,?_⟩|refine fin ?_)|(refine jn ?_;(try intro F);(refine bx ?_;intro bk);first|refine⟨_,EndsA,ZdT,?_⟩|refine fin ?_))
   exact rtB
 ·have u0:decide (uc2=0)=false:=decide_eq_false h0
  rw[if_neg h0]
  by_cases h2:uc2=1
  ·have u1:decide (uc2=1)=true:=decide_eq_true h2
   rw[if_pos h2]
   by_cases h1:kd=1
   ·have k1:decide (kd=1)=true:=decide_eq_true h1
    refine Zaa Tryz.func110 rfl rfl rfl rfl ?_
    repeat (first|refine Zkz ?_|(refine jg ?_;(try intro F);(refine bx ?_;intro bk);first|refine⟨_,EndsA,ZdT,?_⟩|refine fin ?_)|(refine jn ?_;(try intro F);(refine bx ?_;intro bk);first|refine⟨_,EndsA,ZdT,?_⟩|refine fin ?_))
    exact rtB
   ·have k1:decide (kd=1)=false:=decide_eq_false h1
    refine Zaa Tryz.func110 rfl rfl rfl rfl ?_
    repeat (first|refine Zkz ?_|(refine jg ?_;(try intro F);(refine bx ?_;intro bk);first|refine⟨_,EndsA,ZdT,?_⟩|refine fin ?_)|(refine jn ?_;(try intro F);(refine bx ?_;intro bk);first|refine⟨_,EndsA,ZdT,?_⟩|refine fin ?_))
    exact rtB
  ·have u1:decide (uc2=1)=false:=decide_eq_false h2
   rw[if_neg h2]
   by_cases h1:kd=1
   ·have k1:decide (kd=1)=true:=decide_eq_true h1
    refine Zaa Tryz.func110 rfl rfl rfl rfl ?_
    repeat (first|refine Zkz ?_|(refine jg ?_;(try intro F);(refine bx ?_;intro bk);first|refine⟨_,EndsA,ZdT,?_⟩|refine fin ?_)|(refine jn ?_;(try intro F);(refine bx ?_;intro bk);first|refine⟨_,EndsA,ZdT,?_⟩|refine fin ?_))
    exact rtB
   ·have k1:decide (kd=1)=false:=decide_eq_false h1
    refine Zaa Tryz.func110 rfl rfl rfl rfl ?_
    repeat (first|refine Zkz ?_|(refine jg ?_;(try intro F);(refine bx ?_;intro bk);first|refine⟨_,EndsA,ZdT,?_⟩|refine fin ?_)|(refine jn ?_;(try intro F);(refine bx ?_;intro bk);first|refine⟨_,EndsA,ZdT,?_⟩|refine fin ?_))
    exact rtB
end Go.Proofs.YtbjomhdhkpgbaaaGreatDoor
