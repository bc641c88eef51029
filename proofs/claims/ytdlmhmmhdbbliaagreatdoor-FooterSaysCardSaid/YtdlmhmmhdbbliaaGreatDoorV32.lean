/- Parts of the proof. -/
import Derived.Test.YtdlmhmmhdbbliaaGreatDoorV31
import Derived.Test.YtdlmhmmhdbbliaaGreatDoorV09
import Derived.Test.YtdlmhmmhdbbliaaGreatDoorV08
set_option maxHeartbeats 4000000
set_option linter.unusedVariables false
set_option linter.unusedSimpArgs false
set_option maxHeartbeats 4000000
set_option maxRecDepth 20000
namespace Go.Proofs.YtdlmhmmhdbbliaaGreatDoor
open Go Go.RowKit Go.Wk
attribute [local irreducible] W RL Does Zau Zak retQ Calls Pu Stp RD Qy Ay Zaj RLI WI
abbrev fiO (A:Option Addr)(c:Nat)(n:Nat)(all:Bool)(but:Int)(b3 b4 b5 b6 b8 b9 ll D:Nat)(r:Loop)(s:Option Zad):List It :=
 [Za3 ll r,Zdp D,.blk b3 [.slice A n c] 27,.blk b4 [.bool all] 4,.blk b5 [.int .i64 but] 2,.blk b6 [.int .i64 0,.int .i64 0,.int .i64 0] 92,.blk b8 (evC s) 92,.blk b9 [.bool s.isSome] 4]
theorem ZBw (o:Option Zad):evV o = .agg (evC o).toArray:=by cases o <;> rfl
theorem ZtX (o:Option Zad):(evC o).length=3:=by cases o <;> rfl
def fiR (o:Option Zad)(wr:World):Ending->World->Prop:=fun e w'=>∃ v O',e = .returned v/\Bel wr.heap.size wr w'/\Zay wr.heap.size O' w'/\(v = .tuple #[evV o,.bool o.isSome]/\O'=[])
theorem ZwW (o:Option Zad)(wr:World){a:Act}{w':World}{D b6:Nat}(hs:St 39 wr [(6,.pointer (some ⟨b6,0,none⟩)),(7,.bool o.isSome)] [Zdp D,.blk b6 (evC o) 92] a w') :
  bodyPostM Fence.wide 0 Tryz.prog Tryz.f234 (fiR o wr) .ret (actD (Zg8 D) a) w':=by
 have hK:=Zdp.at (hs.own.sat _ List.mem_cons_self)
 have hs2:=ZpG hs
 refine⟨by simp,.inl ⟨_,_,rfl,run_takeDeferred hK,?_⟩⟩
 refine⟨.tuple #[evV o,.bool o.isSome],?_,_,[],rfl,hs2.old,hs2.own.sub .nil,rfl,rfl⟩
 have hres:Tryz.f234.results=[ResultVar.cell 6 92,ResultVar.tmp 7].toArray:=rfl
 show(results Tryz.f234 a.tmps).run Tryz.prog _=_
 unfold results
 rw[hres,List.mapM_toArray]
 simp only[Sem.run_bind,Sem.run_map]
 rw[Zc8 (P:=Tryz.prog) hs2 _ (fun _=>rfl) (fun _ _=>rfl) [ResultVar.cell 6 92,ResultVar.tmp 7] [.agg (evC o).toArray,.bool o.isSome] ⟨_,_,rfl,.cellB (sz:=3) rfl .here (by rw[List.take_of_length_le (by rw[ZtX];exact Nat.le_refl 3)]) (ZtX o),_,[],rfl,rfl,rfl⟩]
 simp only[Result.andThen_ok,Sem.run_pure]
 rw[ZBw]
 rfl
theorem ZnJ {G:Prop}(h:G:=by(first|exact PuI|(apply Pu_loadO1;rfl;exact hca 9 _ rfl))):G:=h
theorem ZA0 {G:Prop}(h:G:=by first|(apply Qy_y;rfl;exact ZnJ)|exact QyA):G:=h
theorem ZqE {G:Prop}(h:G:=by(first|exact ZnJ|(apply Zaw;rfl;rfl;exact q1))):G:=h
theorem ZAZ {G:Prop}(h:G:=by first|(apply Qy_y;rfl;exact ZqE)|exact QyA):G:=h
theorem Zsj {G G':Prop}(k:G')(h:Hold G'->G:=by intro k9;(first|(apply RL_pu;rfl;exact ZqE)|(apply RD_Q;rfl;rfl;decide +kernel;rfl;rfl;exact ZAZ)|refine walk1 ?_|(refine jn ?_;(try intro F);(first|(refine stA ?_)|(apply Zae;first|exact ZqE|exact PuA));first|refine⟨_,EndsA,QFStI1,?_⟩|refine fin ?_));exact k9.out):G:=h ⟨k⟩
theorem ZnI {G:Prop}(h:G:=by(first|exact ZnJ|(apply Zcg;rfl;rfl;exact q2))):G:=h
theorem ZxO {G:Prop}(h:G:=by first|(apply Qy_y;rfl;exact ZnI)|exact QyA):G:=h
theorem ZnH {G:Prop}(h:G:=by(first|exact ZqE|(apply Zcg;rfl;rfl;exact q2))):G:=h
theorem ZxN {G:Prop}(h:G:=by first|(apply Qy_y;rfl;exact ZnH)|exact QyA):G:=h
theorem ZrG (A:Option Addr)(c:Nat)(l:List Zab)(all:Bool)(but:Int)(wr:World)(hG:Glob wr)(hA:RdSl wr A c Zab.enc 11 l)(hn:l.length<=1000000)(hR:∀ r∈l,-4611686018427387904<=r.save/\r.save<=4611686018427387904)(hF:∀ r∈l,r.from_<=4611686018427387904) :
  Zaj Tryz.prog 234 [.slice A l.length c,.bool all,.int .i64 but] wr [] (fun v O=>v = .tuple #[evV (fstD l all but),.bool (fstD l all but).isSome]/\O=[]):=by
 unfold Zaj
 intro w0 hB0 hH0
 refine ZnR Tryz.func234 rfl rfl rfl hB0 hH0 ?_
 intro a0 hst
 -- Zaa Tryz.func234
 refine ZfX (fun fr' O'=>∃ b3 b4 b5 b6,Sub [(3,.pointer (some ⟨b3,0,none⟩)),(4,.pointer (some ⟨b4,0,none⟩)),(5,.pointer (some ⟨b5,0,none⟩)),(6,.pointer (some ⟨b6,0,none⟩))] fr'/\SubO [.blk b3 [.slice A l.length c] 27,.blk b4 [.bool all] 4,.blk b5 [.int .i64 but] 2,.blk b6 [.int .i64 0,.int .i64 0,.int .i64 0] 92] O') ?_ ?_ a0 w0 hst
 ·repeat (first|refine walk ?_|(refine jn ?_;(try intro F);(first|(refine bx ?_;intro bk)|(refine stA ?_)|(apply Zae;exact PuA));refine fin ?_)|(apply RD_W;rfl;intro bk))
  rename_i b3 b4 b5
  exact⟨rfl,b3,b4,b5,bk,SFA,SOA⟩
 rintro a1 w1 fr1 O1 hs0 ⟨b3,b4,b5,b6,hf1,hO1⟩
 have hs1:=hs0.sub hf1 hO1
 clear hf1 hO1 hs0 hst a0 fr1 O1
 refine ZfX (fun fr' O'=>∃ b8,Sub [(3,.pointer (some ⟨b3,0,none⟩)),(4,.pointer (some ⟨b4,0,none⟩)),(5,.pointer (some ⟨b5,0,none⟩)),(6,.pointer (some ⟨b6,0,none⟩)),(8,.pointer (some ⟨b8,0,none⟩))] fr'/\SubO [.blk b3 [.slice A l.length c] 27,.blk b4 [.bool all] 4,.blk b5 [.int .i64 but] 2,.blk b6 [.int .i64 0,.int .i64 0,.int .i64 0] 92,.blk b8 [.int .i64 0,.int .i64 0,.int .i64 0] 92] O') ?_ ?_ a1 w1 hs1
 ·repeat (first|refine walk ?_|(refine jn ?_;(try intro F);(first|(refine bx ?_;intro bk)|(refine stA ?_)|(apply Zae;exact PuA));refine fin ?_)|(apply RD_W;rfl;intro bk))
  exact⟨rfl,bk,SFA,SOA⟩
 rintro a2 w2 fr2 O2 hs0 ⟨b8,hf1,hO1⟩
 have hs2:=hs0.sub hf1 hO1
 clear hf1 hO1 hs0 hs1 a1 fr2 O2
 refine ZfX (fun fr' O'=>∃ b9,Sub [(3,.pointer (some ⟨b3,0,none⟩)),(4,.pointer (some ⟨b4,0,none⟩)),(5,.pointer (some ⟨b5,0,none⟩)),(6,.pointer (some ⟨b6,0,none⟩)),(8,.pointer (some ⟨b8,0,none⟩)),(9,.pointer (some ⟨b9,0,none⟩))] fr'/\SubO [.blk b3 [.slice A l.length c] 27,.blk b4 [.bool all] 4,.blk b5 [.int .i64 but] 2,.blk b6 [.int .i64 0,.int .i64 0,.int .i64 0] 92,.blk b8 [.int .i64 0,.int .i64 0,.int .i64 0] 92,.blk b9 [.bool false] 4] O') ?_ ?_ a2 w2 hs2
 ·repeat (first|refine walk ?_|(refine jn ?_;(try intro F);(first|(refine bx ?_;intro bk)|(refine stA ?_)|(apply Zae;exact PuA));refine fin ?_)|(apply RD_W;rfl;intro bk))
  exact⟨rfl,bk,SFA,SOA⟩
 rintro a3 w3 fr3 O3 hs0 ⟨b9,hf1,hO1⟩
 have hs3:=hs0.sub hf1 hO1
 clear hf1 hO1 hs0 hs2 a2 fr3 O3
 refine wp_seq ?_
 refine ZfX (fun fr' O'=>∃ bl,Sub [(3,.pointer (some ⟨b3,0,none⟩)),(4,.pointer (some ⟨b4,0,none⟩)),(5,.pointer (some ⟨b5,0,none⟩)),(6,.pointer (some ⟨b6,0,none⟩)),(8,.pointer (some ⟨b8,0,none⟩)),(9,.pointer (some ⟨b9,0,none⟩)),(12,.func (.func 260) #[] #[.pointer (some ⟨bl,0,none⟩)])] fr'/\SubO [.blk bl [.slice A l.length c] 27,.blk b3 [.slice A l.length c] 27,.blk b4 [.bool all] 4,.blk b5 [.int .i64 but] 2,.blk b6 [.int .i64 0,.int .i64 0,.int .i64 0] 92,.blk b8 [.int .i64 0,.int .i64 0,.int .i64 0] 92,.blk b9 [.bool false] 4] O') ?_ ?_ a3 w3 hs3
 ·repeat (first|refine walk ?_|(refine jg ?_;(try intro F);(first|(apply Zag (h:=fun w' _ _=>ZoC A l.length c w');rfl;rintro v O' ⟨bl,rfl,rfl⟩)|(refine bx ?_;intro bk)|(refine stA ?_));refine fin ?_)|(refine jn ?_;(try intro F);(first|(refine bx ?_;intro bk)|(refine stA ?_)|(apply Zae;exact PuA));refine fin ?_)|(apply RD_W;rfl;intro bk))
  exact⟨rfl,bl,SFA,SOA⟩
 rintro a4 w4 fr4 O4 hs0 ⟨bl,hf1,hO1⟩
 have hs4:=hs0.sub hf1 hO1
 clear hf1 hO1 hs0 hs3 a3 fr4 O4
 refine wp_block ?_
 refine ZpS (gf:=260) (lb:=[.pointer (some ⟨bl,0,none⟩)]) (fun jump O2=>jump=none/\SubO [.blk b6 [.int .i64 0,.int .i64 0,.int .i64 0] 92,.blk b8 (evC (fstD l all but)) 92,.blk b9 [.bool (fstD l all but).isSome] 4] O2) hs4 rfl ?_ ?_
 ·intro fn ll D
  generalize hr:ZhS fn a4.tmps 13 _ _ D=r
  have hit:=ZmT ll bl A c l (fun s=>fiO A c l.length all but b3 b4 b5 b6 b8 b9 ll D r s) (fun d s=>s=d.foldl (fstB l all but) none) wr none rfl hG hA hn hR hF ?_
  ·refine hit.sub SOA fun v O' ⟨_,s,h1,h6⟩=>?_
   subst h1
   exact⟨none,_,.ready,SubO.trans (by rw[<- hr];exact SOA) h6,by decide,rfl,.refl _⟩
  ·rintro d ⟨ey,er,en⟩ s X Y ⟨k,ru,hk,her⟩ hs
   dsimp only at her
   subst her
   have hkl:k<l.length:=(List.getElem?_eq_some_iff.1 hk).1
   have hrE:ruE l ⟨ey,k,en⟩=ru:=ZpP (by dsimp only;exact hk)
   obtain⟨hna,hca⟩:=hA.rd k _ hk
   have hle:=hA.le
   have hcp:=hA.cap
   simp only[maxLen]at hcp
   obtain⟨s2,hs2⟩:∃ s2,fstB l all but s ⟨ey,k,en⟩=s2:=⟨_,rfl⟩
   have hfold:s2=(d++[(⟨ey,k,en⟩:Zad)]).foldl (fstB l all but) none:=by rw[List.foldl_append,<- hs,<- hs2];rfl
   unfold fstB at hs2
   rw[hrE]at hs2
   refine ZkT (r:=r) (p:=13) (fr:=[(3,.pointer (some ⟨b3,0,none⟩)),(4,.pointer (some ⟨b4,0,none⟩)),(5,.pointer (some ⟨b5,0,none⟩)),(6,.pointer (some ⟨b6,0,none⟩)),(8,.pointer (some ⟨b8,0,none⟩)),(9,.pointer (some ⟨b9,0,none⟩))]) (a0:=a4) (by rw[<- hr];rfl) (by rw[<- hr];rfl) (by rw[<- hr];rfl) (hs4.sim.sub SFA) rfl (by simp) (by rw[<- hr];rfl) ?_
   dsimp only[Zad.enc]
   apply Zcf (Or.inr ⟨_,rfl⟩);(intro d hd;cases hd;rfl);(intro c h;cases h);(intro a w hs;exact Zdm rfl w)
   apply Stp_alloc;intro b10
   apply Zcf (Or.inr ⟨_,rfl⟩);(intro d hd;cases hd);(intro c h;cases h);(intro a w hs;exact Zdm rfl w)
   (apply Stp_storeNf;rfl;rfl;(focus repeat' constructor);(focus repeat (first|exact Nf.nil|apply Nf.cons));rfl;rfl;rfl;(focus repeat' constructor))
   refine Zbt ?_
   refine⟨_,(by repeat' constructor),?_⟩
   have hbody:∀ Q fr O,(∀ b:Code,b=r.body->WI (Fence.wide.inRound ll) [] Tryz.prog 39 wr b Q fr O)->WI (Fence.wide.inRound ll) [] Tryz.prog 39 wr r.body Q fr O:=fun Q fr O h=>h _ rfl
   refine hbody _ _ _ fun b hb=>?_
   rw[<- hr]at hb
   dsimp only[ZhS]at hb
   subst hb
   refine Zqw (ZgM (ZgM (ZuF (Or.inr ⟨_,rfl⟩) rfl (by decide +kernel) rfl ?_)))
   rcases s with _|⟨by_,br,bn⟩
   ·cases all with
    | true =>
     obtain rfl:some ⟨ey,k,en⟩=s2:=by rw[<- hs2];rfl
     clear hs2
     dsimp only[fiO,evC,Zad.enc,dEv0,Option.isSome]
     repeat (first|(apply RL_pu;rfl;exact ZnJ)|(apply RD_Q;rfl;rfl;decide +kernel;rfl;rfl;exact ZA0)|refine walk1 ?_|(refine jn ?_;(try intro F);(first|(refine bx ?_;intro bk)|(refine stA ?_)|(apply Zae;first|exact ZnJ|exact PuA));first|refine⟨_,EndsA,QFStI0,?_⟩|refine fin ?_)|(apply RD_W;rfl;intro bk))
     refine Zcq rfl (fun h=>(by cases h)) (fun h=>?_)
     refine Zjq ?_
     apply thenQ_n
     refine ZbU ?_
     apply Zdx (Or.inr ⟨_,rfl⟩);rfl;(intro c h;cases h);(apply Pu_loadNf;rfl;(focus repeat' constructor);exact NfA;rfl)
     apply Zcf (Or.inr ⟨_,rfl⟩);(intro d hd;cases hd);(intro c h;cases h);(intro a w hs;exact Zdm rfl w)
     (apply Stp_storeNf;rfl;rfl;(focus repeat' constructor);(focus repeat (first|exact Nf.nil|apply Nf.cons));rfl;rfl;rfl;(focus repeat' constructor))
     apply Zcf (Or.inr ⟨_,rfl⟩);(intro d hd;cases hd);(intro c h;cases h);(intro a w hs;exact Zdm rfl w)
     (apply Stp_storeNf;rfl;rfl;(focus repeat' constructor);(focus repeat (first|exact Nf.nil|apply Nf.cons));rfl;rfl;rfl;(focus repeat' constructor))
     refine Zbt ?_
     refine blockQ_n ?_
     refine⟨_,(by repeat' constructor),rfl,some ⟨ey,k,en⟩,hfold,?_⟩
     dsimp only[fiO,evC,Zad.enc,dEv0,Option.isSome]
     rw[<- hr]
     exact SOA
    | false =>
     by_cases hsv:ru.save=but
     ·have q1:decide (ru.save=but)=true:=decide_eq_true hsv
      obtain rfl:none=s2:=by rw[<- hs2,q1];rfl
      clear hs2
      dsimp only[fiO,evC,Zad.enc,dEv0,Option.isSome]
      repeat (first|refine Zsj ?_|(refine jn ?_;(try intro F);(refine bx ?_;intro bk);first|refine⟨_,EndsA,QFStI1,?_⟩|refine fin ?_)|(apply RD_W;rfl;intro bk))
      refine Zcq rfl (fun h=>?_) (fun h=>(by cases h))
      refine Zlx ?_
      apply thenQ_e
      apply blockQ_hit
      refine⟨_,(by repeat' constructor),rfl,none,hfold,?_⟩
      dsimp only[fiO,evC,Zad.enc,dEv0,Option.isSome]
      rw[<- hr]
      exact SOA
     ·have q1:decide (ru.save=but)=false:=decide_eq_false hsv
      obtain rfl:some ⟨ey,k,en⟩=s2:=by rw[<- hs2,q1];rfl
      clear hs2
      dsimp only[fiO,evC,Zad.enc,dEv0,Option.isSome]
      repeat (first|refine Zsj ?_|(refine jn ?_;(try intro F);(refine bx ?_;intro bk);first|refine⟨_,EndsA,QFStI1,?_⟩|refine fin ?_)|(apply RD_W;rfl;intro bk))
      refine Zcq rfl (fun h=>(by cases h)) (fun h=>?_)
      refine Zjq ?_
      apply thenQ_n
      refine ZbU ?_
      apply Zdx (Or.inr ⟨_,rfl⟩);rfl;(intro c h;cases h);(apply Pu_loadNf;rfl;(focus repeat' constructor);exact NfA;rfl)
      apply Zcf (Or.inr ⟨_,rfl⟩);(intro d hd;cases hd);(intro c h;cases h);(intro a w hs;exact Zdm rfl w)
      (apply Stp_storeNf;rfl;rfl;(focus repeat' constructor);(focus repeat (first|exact Nf.nil|apply Nf.cons));rfl;rfl;rfl;(focus repeat' constructor))
      apply Zcf (Or.inr ⟨_,rfl⟩);(intro d hd;cases hd);(intro c h;cases h);(intro a w hs;exact Zdm rfl w)
      (apply Stp_storeNf;rfl;rfl;(focus repeat' constructor);(focus repeat (first|exact Nf.nil|apply Nf.cons));rfl;rfl;rfl;(focus repeat' constructor))
      refine Zbt ?_
      refine blockQ_n ?_
      refine⟨_,(by repeat' constructor),rfl,some ⟨ey,k,en⟩,hfold,?_⟩
      dsimp only[fiO,evC,Zad.enc,dEv0,Option.isSome]
      rw[<- hr]
      exact SOA
   ·cases all with
    | true =>
     by_cases hle2:bn<=en
     ·have q2:decide (bn<=en)=true:=decide_eq_true hle2
      obtain rfl:some ⟨by_,br,bn⟩=s2:=by rw[<- hs2];simp[hle2]
      clear hs2
      dsimp only[fiO,evC,Zad.enc,dEv0,Option.isSome]
      repeat (first|(apply RL_pu;rfl;exact ZnI)|(apply RD_Q;rfl;rfl;decide +kernel;rfl;rfl;exact ZxO)|refine walk1 ?_|(refine jn ?_;(try intro F);(first|(refine bx ?_;intro bk)|(refine stA ?_)|(apply Zae;first|exact ZnI|exact PuA));first|refine⟨_,EndsA,QFStI2,?_⟩|refine fin ?_)|(apply RD_W;rfl;intro bk))
      refine Zcq rfl (fun h=>?_) (fun h=>(by cases h))
      refine Zlx ?_
      apply thenQ_e
      apply blockQ_hit
      refine⟨_,(by repeat' constructor),rfl,some ⟨by_,br,bn⟩,hfold,?_⟩
      dsimp only[fiO,evC,Zad.enc,dEv0,Option.isSome]
      rw[<- hr]
      exact SOA
     ·have q2:decide (bn<=en)=false:=decide_eq_false hle2
      obtain rfl:some ⟨ey,k,en⟩=s2:=by rw[<- hs2];simp[hle2]
      clear hs2
      dsimp only[fiO,evC,Zad.enc,dEv0,Option.isSome]
      repeat (first|(apply RL_pu;rfl;exact ZnI)|(apply RD_Q;rfl;rfl;decide +kernel;rfl;rfl;exact ZxO)|refine walk1 ?_|(refine jn ?_;(try intro F);(first|(refine bx ?_;intro bk)|(refine stA ?_)|(apply Zae;first|exact ZnI|exact PuA));first|refine⟨_,EndsA,QFStI2,?_⟩|refine fin ?_)|(apply RD_W;rfl;intro bk))
      refine Zcq rfl (fun h=>(by cases h)) (fun h=>?_)
      refine Zjq ?_
      apply thenQ_n
      refine ZbU ?_
      apply Zdx (Or.inr ⟨_,rfl⟩);rfl;(intro c h;cases h);(apply Pu_loadNf;rfl;(focus repeat' constructor);exact NfA;rfl)
      apply Zcf (Or.inr ⟨_,rfl⟩);(intro d hd;cases hd);(intro c h;cases h);(intro a w hs;exact Zdm rfl w)
      (apply Stp_storeNf;rfl;rfl;(focus repeat' constructor);(focus repeat (first|exact Nf.nil|apply Nf.cons));rfl;rfl;rfl;(focus repeat' constructor))
      apply Zcf (Or.inr ⟨_,rfl⟩);(intro d hd;cases hd);(intro c h;cases h);(intro a w hs;exact Zdm rfl w)
      (apply Stp_storeNf;rfl;rfl;(focus repeat' constructor);(focus repeat (first|exact Nf.nil|apply Nf.cons));rfl;rfl;rfl;(focus repeat' constructor))
      refine Zbt ?_
      refine blockQ_n ?_
      refine⟨_,(by repeat' constructor),rfl,some ⟨ey,k,en⟩,hfold,?_⟩
      dsimp only[fiO,evC,Zad.enc,dEv0,Option.isSome]
      rw[<- hr]
      exact SOA
    | false =>
     by_cases hsv:ru.save=but
     ·have q1:decide (ru.save=but)=true:=decide_eq_true hsv
      obtain rfl:some ⟨by_,br,bn⟩=s2:=by rw[<- hs2,q1];rfl
      clear hs2
      dsimp only[fiO,evC,Zad.enc,dEv0,Option.isSome]
      repeat (first|refine Zsj ?_|(refine jn ?_;(try intro F);(refine bx ?_;intro bk);first|refine⟨_,EndsA,QFStI1,?_⟩|refine fin ?_)|(apply RD_W;rfl;intro bk))
      refine Zcq rfl (fun h=>?_) (fun h=>(by cases h))
      refine Zlx ?_
      apply thenQ_e
      apply blockQ_hit
      refine⟨_,(by repeat' constructor),rfl,some ⟨by_,br,bn⟩,hfold,?_⟩
      dsimp only[fiO,evC,Zad.enc,dEv0,Option.isSome]
      rw[<- hr]
      exact SOA
     ·have q1:decide (ru.save=but)=false:=decide_eq_false hsv
      by_cases hle2:bn<=en
      ·have q2:decide (bn<=en)=true:=decide_eq_true hle2
       obtain rfl:some ⟨by_,br,bn⟩=s2:=by rw[<- hs2];simp[hsv,hle2]
       clear hs2
       dsimp only[fiO,evC,Zad.enc,dEv0,Option.isSome]
       repeat (first|(apply RL_pu;rfl;exact ZnH)|(apply RD_Q;rfl;rfl;decide +kernel;rfl;rfl;exact ZxN)|refine walk1 ?_|(refine jn ?_;(try intro F);(first|(refine bx ?_;intro bk)|(refine stA ?_)|(apply Zae;first|exact ZnH|exact PuA));first|refine⟨_,EndsA,QFStI3,?_⟩|refine fin ?_)|(apply RD_W;rfl;intro bk))
       refine Zcq rfl (fun h=>?_) (fun h=>(by cases h))
       refine Zlx ?_
       apply thenQ_e
       apply blockQ_hit
       refine⟨_,(by repeat' constructor),rfl,some ⟨by_,br,bn⟩,hfold,?_⟩
       dsimp only[fiO,evC,Zad.enc,dEv0,Option.isSome]
       rw[<- hr]
       exact SOA
      ·have q2:decide (bn<=en)=false:=decide_eq_false hle2
       obtain rfl:some ⟨ey,k,en⟩=s2:=by rw[<- hs2];simp[hsv,hle2]
       clear hs2
       dsimp only[fiO,evC,Zad.enc,dEv0,Option.isSome]
       repeat (first|(apply RL_pu;rfl;exact ZnH)|(apply RD_Q;rfl;rfl;decide +kernel;rfl;rfl;exact ZxN)|refine walk1 ?_|(refine jn ?_;(try intro F);(first|(refine bx ?_;intro bk)|(refine stA ?_)|(apply Zae;first|exact ZnH|exact PuA));first|refine⟨_,EndsA,QFStI3,?_⟩|refine fin ?_)|(apply RD_W;rfl;intro bk))
       refine Zcq rfl (fun h=>(by cases h)) (fun h=>?_)
       refine Zjq ?_
       apply thenQ_n
       refine ZbU ?_
       apply Zdx (Or.inr ⟨_,rfl⟩);rfl;(intro c h;cases h);(apply Pu_loadNf;rfl;(focus repeat' constructor);exact NfA;rfl)
       apply Zcf (Or.inr ⟨_,rfl⟩);(intro d hd;cases hd);(intro c h;cases h);(intro a w hs;exact Zdm rfl w)
       (apply Stp_storeNf;rfl;rfl;(focus repeat' constructor);(focus repeat (first|exact Nf.nil|apply Nf.cons));rfl;rfl;rfl;(focus repeat' constructor))
       apply Zcf (Or.inr ⟨_,rfl⟩);(intro d hd;cases hd);(intro c h;cases h);(intro a w hs;exact Zdm rfl w)
       (apply Stp_storeNf;rfl;rfl;(focus repeat' constructor);(focus repeat (first|exact Nf.nil|apply Nf.cons));rfl;rfl;rfl;(focus repeat' constructor))
       refine Zbt ?_
       refine blockQ_n ?_
       refine⟨_,(by repeat' constructor),rfl,some ⟨ey,k,en⟩,hfold,?_⟩
       dsimp only[fiO,evC,Zad.enc,dEv0,Option.isSome]
       rw[<- hr]
       exact SOA
 ·rintro jump O2 D w5 ⟨rfl,hsub⟩ hs6
  obtain⟨res,hres⟩:∃ res,fstD l all but=res:=⟨_,rfl⟩
  rw[hres]at hsub ⊢
  have hs5:St 39 wr [(6,.pointer (some ⟨b6,0,none⟩)),(8,.pointer (some ⟨b8,0,none⟩)),(9,.pointer (some ⟨b9,0,none⟩))] [Zdp D,.blk b6 [.int .i64 0,.int .i64 0,.int .i64 0] 92,.blk b8 (evC res) 92,.blk b9 [.bool res.isSome] 4] a4 w5:=hs6.sub SFA (.cons .here hsub)
  have key:∀ c' Q' Q3,WI Fence.wide (Zg8 D) Tryz.prog 39 wr c' Q' [(6,.pointer (some ⟨b6,0,none⟩)),(8,.pointer (some ⟨b8,0,none⟩)),(9,.pointer (some ⟨b9,0,none⟩))] [Zdp D,.blk b6 [.int .i64 0,.int .i64 0,.int .i64 0] 92,.blk b8 (evC res) 92,.blk b9 [.bool res.isSome] 4]->(∀ e a' w',ZwB (Zg8 D) 39 wr Q' e a' w'->Q3 e a' w')->c'.wp Tryz.prog Q3 (actD (Zg8 D) a4) w5:=fun c' Q' Q3 h hq=>(wpIn_wide (n:=0)).1 (wpIn_mono (h.at hs5) hq)
  show(Code.seq _ _).wp _ _ _ _
  refine key _ (fun e fr O=>e = .ret/\Sub [(6,.pointer (some ⟨b6,0,none⟩)),(7,.bool res.isSome)] fr/\SubO [Zdp D,.blk b6 (evC res) 92] O) _ (ZgM (ZuF (.inl rfl) rfl (by decide +kernel) rfl ?_)) ?_
  ·rcases res with _|⟨ry,rr,rn⟩
   ·dsimp only[evC,Zad.enc,dEv0,Option.isSome]
    repeat (first|refine walk ?_|(refine jn ?_;(try intro F);(first|(refine bx ?_;intro bk)|(refine stA ?_)|(apply Zae;exact PuA));refine fin ?_)|(apply RD_W;rfl;intro bk))
    refine Zjr ?_
    exact⟨rfl,SFA,SOA⟩
   ·dsimp only[evC,Zad.enc,dEv0,Option.isSome]
    repeat (first|refine walk ?_|(refine jn ?_;(try intro F);(first|(refine bx ?_;intro bk)|(refine stA ?_)|(apply Zae;exact PuA));refine fin ?_)|(apply RD_W;rfl;intro bk))
    refine Zjr ?_
    exact⟨rfl,SFA,SOA⟩
  ·rintro e a' w' ⟨hd,fr',O',hs',rfl,hf,hO⟩
   have h:=ZwW res wr (hs'.sub hf hO)
   rw[ZeZ hd]at h
   exact h
end Go.Proofs.YtdlmhmmhdbbliaaGreatDoor
namespace Go.Proofs.YtdlmhmmhdbbliaaGreatDoor
open Go Go.RowKit Go.Wk
attribute [local irreducible] W RL Does Zau Zak retQ Calls Pu Stp RD Qy Ay Zaj
structure RsSm (l:List Zab):Prop where
 n:l.length<=1000000
 s:∀ r∈l,-1000000000<=r.save/\r.save<=1000000000
 f:∀ r∈l,r.from_<=4611686018427387904
 t:∀ r∈l,-4611686018427387904<=r.to
theorem RsSm.r {l:List Zab}(h:RsSm l):∀ r∈l,-4611686018427387904<=r.save/\r.save<=4611686018427387904:=fun r hr=>by have:=h.s r hr;omega
theorem RsSm.b {l:List Zab}(h:RsSm l):ZzN l:=fun r hr=>⟨h.r r hr,h.f r hr,h.t r hr⟩
theorem ZhL (A:Option Addr)(c:Nat)(l:List Zab)(all:Bool)(but:Int)(w:World)(hG:Glob w)(hA:RdSl w A c Zab.enc 11 l)(h:RsSm l) :
  Does Tryz.prog 234 [.slice A l.length c,.bool all,.int .i64 but] w (fun v O=>v = .tuple #[evV (fstD l all but),.bool (fstD l all but).isSome]/\O=[]):=by
 have:=ZrG A c l all but w hG hA h.n h.r h.f
 unfold Zaj at this
 unfold Does
 exact this w (Bel.refl _ _) (Zay.nil _ _)
def EvAt (N:Nat)(o:Option Zad):Prop:=∀ e,o=some e->0<=e.rule/\e.rule<N
theorem ZpX {least:Int}{r:Zab}{i y:Int}{e:Zad}(h:onR least r i y=some e):e.rule=i:=by
 unfold onR at h
 split at h
 ·cases h
 ·split at h
  ·cases h
  ·cases h;rfl
theorem Zji {least nominal:Int}{r:Zab}{i:Int}{e:Zad}:∀ (k:Nat) (y:Int),beIn least nominal r i y k=some e->e.rule=i
 | 0,_,h=>by cases h
 | k+1,y,h=>by
  rw[beIn]at h
  split at h
  ·rename_i x hx
   split at h
   ·cases h;exact ZpX hx
   ·exact Zji k _ h
  ·exact Zji k _ h
theorem ZmZ {least:Int}{r:Zab}{i:Int}{e:Zad}:∀ (k:Nat) (y:Int),fiIn least r i y k=some e->e.rule=i
 | 0,_,h=>by cases h
 | k+1,y,h=>by
  rw[fiIn]at h
  split at h
  ·rename_i x hx
   cases h;exact ZpX hx
  ·exact ZmZ k _ h
theorem Zqu {least nominal yr:Int}{N:Nat}:∀ (l:List Zab) (i:Nat) (b:Option Zad),i+l.length<=N->EvAt N b->EvAt N (Zem least nominal yr l i b)
 | [],_,_,_,h=>h
 | r::l,i,b,hi,h=>by
  rw[List.length_cons]at hi
  rw[Zem]
  refine Zqu l (i+1) _ (by omega) ?_
  have hb:EvAt N (beIn least nominal r i (min (lastY r) (yr+2)) 20):=fun e he=>by
   have:=Zji 20 _ he
   omega
  generalize beIn least nominal r i (min (lastY r) (yr+2)) 20=o at *
  cases o with
  | none=>exact h
  | some x =>
   cases b with
   | none=>exact hb
   | some y =>
    dsimp only
    split
    ·exact hb
    ·exact h
theorem Zuq (l:List Zab)(nominal:Int):EvAt l.length (befD l nominal):=Zqu l 0 none (by omega) fun e h=>by cases h
theorem ZtP {least:Int}{N:Nat}:∀ (l:List Zab) (i:Nat),i+l.length<=N->∀ e∈firL least l i,0<=e.rule/\e.rule<N
 | [],_,_,e,h=>by cases h
 | r::l,i,hi,e,h=>by
  rw[List.length_cons]at hi
  rw[firL]at h
  rcases List.mem_append.1 h with h|h
  ·cases ho:fiIn least r i (max r.from_ (-2000000000)) 9 with
   | none=>rw[ho]at h;cases h
   | some x =>
    rw[ho]at h
    simp only[Option.toList,List.mem_singleton]at h
    subst h
    have:=ZmZ 9 _ ho
    omega
  ·exact ZtP l (i+1) (by omega) e h
theorem ZxD {l:List Zab}{all:Bool}{but:Int}{N:Nat}:∀ (L:List Zad) (b:Option Zad),(∀ e∈L,0<=e.rule/\e.rule<N)->EvAt N b->EvAt N (L.foldl (fstB l all but) b)
 | [],_,_,h=>h
 | x::L,b,hL,h=>by
  rw[List.foldl_cons]
  refine ZxD L _ (fun e he=>hL e (List.mem_cons_of_mem _ he)) ?_
  have key:∀ q:Bool,EvAt N (if q=true then b else some x):=fun q=>by
   cases q
   ·intro e he
    cases he
    exact hL x List.mem_cons_self
   ·exact h
  unfold fstB
  exact key _
theorem ZtK (l:List Zab)(all:Bool)(but:Int):EvAt l.length (fstD l all but):=ZxD _ none (ZtP l 0 (by omega)) fun e h=>by cases h
theorem Zyi {G:Prop}(h:G:=by(first|exact PuI|(apply Pu_loadO1;rfl;exact hca 9 _ rfl))):G:=h
theorem ZhJ (A:Option Addr)(c:Nat)(l:List Zab)(w:World)(hG:Glob w)(hA:RdSl w A c Zab.enc 11 l)(h:RsSm l):Does Tryz.prog 221 [.slice A l.length c] w (fun v O=>v=stV (iniS l)/\O=[]):=by
 have h1:=fun w' (hw:Bel w.heap.size w w')=>ZhL A c l true 0 w' (hG.up hw) (hA.up hw) h
 have hat:=ZtK l true 0
 have hle:=hA.le
 have hcp:=hA.cap
 simp only[maxLen]at hcp
 unfold iniS
 generalize fstD l true 0=o at *
 rcases o with _|⟨ey,er,en⟩
 ·simp only[evV,Zad.enc,dEv0,Option.isSome]at h1
  refine Zaa Tryz.func221 rfl rfl rfl rfl ?_
  repeat (first|(refine js ?_;(first|(refine Zac h1 ?_)|(refine bx ?_;intro bk)))|refine walk ?_)
  exact ret_1 _ [] (.cellB rfl (by repeat' constructor) rfl rfl) .nil ⟨rfl,rfl⟩
 ·simp only[evV,Zad.enc,Option.isSome]at h1 ⊢
  obtain⟨e0,e1⟩:=hat _ rfl
  dsimp only at e0 e1
  obtain⟨ru,hru⟩:∃ ru,l[er.toNat]?=some ru:=⟨_,List.getElem?_eq_getElem (by omega)⟩
  obtain⟨hna,hca⟩:=hA.rd _ _ hru
  rw[show ruE l ⟨ey,er,en⟩=ru from ZpP hru]
  have h2:=fun w' (hw:Bel w.heap.size w w')=>ZhL A c l false ru.save w' (hG.up hw) (hA.up hw) h
  have hat2:=ZtK l false ru.save
  generalize fstD l false ru.save=o2 at *
  rcases o2 with _|⟨fy,frr,fn⟩
  ·simp only[evV,Zad.enc,dEv0,Option.isSome]at h2 ⊢
   have hb:=fun w' (hw:Bel w.heap.size w w')=>ZcV A c l ⟨ey,er,en⟩ w' (hA.up hw) ⟨e0,e1⟩
   unfold stV at hb ⊢
   generalize behS l ⟨ey,er,en⟩=st at *
   refine Zaa Tryz.func221 rfl rfl rfl rfl ?_
   repeat (first|(apply RL_pu;rfl;exact Zyi)|(refine js ?_;(first|(refine Zac h1 ?_)|(refine Zac hb ?_)|(refine Zac h2 ?_)|(refine bx ?_;intro bk)))|refine walk1 ?_)
   exact ret_1 _ [] (.cellB rfl (by repeat' constructor) rfl rfl) .nil ⟨rfl,rfl⟩
  ·simp only[evV,Zad.enc,Option.isSome]at h2 ⊢
   have hb:=fun w' (hw:Bel w.heap.size w w')=>ZcV A c l ⟨fy,frr,fn⟩ w' (hA.up hw) (hat2 _ rfl)
   unfold stV at hb ⊢
   generalize behS l ⟨fy,frr,fn⟩=st at *
   refine Zaa Tryz.func221 rfl rfl rfl rfl ?_
   repeat (first|(apply RL_pu;rfl;exact Zyi)|(refine js ?_;(first|(refine Zac h1 ?_)|(refine Zac hb ?_)|(refine Zac h2 ?_)|(refine bx ?_;intro bk)))|refine walk1 ?_)
   exact ret_1 _ [] (.cellB rfl (by repeat' constructor) rfl rfl) .nil ⟨rfl,rfl⟩
theorem Zd3 (A:Option Addr)(c:Nat)(l:List Zab)(nominal:Int)(w:World)(hG:Glob w)(hA:RdSl w A c Zab.enc 11 l)(h:RsSm l)(ht : -4611686018427387904<=nominal/\nominal<=4611686018427387904) :
  Does Tryz.prog 191 [.slice A l.length c,.int .i64 nominal] w (fun v O=>v=stV (befS l nominal)/\O=[]):=by
 have h1:=fun w' (hw:Bel w.heap.size w w')=>Zeg A c l nominal w' (hG.up hw) (hA.up hw) h.n h.b ht
 have hat:=Zuq l nominal
 unfold befS
 generalize befD l nominal=o at *
 rcases o with _|⟨ey,er,en⟩
 ·simp only[evV,Zad.enc,dEv0,Option.isSome]at h1 ⊢
  have hb:=fun w' (hw:Bel w.heap.size w w')=>ZhJ A c l w' (hG.up hw) (hA.up hw) h
  unfold stV at hb ⊢
  generalize iniS l=st at *
  refine Zaa Tryz.func191 rfl rfl rfl rfl ?_
  repeat (first|(refine js ?_;(first|(refine Zac h1 ?_)|(refine Zac hb ?_)|(refine bx ?_;intro bk)))|refine walk ?_)
  exact ret_1 _ [] (.cellB rfl (by repeat' constructor) rfl rfl) .nil ⟨rfl,rfl⟩
 ·simp only[evV,Zad.enc,Option.isSome]at h1 ⊢
  have hb:=fun w' (hw:Bel w.heap.size w w')=>ZcV A c l ⟨ey,er,en⟩ w' (hA.up hw) (hat _ rfl)
  unfold stV at hb ⊢
  generalize behS l ⟨ey,er,en⟩=st at *
  refine Zaa Tryz.func191 rfl rfl rfl rfl ?_
  repeat (first|(refine js ?_;(first|(refine Zac h1 ?_)|(refine Zac hb ?_)|(refine bx ?_;intro bk)))|refine walk ?_)
  exact ret_1 _ [] (.cellB rfl (by repeat' constructor) rfl rfl) .nil ⟨rfl,rfl⟩
end Go.Proofs.YtdlmhmmhdbbliaaGreatDoor
namespace Go.Proofs.YtdlmhmmhdbbliaaGreatDoor
open Go Go.RowKit Go.Wk
def ZhE (x:ZbI)(y:Int):Int × Bool :=
 if x.kind=1 then (if Zex y=true/\59<x.day then Zan y 1 1+x.day - 1+1 else Zan y 1 1+x.day - 1,true)
 else ((onD y x.month (if x.week=5 then ⟨2,x.day,0⟩ else ⟨3,x.day,7*x.week - 6⟩)).1,decide (x.kind=3)&&decide ((onD y x.month (if x.week=5 then ⟨2,x.day,0⟩ else ⟨3,x.day,7*x.week - 6⟩)).2=0))
theorem Ztj (y m:Int)(h0:1<=m)(h1:m<=12):Zan y m 1 - Zan y 1 1=Zan 2001 m 1 - Zan 2001 1 1+(if Zex y=true/\3<=m then 1 else 0):=by
 have s:∀ z:Int,∀ k:Fin 12,1<=k.val->Zan z ((k.val:Int)+1) 1=Zan z k.val 1+lenM z k.val:=fun z k hk=>Zku z k.val hk (by omega)
 have l2:lenM y 2=if Zex y then 29 else 28:=rfl
 have y1:=s y 1 (by decide)
 have y2:=s y 2 (by decide)
 have y3:=s y 3 (by decide)
 have y4:=s y 4 (by decide)
 have y5:=s y 5 (by decide)
 have y6:=s y 6 (by decide)
 have y7:=s y 7 (by decide)
 have y8:=s y 8 (by decide)
 have y9:=s y 9 (by decide)
 have y10:=s y 10 (by decide)
 have y11:=s y 11 (by decide)
 have z1:=s 2001 1 (by decide)
 have z2:=s 2001 2 (by decide)
 have z3:=s 2001 3 (by decide)
 have z4:=s 2001 4 (by decide)
 have z5:=s 2001 5 (by decide)
 have z6:=s 2001 6 (by decide)
 have z7:=s 2001 7 (by decide)
 have z8:=s 2001 8 (by decide)
 have z9:=s 2001 9 (by decide)
 have z10:=s 2001 10 (by decide)
 have z11:=s 2001 11 (by decide)
 have e:∀ z:Int,lenM z 1=31/\lenM z 3=31/\lenM z 4=30/\lenM z 5=31/\lenM z 6=30/\lenM z 7=31/\lenM z 8=31/\lenM z 9=30/\lenM z 10=31/\lenM z 11=30:=fun z=>⟨rfl,rfl,rfl,rfl,rfl,rfl,rfl,rfl,rfl,rfl⟩
 have f2:lenM 2001 2=28:=rfl
 obtain⟨a1,a3,a4,a5,a6,a7,a8,a9,a10,a11⟩:=e y
 obtain⟨b1,b3,b4,b5,b6,b7,b8,b9,b10,b11⟩:=e 2001
 change Zan y 2 1=Zan y 1 1+lenM y 1 at y1
 change Zan y 3 1=Zan y 2 1+lenM y 2 at y2
 change Zan y 4 1=Zan y 3 1+lenM y 3 at y3
 change Zan y 5 1=Zan y 4 1+lenM y 4 at y4
 change Zan y 6 1=Zan y 5 1+lenM y 5 at y5
 change Zan y 7 1=Zan y 6 1+lenM y 6 at y6
 change Zan y 8 1=Zan y 7 1+lenM y 7 at y7
 change Zan y 9 1=Zan y 8 1+lenM y 8 at y8
 change Zan y 10 1=Zan y 9 1+lenM y 9 at y9
 change Zan y 11 1=Zan y 10 1+lenM y 10 at y10
 change Zan y 12 1=Zan y 11 1+lenM y 11 at y11
 change Zan 2001 2 1=Zan 2001 1 1+lenM 2001 1 at z1
 change Zan 2001 3 1=Zan 2001 2 1+lenM 2001 2 at z2
 change Zan 2001 4 1=Zan 2001 3 1+lenM 2001 3 at z3
 change Zan 2001 5 1=Zan 2001 4 1+lenM 2001 4 at z4
 change Zan 2001 6 1=Zan 2001 5 1+lenM 2001 5 at z5
 change Zan 2001 7 1=Zan 2001 6 1+lenM 2001 6 at z6
 change Zan 2001 8 1=Zan 2001 7 1+lenM 2001 7 at z7
 change Zan 2001 9 1=Zan 2001 8 1+lenM 2001 8 at z8
 change Zan 2001 10 1=Zan 2001 9 1+lenM 2001 9 at z9
 change Zan 2001 11 1=Zan 2001 10 1+lenM 2001 10 at z10
 change Zan 2001 12 1=Zan 2001 11 1+lenM 2001 11 at z11
 clear s e
 have hc:m=1\/m=2\/m=3\/m=4\/m=5\/m=6\/m=7\/m=8\/m=9\/m=10\/m=11\/m=12:=by omega
 cases hl:Zex y with
 | true =>
  rw[hl,if_pos rfl]at l2
  rcases hc with rfl|rfl|rfl|rfl|rfl|rfl|rfl|rfl|rfl|rfl|rfl|rfl <;> simp only[Int.reduceLE,and_true,and_false,if_true,if_false] <;> omega
 | false =>
  rw[hl,if_neg (by decide)]at l2
  rw[if_neg (by rintro⟨h,_⟩;cases h)]
  rcases hc with rfl|rfl|rfl|rfl|rfl|rfl|rfl|rfl|rfl|rfl|rfl|rfl <;> omega
theorem Zk8 {d:DDay}(h:Zes d){y m:Int}(hy:inY y=true)(h0:1<=m)(h1:m<=12):(ZcM m d).2=true/\∀ sec,ZhE { (ZcM m d).1 with sec:=sec } y=((onD y m d).1,true):=by
 have hon:=(h.on hy h0 h1).1
 obtain⟨k,w,n⟩:=d
 simp only[Zes]at h
 rcases h with⟨rfl,a1,a2,rfl⟩|⟨rfl,a1,a2,a3,a4,a5⟩|⟨rfl,rfl,a3,a4⟩
 ·refine⟨rfl,fun sec=>?_⟩
  rw[show ZcM m ⟨2,w,0⟩=(⟨3,w,m,5,0⟩,true) from rfl]
  unfold ZhE
  dsimp only
  rw[if_neg (by decide),if_pos rfl,hon]
  rfl
 ·rw[Int.tmod_eq_emod_of_nonneg (by omega)]at a5
  refine⟨?_,fun sec=>?_⟩
  ·unfold ZcM
   dsimp only
   rw[if_neg (by decide),if_neg (by decide),if_pos rfl,decide_eq_true a5,decide_eq_true (show n<29 by omega)]
   rfl
  ·rw[show(ZcM m ⟨3,w,n⟩).1=⟨3,w,m,n / 7+1,0⟩ from rfl]
   unfold ZhE
   dsimp only
   rw[if_neg (by decide)]
   have e7:7*(n / 7+1) - 6=n:=by omega
   rw[if_neg (by omega),e7,hon]
   rfl
 ·have hl:=Zf4 2001 m h0 h1
  have hd:ZaL 2001 m n=true:=by
   unfold ZaL
   rw[show inY 2001=true from by decide,decide_eq_true (show(1:Int)<=n by omega),decide_eq_true (show n<=lenM 2001 m by omega)]
   rfl
  refine⟨?_,fun sec=>?_⟩
  ·unfold ZcM
   dsimp only
   rw[if_pos rfl,hd]
  ·have hx:(onD y m ⟨1,0,n⟩).1=Zan y m 1+n - 1:=by
    unfold onD at hon ⊢
    split
    ·rename_i hh;rw[if_pos hh]at hon;cases hon
    ·rename_i hh
     rw[if_neg hh]at hon
     split
     ·rename_i h2;rw[if_pos h2]at hon;cases hon
     ·rename_i h2
      rw[if_neg h2]at hon
      split
      ·rename_i h3;rw[if_pos h3]at hon;cases hon
      ·unfold Zey
       dsimp only
       rw[if_pos rfl]
   have hm:=Ztj y m h0 h1
   have hlo:3<=m->59<=Zan 2001 m 1 - Zan 2001 1 1:=fun h3=>by
    have hc:m=3\/m=4\/m=5\/m=6\/m=7\/m=8\/m=9\/m=10\/m=11\/m=12:=by omega
    rcases hc with rfl|rfl|rfl|rfl|rfl|rfl|rfl|rfl|rfl|rfl <;> decide
   have hhi:m<3->Zan 2001 m 1 - Zan 2001 1 1<=31:=fun h3=>by
    have hc:m=1\/m=2:=by omega
    rcases hc with rfl|rfl <;> decide
   rw[show(ZcM m ⟨1,0,n⟩).1=⟨1,(if ZaL 2001 m n then Zan 2001 m n else 0) - Zan 2001 1 1+1,0,0,0⟩ from rfl,hd,if_pos rfl]
   unfold ZhE
   dsimp only
   rw[if_pos rfl,hx,Zt7 2001 m n]
   refine congrArg (·,true) ?_
   cases hl2:Zex y with
   | true =>
    rw[hl2]at hm
    by_cases h3:3<=m
    ·have:=hlo h3
     rw[if_pos ⟨rfl,h3⟩]at hm
     rw[if_pos ⟨rfl,by omega⟩]
     omega
    ·have:=hhi (by omega)
     rw[if_neg (fun hh=>h3 hh.2)]at hm
     rw[if_neg (fun hh=>by have:=hh.2;omega)]
     omega
   | false =>
    rw[hl2,if_neg (by rintro⟨hh,_⟩;cases hh)]at hm
    rw[if_neg (by rintro⟨hh,_⟩;cases hh)]
    omega
end Go.Proofs.YtdlmhmmhdbbliaaGreatDoor
