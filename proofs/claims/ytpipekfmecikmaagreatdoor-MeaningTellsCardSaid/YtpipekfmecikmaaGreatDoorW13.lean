/- Parts of the proof. -/
import Derived.Test.YtpipekfmecikmaaGreatDoorW12
import Derived.Test.YtpipekfmecikmaaGreatDoorW10
import Derived.Test.YtpipekfmecikmaaGreatDoorW09
import Derived.Test.YtpipekfmecikmaaGreatDoorW06
set_option maxHeartbeats 4000000
set_option linter.unusedVariables false
set_option linter.unusedSimpArgs false
set_option maxHeartbeats 4000000
set_option maxRecDepth 20000
namespace Go.Proofs.YtpipekfmecikmaaGreatDoor
open Go Go.RowKit Go.Wk
attribute [local irreducible] W RL Does Zat Zaj retQ Calls Pu Stp RD Qy Ay Zak RLI WI
abbrev fiO (A:Option Addr)(c:Nat)(n:Nat)(all:Bool)(but:Int)(b3 b4 b5 b6 b8 b9 ll D:Nat)(r:Loop)(s:Option Zac):List It :=
 [Za7 ll r,ZcY D,.blk b3 [.slice A n c] 22,.blk b4 [.bool all] 4,.blk b5 [.int .i64 but] 2,.blk b6 [.int .i64 0,.int .i64 0,.int .i64 0] 91,.blk b8 (evC s) 91,.blk b9 [.bool s.isSome] 4]
theorem ZCg (o:Option Zac):evV o = .agg (evC o).toArray:=by cases o <;> rfl
theorem ZtS (o:Option Zac):(evC o).length=3:=by cases o <;> rfl
def fiR (o:Option Zac)(wr:World):Ending->World->Prop:=fun e w'=>∃ v O',e = .returned v/\Bel wr.heap.size wr w'/\Zaz wr.heap.size O' w'/\(v = .tuple #[evV o,.bool o.isSome]/\O'=[])
theorem ZwR (o:Option Zac)(wr:World){a:Act}{w':World}{D d:Nat}(e:St 39 wr [(6,.pointer (some ⟨d,0,none⟩)),(7,.bool o.isSome)] [ZcY D,.blk d (evC o) 91] a w') :
  bodyPostM Fence.wide 0 Tryz.prog Tryz.f268 (fiR o wr) .ret (actD (Zgu D) a) w':=by
 have f:=ZcY.at (e.own.sat _ List.mem_cons_self)
 have b:=ZpL e
 refine⟨by simp,.inl ⟨_,_,rfl,run_takeDeferred f,?_⟩⟩
 refine⟨.tuple #[evV o,.bool o.isSome],?_,_,[],rfl,b.old,b.own.sub .nil,rfl,rfl⟩
 have c:Tryz.f268.results=[ResultVar.cell 6 91,ResultVar.tmp 7].toArray:=rfl
 show(results Tryz.f268 a.tmps).run Tryz.prog _=_
 unfold results
 rw[c,List.mapM_toArray]
 simp only[Sem.run_bind,Sem.run_map]
 rw[ZcN (P:=Tryz.prog) b _ (fun _=>rfl) (fun _ _=>rfl) [ResultVar.cell 6 91,ResultVar.tmp 7] [.agg (evC o).toArray,.bool o.isSome] ⟨_,_,rfl,.cellB (sz:=3) rfl .here (by rw[List.take_of_length_le (by rw[ZtS];exact Nat.le_refl 3)]) (ZtS o),_,[],rfl,rfl,rfl⟩]
 simp only[Result.andThen_ok,Sem.run_pure]
 rw[ZCg]
 rfl
theorem Znz {G:Prop}(h:G:=by(first|exact PuI|(apply Pu_loadO1;rfl;exact hca 9 _ rfl))):G:=h
theorem ZBF {G:Prop}(h:G:=by first|(apply Qy_y;rfl;exact Znz)|exact QyA):G:=h
theorem ZqJ {G:Prop}(h:G:=by(first|exact Znz|(apply Zap;rfl;rfl;exact q1))):G:=h
theorem ZBE {G:Prop}(h:G:=by first|(apply Qy_y;rfl;exact ZqJ)|exact QyA):G:=h
theorem Zsw {G G':Prop}(k:G')(h:Hold G'->G:=by intro k9;(first|(apply RL_pu;rfl;exact ZqJ)|(apply RD_Q;rfl;rfl;decide +kernel;rfl;rfl;exact ZBE)|refine walk1 ?_|(refine jn ?_;(try intro F);(first|(refine stA ?_)|(apply Zad;first|exact ZqJ|exact PuA));first|refine⟨_,EndsA,QFStI1,?_⟩|refine fin ?_));exact k9.out):G:=h ⟨k⟩
theorem Zny {G:Prop}(h:G:=by(first|exact Znz|(apply ZbF;rfl;rfl;exact q2))):G:=h
theorem ZxP {G:Prop}(h:G:=by first|(apply Qy_y;rfl;exact Zny)|exact QyA):G:=h
theorem Znx {G:Prop}(h:G:=by(first|exact ZqJ|(apply ZbF;rfl;rfl;exact q2))):G:=h
theorem ZxO {G:Prop}(h:G:=by first|(apply Qy_y;rfl;exact Znx)|exact QyA):G:=h
theorem ZrW (A:Option Addr)(c:Nat)(l:List DRule)(q:Bool)(j:Int)(wr:World)(hG:Glob wr)(hA:RdSl wr A c DRule.enc 11 l)(hn:l.length<=1000000)(hR:∀ r∈l,-4611686018427387904<=r.save/\r.save<=4611686018427387904)(hF:∀ r∈l,r.from_<=4611686018427387904) :
  Zak Tryz.prog 268 [.slice A l.length c,.bool q,.int .i64 j] wr [] (fun v O=>v = .tuple #[evV (fstD l q j),.bool (fstD l q j).isSome]/\O=[]):=by
 unfold Zak
 intro w0 hB0 hH0
 refine ZnR Tryz.func268 rfl rfl rfl hB0 hH0 ?_
 intro a0 hst
 -- Zaa Tryz.func268
 refine Zfs (fun fr' O'=>∃ L M N H,Sub [(3,.pointer (some ⟨L,0,none⟩)),(4,.pointer (some ⟨M,0,none⟩)),(5,.pointer (some ⟨N,0,none⟩)),(6,.pointer (some ⟨H,0,none⟩))] fr'/\SubO [.blk L [.slice A l.length c] 22,.blk M [.bool q] 4,.blk N [.int .i64 j] 2,.blk H [.int .i64 0,.int .i64 0,.int .i64 0] 91] O') ?_ ?_ a0 w0 hst
 ·repeat (first|refine walk ?_|(refine jn ?_;(try intro F);(first|(refine bx ?_;intro t)|(refine stA ?_)|(apply Zad;exact PuA));refine fin ?_)|(apply RD_W;rfl;intro t))
  rename_i L M N
  exact⟨rfl,L,M,N,t,SFA,SOA⟩
 rintro a1 w1 fr1 O1 z ⟨L,M,N,H,y,x⟩
 have hs1:=z.sub y x
 clear y x z hst a0 fr1 O1
 refine Zfs (fun fr' O'=>∃ K,Sub [(3,.pointer (some ⟨L,0,none⟩)),(4,.pointer (some ⟨M,0,none⟩)),(5,.pointer (some ⟨N,0,none⟩)),(6,.pointer (some ⟨H,0,none⟩)),(8,.pointer (some ⟨K,0,none⟩))] fr'/\SubO [.blk L [.slice A l.length c] 22,.blk M [.bool q] 4,.blk N [.int .i64 j] 2,.blk H [.int .i64 0,.int .i64 0,.int .i64 0] 91,.blk K [.int .i64 0,.int .i64 0,.int .i64 0] 91] O') ?_ ?_ a1 w1 hs1
 ·repeat (first|refine walk ?_|(refine jn ?_;(try intro F);(first|(refine bx ?_;intro t)|(refine stA ?_)|(apply Zad;exact PuA));refine fin ?_)|(apply RD_W;rfl;intro t))
  exact⟨rfl,t,SFA,SOA⟩
 rintro a2 w2 fr2 O2 z ⟨K,y,x⟩
 have f:=z.sub y x
 clear y x z hs1 a1 fr2 O2
 refine Zfs (fun fr' O'=>∃ R,Sub [(3,.pointer (some ⟨L,0,none⟩)),(4,.pointer (some ⟨M,0,none⟩)),(5,.pointer (some ⟨N,0,none⟩)),(6,.pointer (some ⟨H,0,none⟩)),(8,.pointer (some ⟨K,0,none⟩)),(9,.pointer (some ⟨R,0,none⟩))] fr'/\SubO [.blk L [.slice A l.length c] 22,.blk M [.bool q] 4,.blk N [.int .i64 j] 2,.blk H [.int .i64 0,.int .i64 0,.int .i64 0] 91,.blk K [.int .i64 0,.int .i64 0,.int .i64 0] 91,.blk R [.bool false] 4] O') ?_ ?_ a2 w2 f
 ·repeat (first|refine walk ?_|(refine jn ?_;(try intro F);(first|(refine bx ?_;intro t)|(refine stA ?_)|(apply Zad;exact PuA));refine fin ?_)|(apply RD_W;rfl;intro t))
  exact⟨rfl,t,SFA,SOA⟩
 rintro a3 w3 fr3 O3 z ⟨R,y,x⟩
 have hs3:=z.sub y x
 clear y x z f a2 fr3 O3
 refine wp_seq ?_
 refine Zfs (fun fr' O'=>∃ bl,Sub [(3,.pointer (some ⟨L,0,none⟩)),(4,.pointer (some ⟨M,0,none⟩)),(5,.pointer (some ⟨N,0,none⟩)),(6,.pointer (some ⟨H,0,none⟩)),(8,.pointer (some ⟨K,0,none⟩)),(9,.pointer (some ⟨R,0,none⟩)),(12,.func (.func 302) #[] #[.pointer (some ⟨bl,0,none⟩)])] fr'/\SubO [.blk bl [.slice A l.length c] 22,.blk L [.slice A l.length c] 22,.blk M [.bool q] 4,.blk N [.int .i64 j] 2,.blk H [.int .i64 0,.int .i64 0,.int .i64 0] 91,.blk K [.int .i64 0,.int .i64 0,.int .i64 0] 91,.blk R [.bool false] 4] O') ?_ ?_ a3 w3 hs3
 ·repeat (first|refine walk ?_|(refine jg ?_;(try intro F);(first|(apply Zae (h:=fun w' _ _=>ZoJ A l.length c w');rfl;rintro v O' ⟨bl,rfl,rfl⟩)|(refine bx ?_;intro t)|(refine stA ?_));refine fin ?_)|(refine jn ?_;(try intro F);(first|(refine bx ?_;intro t)|(refine stA ?_)|(apply Zad;exact PuA));refine fin ?_)|(apply RD_W;rfl;intro t))
  exact⟨rfl,bl,SFA,SOA⟩
 rintro a4 w4 fr4 O4 z ⟨bl,y,x⟩
 have hs4:=z.sub y x
 clear y x z hs3 a3 fr4 O4
 refine wp_block ?_
 refine ZpU (gf:=302) (lb:=[.pointer (some ⟨bl,0,none⟩)]) (fun Z O2=>Z=none/\SubO [.blk H [.int .i64 0,.int .i64 0,.int .i64 0] 91,.blk K (evC (fstD l q j)) 91,.blk R [.bool (fstD l q j).isSome] 4] O2) hs4 rfl ?_ ?_
 ·intro fn ll D
  generalize hr:Zhm fn a4.tmps 13 _ _ D=r
  have hit:=ZmN ll bl A c l (fun s=>fiO A c l.length q j L M N H K R ll D r s) (fun d s=>s=d.foldl (fstB l q j) none) wr none rfl hG hA hn hR hF ?_
  ·refine hit.sub SOA fun v O' ⟨_,s,h1,h6⟩=>?_
   subst h1
   exact⟨none,_,.ready,SubO.trans (by rw[<- hr];exact SOA) h6,by decide,rfl,.refl _⟩
  ·rintro d ⟨S,er,I⟩ s X Y ⟨k,ru,hk,her⟩ T
   dsimp only at her
   subst her
   have hkl:k<l.length:=(List.getElem?_eq_some_iff.1 hk).1
   have hrE:ruE l ⟨S,k,I⟩=ru:=ZgX (by dsimp only;exact hk)
   obtain⟨hna,hca⟩:=hA.rd k _ hk
   have hle:=hA.le
   have hcp:=hA.cap
   simp only[maxLen]at hcp
   obtain⟨U,f⟩:∃ U,fstB l q j s ⟨S,k,I⟩=U:=⟨_,rfl⟩
   have m:U=(d++[(⟨S,k,I⟩:Zac)]).foldl (fstB l q j) none:=by rw[List.foldl_append,<- T,<- f];rfl
   unfold fstB at f
   rw[hrE]at f
   refine ZkF (r:=r) (p:=13) (fr:=[(3,.pointer (some ⟨L,0,none⟩)),(4,.pointer (some ⟨M,0,none⟩)),(5,.pointer (some ⟨N,0,none⟩)),(6,.pointer (some ⟨H,0,none⟩)),(8,.pointer (some ⟨K,0,none⟩)),(9,.pointer (some ⟨R,0,none⟩))]) (a0:=a4) (by rw[<- hr];rfl) (by rw[<- hr];rfl) (by rw[<- hr];rfl) (hs4.sim.sub SFA) rfl (by simp) (by rw[<- hr];rfl) ?_
   dsimp only[Zac.enc]
   apply Zb7 (Or.inr ⟨_,rfl⟩);(intro d hd;cases hd;rfl);(intro c h;cases h);(intro a w T;exact ZcU rfl w)
   apply Stp_alloc;intro b10
   apply Zb7 (Or.inr ⟨_,rfl⟩);(intro d hd;cases hd);(intro c h;cases h);(intro a w T;exact ZcU rfl w)
   (apply Stp_storeNf;rfl;rfl;(focus repeat' constructor);(focus repeat (first|exact Nf.nil|apply Nf.cons));rfl;rfl;rfl;(focus repeat' constructor))
   refine Zbq ?_
   refine⟨_,(by repeat' constructor),?_⟩
   have hbody:∀ Q fr O,(∀ b:Code,b=r.body->WI (Fence.wide.inRound ll) [] Tryz.prog 39 wr b Q fr O)->WI (Fence.wide.inRound ll) [] Tryz.prog 39 wr r.body Q fr O:=fun Q fr O h=>h _ rfl
   refine hbody _ _ _ fun b hb=>?_
   rw[<- hr]at hb
   dsimp only[Zhm]at hb
   subst hb
   refine Zqr (Zf7 (Zf7 (Zuu (Or.inr ⟨_,rfl⟩) rfl (by decide +kernel) rfl ?_)))
   rcases s with _|⟨by_,br,bn⟩
   ·cases q with
    | true =>
     obtain rfl:some ⟨S,k,I⟩=U:=by rw[<- f];rfl
     clear f
     dsimp only[fiO,evC,Zac.enc,dEv0,Option.isSome]
     repeat (first|(apply RL_pu;rfl;exact Znz)|(apply RD_Q;rfl;rfl;decide +kernel;rfl;rfl;exact ZBF)|refine walk1 ?_|(refine jn ?_;(try intro F);(first|(refine bx ?_;intro t)|(refine stA ?_)|(apply Zad;first|exact Znz|exact PuA));first|refine⟨_,EndsA,QFStI0,?_⟩|refine fin ?_)|(apply RD_W;rfl;intro t))
     refine Zcg rfl (fun h=>(by cases h)) (fun h=>?_)
     refine Zjc ?_
     apply thenQ_n
     refine ZbI ?_
     apply Zdb (Or.inr ⟨_,rfl⟩);rfl;(intro c h;cases h);(apply Pu_loadNf;rfl;(focus repeat' constructor);exact NfA;rfl)
     apply Zb7 (Or.inr ⟨_,rfl⟩);(intro d hd;cases hd);(intro c h;cases h);(intro a w T;exact ZcU rfl w)
     (apply Stp_storeNf;rfl;rfl;(focus repeat' constructor);(focus repeat (first|exact Nf.nil|apply Nf.cons));rfl;rfl;rfl;(focus repeat' constructor))
     apply Zb7 (Or.inr ⟨_,rfl⟩);(intro d hd;cases hd);(intro c h;cases h);(intro a w T;exact ZcU rfl w)
     (apply Stp_storeNf;rfl;rfl;(focus repeat' constructor);(focus repeat (first|exact Nf.nil|apply Nf.cons));rfl;rfl;rfl;(focus repeat' constructor))
     refine Zbq ?_
     refine blockQ_n ?_
     refine⟨_,(by repeat' constructor),rfl,some ⟨S,k,I⟩,m,?_⟩
     dsimp only[fiO,evC,Zac.enc,dEv0,Option.isSome]
     rw[<- hr]
     exact SOA
    | false =>
     by_cases J:ru.save=j
     ·have q1:decide (ru.save=j)=true:=decide_eq_true J
      obtain rfl:none=U:=by rw[<- f,q1];rfl
      clear f
      dsimp only[fiO,evC,Zac.enc,dEv0,Option.isSome]
      repeat (first|refine Zsw ?_|(refine jn ?_;(try intro F);(refine bx ?_;intro t);first|refine⟨_,EndsA,QFStI1,?_⟩|refine fin ?_)|(apply RD_W;rfl;intro t))
      refine Zcg rfl (fun h=>?_) (fun h=>(by cases h))
      refine Zls ?_
      apply thenQ_e
      apply blockQ_hit
      refine⟨_,(by repeat' constructor),rfl,none,m,?_⟩
      dsimp only[fiO,evC,Zac.enc,dEv0,Option.isSome]
      rw[<- hr]
      exact SOA
     ·have q1:decide (ru.save=j)=false:=decide_eq_false J
      obtain rfl:some ⟨S,k,I⟩=U:=by rw[<- f,q1];rfl
      clear f
      dsimp only[fiO,evC,Zac.enc,dEv0,Option.isSome]
      repeat (first|refine Zsw ?_|(refine jn ?_;(try intro F);(refine bx ?_;intro t);first|refine⟨_,EndsA,QFStI1,?_⟩|refine fin ?_)|(apply RD_W;rfl;intro t))
      refine Zcg rfl (fun h=>(by cases h)) (fun h=>?_)
      refine Zjc ?_
      apply thenQ_n
      refine ZbI ?_
      apply Zdb (Or.inr ⟨_,rfl⟩);rfl;(intro c h;cases h);(apply Pu_loadNf;rfl;(focus repeat' constructor);exact NfA;rfl)
      apply Zb7 (Or.inr ⟨_,rfl⟩);(intro d hd;cases hd);(intro c h;cases h);(intro a w T;exact ZcU rfl w)
      (apply Stp_storeNf;rfl;rfl;(focus repeat' constructor);(focus repeat (first|exact Nf.nil|apply Nf.cons));rfl;rfl;rfl;(focus repeat' constructor))
      apply Zb7 (Or.inr ⟨_,rfl⟩);(intro d hd;cases hd);(intro c h;cases h);(intro a w T;exact ZcU rfl w)
      (apply Stp_storeNf;rfl;rfl;(focus repeat' constructor);(focus repeat (first|exact Nf.nil|apply Nf.cons));rfl;rfl;rfl;(focus repeat' constructor))
      refine Zbq ?_
      refine blockQ_n ?_
      refine⟨_,(by repeat' constructor),rfl,some ⟨S,k,I⟩,m,?_⟩
      dsimp only[fiO,evC,Zac.enc,dEv0,Option.isSome]
      rw[<- hr]
      exact SOA
   ·cases q with
    | true =>
     by_cases u:bn<=I
     ·have q2:decide (bn<=I)=true:=decide_eq_true u
      obtain rfl:some ⟨by_,br,bn⟩=U:=by rw[<- f];simp[u]
      clear f
      dsimp only[fiO,evC,Zac.enc,dEv0,Option.isSome]
      repeat (first|(apply RL_pu;rfl;exact Zny)|(apply RD_Q;rfl;rfl;decide +kernel;rfl;rfl;exact ZxP)|refine walk1 ?_|(refine jn ?_;(try intro F);(first|(refine bx ?_;intro t)|(refine stA ?_)|(apply Zad;first|exact Zny|exact PuA));first|refine⟨_,EndsA,QFStI2,?_⟩|refine fin ?_)|(apply RD_W;rfl;intro t))
      refine Zcg rfl (fun h=>?_) (fun h=>(by cases h))
      refine Zls ?_
      apply thenQ_e
      apply blockQ_hit
      refine⟨_,(by repeat' constructor),rfl,some ⟨by_,br,bn⟩,m,?_⟩
      dsimp only[fiO,evC,Zac.enc,dEv0,Option.isSome]
      rw[<- hr]
      exact SOA
     ·have q2:decide (bn<=I)=false:=decide_eq_false u
      obtain rfl:some ⟨S,k,I⟩=U:=by rw[<- f];simp[u]
      clear f
      dsimp only[fiO,evC,Zac.enc,dEv0,Option.isSome]
      repeat (first|(apply RL_pu;rfl;exact Zny)|(apply RD_Q;rfl;rfl;decide +kernel;rfl;rfl;exact ZxP)|refine walk1 ?_|(refine jn ?_;(try intro F);(first|(refine bx ?_;intro t)|(refine stA ?_)|(apply Zad;first|exact Zny|exact PuA));first|refine⟨_,EndsA,QFStI2,?_⟩|refine fin ?_)|(apply RD_W;rfl;intro t))
      refine Zcg rfl (fun h=>(by cases h)) (fun h=>?_)
      refine Zjc ?_
      apply thenQ_n
      refine ZbI ?_
      apply Zdb (Or.inr ⟨_,rfl⟩);rfl;(intro c h;cases h);(apply Pu_loadNf;rfl;(focus repeat' constructor);exact NfA;rfl)
      apply Zb7 (Or.inr ⟨_,rfl⟩);(intro d hd;cases hd);(intro c h;cases h);(intro a w T;exact ZcU rfl w)
      (apply Stp_storeNf;rfl;rfl;(focus repeat' constructor);(focus repeat (first|exact Nf.nil|apply Nf.cons));rfl;rfl;rfl;(focus repeat' constructor))
      apply Zb7 (Or.inr ⟨_,rfl⟩);(intro d hd;cases hd);(intro c h;cases h);(intro a w T;exact ZcU rfl w)
      (apply Stp_storeNf;rfl;rfl;(focus repeat' constructor);(focus repeat (first|exact Nf.nil|apply Nf.cons));rfl;rfl;rfl;(focus repeat' constructor))
      refine Zbq ?_
      refine blockQ_n ?_
      refine⟨_,(by repeat' constructor),rfl,some ⟨S,k,I⟩,m,?_⟩
      dsimp only[fiO,evC,Zac.enc,dEv0,Option.isSome]
      rw[<- hr]
      exact SOA
    | false =>
     by_cases J:ru.save=j
     ·have q1:decide (ru.save=j)=true:=decide_eq_true J
      obtain rfl:some ⟨by_,br,bn⟩=U:=by rw[<- f,q1];rfl
      clear f
      dsimp only[fiO,evC,Zac.enc,dEv0,Option.isSome]
      repeat (first|refine Zsw ?_|(refine jn ?_;(try intro F);(refine bx ?_;intro t);first|refine⟨_,EndsA,QFStI1,?_⟩|refine fin ?_)|(apply RD_W;rfl;intro t))
      refine Zcg rfl (fun h=>?_) (fun h=>(by cases h))
      refine Zls ?_
      apply thenQ_e
      apply blockQ_hit
      refine⟨_,(by repeat' constructor),rfl,some ⟨by_,br,bn⟩,m,?_⟩
      dsimp only[fiO,evC,Zac.enc,dEv0,Option.isSome]
      rw[<- hr]
      exact SOA
     ·have q1:decide (ru.save=j)=false:=decide_eq_false J
      by_cases u:bn<=I
      ·have q2:decide (bn<=I)=true:=decide_eq_true u
       obtain rfl:some ⟨by_,br,bn⟩=U:=by rw[<- f];simp[J,u]
       clear f
       dsimp only[fiO,evC,Zac.enc,dEv0,Option.isSome]
       repeat (first|(apply RL_pu;rfl;exact Znx)|(apply RD_Q;rfl;rfl;decide +kernel;rfl;rfl;exact ZxO)|refine walk1 ?_|(refine jn ?_;(try intro F);(first|(refine bx ?_;intro t)|(refine stA ?_)|(apply Zad;first|exact Znx|exact PuA));first|refine⟨_,EndsA,QFStI3,?_⟩|refine fin ?_)|(apply RD_W;rfl;intro t))
       refine Zcg rfl (fun h=>?_) (fun h=>(by cases h))
       refine Zls ?_
       apply thenQ_e
       apply blockQ_hit
       refine⟨_,(by repeat' constructor),rfl,some ⟨by_,br,bn⟩,m,?_⟩
       dsimp only[fiO,evC,Zac.enc,dEv0,Option.isSome]
       rw[<- hr]
       exact SOA
      ·have q2:decide (bn<=I)=false:=decide_eq_false u
       obtain rfl:some ⟨S,k,I⟩=U:=by rw[<- f];simp[J,u]
       clear f
       dsimp only[fiO,evC,Zac.enc,dEv0,Option.isSome]
       repeat (first|(apply RL_pu;rfl;exact Znx)|(apply RD_Q;rfl;rfl;decide +kernel;rfl;rfl;exact ZxO)|refine walk1 ?_|(refine jn ?_;(try intro F);(first|(refine bx ?_;intro t)|(refine stA ?_)|(apply Zad;first|exact Znx|exact PuA));first|refine⟨_,EndsA,QFStI3,?_⟩|refine fin ?_)|(apply RD_W;rfl;intro t))
       refine Zcg rfl (fun h=>(by cases h)) (fun h=>?_)
       refine Zjc ?_
       apply thenQ_n
       refine ZbI ?_
       apply Zdb (Or.inr ⟨_,rfl⟩);rfl;(intro c h;cases h);(apply Pu_loadNf;rfl;(focus repeat' constructor);exact NfA;rfl)
       apply Zb7 (Or.inr ⟨_,rfl⟩);(intro d hd;cases hd);(intro c h;cases h);(intro a w T;exact ZcU rfl w)
       (apply Stp_storeNf;rfl;rfl;(focus repeat' constructor);(focus repeat (first|exact Nf.nil|apply Nf.cons));rfl;rfl;rfl;(focus repeat' constructor))
       apply Zb7 (Or.inr ⟨_,rfl⟩);(intro d hd;cases hd);(intro c h;cases h);(intro a w T;exact ZcU rfl w)
       (apply Stp_storeNf;rfl;rfl;(focus repeat' constructor);(focus repeat (first|exact Nf.nil|apply Nf.cons));rfl;rfl;rfl;(focus repeat' constructor))
       refine Zbq ?_
       refine blockQ_n ?_
       refine⟨_,(by repeat' constructor),rfl,some ⟨S,k,I⟩,m,?_⟩
       dsimp only[fiO,evC,Zac.enc,dEv0,Option.isSome]
       rw[<- hr]
       exact SOA
 ·rintro Z O2 D w5 ⟨rfl,W⟩ hs6
  obtain⟨E,hres⟩:∃ E,fstD l q j=E:=⟨_,rfl⟩
  rw[hres]at W ⊢
  have hs5:St 39 wr [(6,.pointer (some ⟨H,0,none⟩)),(8,.pointer (some ⟨K,0,none⟩)),(9,.pointer (some ⟨R,0,none⟩))] [ZcY D,.blk H [.int .i64 0,.int .i64 0,.int .i64 0] 91,.blk K (evC E) 91,.blk R [.bool E.isSome] 4] a4 w5:=hs6.sub SFA (.cons .here W)
  have key:∀ c' Q' Q3,WI Fence.wide (Zgu D) Tryz.prog 39 wr c' Q' [(6,.pointer (some ⟨H,0,none⟩)),(8,.pointer (some ⟨K,0,none⟩)),(9,.pointer (some ⟨R,0,none⟩))] [ZcY D,.blk H [.int .i64 0,.int .i64 0,.int .i64 0] 91,.blk K (evC E) 91,.blk R [.bool E.isSome] 4]->(∀ e a' w',ZwF (Zgu D) 39 wr Q' e a' w'->Q3 e a' w')->c'.wp Tryz.prog Q3 (actD (Zgu D) a4) w5:=fun c' Q' Q3 h hq=>(wpIn_wide (n:=0)).1 (wpIn_mono (h.at hs5) hq)
  show(Code.seq _ _).wp _ _ _ _
  refine key _ (fun e fr O=>e = .ret/\Sub [(6,.pointer (some ⟨H,0,none⟩)),(7,.bool E.isSome)] fr/\SubO [ZcY D,.blk H (evC E) 91] O) _ (Zf7 (Zuu (.inl rfl) rfl (by decide +kernel) rfl ?_)) ?_
  ·rcases E with _|⟨ry,rr,rn⟩
   ·dsimp only[evC,Zac.enc,dEv0,Option.isSome]
    repeat (first|refine walk ?_|(refine jn ?_;(try intro F);(first|(refine bx ?_;intro t)|(refine stA ?_)|(apply Zad;exact PuA));refine fin ?_)|(apply RD_W;rfl;intro t))
    refine Zjd ?_
    exact⟨rfl,SFA,SOA⟩
   ·dsimp only[evC,Zac.enc,dEv0,Option.isSome]
    repeat (first|refine walk ?_|(refine jn ?_;(try intro F);(first|(refine bx ?_;intro t)|(refine stA ?_)|(apply Zad;exact PuA));refine fin ?_)|(apply RD_W;rfl;intro t))
    refine Zjd ?_
    exact⟨rfl,SFA,SOA⟩
  ·rintro e a' w' ⟨hd,fr',O',hs',rfl,hf,hO⟩
   have h:=ZwR E wr (hs'.sub hf hO)
   rw[ZeG hd]at h
   exact h
end Go.Proofs.YtpipekfmecikmaaGreatDoor
namespace Go.Proofs.YtpipekfmecikmaaGreatDoor
open Go Go.RowKit Go.Wk
attribute [local irreducible] W RL Does Zat Zaj retQ Calls Pu Stp RD Qy Ay Zak
structure RsSm (l:List DRule):Prop where
 n:l.length<=1000000
 s:∀ r∈l,-1000000000<=r.save/\r.save<=1000000000
 f:∀ r∈l,r.from_<=4611686018427387904
 t:∀ r∈l,-4611686018427387904<=r.to
theorem RsSm.r {l:List DRule}(h:RsSm l):∀ r∈l,-4611686018427387904<=r.save/\r.save<=4611686018427387904:=fun r a=>by have:=h.s r a;omega
theorem RsSm.b {l:List DRule}(h:RsSm l):ZBv l:=fun r a=>⟨h.r r a,h.f r a,h.t r a⟩
theorem Zg7 (A:Option Addr)(c:Nat)(l:List DRule)(a:Bool)(b:Int)(w:World)(e:Glob w)(d:RdSl w A c DRule.enc 11 l)(h:RsSm l) :
  Does Tryz.prog 268 [.slice A l.length c,.bool a,.int .i64 b] w (fun v O=>v = .tuple #[evV (fstD l a b),.bool (fstD l a b).isSome]/\O=[]):=by
 have:=ZrW A c l a b w e d h.n h.r h.f
 unfold Zak at this
 unfold Does
 exact this w (Bel.refl _ _) (Zaz.nil _ _)
def EvAt (N:Nat)(o:Option Zac):Prop:=∀ e,o=some e->0<=e.rule/\e.rule<N
theorem ZpX {least:Int}{r:DRule}{i y:Int}{e:Zac}(h:onR least r i y=some e):e.rule=i:=by
 unfold onR at h
 split at h
 ·cases h
 ·split at h
  ·cases h
  ·cases h;rfl
theorem Zi3 {least a:Int}{r:DRule}{i:Int}{e:Zac}:∀ (k:Nat) (y:Int),beIn least a r i y k=some e->e.rule=i
 | 0,_,h=>by cases h
 | k+1,y,h=>by
  rw[beIn]at h
  split at h
  ·rename_i x b
   split at h
   ·cases h;exact ZpX b
   ·exact Zi3 k _ h
  ·exact Zi3 k _ h
theorem ZmW {least:Int}{r:DRule}{i:Int}{e:Zac}:∀ (k:Nat) (y:Int),fiIn least r i y k=some e->e.rule=i
 | 0,_,h=>by cases h
 | k+1,y,h=>by
  rw[fiIn]at h
  split at h
  ·rename_i x a
   cases h;exact ZpX a
  ·exact ZmW k _ h
theorem Zqm {least a c:Int}{N:Nat}:∀ (l:List DRule) (i:Nat) (b:Option Zac),i+l.length<=N->EvAt N b->EvAt N (Zfb least a c l i b)
 | [],_,_,_,h=>h
 | r::l,i,b,hi,h=>by
  rw[List.length_cons]at hi
  rw[Zfb]
  refine Zqm l (i+1) _ (by omega) ?_
  have d:EvAt N (beIn least a r i (min (lastY r) (c+2)) 20):=fun e f=>by
   have:=Zi3 20 _ f
   omega
  generalize beIn least a r i (min (lastY r) (c+2)) 20=o at *
  cases o with
  | none=>exact h
  | some x =>
   cases b with
   | none=>exact d
   | some y =>
    dsimp only
    split
    ·exact d
    ·exact h
theorem Zuj (l:List DRule)(a:Int):EvAt l.length (befD l a):=Zqm l 0 none (by omega) fun e h=>by cases h
theorem ZtO {least:Int}{N:Nat}:∀ (l:List DRule) (i:Nat),i+l.length<=N->∀ e∈firL least l i,0<=e.rule/\e.rule<N
 | [],_,_,e,h=>by cases h
 | r::l,i,hi,e,h=>by
  rw[List.length_cons]at hi
  rw[firL]at h
  rcases List.mem_append.1 h with h|h
  ·cases ho:fiIn least r i (max r.from_ (-2000000000)) 9 with
   | none=>rw[ho]at h;cases h
   | some x =>
    rw[ho]at h
    simp only[Option.toList,List.mem_singleton]at h
    subst h
    have:=ZmW 9 _ ho
    omega
  ·exact ZtO l (i+1) (by omega) e h
theorem ZxI {l:List DRule}{a:Bool}{c:Int}{N:Nat}:∀ (L:List Zac) (b:Option Zac),(∀ e∈L,0<=e.rule/\e.rule<N)->EvAt N b->EvAt N (L.foldl (fstB l a c) b)
 | [],_,_,h=>h
 | x::L,b,hL,h=>by
  rw[List.foldl_cons]
  refine ZxI L _ (fun e d=>hL e (List.mem_cons_of_mem _ d)) ?_
  have key:∀ q:Bool,EvAt N (if q=true then b else some x):=fun q=>by
   cases q
   ·intro e d
    cases d
    exact hL x List.mem_cons_self
   ·exact h
  unfold fstB
  exact key _
theorem ZtK (l:List DRule)(a:Bool)(b:Int):EvAt l.length (fstD l a b):=ZxI _ none (ZtO l 0 (by omega)) fun e h=>by cases h
theorem ZyH {G:Prop}(h:G:=by(first|exact PuI|(apply Pu_loadO1;rfl;exact hca 9 _ rfl))):G:=h
theorem Zg5 (A:Option Addr)(c:Nat)(l:List DRule)(w:World)(t:Glob w)(b:RdSl w A c DRule.enc 11 l)(h:RsSm l):Does Tryz.prog 224 [.slice A l.length c] w (fun v O=>v=stV (iniS l)/\O=[]):=by
 have e:=fun w' (a:Bel w.heap.size w w')=>Zg7 A c l true 0 w' (t.up a) (b.up a) h
 have m:=ZtK l true 0
 have u:=b.le
 have p:=b.cap
 simp only[maxLen]at p
 unfold iniS
 generalize fstD l true 0=o at *
 rcases o with _|⟨ey,er,en⟩
 ·simp only[evV,Zac.enc,dEv0,Option.isSome]at e
  refine Zaa Tryz.func224 rfl rfl rfl rfl ?_
  repeat (first|(refine js ?_;(first|(refine Zab e ?_)|(refine bx ?_;intro q)))|refine walk ?_)
  exact ret_1 _ [] (.cellB rfl (by repeat' constructor) rfl rfl) .nil ⟨rfl,rfl⟩
 ·simp only[evV,Zac.enc,Option.isSome]at e ⊢
  obtain⟨r,s⟩:=m _ rfl
  dsimp only at r s
  obtain⟨d,i⟩:∃ d,l[er.toNat]?=some d:=⟨_,List.getElem?_eq_getElem (by omega)⟩
  obtain⟨hna,hca⟩:=b.rd _ _ i
  rw[show ruE l ⟨ey,er,en⟩=d from ZgX i]
  have j:=fun w' (a:Bel w.heap.size w w')=>Zg7 A c l false d.save w' (t.up a) (b.up a) h
  have f:=ZtK l false d.save
  generalize fstD l false d.save=o2 at *
  rcases o2 with _|⟨fy,frr,fn⟩
  ·simp only[evV,Zac.enc,dEv0,Option.isSome]at j ⊢
   have g:=fun w' (a:Bel w.heap.size w w')=>ZcE A c l ⟨ey,er,en⟩ w' (b.up a) ⟨r,s⟩
   unfold stV at g ⊢
   generalize behS l ⟨ey,er,en⟩=st at *
   refine Zaa Tryz.func224 rfl rfl rfl rfl ?_
   repeat (first|(apply RL_pu;rfl;exact ZyH)|(refine js ?_;(first|(refine Zab e ?_)|(refine Zab g ?_)|(refine Zab j ?_)|(refine bx ?_;intro q)))|refine walk1 ?_)
   exact ret_1 _ [] (.cellB rfl (by repeat' constructor) rfl rfl) .nil ⟨rfl,rfl⟩
  ·simp only[evV,Zac.enc,Option.isSome]at j ⊢
   have g:=fun w' (a:Bel w.heap.size w w')=>ZcE A c l ⟨fy,frr,fn⟩ w' (b.up a) (f _ rfl)
   unfold stV at g ⊢
   generalize behS l ⟨fy,frr,fn⟩=st at *
   refine Zaa Tryz.func224 rfl rfl rfl rfl ?_
   repeat (first|(apply RL_pu;rfl;exact ZyH)|(refine js ?_;(first|(refine Zab e ?_)|(refine Zab g ?_)|(refine Zab j ?_)|(refine bx ?_;intro q)))|refine walk1 ?_)
   exact ret_1 _ [] (.cellB rfl (by repeat' constructor) rfl rfl) .nil ⟨rfl,rfl⟩
theorem ZdL (A:Option Addr)(c:Nat)(l:List DRule)(a:Int)(w:World)(j:Glob w)(g:RdSl w A c DRule.enc 11 l)(h:RsSm l)(p : -4611686018427387904<=a/\a<=4611686018427387904) :
  Does Tryz.prog 223 [.slice A l.length c,.int .i64 a] w (fun v O=>v=stV (befS l a)/\O=[]):=by
 have f:=fun w' (d:Bel w.heap.size w w')=>ZfV A c l a w' (j.up d) (g.up d) h.n h.b p
 have i:=Zuj l a
 unfold befS
 generalize befD l a=o at *
 rcases o with _|⟨ey,er,en⟩
 ·simp only[evV,Zac.enc,dEv0,Option.isSome]at f ⊢
  have e:=fun w' (d:Bel w.heap.size w w')=>Zg5 A c l w' (j.up d) (g.up d) h
  unfold stV at e ⊢
  generalize iniS l=st at *
  refine Zaa Tryz.func223 rfl rfl rfl rfl ?_
  repeat (first|(refine js ?_;(first|(refine Zab f ?_)|(refine Zab e ?_)|(refine bx ?_;intro m)))|refine walk ?_)
  exact ret_1 _ [] (.cellB rfl (by repeat' constructor) rfl rfl) .nil ⟨rfl,rfl⟩
 ·simp only[evV,Zac.enc,Option.isSome]at f ⊢
  have e:=fun w' (d:Bel w.heap.size w w')=>ZcE A c l ⟨ey,er,en⟩ w' (g.up d) (i _ rfl)
  unfold stV at e ⊢
  generalize behS l ⟨ey,er,en⟩=st at *
  refine Zaa Tryz.func223 rfl rfl rfl rfl ?_
  repeat (first|(refine js ?_;(first|(refine Zab f ?_)|(refine Zab e ?_)|(refine bx ?_;intro m)))|refine walk ?_)
  exact ret_1 _ [] (.cellB rfl (by repeat' constructor) rfl rfl) .nil ⟨rfl,rfl⟩
theorem ZsX {l:List DRule}(h:RsSm l)(e:Zac) : -1000000000<=(ruE l e).save/\(ruE l e).save<=1000000000:=by
 unfold ruE
 rw[List.getD_eq_getElem?_getD]
 cases hx:l[e.rule.toNat]? with
 | none=>exact⟨by decide,by decide⟩
 | some r=>exact h.s r (List.mem_of_getElem? hx)
theorem Zz1 {l:List DRule}(h:RsSm l) : -1000000000<=(iniS l).1/\(iniS l).1<=1000000000:=by
 unfold iniS
 cases fstD l true 0 with
 | none =>
  dsimp only
  exact⟨by decide,by decide⟩
 | some e =>
  dsimp only
  cases fstD l false (ruE l e).save with
  | none=>exact ZsX h e
  | some o=>exact ZsX h o
theorem ZAh {l:List DRule}(h:RsSm l)(n:Int) : -1000000000<=(befS l n).1/\(befS l n).1<=1000000000:=by
 unfold befS
 cases befD l n with
 | none=>exact Zz1 h
 | some e=>exact ZsX h e
theorem ZyG {G:Prop}(h:G:=by(apply Zap;rfl;rfl;first|exact q0|exact q1)):G:=h
set_option maxHeartbeats 4000000 in
theorem ZtH (A:Option Addr)(c:Nat)(l:List DRule)(e:Zac)(d:Int)(w:World)(N:Glob w)(x:RdSl w A c DRule.enc 11 l)(h:RsSm l)(Q:0<=e.rule/\e.rule<l.length)(K : -1000000000000000000<=e.nominal/\e.nominal<=1000000000000000000)(T : -1000000000<=d/\d<=1000000000) :
  Does Tryz.prog 168 [.slice A l.length c,.agg e.enc.toArray,.int .i64 d] w (fun v O=>v = .int .i64 (ZmE l e d)/\O=[]):=by
 have S:=x.le
 have J:=x.cap
 simp only[maxLen]at J
 obtain⟨H,m⟩:∃ H,l[e.rule.toNat]?=some H:=⟨_,List.getElem?_eq_getElem (by omega)⟩
 obtain⟨hna,hca⟩:=x.rd _ _ m
 have y:=fun w' (F:Bel w.heap.size w w')=>Zo2 A c l w' (x.up F)
 have g:=fun w' (F:Bel w.heap.size w w')=>ZdL A c l e.nominal w' (N.up F) (x.up F) h (by omega)
 have s:=ZAh h e.nominal
 have R:=Zev l h.r
 have z : -1000000000<=max (Zag l) (-10800)/\max (Zag l) (-10800)<=0:=by omega
 unfold ZmE
 rw[ZgX m]
 obtain⟨u,q,j⟩:=e
 dsimp only at Q K m hca g s ⊢
 have L:decide (q<0)=false:=decide_eq_false (by omega)
 have M:decide ((l.length:Int)<=q)=false:=decide_eq_false (by omega)
 have hcb:w.cell? ((((adr A).add (q.toNat*11)).add 7).add 1)=some (.int .i64 H.at_.base):=by
  rw[ZbB]
  exact hca 8 _ rfl
 clear m hca
 generalize H.at_.base=rb at *
 generalize max (Zag l) (-10800)=mb at *
 unfold stV at g
 generalize befS l j=st at *
 obtain⟨sv,U⟩:=st
 dsimp only at s g ⊢
 show Does _ _ [_,.agg #[.int .i64 u,.int .i64 q,.int .i64 j],_] w _
 refine Zaa Tryz.func168 rfl rfl rfl rfl ?_
 repeat (first|refine und ?_|(apply RL_pu;rfl;(first|(apply Zaw;rfl;rfl;exact L)|(apply ZbG;rfl;rfl;exact M)|exact PuI|(apply Pu_loadO1;rfl;exact hcb)))|(refine js ?_;(refine bx ?_;intro D))|refine walk1 ?_)
 rename_i C p
 generalize D=b8
 refine Zaf rfl (fun I=>?_) (fun I=>?_)
 ·obtain rfl:rb=1:=of_decide_eq_true I
  rw[if_pos rfl]
  obtain⟨i,t⟩:∃ i,mb=i:=⟨_,rfl⟩
  rw[t]at y z ⊢
  repeat (first|(refine js ?_;(first|(refine Zab y ?_)|(apply ZdZ (f:=221) (us:=[]) (vs:=[.int .i64 i]) (cs:=[.pointer (some ⟨p,0,none⟩),.pointer (some ⟨b8,0,none⟩)]) (h:=ZeV (.blk C [.int .i64 u,.int .i64 q,.int .i64 j] 91) i j p b8 w (by omega) (by omega));rfl;rfl;exact SOA;rintro v O' ⟨rfl,rfl⟩)|(apply ZdZ (f:=221) (us:=[]) (vs:=[.int .i64 d]) (cs:=[.pointer (some ⟨p,0,none⟩),.pointer (some ⟨b8,0,none⟩)]) (h:=ZeV (.blk C [.int .i64 u,.int .i64 q,.int .i64 j] 91) d (j - i) p b8 w (by omega) (by omega));rfl;rfl;exact SOA;rintro v O' ⟨rfl,rfl⟩)|(refine bx ?_;intro D)))|refine walk ?_)
  exact rtA
 ·have B:¬ rb=1:=of_decide_eq_false I
  have q1:decide (rb=1)=false:=decide_eq_false B
  rw[if_neg B]
  by_cases E:rb=0
  ·have q0:decide (rb=0)=true:=decide_eq_true E
   rw[if_pos E]
   obtain⟨i,t⟩:∃ i,sv=i:=⟨_,rfl⟩
   rw[t]at g s ⊢
   repeat (first|(apply RL_pu;rfl;exact ZyG)|(refine js ?_;(first|(refine Zab g ?_)|(apply ZdZ (f:=221) (us:=[]) (vs:=[.int .i64 i]) (cs:=[.pointer (some ⟨p,0,none⟩),.pointer (some ⟨b8,0,none⟩)]) (h:=ZeV (.blk C [.int .i64 u,.int .i64 q,.int .i64 j] 91) i j p b8 w (by omega) (by omega));rfl;rfl;exact SOA;rintro v O' ⟨rfl,rfl⟩)|(apply ZdZ (f:=221) (us:=[]) (vs:=[.int .i64 d]) (cs:=[.pointer (some ⟨p,0,none⟩),.pointer (some ⟨b8,0,none⟩)]) (h:=ZeV (.blk C [.int .i64 u,.int .i64 q,.int .i64 j] 91) d (j - i) p b8 w (by omega) (by omega));rfl;rfl;exact SOA;rintro v O' ⟨rfl,rfl⟩)|(refine bx ?_;intro D)))|refine walk1 ?_)
   exact rtA
  ·have q0:decide (rb=0)=false:=decide_eq_false E
   rw[if_neg E]
   repeat (first|(apply RL_pu;rfl;exact ZyG)|(refine js ?_;(refine bx ?_;intro D))|refine walk1 ?_)
   exact rtA
end Go.Proofs.YtpipekfmecikmaaGreatDoor
namespace Go.Wk
open Go Go.RowKit
def atGo (l:List DRule)(off t:Int):Nat->Int->Int × ByteArray
 | 0,nm=>befS l nm
 | k+1,nm=>match befD l nm with
  | none=>iniS l
  | some e=>if ZmE l e off<=t then behS l e else atGo l off t k e.nominal
def atS (l:List DRule)(off t:Int):Int × ByteArray:=atGo l off t 3 (t+259200)
end Go.Wk
namespace Go.Proofs.YtpipekfmecikmaaGreatDoor
open Go Go.RowKit Go.Wk
attribute [local irreducible] W RL Does Zat Zaj retQ Calls Pu Stp RD Qy Ay Zak
theorem Zo1 (least a:Int)(c:least<=0)(r:DRule)(i:Int):∀ (k:Nat) (y:Int),EvOk (beIn least a r i y k)
 | 0,_=>fun e b=>by cases b
 | k+1,y=>by
  rw[beIn]
  have h:=ZpZ least c r i y
  split
  ·rename_i e b
   split
   ·intro f d;cases d;exact h e b
   ·exact Zo1 least a c r i k (y - 1)
  ·exact Zo1 least a c r i k (y - 1)
theorem Zql (least a c:Int)(f:least<=0):∀ (l:List DRule) (i:Nat) (b:Option Zac),EvOk b->EvOk (Zfb least a c l i b)
 | [],_,_,h=>h
 | r::l,i,b,h=>by
  rw[Zfb]
  refine Zql least a c f l (i+1) _ ?_
  have d:=Zo1 least a f r i 20 (min (lastY r) (c+2))
  generalize beIn least a r i (min (lastY r) (c+2)) 20=o at *
  cases o with
  | none=>exact h
  | some e =>
   cases b with
   | none=>exact d
   | some x =>
    dsimp only
    split
    ·exact d
    ·exact h
theorem ZAi {l:List DRule}(h:RsSm l)(n:Int):EvOk (befD l n):=Zql _ _ _ (Zev l h.r).2 l 0 none fun e a=>by cases a
structure AtG where
 k:Nat
 nm:Int
theorem ZyF {G:Prop}(h:G:=by(apply ZbF;rfl;rfl;exact q1)):G:=h
set_option maxHeartbeats 4000000 in
theorem ZsL (A:Option Addr)(c:Nat)(l:List DRule)(d t:Int)(w:World)(C:Glob w)(s:RdSl w A c DRule.enc 11 l)(h:RsSm l)(L : -1000000000<=d/\d<=1000000000)(N : -1000000000000000000<=t/\t<=1000000000000000000) :
  Does Tryz.prog 171 [.slice A l.length c,.int .i64 d,.int .i64 t] w (fun v O=>v=stV (atS l d t)/\O=[]):=by
 have u:=fun w'=>Zw8 t 259200 (by omega) w'
 have F:=fun nm (D : -4611686018427387904<=nm/\nm<=4611686018427387904) w' (f:Bel w.heap.size w w')=>ZfV A c l nm w' (C.up f) (s.up f) h.n h.b D
 have z:=fun w' (f:Bel w.heap.size w w')=>Zg5 A c l w' (C.up f) (s.up f) h
 have B:=fun nm (D : -4611686018427387904<=nm/\nm<=4611686018427387904) w' (f:Bel w.heap.size w w')=>ZdL A c l nm w' (C.up f) (s.up f) h D
 obtain⟨q,e⟩:∃ q,atS l d t=q:=⟨_,rfl⟩
 rw[e]
 unfold atS at e
 unfold stV at z B ⊢
 refine Zaa Tryz.func171 rfl rfl rfl rfl ?_
 repeat (first|(refine js ?_;(first|(refine Zab (fun w' _=>u w') ?_)|(refine bx ?_;intro r)))|refine walk ?_)
 generalize r=b6
 refine Zai [(0,.slice A l.length c),(1,.int .i64 d),(2,.int .i64 t),(6,.pointer (some ⟨b6,0,none⟩))] [.blk b6 [.int .i64 0,.string ByteArray.empty] 155] (fun g:AtG=>[(18,.int .i64 g.k),(7,.int .i64 g.nm)]) (fun _=>[]) (fun g=>g.k<=3/\(-4611686018427387904<=g.nm/\g.nm<=4611686018427387904)/\atGo l d t (3 - g.k) g.nm=q) (fun g=>3 - g.k) ⟨0,t+259200⟩ SFA SOA ⟨Nat.zero_le _,by dsimp only;omega,e⟩ ?_
 clear e
 rintro⟨k,nm⟩ ⟨hk,hnb,hi⟩
 dsimp only at hk hnb hi ⊢
 repeat (first|(refine js ?_;(refine bx ?_;intro r))|refine walk ?_)
 refine Zaf rfl (fun H=>?_) (fun H=>?_)
 ·have K:k<3:=by have:=of_decide_eq_true H;omega
  have i:=F nm hnb
  have x:=Zuj l nm
  have E:=ZAi h nm
  rw[show 3 - k=(2 - k)+1 by omega,atGo]at hi
  generalize befD l nm=o at *
  rcases o with _|⟨ey,er,en⟩
  ·dsimp only at hi
   subst hi
   simp only[evV,Zac.enc,dEv0,Option.isSome]at i
   repeat (first|(refine js ?_;(first|(refine Zab i ?_)|(refine Zab z ?_)|(refine bx ?_;intro r)))|refine walk ?_)
   exact ret_1 _ [] (.cellB rfl (by repeat' constructor) rfl rfl) .nil ⟨rfl,rfl⟩
  ·dsimp only at hi
   have J:=E _ rfl
   dsimp only at J
   simp only[evV,Zac.enc,Option.isSome]at i
   have m:=fun w' (f:Bel w.heap.size w w')=>ZtH A c l ⟨ey,er,en⟩ d w' (C.up f) (s.up f) h (x _ rfl) (by dsimp only;omega) L
   have y:=fun w' (f:Bel w.heap.size w w')=>ZcE A c l ⟨ey,er,en⟩ w' (s.up f) (x _ rfl)
   unfold stV at y
   generalize ZmE l ⟨ey,er,en⟩ d=I at *
   by_cases j:I<=t
   ·have q1:decide (I<=t)=true:=decide_eq_true j
    rw[if_pos j]at hi
    subst hi
    repeat (first|(apply RL_pu;rfl;exact ZyF)|(refine js ?_;(first|(refine Zab i ?_)|(refine Zab m ?_)|(refine Zab y ?_)|(refine bx ?_;intro r)))|refine walk1 ?_)
    exact ret_1 _ [] (.cellB rfl (by repeat' constructor) rfl rfl) .nil ⟨rfl,rfl⟩
   ·have q1:decide (I<=t)=false:=decide_eq_false j
    rw[if_neg j]at hi
    repeat (first|(apply RL_pu;rfl;exact ZyF)|(refine js ?_;(first|(refine Zab i ?_)|(refine Zab m ?_)|(refine bx ?_;intro r)))|refine walk1 ?_)
    exact⟨⟨k+1,en⟩,OA,⟨OA,by dsimp only;omega,by dsimp only;rw[show 3 - (k+1)=2 - k by omega];exact hi⟩,SFA,SOA⟩
 ·obtain rfl:k=3:=by have:=of_decide_eq_false H;omega
  have M:=B nm hnb
  rw[show atGo l d t (3 - 3) nm=befS l nm from rfl]at hi
  subst hi
  repeat (first|(refine js ?_;(first|(refine Zab M ?_)|(refine bx ?_;intro r)))|refine walk ?_)
  exact ret_1 _ [] (.cellB rfl (by repeat' constructor) rfl rfl) .nil ⟨rfl,rfl⟩
end Go.Proofs.YtpipekfmecikmaaGreatDoor
namespace Go.Wk
open Go Go.RowKit
def Ze8 (n:Int):Bool:=decide (-604799<=n)&&decide (n<=604799)
def bsE (e:DEra)(l:List DRule):Int:=if e.kind=2 then max (Zag l) (-10800) else 0
def bfE (e:DEra)(l:List DRule)(nm:Int):Int:=if e.kind=1 then e.save else if e.kind=2 then (befS l nm).1 else 0
def endB (e:DEra)(l:List DRule):Int:=bfE e l (Zao e.til (bsE e l)).1
def endT (e:DEra)(l:List DRule):Int :=
 if e.til.at_.base=0 then 86400*(onD e.til.year e.til.month e.til.day).1+e.til.at_.sec - endB e l - e.off
 else if e.til.at_.base=1 then 86400*(onD e.til.year e.til.month e.til.day).1+e.til.at_.sec - e.off
 else 86400*(onD e.til.year e.til.month e.til.day).1+e.til.at_.sec
structure UnOk (e:DEra)(l:List DRule):Prop where
 k:0<=e.kind/\e.kind<=2
 o:Ze8 e.off=true
 s:Ze8 e.save=true
 c:ZaD e.til (bsE e l)=0
 b:Ze8 (endB e l)=true
end Go.Wk
namespace Go.Proofs.YtpipekfmecikmaaGreatDoor
open Go Go.RowKit Go.Wk
attribute [local irreducible] W RL Does Zat Zaj retQ Calls Pu Stp RD Qy Ay Zak
theorem ZfS {n:Int}(h:Ze8 n=true) : -604799<=n/\n<=604799:=by
 unfold Ze8 at h
 simpa using h
theorem ZyA {G:Prop}(h:G:=by(first|(apply Zf9;rfl;(constructor <;> omega))|(apply ZbG;rfl;rfl;exact b1))):G:=h
theorem Zec (n:Int)(w:World):Does Tryz.prog 206 [.int .i64 n,.int .i64 604799] w (fun v O=>v = .bool (Ze8 n)/\O=[]):=by
 unfold Ze8
 refine Zaa Tryz.func206 rfl rfl rfl rfl ?_
 by_cases h : -604799<=n
 ·have b1:decide (-604799<=n)=true:=decide_eq_true h
  rw[b1,Bool.true_and]
  repeat (first|refine und ?_|(apply RL_pu;rfl;exact ZyA)|refine walk1 ?_)
  exact rtA
 ·have b1:decide (-604799<=n)=false:=decide_eq_false h
  rw[b1,Bool.false_and]
  repeat (first|refine und ?_|(apply RL_pu;rfl;exact ZyA)|refine walk1 ?_)
  exact rtA
theorem Zra (e:DEra)(A:Option Addr)(c:Nat)(l:List DRule)(w:World)(u:RdSl w A c DRule.enc 11 l):Does Tryz.prog 208 [.agg e.enc.toArray,.slice A l.length c] w (fun v O=>v = .int .i64 (Go.Wk.bsE e l)/\O=[]):=by
 have x:=fun w' (y:Bel w.heap.size w w')=>ZcI A c l w' (u.up y)
 unfold Go.Wk.bsE
 generalize Zag l=m at *
 have f:(if m < -10800 then -10800 else m)=max m (-10800):=by split <;> omega
 obtain⟨g,a,d,z,t,⟨B,D,C,⟨p,q,r⟩,⟨i,j⟩⟩⟩:=e
 dsimp only
 show Does _ _ [.agg #[.int .i64 g,.int .i64 a,.int .i64 d,.string z,.string t,.bool B,.int .i64 D,.int .i64 C,.int .i64 p,.int .i64 q,.int .i64 r,.int .i64 i,.int .i64 j],_] w _
 refine Zaa Tryz.func208 rfl rfl rfl rfl ?_
 by_cases h:a=2
 ·have b:(!decide (a=2))=false:=by rw[decide_eq_true h];rfl
  rw[if_pos h]
  repeat (first|(apply RL_pu;rfl;(first|(apply Zan;rfl;rfl;exact b)|(apply Zds;rfl;rfl;exact f)))|(refine js ?_;(first|(refine Zab x ?_)|(refine bx ?_;intro s)))|refine walk1 ?_)
  exact rtA
 ·have b:(!decide (a=2))=true:=by rw[decide_eq_false h];rfl
  rw[if_neg h]
  repeat (first|(apply RL_pu;rfl;(apply Zan;rfl;rfl;exact b))|(refine js ?_;(refine bx ?_;intro s))|refine walk1 ?_)
  exact rtA
theorem Zyz {G:Prop}(h:G:=by(apply Zap;rfl;rfl;first|exact b1|exact b2)):G:=h
theorem Zq8 (e:DEra)(A:Option Addr)(c:Nat)(l:List DRule)(b:Int)(w:World)(B:Glob w)(z:RdSl w A c DRule.enc 11 l)(h:RsSm l)(C : -4611686018427387904<=b/\b<=4611686018427387904) :
  Does Tryz.prog 209 [.agg e.enc.toArray,.slice A l.length c,.int .i64 b] w (fun v O=>v = .int .i64 (bfE e l b)/\O=[]):=by
 have i:=fun w' (u:Bel w.heap.size w w')=>ZdL A c l b w' (B.up u) (z.up u) h C
 unfold bfE
 unfold stV at i
 generalize befS l b=x at *
 obtain⟨sv,I⟩:=x
 obtain⟨j,a,g,D,y,⟨E,H,F,⟨q,r,s⟩,⟨m,p⟩⟩⟩:=e
 dsimp only at i ⊢
 show Does _ _ [.agg #[.int .i64 j,.int .i64 a,.int .i64 g,.string D,.string y,.bool E,.int .i64 H,.int .i64 F,.int .i64 q,.int .i64 r,.int .i64 s,.int .i64 m,.int .i64 p],_,_] w _
 refine Zaa Tryz.func209 rfl rfl rfl rfl ?_
 by_cases d:a=1
 ·have b1:decide (a=1)=true:=decide_eq_true d
  rw[if_pos d]
  repeat (first|(apply RL_pu;rfl;(apply Zap;rfl;rfl;exact b1))|(refine js ?_;(refine bx ?_;intro t))|refine walk1 ?_)
  exact rtA
 ·have b1:decide (a=1)=false:=decide_eq_false d
  rw[if_neg d]
  by_cases f:a=2
  ·have b2:decide (a=2)=true:=decide_eq_true f
   rw[if_pos f]
   repeat (first|(apply RL_pu;rfl;exact Zyz)|(refine js ?_;(first|(refine Zab i ?_)|(refine bx ?_;intro t)))|refine walk1 ?_)
   exact rtA
  ·have b2:decide (a=2)=false:=decide_eq_false f
   rw[if_neg f]
   repeat (first|(apply RL_pu;rfl;exact Zyz)|(refine js ?_;(refine bx ?_;intro t))|refine walk1 ?_)
   exact rtA
theorem Zu1 {G:Prop}(h:G:=by(first|(apply Zaw;rfl;rfl;exact t1)|(apply Zay;rfl;rfl;exact t2)|(apply Zap;rfl;rfl;first|exact k1|exact u0|exact u1))):G:=h
theorem ZxN {G:Prop}(h:G:=by first|(apply Qy_y;rfl;exact Zu1)|exact QyA):G:=h
theorem Zdd {G:Prop}(h:G:=by repeat (first|exact QF.nil|(apply QF.mk;rfl;rfl;decide +kernel;exact ZxN))):G:=h
theorem Zjz {G G':Prop}(k:G')(h:Hold G'->G:=by intro k9;(first|refine und ?_|(apply RL_pu;rfl;exact Zu1)|(apply RD_Q;rfl;rfl;decide +kernel;rfl;rfl;exact ZxN)|refine walk1 ?_|(refine jg ?_;(try intro F);(first|(refine Zab (fun w' _=>w1 w') ?_)|(refine Zab (fun w' _=>w2 w') ?_)|(refine Zab (fun w' _=>w3 w') ?_)|(refine Zab hb ?_)|(refine Zab hn ?_)|(refine Zab hs ?_)|(refine Zab hc ?_));first|refine⟨_,EndsA,Zdd,?_⟩|refine fin ?_)|(refine jn ?_;(try intro F);(apply Zad;first|exact Zu1|exact PuA);first|refine⟨_,EndsA,Zdd,?_⟩|refine fin ?_));exact k9.out):G:=h ⟨k⟩
set_option maxHeartbeats 4000000 in
theorem Zq9 (e:DEra)(A:Option Addr)(c:Nat)(l:List DRule)(w:World)(z:Glob w)(E:RdSl w A c DRule.enc 11 l)(h:RsSm l)(m:UnOk e l) :
  Does Tryz.prog 142 [.agg e.enc.toArray,.slice A l.length c] w (fun v O=>v = .tuple #[.int .i64 (endT e l),.int .i64 0]/\O=[]):=by
 have w1:=fun w'=>Zec e.off w'
 have w2:=fun w'=>Zec e.save w'
 have w3:=fun w'=>Zec (endB e l) w'
 rw[m.o]at w1
 rw[m.s]at w2
 rw[m.b]at w3
 have Q:=ZfS m.o
 have M:=ZfS m.b
 obtain⟨_,t⟩:=Zfl m.c
 have hb:=fun w' (q:Bel w.heap.size w w')=>Zra e A c l w' (E.up q)
 have hn:=fun w' (q:Bel w.heap.size w w')=>Zen e.til (Go.Wk.bsE e l) w' (z.up q)
 have u:(Zao e.til (Go.Wk.bsE e l)).2=0:=by
  unfold Zao
  rw[if_neg (by rw[m.c];decide)]
 have x : -4611686018427387904<=(Zao e.til (Go.Wk.bsE e l)).1/\(Zao e.til (Go.Wk.bsE e l)).1<=4611686018427387904:=by
  have p:=Zem e.til.year e.til.month e.til.day
  have r:=(Zfl m.c).1
  unfold Zao
  rw[if_neg (by rw[m.c];decide)]
  dsimp only
  split <;> omega
 have hs:=fun w' (q:Bel w.heap.size w w')=>Zq8 e A c l (Zao e.til (Go.Wk.bsE e l)).1 w' (z.up q) (E.up q) h x
 have hc:=fun w' (q:Bel w.heap.size w w')=>ZgW e.til t w' (z.up q)
 have R:=Zem e.til.year e.til.month e.til.day
 have N:=m.k
 rw[u]at hn
 change ∀ w',Bel w.heap.size w w'->Does _ _ _ w' (fun v O=>v = .int .i64 (endB e l)/\O=[]) at hs
 unfold endT
 generalize endB e l=bf at *
 generalize (Zao e.til (Go.Wk.bsE e l)).1=nm at *
 generalize Go.Wk.bsE e l=bs at *
 generalize (onD e.til.year e.til.month e.til.day).1=dn at *
 clear m z E h u x
 obtain⟨off,f,D,S,L,⟨T,W,U,⟨I,J,K⟩,⟨H,a⟩⟩⟩:=e
 dsimp only at Q t N w1 w2 hc ⊢
 have t1:decide (f<0)=false:=decide_eq_false (by omega)
 have t2:decide (2<f)=false:=decide_eq_false (by omega)
 show Does _ _ [.agg #[.int .i64 off,.int .i64 f,.int .i64 D,.string S,.string L,.bool T,.int .i64 W,.int .i64 U,.int .i64 I,.int .i64 J,.int .i64 K,.int .i64 H,.int .i64 a],_] w _
 by_cases y:a=0
 ·have u0:decide (a=0)=true:=decide_eq_true y
  rw[if_pos y]
  by_cases p:f=1
  ·have k1:decide (f=1)=true:=decide_eq_true p
   refine Zaa Tryz.func142 rfl rfl rfl rfl ?_
   repeat (first|refine Zjz ?_|(refine jg ?_;(try intro F);(refine bx ?_;intro j);first|refine⟨_,EndsA,Zdd,?_⟩|refine fin ?_)|(refine jn ?_;(try intro F);(refine bx ?_;intro j);first|refine⟨_,EndsA,Zdd,?_⟩|refine fin ?_))
   exact rtB
  ·have k1:decide (f=1)=false:=decide_eq_false p
   refine Zaa Tryz.func142 rfl rfl rfl rfl ?_
   repeat (first|refine Zjz ?_|(refine jg ?_;(try intro F);(refine bx ?_;intro j);first|refine⟨_,EndsA,Zdd,?_⟩|refine fin ?_)|(refine jn ?_;(try intro F);(refine bx ?_;intro j);first|refine⟨_,EndsA,Zdd,?_⟩|refine fin ?_))
   exact rtB
 ·have u0:decide (a=0)=false:=decide_eq_false y
  rw[if_neg y]
  by_cases r:a=1
  ·have u1:decide (a=1)=true:=decide_eq_true r
   rw[if_pos r]
   by_cases p:f=1
   ·have k1:decide (f=1)=true:=decide_eq_true p
    refine Zaa Tryz.func142 rfl rfl rfl rfl ?_
    repeat (first|refine Zjz ?_|(refine jg ?_;(try intro F);(refine bx ?_;intro j);first|refine⟨_,EndsA,Zdd,?_⟩|refine fin ?_)|(refine jn ?_;(try intro F);(refine bx ?_;intro j);first|refine⟨_,EndsA,Zdd,?_⟩|refine fin ?_))
    exact rtB
   ·have k1:decide (f=1)=false:=decide_eq_false p
    refine Zaa Tryz.func142 rfl rfl rfl rfl ?_
    repeat (first|refine Zjz ?_|(refine jg ?_;(try intro F);(refine bx ?_;intro j);first|refine⟨_,EndsA,Zdd,?_⟩|refine fin ?_)|(refine jn ?_;(try intro F);(refine bx ?_;intro j);first|refine⟨_,EndsA,Zdd,?_⟩|refine fin ?_))
    exact rtB
  ·have u1:decide (a=1)=false:=decide_eq_false r
   rw[if_neg r]
   by_cases p:f=1
   ·have k1:decide (f=1)=true:=decide_eq_true p
    refine Zaa Tryz.func142 rfl rfl rfl rfl ?_
    repeat (first|refine Zjz ?_|(refine jg ?_;(try intro F);(refine bx ?_;intro j);first|refine⟨_,EndsA,Zdd,?_⟩|refine fin ?_)|(refine jn ?_;(try intro F);(refine bx ?_;intro j);first|refine⟨_,EndsA,Zdd,?_⟩|refine fin ?_))
    exact rtB
   ·have k1:decide (f=1)=false:=decide_eq_false p
    refine Zaa Tryz.func142 rfl rfl rfl rfl ?_
    repeat (first|refine Zjz ?_|(refine jg ?_;(try intro F);(refine bx ?_;intro j);first|refine⟨_,EndsA,Zdd,?_⟩|refine fin ?_)|(refine jn ?_;(try intro F);(refine bx ?_;intro j);first|refine⟨_,EndsA,Zdd,?_⟩|refine fin ?_))
    exact rtB
end Go.Proofs.YtpipekfmecikmaaGreatDoor
