/- Parts of the proof. -/
import Derived.Test.YtpipekfmecikmaaGreatDoorA11
set_option maxHeartbeats 0
set_option linter.all false
set_option maxHeartbeats 0
set_option maxRecDepth 20000
namespace Go.Proofs.YtpipekfmecikmaaGreatDoor
open Go Go.RowKit Go.Wk Tryz
attribute [local irreducible] W RL Does Zaq Zai retQ Calls Pu Stp RD Qy Ay Zaj RLI WI
abbrev fiO (A:Option Addr)(c:Nat)(n:Nat)(all:Bool)(but:Int)(b3 b4 b5 b6 b8 b9 ll D:Nat)(r:Loop)(s:Option Zac):List It :=
 [Za4 ll r,Zb0 D,.blk b3 [.slice A n c] 22,.blk b4 [.bool all] 4,.blk b5 [.int .i64 but] 2,.blk b6 [.int .i64 0,.int .i64 0,.int .i64 0] 91,.blk b8 (evC s) 91,.blk b9 [.bool s.isSome] 4]
theorem ZDX (o:Option Zac):evV o = .agg (evC o).toArray:=by cases o <;> rfl
theorem Zt4 (o:Option Zac):(evC o).length=3:=by cases o <;> rfl
def fiR (o:Option Zac)(wr:World):Ending->World->Prop:=fun e w'=>∃ v O',e = .returned v/\Bel wr.heap.size wr w'/\Zaz wr.heap.size O' w'/\(v = .tuple #[evV o,.bool o.isSome]/\O'=[])
theorem ZwY (o:Option Zac)(wr:World){a:Act}{w':World}{D d:Nat}(e:St 39 wr [(6,.pointer (some ⟨d,0,none⟩)),(7,.bool o.isSome)] [Zb0 D,.blk d (evC o) 91] a w') :
  bodyPostM Fence.wide 0 prog Tryz.f268 (fiR o wr) .ret (actD (ZeK D) a) w':=by
 have f:=Zb0.at (e.own.sat _ List.mem_cons_self)
 have b:=ZkO e
 refine⟨by simp,.inl ⟨_,_,rfl,run_takeDeferred f,?_⟩⟩
 refine⟨.tuple #[evV o,.bool o.isSome],?_,_,[],rfl,b.old,b.own.sub .nil,rfl,rfl⟩
 have c:Tryz.f268.results=[ResultVar.cell 6 91,ResultVar.tmp 7].toArray:=rfl
 show(results Tryz.f268 a.tmps).run prog _=_
 unfold results
 rw[c,List.mapM_toArray]
 simp only[Sem.run_bind,Sem.run_map]
 rw[Zcn (P:=prog) b _ (fun _=>rfl) (fun _ _=>rfl) [ResultVar.cell 6 91,ResultVar.tmp 7] [.agg (evC o).toArray,.bool o.isSome] ⟨_,_,rfl,.cellB (sz:=3) rfl .here (by rw[List.take_of_length_le (by rw[Zt4];exact Nat.le_refl 3)]) (Zt4 o),_,[],rfl,rfl,rfl⟩]
 simp only[Result.andThen_ok,Sem.run_pure]
 rw[ZDX]
 rfl
theorem Zvj {G:Prop}(h:G:=by(exact PuI)):G:=h
theorem ZCt {G:Prop}(h:G:=by first|(apply Qy_y;rfl;exact Zvj)|exact QyA):G:=h
theorem Zzf {G:Prop}(h:G:=by(first|exact Zvj|(apply Zap;rfl;rfl;exact q1))):G:=h
theorem ZCs {G:Prop}(h:G:=by first|(apply Qy_y;rfl;exact Zzf)|exact QyA):G:=h
theorem Zsn {G G':Prop}(k:G')(h:Hold G'->G:=by intro k9;(first|(apply RD_Q;rfl;rfl;decide +kernel;rfl;rfl;exact ZCs)|refine walk1 ?_);exact k9.out):G:=h ⟨k⟩
theorem ZC0 {G:Prop}(h:G:=by(first|exact Zvj|(apply Zbl;rfl;rfl;exact q2))):G:=h
theorem Zyc {G:Prop}(h:G:=by first|(apply Qy_y;rfl;exact ZC0)|exact QyA):G:=h
theorem ZCZ {G:Prop}(h:G:=by(first|exact Zzf|(apply Zbl;rfl;rfl;exact q2))):G:=h
theorem Zyb {G:Prop}(h:G:=by first|(apply Qy_y;rfl;exact ZCZ)|exact QyA):G:=h
theorem ZrN (A:Option Addr)(c:Nat)(l:List DRule)(all:Bool)(g:Int)(wr:World)(hG:Glob wr)(hA:RdSl wr A c DRule.enc 11 l)(hn:l.length<=1000000)(hR:∀ r∈l,-4611686018427387904<=r.save/\r.save<=4611686018427387904)(hF:∀ r∈l,r.from_<=4611686018427387904) :
  Zaj prog 268 [.slice A l.length c,.bool all,.int .i64 g] wr [] (fun v O=>v = .tuple #[evV (fstD l all g),.bool (fstD l all g).isSome]/\O=[]):=by
 unfold Zaj
 intro w0 al am
 refine ZnR func268 rfl rfl rfl al am ?_
 intro a0 ag
 -- Zaa func268
 refine ZeE (fun fr' O'=>∃ J K L z,Sub [(3,.pointer (some ⟨J,0,none⟩)),(4,.pointer (some ⟨K,0,none⟩)),(5,.pointer (some ⟨L,0,none⟩)),(6,.pointer (some ⟨z,0,none⟩))] fr'/\SubO [.blk J [.slice A l.length c] 22,.blk K [.bool all] 4,.blk L [.int .i64 g] 2,.blk z [.int .i64 0,.int .i64 0,.int .i64 0] 91] O') ?_ ?_ a0 w0 ag
 ·repeat (first|refine walk ?_|(refine jn ?_;(try intro F);(first|(refine bx ?_;intro W)|(refine stA ?_)|(apply Zan;exact PuA));refine fin ?_))
  rename_i J K L
  exact⟨rfl,J,K,L,W,SFA,SOA⟩
 rintro a1 w1 ah O1 u ⟨J,K,L,z,t,q⟩
 have ad:=u.sub t q
 clear t q u ag a0 ah O1
 refine ZeE (fun fr' O'=>∃ I,Sub [(3,.pointer (some ⟨J,0,none⟩)),(4,.pointer (some ⟨K,0,none⟩)),(5,.pointer (some ⟨L,0,none⟩)),(6,.pointer (some ⟨z,0,none⟩)),(8,.pointer (some ⟨I,0,none⟩))] fr'/\SubO [.blk J [.slice A l.length c] 22,.blk K [.bool all] 4,.blk L [.int .i64 g] 2,.blk z [.int .i64 0,.int .i64 0,.int .i64 0] 91,.blk I [.int .i64 0,.int .i64 0,.int .i64 0] 91] O') ?_ ?_ a1 w1 ad
 ·repeat (first|refine walk ?_|(refine jn ?_;(try intro F);(first|(refine bx ?_;intro W)|(refine stA ?_)|(apply Zan;exact PuA));refine fin ?_))
  exact⟨rfl,W,SFA,SOA⟩
 rintro a2 w2 ai O2 u ⟨I,t,q⟩
 have f:=u.sub t q
 clear t q u ad a1 ai O2
 refine ZeE (fun fr' O'=>∃ M,Sub [(3,.pointer (some ⟨J,0,none⟩)),(4,.pointer (some ⟨K,0,none⟩)),(5,.pointer (some ⟨L,0,none⟩)),(6,.pointer (some ⟨z,0,none⟩)),(8,.pointer (some ⟨I,0,none⟩)),(9,.pointer (some ⟨M,0,none⟩))] fr'/\SubO [.blk J [.slice A l.length c] 22,.blk K [.bool all] 4,.blk L [.int .i64 g] 2,.blk z [.int .i64 0,.int .i64 0,.int .i64 0] 91,.blk I [.int .i64 0,.int .i64 0,.int .i64 0] 91,.blk M [.bool false] 4] O') ?_ ?_ a2 w2 f
 ·repeat (first|refine walk ?_|(refine jn ?_;(try intro F);(first|(refine bx ?_;intro W)|(refine stA ?_)|(apply Zan;exact PuA));refine fin ?_))
  exact⟨rfl,W,SFA,SOA⟩
 rintro a3 w3 aj O3 u ⟨M,t,q⟩
 have ae:=u.sub t q
 clear t q u f a2 aj O3
 refine wp_seq ?_
 refine ZeE (fun fr' O'=>∃ Z,Sub [(3,.pointer (some ⟨J,0,none⟩)),(4,.pointer (some ⟨K,0,none⟩)),(5,.pointer (some ⟨L,0,none⟩)),(6,.pointer (some ⟨z,0,none⟩)),(8,.pointer (some ⟨I,0,none⟩)),(9,.pointer (some ⟨M,0,none⟩)),(12,.func (.func 302) #[] #[.pointer (some ⟨Z,0,none⟩)])] fr'/\SubO [.blk Z [.slice A l.length c] 22,.blk J [.slice A l.length c] 22,.blk K [.bool all] 4,.blk L [.int .i64 g] 2,.blk z [.int .i64 0,.int .i64 0,.int .i64 0] 91,.blk I [.int .i64 0,.int .i64 0,.int .i64 0] 91,.blk M [.bool false] 4] O') ?_ ?_ a3 w3 ae
 ·repeat (first|refine walk ?_|(refine jg ?_;(try intro F);((apply Zad (h:=fun w' _ _=>ZoK A l.length c w');rfl;rintro v O' ⟨Z,rfl,rfl⟩));refine fin ?_))
  exact⟨rfl,Z,SFA,SOA⟩
 rintro a4 w4 ak O4 u ⟨Z,t,q⟩
 have af:=u.sub t q
 clear t q u ae a3 ak O4
 refine wp_block ?_
 refine ZkV (gf:=302) (lb:=[.pointer (some ⟨Z,0,none⟩)]) (fun U O2=>U=none/\SubO [.blk z [.int .i64 0,.int .i64 0,.int .i64 0] 91,.blk I (evC (fstD l all g)) 91,.blk M [.bool (fstD l all g).isSome] 4] O2) af rfl ?_ ?_
 ·intro fn ll D
  generalize hr:Zf1 fn a4.tmps 13 _ _ D=r
  have ao:=Zm0 ll Z A c l (fun s=>fiO A c l.length all g J K L z I M ll D r s) (fun d s=>s=d.foldl (fstB l all g) none) wr none rfl hG hA hn hR hF ?_
  ·refine ao.sub SOA fun v O' ⟨_,s,h1,h6⟩=>?_
   subst h1
   exact⟨none,_,.ready,SubO.trans (by rw[<- hr];exact SOA) h6,by decide,rfl,.refl _⟩
  ·rintro d ⟨N,er,E⟩ s X Y ⟨k,ru,hk,ab⟩ R
   dsimp only at ab
   subst ab
   have av:k<l.length:=(List.getElem?_eq_some_iff.1 hk).1
   have ap:ruE l ⟨N,k,E⟩=ru:=Zhh (by dsimp only;exact hk)
   obtain⟨hna,hca⟩:=hA.rd k _ hk
   have aw:=hA.le
   have an:=hA.cap
   simp only[maxLen]at an
   obtain⟨S,f⟩:∃ S,fstB l all g s ⟨N,k,E⟩=S:=⟨_,rfl⟩
   have j:S=(d++[(⟨N,k,E⟩:Zac)]).foldl (fstB l all g) none:=by rw[List.foldl_append,<- R,<- f];rfl
   unfold fstB at f
   rw[ap]at f
   refine ZkG (r:=r) (p:=13) (fr:=[(3,.pointer (some ⟨J,0,none⟩)),(4,.pointer (some ⟨K,0,none⟩)),(5,.pointer (some ⟨L,0,none⟩)),(6,.pointer (some ⟨z,0,none⟩)),(8,.pointer (some ⟨I,0,none⟩)),(9,.pointer (some ⟨M,0,none⟩))]) (a0:=a4) (by rw[<- hr];rfl) (by rw[<- hr];rfl) (by rw[<- hr];rfl) (af.sim.sub SFA) rfl (by simp) (by rw[<- hr];rfl) ?_
   dsimp only[Zac.enc]
   apply Zcg (Or.inr ⟨_,rfl⟩);(intro d x;cases x;rfl);(intro c h;cases h);(intro a w R;exact ZcF rfl w)
   apply Stp_alloc;intro au
   apply Zcg (Or.inr ⟨_,rfl⟩);(intro d x;cases x);(intro c h;cases h);(intro a w R;exact ZcF rfl w)
   (apply Stp_storeNf;rfl;rfl;(focus repeat' constructor);(focus repeat (first|exact Nf.nil|apply Nf.cons));rfl;rfl;rfl;(focus repeat' constructor))
   refine Zbk ?_
   refine⟨_,cS_,?_⟩
   have aa:∀ Q fr O,(∀ b:Code,b=r.body->WI (Fence.wide.inRound ll) [] prog 39 wr b Q fr O)->WI (Fence.wide.inRound ll) [] prog 39 wr r.body Q fr O:=fun Q fr O h=>h _ rfl
   refine aa _ _ _ fun b hb=>?_
   rw[<- hr]at hb
   dsimp only[Zf1]at hb
   subst hb
   refine ZlB (ZbN (ZbN (ZuH (Or.inr ⟨_,rfl⟩) rfl (by decide +kernel) rfl ?_)))
   rcases s with _|⟨by_,br,bn⟩
   ·cases all with
    | true =>
     obtain rfl:some ⟨N,k,E⟩=S:=by rw[<- f];rfl
     clear f
     dsimp only[fiO,evC,Zac.enc,dEv0,Option.isSome]
     repeat (first|(apply RD_Q;rfl;rfl;decide +kernel;rfl;rfl;exact ZCt)|refine walk1 ?_)
     refine Zby rfl (fun h=>(by cases h)) (fun h=>?_)
     refine Zef ?_
     apply thenQ_n
     refine ZbR ?_
     apply ZcN (Or.inr ⟨_,rfl⟩);rfl;(intro c h;cases h);(apply Pu_loadNf;rfl;(focus repeat' constructor);exact NfA;rfl)
     apply Zcg (Or.inr ⟨_,rfl⟩);(intro d x;cases x);(intro c h;cases h);(intro a w R;exact ZcF rfl w)
     (apply Stp_storeNf;rfl;rfl;(focus repeat' constructor);(focus repeat (first|exact Nf.nil|apply Nf.cons));rfl;rfl;rfl;(focus repeat' constructor))
     apply Zcg (Or.inr ⟨_,rfl⟩);(intro d x;cases x);(intro c h;cases h);(intro a w R;exact ZcF rfl w)
     (apply Stp_storeNf;rfl;rfl;(focus repeat' constructor);(focus repeat (first|exact Nf.nil|apply Nf.cons));rfl;rfl;rfl;(focus repeat' constructor))
     refine Zbk ?_
     refine blockQ_n ?_
     refine⟨_,cS_,rfl,some ⟨N,k,E⟩,j,?_⟩
     dsimp only[fiO,evC,Zac.enc,dEv0,Option.isSome]
     rw[<- hr]
     exact SOA
    | false =>
     by_cases H:ru.save=g
     ·have q1:decide (ru.save=g)=true:=dT_ H
      obtain rfl:none=S:=by rw[<- f,q1];rfl
      clear f
      dsimp only[fiO,evC,Zac.enc,dEv0,Option.isSome]
      repeat (refine Zsn ?_)
      refine Zby rfl (fun h=>?_) (fun h=>(by cases h))
      refine Zjd ?_
      apply thenQ_e
      apply blockQ_hit
      refine⟨_,cS_,rfl,none,j,?_⟩
      dsimp only[fiO,evC,Zac.enc,dEv0,Option.isSome]
      rw[<- hr]
      exact SOA
     ·have q1:decide (ru.save=g)=false:=dF_ H
      obtain rfl:some ⟨N,k,E⟩=S:=by rw[<- f,q1];rfl
      clear f
      dsimp only[fiO,evC,Zac.enc,dEv0,Option.isSome]
      repeat (refine Zsn ?_)
      refine Zby rfl (fun h=>(by cases h)) (fun h=>?_)
      refine Zef ?_
      apply thenQ_n
      refine ZbR ?_
      apply ZcN (Or.inr ⟨_,rfl⟩);rfl;(intro c h;cases h);(apply Pu_loadNf;rfl;(focus repeat' constructor);exact NfA;rfl)
      apply Zcg (Or.inr ⟨_,rfl⟩);(intro d x;cases x);(intro c h;cases h);(intro a w R;exact ZcF rfl w)
      (apply Stp_storeNf;rfl;rfl;(focus repeat' constructor);(focus repeat (first|exact Nf.nil|apply Nf.cons));rfl;rfl;rfl;(focus repeat' constructor))
      apply Zcg (Or.inr ⟨_,rfl⟩);(intro d x;cases x);(intro c h;cases h);(intro a w R;exact ZcF rfl w)
      (apply Stp_storeNf;rfl;rfl;(focus repeat' constructor);(focus repeat (first|exact Nf.nil|apply Nf.cons));rfl;rfl;rfl;(focus repeat' constructor))
      refine Zbk ?_
      refine blockQ_n ?_
      refine⟨_,cS_,rfl,some ⟨N,k,E⟩,j,?_⟩
      dsimp only[fiO,evC,Zac.enc,dEv0,Option.isSome]
      rw[<- hr]
      exact SOA
   ·cases all with
    | true =>
     by_cases m:bn<=E
     ·have q2:decide (bn<=E)=true:=dT_ m
      obtain rfl:some ⟨by_,br,bn⟩=S:=by rw[<- f];simp[m]
      clear f
      dsimp only[fiO,evC,Zac.enc,dEv0,Option.isSome]
      repeat (first|(apply RD_Q;rfl;rfl;decide +kernel;rfl;rfl;exact Zyc)|refine walk1 ?_)
      refine Zby rfl (fun h=>?_) (fun h=>(by cases h))
      refine Zjd ?_
      apply thenQ_e
      apply blockQ_hit
      refine⟨_,cS_,rfl,some ⟨by_,br,bn⟩,j,?_⟩
      dsimp only[fiO,evC,Zac.enc,dEv0,Option.isSome]
      rw[<- hr]
      exact SOA
     ·have q2:decide (bn<=E)=false:=dF_ m
      obtain rfl:some ⟨N,k,E⟩=S:=by rw[<- f];simp[m]
      clear f
      dsimp only[fiO,evC,Zac.enc,dEv0,Option.isSome]
      repeat (first|(apply RD_Q;rfl;rfl;decide +kernel;rfl;rfl;exact Zyc)|refine walk1 ?_)
      refine Zby rfl (fun h=>(by cases h)) (fun h=>?_)
      refine Zef ?_
      apply thenQ_n
      refine ZbR ?_
      apply ZcN (Or.inr ⟨_,rfl⟩);rfl;(intro c h;cases h);(apply Pu_loadNf;rfl;(focus repeat' constructor);exact NfA;rfl)
      apply Zcg (Or.inr ⟨_,rfl⟩);(intro d x;cases x);(intro c h;cases h);(intro a w R;exact ZcF rfl w)
      (apply Stp_storeNf;rfl;rfl;(focus repeat' constructor);(focus repeat (first|exact Nf.nil|apply Nf.cons));rfl;rfl;rfl;(focus repeat' constructor))
      apply Zcg (Or.inr ⟨_,rfl⟩);(intro d x;cases x);(intro c h;cases h);(intro a w R;exact ZcF rfl w)
      (apply Stp_storeNf;rfl;rfl;(focus repeat' constructor);(focus repeat (first|exact Nf.nil|apply Nf.cons));rfl;rfl;rfl;(focus repeat' constructor))
      refine Zbk ?_
      refine blockQ_n ?_
      refine⟨_,cS_,rfl,some ⟨N,k,E⟩,j,?_⟩
      dsimp only[fiO,evC,Zac.enc,dEv0,Option.isSome]
      rw[<- hr]
      exact SOA
    | false =>
     by_cases H:ru.save=g
     ·have q1:decide (ru.save=g)=true:=dT_ H
      obtain rfl:some ⟨by_,br,bn⟩=S:=by rw[<- f,q1];rfl
      clear f
      dsimp only[fiO,evC,Zac.enc,dEv0,Option.isSome]
      repeat (refine Zsn ?_)
      refine Zby rfl (fun h=>?_) (fun h=>(by cases h))
      refine Zjd ?_
      apply thenQ_e
      apply blockQ_hit
      refine⟨_,cS_,rfl,some ⟨by_,br,bn⟩,j,?_⟩
      dsimp only[fiO,evC,Zac.enc,dEv0,Option.isSome]
      rw[<- hr]
      exact SOA
     ·have q1:decide (ru.save=g)=false:=dF_ H
      by_cases m:bn<=E
      ·have q2:decide (bn<=E)=true:=dT_ m
       obtain rfl:some ⟨by_,br,bn⟩=S:=by rw[<- f];simp[H,m]
       clear f
       dsimp only[fiO,evC,Zac.enc,dEv0,Option.isSome]
       repeat (first|(apply RD_Q;rfl;rfl;decide +kernel;rfl;rfl;exact Zyb)|refine walk1 ?_)
       refine Zby rfl (fun h=>?_) (fun h=>(by cases h))
       refine Zjd ?_
       apply thenQ_e
       apply blockQ_hit
       refine⟨_,cS_,rfl,some ⟨by_,br,bn⟩,j,?_⟩
       dsimp only[fiO,evC,Zac.enc,dEv0,Option.isSome]
       rw[<- hr]
       exact SOA
      ·have q2:decide (bn<=E)=false:=dF_ m
       obtain rfl:some ⟨N,k,E⟩=S:=by rw[<- f];simp[H,m]
       clear f
       dsimp only[fiO,evC,Zac.enc,dEv0,Option.isSome]
       repeat (first|(apply RD_Q;rfl;rfl;decide +kernel;rfl;rfl;exact Zyb)|refine walk1 ?_)
       refine Zby rfl (fun h=>(by cases h)) (fun h=>?_)
       refine Zef ?_
       apply thenQ_n
       refine ZbR ?_
       apply ZcN (Or.inr ⟨_,rfl⟩);rfl;(intro c h;cases h);(apply Pu_loadNf;rfl;(focus repeat' constructor);exact NfA;rfl)
       apply Zcg (Or.inr ⟨_,rfl⟩);(intro d x;cases x);(intro c h;cases h);(intro a w R;exact ZcF rfl w)
       (apply Stp_storeNf;rfl;rfl;(focus repeat' constructor);(focus repeat (first|exact Nf.nil|apply Nf.cons));rfl;rfl;rfl;(focus repeat' constructor))
       apply Zcg (Or.inr ⟨_,rfl⟩);(intro d x;cases x);(intro c h;cases h);(intro a w R;exact ZcF rfl w)
       (apply Stp_storeNf;rfl;rfl;(focus repeat' constructor);(focus repeat (first|exact Nf.nil|apply Nf.cons));rfl;rfl;rfl;(focus repeat' constructor))
       refine Zbk ?_
       refine blockQ_n ?_
       refine⟨_,cS_,rfl,some ⟨N,k,E⟩,j,?_⟩
       dsimp only[fiO,evC,Zac.enc,dEv0,Option.isSome]
       rw[<- hr]
       exact SOA
 ·rintro U O2 D w5 ⟨rfl,T⟩ aZ
  obtain⟨y,ac⟩:∃ y,fstD l all g=y:=⟨_,rfl⟩
  rw[ac]at T ⊢
  have ar:St 39 wr [(6,.pointer (some ⟨z,0,none⟩)),(8,.pointer (some ⟨I,0,none⟩)),(9,.pointer (some ⟨M,0,none⟩))] [Zb0 D,.blk z [.int .i64 0,.int .i64 0,.int .i64 0] 91,.blk I (evC y) 91,.blk M [.bool y.isSome] 4] a4 w5:=aZ.sub SFA (.cons .here T)
  have key:∀ c' Q' Q3,WI Fence.wide (ZeK D) prog 39 wr c' Q' [(6,.pointer (some ⟨z,0,none⟩)),(8,.pointer (some ⟨I,0,none⟩)),(9,.pointer (some ⟨M,0,none⟩))] [Zb0 D,.blk z [.int .i64 0,.int .i64 0,.int .i64 0] 91,.blk I (evC y) 91,.blk M [.bool y.isSome] 4]->(∀ e a' w',Ztx (ZeK D) 39 wr Q' e a' w'->Q3 e a' w')->c'.wp prog Q3 (actD (ZeK D) a4) w5:=fun c' Q' Q3 h hq=>(wpIn_wide (n:=0)).1 (wpIn_mono (h.at ar) hq)
  show(Code.seq _ _).wp _ _ _ _
  refine key _ (fun e fr O=>e = .ret/\Sub [(6,.pointer (some ⟨z,0,none⟩)),(7,.bool y.isSome)] fr/\SubO [Zb0 D,.blk z (evC y) 91] O) _ (ZbN (ZuH (.inl rfl) rfl (by decide +kernel) rfl ?_)) ?_
  ·rcases y with _|⟨ry,rr,rn⟩
   ·dsimp only[evC,Zac.enc,dEv0,Option.isSome]
    repeat (first|refine walk ?_|(refine jn ?_;(try intro F);(first|(refine bx ?_;intro W)|(refine stA ?_)|(apply Zan;exact PuA));refine fin ?_))
    refine Zhw ?_
    exact⟨rfl,SFA,SOA⟩
   ·dsimp only[evC,Zac.enc,dEv0,Option.isSome]
    repeat (first|refine walk ?_|(refine jn ?_;(try intro F);(first|(refine bx ?_;intro W)|(refine stA ?_)|(apply Zan;exact PuA));refine fin ?_))
    refine Zhw ?_
    exact⟨rfl,SFA,SOA⟩
  ·rintro e a' w' ⟨x,fr',O',aq,rfl,hf,hO⟩
   have h:=ZwY y wr (aq.sub hf hO)
   rw[ZdU x]at h
   exact h
end Go.Proofs.YtpipekfmecikmaaGreatDoor
namespace Go.Proofs.YtpipekfmecikmaaGreatDoor
open Go Go.RowKit Go.Wk Tryz
attribute [local irreducible] W RL Does Zaq Zai retQ Calls Pu Stp RD Qy Ay Zaj
structure RsSm (l:List DRule):Prop where
 n:l.length<=1000000
 s:∀ r∈l,-1000000000<=r.save/\r.save<=1000000000
 f:∀ r∈l,r.from_<=4611686018427387904
 t:∀ r∈l,-4611686018427387904<=r.to
theorem RsSm.r {l:List DRule}(h:RsSm l):∀ r∈l,-4611686018427387904<=r.save/\r.save<=4611686018427387904:=fun r a=>by have:=h.s r a;omega
theorem RsSm.b {l:List DRule}(h:RsSm l):ZCl l:=fun r a=>⟨h.r r a,h.f r a,h.t r a⟩
theorem Zhs (A:Option Addr)(c:Nat)(l:List DRule)(all:Bool)(a:Int)(w:World)(d:Glob w)(b:RdSl w A c DRule.enc 11 l)(h:RsSm l) :
  Does prog 268 [.slice A l.length c,.bool all,.int .i64 a] w (fun v O=>v = .tuple #[evV (fstD l all a),.bool (fstD l all a).isSome]/\O=[]):=by
 have:=ZrN A c l all a w d b h.n h.r h.f
 unfold Zaj at this
 unfold Does
 exact this w (Bel.refl _ _) (Zaz.nil _ _)
def EvAt (N:Nat)(o:Option Zac):Prop:=∀ e,o=some e->0<=e.rule/\e.rule<N
theorem Zp2 {least:Int}{r:DRule}{i y:Int}{e:Zac}(h:onR least r i y=some e):e.rule=i:=by
 unfold onR at h
 split at h
 ·cases h
 ·split at h
  ·cases h
  ·cases h;rfl
theorem Zi2 {least a:Int}{r:DRule}{i:Int}{e:Zac}:∀ (k:Nat) (y:Int),beIn least a r i y k=some e->e.rule=i
 | 0,_,h=>by cases h
 | k+1,y,h=>by
  rw[beIn]at h
  split at h
  ·rename_i x b
   split at h
   ·cases h;exact Zp2 b
   ·exact Zi2 k _ h
  ·exact Zi2 k _ h
theorem Zm9 {least:Int}{r:DRule}{i:Int}{e:Zac}:∀ (k:Nat) (y:Int),fiIn least r i y k=some e->e.rule=i
 | 0,_,h=>by cases h
 | k+1,y,h=>by
  rw[fiIn]at h
  split at h
  ·rename_i x a
   cases h;exact Zp2 a
  ·exact Zm9 k _ h
theorem Zqr {least a c:Int}{N:Nat}:∀ (l:List DRule) (i:Nat) (b:Option Zac),i+l.length<=N->EvAt N b->EvAt N (Zfn least a c l i b)
 | [],_,_,_,h=>h
 | r::l,i,b,hi,h=>by
  rw[List.length_cons]at hi
  rw[Zfn]
  refine Zqr l (i+1) _ (by omega) ?_
  have d:EvAt N (beIn least a r i (min (lastY r) (c+2)) 20):=fun e f=>by
   have:=Zi2 20 _ f
   omega
  generalize beIn least a r i (min (lastY r) (c+2)) 20=o at *
  cases o with
  | none=>exact h
  | some x =>
   cases b with
   | none=>exact d
   | some y =>
    dsimp only
    split
    ·exact d
    ·exact h
theorem Zus (l:List DRule)(a:Int):EvAt l.length (befD l a):=Zqr l 0 none (by omega) fun e h=>by cases h
theorem ZtT {least:Int}{N:Nat}:∀ (l:List DRule) (i:Nat),i+l.length<=N->∀ e∈firL least l i,0<=e.rule/\e.rule<N
 | [],_,_,e,h=>by cases h
 | r::l,i,hi,e,h=>by
  rw[List.length_cons]at hi
  rw[firL]at h
  rcases List.mem_append.1 h with h|h
  ·cases ho:fiIn least r i (max r.from_ (-2000000000)) 9 with
   | none=>rw[ho]at h;cases h
   | some x =>
    rw[ho]at h
    simp only[Option.toList,List.mem_singleton]at h
    subst h
    have:=Zm9 9 _ ho
    omega
  ·exact ZtT l (i+1) (by omega) e h
theorem Zx0 {l:List DRule}{all:Bool}{a:Int}{N:Nat}:∀ (L:List Zac) (b:Option Zac),(∀ e∈L,0<=e.rule/\e.rule<N)->EvAt N b->EvAt N (L.foldl (fstB l all a) b)
 | [],_,_,h=>h
 | x::L,b,hL,h=>by
  rw[List.foldl_cons]
  refine Zx0 L _ (fun e c=>hL e (List.mem_cons_of_mem _ c)) ?_
  have key:∀ q:Bool,EvAt N (if q=true then b else some x):=fun q=>by
   cases q
   ·intro e c
    cases c
    exact hL x List.mem_cons_self
   ·exact h
  unfold fstB
  exact key _
theorem ZtP (l:List DRule)(all:Bool)(a:Int):EvAt l.length (fstD l all a):=Zx0 _ none (ZtT l 0 (by omega)) fun e h=>by cases h
theorem Zze {G:Prop}(h:G:=by(exact PuI)):G:=h
theorem Zhq (A:Option Addr)(c:Nat)(l:List DRule)(w:World)(t:Glob w)(b:RdSl w A c DRule.enc 11 l)(h:RsSm l):Does prog 224 [.slice A l.length c] w (fun v O=>v=stV (iniS l)/\O=[]):=by
 have e:=fun w' (a:Bel w.heap.size w w')=>Zhs A c l true 0 w' (t.up a) (b.up a) h
 have m:=ZtP l true 0
 have u:=b.le
 have p:=b.cap
 simp only[maxLen]at p
 unfold iniS
 generalize fstD l true 0=o at *
 rcases o with _|⟨ey,er,en⟩
 ·simp only[evV,Zac.enc,dEv0,Option.isSome]at e
  refine Zaa func224 rfl rfl rfl rfl ?_
  repeat (first|(refine js ?_;(first|(refine Zab e ?_)|(refine bx ?_;intro q)))|refine walk ?_)
  exact ret_1 _ [] (.cellB rfl cS_ rfl rfl) .nil ⟨rfl,rfl⟩
 ·simp only[evV,Zac.enc,Option.isSome]at e ⊢
  obtain⟨r,s⟩:=m _ rfl
  dsimp only at r s
  obtain⟨d,i⟩:∃ d,l[er.toNat]?=some d:=⟨_,List.getElem?_eq_getElem (by omega)⟩
  obtain⟨hna,hca⟩:=b.rd _ _ i
  rw[show ruE l ⟨ey,er,en⟩=d from Zhh i]
  have j:=fun w' (a:Bel w.heap.size w w')=>Zhs A c l false d.save w' (t.up a) (b.up a) h
  have f:=ZtP l false d.save
  generalize fstD l false d.save=o2 at *
  rcases o2 with _|⟨fy,frr,fn⟩
  ·simp only[evV,Zac.enc,dEv0,Option.isSome]at j ⊢
   have g:=fun w' (a:Bel w.heap.size w w')=>ZcS A c l ⟨ey,er,en⟩ w' (b.up a) ⟨r,s⟩
   unfold stV at g ⊢
   generalize behS l ⟨ey,er,en⟩=st at *
   refine Zaa func224 rfl rfl rfl rfl ?_
   repeat (first|(apply RL_pu;rfl;exact Zze)|(refine js ?_;(first|(refine Zab e ?_)|(refine Zab g ?_)|(refine Zab j ?_)|(refine bx ?_;intro q)))|refine walk1 ?_)
   exact ret_1 _ [] (.cellB rfl cS_ rfl rfl) .nil ⟨rfl,rfl⟩
  ·simp only[evV,Zac.enc,Option.isSome]at j ⊢
   have g:=fun w' (a:Bel w.heap.size w w')=>ZcS A c l ⟨fy,frr,fn⟩ w' (b.up a) (f _ rfl)
   unfold stV at g ⊢
   generalize behS l ⟨fy,frr,fn⟩=st at *
   refine Zaa func224 rfl rfl rfl rfl ?_
   repeat (first|(apply RL_pu;rfl;exact Zze)|(refine js ?_;(first|(refine Zab e ?_)|(refine Zab g ?_)|(refine Zab j ?_)|(refine bx ?_;intro q)))|refine walk1 ?_)
   exact ret_1 _ [] (.cellB rfl cS_ rfl rfl) .nil ⟨rfl,rfl⟩
theorem ZdY (A:Option Addr)(c:Nat)(l:List DRule)(a:Int)(w:World)(j:Glob w)(g:RdSl w A c DRule.enc 11 l)(h:RsSm l)(p : -4611686018427387904<=a/\a<=4611686018427387904) :
  Does prog 223 [.slice A l.length c,.int .i64 a] w (fun v O=>v=stV (befS l a)/\O=[]):=by
 have f:=fun w' (d:Bel w.heap.size w w')=>Zgj A c l a w' (j.up d) (g.up d) h.n h.b p
 have i:=Zus l a
 unfold befS
 generalize befD l a=o at *
 rcases o with _|⟨ey,er,en⟩
 ·simp only[evV,Zac.enc,dEv0,Option.isSome]at f ⊢
  have e:=fun w' (d:Bel w.heap.size w w')=>Zhq A c l w' (j.up d) (g.up d) h
  unfold stV at e ⊢
  generalize iniS l=st at *
  refine Zaa func223 rfl rfl rfl rfl ?_
  repeat (first|(refine js ?_;(first|(refine Zab f ?_)|(refine Zab e ?_)|(refine bx ?_;intro m)))|refine walk ?_)
  exact ret_1 _ [] (.cellB rfl cS_ rfl rfl) .nil ⟨rfl,rfl⟩
 ·simp only[evV,Zac.enc,Option.isSome]at f ⊢
  have e:=fun w' (d:Bel w.heap.size w w')=>ZcS A c l ⟨ey,er,en⟩ w' (g.up d) (i _ rfl)
  unfold stV at e ⊢
  generalize behS l ⟨ey,er,en⟩=st at *
  refine Zaa func223 rfl rfl rfl rfl ?_
  repeat (first|(refine js ?_;(first|(refine Zab f ?_)|(refine Zab e ?_)|(refine bx ?_;intro m)))|refine walk ?_)
  exact ret_1 _ [] (.cellB rfl cS_ rfl rfl) .nil ⟨rfl,rfl⟩
theorem ZsP {l:List DRule}(h:RsSm l)(e:Zac) : -1000000000<=(ruE l e).save/\(ruE l e).save<=1000000000:=by
 unfold ruE
 rw[List.getD_eq_getElem?_getD]
 cases hx:l[e.rule.toNat]? with
 | none=>exact⟨by decide,by decide⟩
 | some r=>exact h.s r (List.mem_of_getElem? hx)
theorem ZAA {l:List DRule}(h:RsSm l) : -1000000000<=(iniS l).1/\(iniS l).1<=1000000000:=by
 unfold iniS
 cases fstD l true 0 with
 | none =>
  dsimp only
  exact⟨by decide,by decide⟩
 | some e =>
  dsimp only
  cases fstD l false (ruE l e).save with
  | none=>exact ZsP h e
  | some o=>exact ZsP h o
theorem ZAT {l:List DRule}(h:RsSm l)(n:Int) : -1000000000<=(befS l n).1/\(befS l n).1<=1000000000:=by
 unfold befS
 cases befD l n with
 | none=>exact ZAA h
 | some e=>exact ZsP h e
theorem Zzd {G:Prop}(h:G:=by(apply Zap;rfl;rfl;first|exact q0|exact q1)):G:=h
set_option maxHeartbeats 0 in
theorem ZmQ (A:Option Addr)(c:Nat)(l:List DRule)(e:Zac)(d:Int)(w:World)(N:Glob w)(x:RdSl w A c DRule.enc 11 l)(h:RsSm l)(Q:0<=e.rule/\e.rule<l.length)(J : -1000000000000000000<=e.nominal/\e.nominal<=1000000000000000000)(T : -1000000000<=d/\d<=1000000000) :
  Does prog 168 [.slice A l.length c,.agg e.enc.toArray,.int .i64 d] w (fun v O=>v = .int .i64 (Zcc l e d)/\O=[]):=by
 have S:=x.le
 have I:=x.cap
 simp only[maxLen]at I
 obtain⟨F,m⟩:∃ F,l[e.rule.toNat]?=some F:=⟨_,List.getElem?_eq_getElem (by omega)⟩
 obtain⟨hna,hca⟩:=x.rd _ _ m
 have y:=fun w' (E:Bel w.heap.size w w')=>Zo6 A c l w' (x.up E)
 have g:=fun w' (E:Bel w.heap.size w w')=>ZdY A c l e.nominal w' (N.up E) (x.up E) h (by omega)
 have s:=ZAT h e.nominal
 have R:=ZdM l h.r
 have z : -1000000000<=max (Zae l) (-10800)/\max (Zae l) (-10800)<=0:=by omega
 unfold Zcc
 rw[Zhh m]
 obtain⟨u,q,j⟩:=e
 dsimp only at Q J m hca g s ⊢
 have K:decide (q<0)=false:=dF_ (by omega)
 have L:decide ((l.length:Int)<=q)=false:=dF_ (by omega)
 have hcb:w.cell? ((((adr A).add (q.toNat*11)).add 7).add 1)=some (.int .i64 F.at_.base):=by
  rw[ZbK]
  exact hca 8 _ rfl
 clear m hca
 generalize F.at_.base=rb at *
 generalize max (Zae l) (-10800)=mb at *
 unfold stV at g
 generalize befS l j=st at *
 obtain⟨sv,U⟩:=st
 dsimp only at s g ⊢
 show Does _ _ [_,.agg #[.int .i64 u,.int .i64 q,.int .i64 j],_] w _
 refine Zaa func168 rfl rfl rfl rfl ?_
 repeat (first|(apply RL_pu;rfl;(first|(apply Zau;rfl;rfl;exact K)|(apply ZbF;rfl;rfl;exact L)|exact PuI|(apply Pu_loadO1;rfl;exact hcb)))|(refine js ?_;(refine bx ?_;intro M))|refine walk1 ?_)
 rename_i C p
 generalize M=b8
 refine Zaf rfl (fun H=>?_) (fun H=>?_)
 ·obtain rfl:rb=1:=of_decide_eq_true H
  rw[if_pos rfl]
  obtain⟨i,t⟩:∃ i,mb=i:=⟨_,rfl⟩
  rw[t]at y z ⊢
  repeat (first|(refine js ?_;(first|(refine Zab y ?_)|(apply Zeg (f:=221) (us:=[]) (vs:=[.int .i64 i]) (cs:=[.pointer (some ⟨p,0,none⟩),.pointer (some ⟨b8,0,none⟩)]) (h:=Zff (.blk C [.int .i64 u,.int .i64 q,.int .i64 j] 91) i j p b8 w (by omega) (by omega));rfl;rfl;exact SOA;rintro v O' ⟨rfl,rfl⟩)|(apply Zeg (f:=221) (us:=[]) (vs:=[.int .i64 d]) (cs:=[.pointer (some ⟨p,0,none⟩),.pointer (some ⟨b8,0,none⟩)]) (h:=Zff (.blk C [.int .i64 u,.int .i64 q,.int .i64 j] 91) d (j - i) p b8 w (by omega) (by omega));rfl;rfl;exact SOA;rintro v O' ⟨rfl,rfl⟩)))|refine walk ?_)
  exact rtA
 ·have B:¬ rb=1:=of_decide_eq_false H
  have q1:decide (rb=1)=false:=dF_ B
  rw[if_neg B]
  by_cases D:rb=0
  ·have q0:decide (rb=0)=true:=dT_ D
   rw[if_pos D]
   obtain⟨i,t⟩:∃ i,sv=i:=⟨_,rfl⟩
   rw[t]at g s ⊢
   repeat (first|(apply RL_pu;rfl;exact Zzd)|(refine js ?_;(first|(refine Zab g ?_)|(apply Zeg (f:=221) (us:=[]) (vs:=[.int .i64 i]) (cs:=[.pointer (some ⟨p,0,none⟩),.pointer (some ⟨b8,0,none⟩)]) (h:=Zff (.blk C [.int .i64 u,.int .i64 q,.int .i64 j] 91) i j p b8 w (by omega) (by omega));rfl;rfl;exact SOA;rintro v O' ⟨rfl,rfl⟩)|(apply Zeg (f:=221) (us:=[]) (vs:=[.int .i64 d]) (cs:=[.pointer (some ⟨p,0,none⟩),.pointer (some ⟨b8,0,none⟩)]) (h:=Zff (.blk C [.int .i64 u,.int .i64 q,.int .i64 j] 91) d (j - i) p b8 w (by omega) (by omega));rfl;rfl;exact SOA;rintro v O' ⟨rfl,rfl⟩)))|refine walk1 ?_)
   exact rtA
  ·have q0:decide (rb=0)=false:=dF_ D
   rw[if_neg D]
   repeat (first|(apply RL_pu;rfl;exact Zzd)|refine walk1 ?_)
   exact rtA
end Go.Proofs.YtpipekfmecikmaaGreatDoor
namespace Go.Wk
open Go Go.RowKit
def atGo (l:List DRule)(off t:Int):Nat->Int->Int × ByteArray
 | 0,nm=>befS l nm
 | k+1,nm=>match befD l nm with
  | none=>iniS l
  | some e=>if Zcc l e off<=t then behS l e else atGo l off t k e.nominal
def atS (l:List DRule)(off t:Int):Int × ByteArray:=atGo l off t 3 (t+259200)
end Go.Wk
namespace Go.Proofs.YtpipekfmecikmaaGreatDoor
open Go Go.RowKit Go.Wk Tryz
attribute [local irreducible] W RL Does Zaq Zai retQ Calls Pu Stp RD Qy Ay Zaj
theorem Zo5 (least a:Int)(c:least<=0)(r:DRule)(i:Int):∀ (k:Nat) (y:Int),EvOk (beIn least a r i y k)
 | 0,_=>fun e b=>by cases b
 | k+1,y=>by
  rw[beIn]
  have h:=Zp3 least c r i y
  split
  ·rename_i e b
   split
   ·intro f d;cases d;exact h e b
   ·exact Zo5 least a c r i k (y - 1)
  ·exact Zo5 least a c r i k (y - 1)
theorem Zqq (least a c:Int)(f:least<=0):∀ (l:List DRule) (i:Nat) (b:Option Zac),EvOk b->EvOk (Zfn least a c l i b)
 | [],_,_,h=>h
 | r::l,i,b,h=>by
  rw[Zfn]
  refine Zqq least a c f l (i+1) _ ?_
  have d:=Zo5 least a f r i 20 (min (lastY r) (c+2))
  generalize beIn least a r i (min (lastY r) (c+2)) 20=o at *
  cases o with
  | none=>exact h
  | some e =>
   cases b with
   | none=>exact d
   | some x =>
    dsimp only
    split
    ·exact d
    ·exact h
theorem ZAU {l:List DRule}(h:RsSm l)(n:Int):EvOk (befD l n):=Zqq _ _ _ (ZdM l h.r).2 l 0 none fun e a=>by cases a
structure AtG where
 k:Nat
 nm:Int
theorem Zzc {G:Prop}(h:G:=by(apply Zbl;rfl;rfl;exact q1)):G:=h
set_option maxHeartbeats 0 in
theorem ZsD (A:Option Addr)(c:Nat)(l:List DRule)(d t:Int)(w:World)(C:Glob w)(r:RdSl w A c DRule.enc 11 l)(h:RsSm l)(L : -1000000000<=d/\d<=1000000000)(N : -1000000000000000000<=t/\t<=1000000000000000000) :
  Does prog 171 [.slice A l.length c,.int .i64 d,.int .i64 t] w (fun v O=>v=stV (atS l d t)/\O=[]):=by
 have s:=fun w'=>Zxj t 259200 (by omega) w'
 have F:=fun nm (D : -4611686018427387904<=nm/\nm<=4611686018427387904) w' (f:Bel w.heap.size w w')=>Zgj A c l nm w' (C.up f) (r.up f) h.n h.b D
 have y:=fun w' (f:Bel w.heap.size w w')=>Zhq A c l w' (C.up f) (r.up f) h
 have z:=fun nm (D : -4611686018427387904<=nm/\nm<=4611686018427387904) w' (f:Bel w.heap.size w w')=>ZdY A c l nm w' (C.up f) (r.up f) h D
 obtain⟨q,e⟩:∃ q,atS l d t=q:=⟨_,rfl⟩
 rw[e]
 unfold atS at e
 unfold stV at y z ⊢
 refine Zaa func171 rfl rfl rfl rfl ?_
 repeat (first|(refine js ?_;(first|(refine Zab (fun w' _=>s w') ?_)|(refine bx ?_;intro B)))|refine walk ?_)
 generalize B=b6
 refine Zah [(0,.slice A l.length c),(1,.int .i64 d),(2,.int .i64 t),(6,.pointer (some ⟨b6,0,none⟩))] [.blk b6 [.int .i64 0,.string ByteArray.empty] 155] (fun g:AtG=>[(18,.int .i64 g.k),(7,.int .i64 g.nm)]) (fun _=>[]) (fun g=>g.k<=3/\(-4611686018427387904<=g.nm/\g.nm<=4611686018427387904)/\atGo l d t (3 - g.k) g.nm=q) (fun g=>3 - g.k) ⟨0,t+259200⟩ SFA SOA ⟨Nat.zero_le _,by dsimp only;omega,e⟩ ?_
 clear e
 rintro⟨k,nm⟩ ⟨hk,hnb,hi⟩
 dsimp only at hk hnb hi ⊢
 repeat (refine walk ?_)
 refine Zaf rfl (fun H=>?_) (fun H=>?_)
 ·have K:k<3:=by have:=of_decide_eq_true H;omega
  have i:=F nm hnb
  have u:=Zus l nm
  have E:=ZAU h nm
  rw[show 3 - k=(2 - k)+1 by omega,atGo]at hi
  generalize befD l nm=o at *
  rcases o with _|⟨ey,er,en⟩
  ·dsimp only at hi
   subst hi
   simp only[evV,Zac.enc,dEv0,Option.isSome]at i
   repeat (first|(refine js ?_;(first|(refine Zab i ?_)|(refine Zab y ?_)|(refine bx ?_;intro B)))|refine walk ?_)
   exact ret_1 _ [] (.cellB rfl cS_ rfl rfl) .nil ⟨rfl,rfl⟩
  ·dsimp only at hi
   have J:=E _ rfl
   dsimp only at J
   simp only[evV,Zac.enc,Option.isSome]at i
   have m:=fun w' (f:Bel w.heap.size w w')=>ZmQ A c l ⟨ey,er,en⟩ d w' (C.up f) (r.up f) h (u _ rfl) (by dsimp only;omega) L
   have x:=fun w' (f:Bel w.heap.size w w')=>ZcS A c l ⟨ey,er,en⟩ w' (r.up f) (u _ rfl)
   unfold stV at x
   generalize Zcc l ⟨ey,er,en⟩ d=I at *
   by_cases j:I<=t
   ·have q1:decide (I<=t)=true:=dT_ j
    rw[if_pos j]at hi
    subst hi
    repeat (first|(apply RL_pu;rfl;exact Zzc)|(refine js ?_;(first|(refine Zab i ?_)|(refine Zab m ?_)|(refine Zab x ?_)|(refine bx ?_;intro B)))|refine walk1 ?_)
    exact ret_1 _ [] (.cellB rfl cS_ rfl rfl) .nil ⟨rfl,rfl⟩
   ·have q1:decide (I<=t)=false:=dF_ j
    rw[if_neg j]at hi
    repeat (first|(apply RL_pu;rfl;exact Zzc)|(refine js ?_;(first|(refine Zab i ?_)|(refine Zab m ?_)|(refine bx ?_;intro B)))|refine walk1 ?_)
    exact⟨⟨k+1,en⟩,OA,⟨OA,by dsimp only;omega,by dsimp only;rw[show 3 - (k+1)=2 - k by omega];exact hi⟩,SFA,SOA⟩
 ·obtain rfl:k=3:=by have:=of_decide_eq_false H;omega
  have M:=z nm hnb
  rw[show atGo l d t (3 - 3) nm=befS l nm from rfl]at hi
  subst hi
  repeat (first|(refine js ?_;((refine Zab M ?_)))|refine walk ?_)
  exact ret_1 _ [] (.cellB rfl cS_ rfl rfl) .nil ⟨rfl,rfl⟩
end Go.Proofs.YtpipekfmecikmaaGreatDoor
namespace Go.Wk
open Go Go.RowKit
def ZgR (n:Int):Bool:=decide (-604799<=n)&&decide (n<=604799)
def bsE (e:DEra)(l:List DRule):Int:=if e.kind=2 then max (Zae l) (-10800) else 0
def bfE (e:DEra)(l:List DRule)(nm:Int):Int:=if e.kind=1 then e.save else if e.kind=2 then (befS l nm).1 else 0
def endB (e:DEra)(l:List DRule):Int:=bfE e l (Zao e.til (bsE e l)).1
def endT (e:DEra)(l:List DRule):Int :=
 if e.til.at_.base=0 then 86400*(onD e.til.year e.til.month e.til.day).1+e.til.at_.sec - endB e l - e.off
 else if e.til.at_.base=1 then 86400*(onD e.til.year e.til.month e.til.day).1+e.til.at_.sec - e.off
 else 86400*(onD e.til.year e.til.month e.til.day).1+e.til.at_.sec
structure UnOk (e:DEra)(l:List DRule):Prop where
 k:0<=e.kind/\e.kind<=2
 o:ZgR e.off=true
 s:ZgR e.save=true
 c:ZaF e.til (bsE e l)=0
 b:ZgR (endB e l)=true
end Go.Wk
namespace Go.Proofs.YtpipekfmecikmaaGreatDoor
open Go Go.RowKit Go.Wk Tryz
attribute [local irreducible] W RL Does Zaq Zai retQ Calls Pu Stp RD Qy Ay Zaj
theorem Zgh {n:Int}(h:ZgR n=true) : -604799<=n/\n<=604799:=by
 unfold ZgR at h
 simpa using h
theorem Zy7 {G:Prop}(h:G:=by(first|(apply Zgz;rfl;(constructor <;> omega))|(apply ZbF;rfl;rfl;exact b1))):G:=h
theorem Zeu (n:Int)(w:World):Does prog 206 [.int .i64 n,.int .i64 604799] w (fun v O=>v = .bool (ZgR n)/\O=[]):=by
 unfold ZgR
 refine Zaa func206 rfl rfl rfl rfl ?_
 by_cases h : -604799<=n
 ·have b1:decide (-604799<=n)=true:=dT_ h
  rw[b1,Bool.true_and]
  repeat (first|(apply RL_pu;rfl;exact Zy7)|refine walk1 ?_)
  exact rtA
 ·have b1:decide (-604799<=n)=false:=dF_ h
  rw[b1,Bool.false_and]
  repeat (first|(apply RL_pu;rfl;exact Zy7)|refine walk1 ?_)
  exact rtA
theorem Zq5 (e:DEra)(A:Option Addr)(c:Nat)(l:List DRule)(w:World)(u:RdSl w A c DRule.enc 11 l):Does prog 208 [.agg e.enc.toArray,.slice A l.length c] w (fun v O=>v = .int .i64 (Go.Wk.bsE e l)/\O=[]):=by
 have x:=fun w' (y:Bel w.heap.size w w')=>ZcX A c l w' (u.up y)
 unfold Go.Wk.bsE
 generalize Zae l=m at *
 have f:(if m < -10800 then -10800 else m)=max m (-10800):=by split <;> omega
 obtain⟨g,a,d,z,t,⟨B,D,C,⟨p,q,r⟩,⟨i,j⟩⟩⟩:=e
 dsimp only
 show Does _ _ [.agg #[.int .i64 g,.int .i64 a,.int .i64 d,.string z,.string t,.bool B,.int .i64 D,.int .i64 C,.int .i64 p,.int .i64 q,.int .i64 r,.int .i64 i,.int .i64 j],_] w _
 refine Zaa func208 rfl rfl rfl rfl ?_
 by_cases h:a=2
 ·have b:(!decide (a=2))=false:=by rw[dT_ h];rfl
  rw[if_pos h]
  repeat (first|(apply RL_pu;rfl;(first|(apply Zal;rfl;rfl;exact b)|(apply Zdz;rfl;rfl;exact f)))|(refine js ?_;(first|(refine Zab x ?_)|(refine bx ?_;intro s)))|refine walk1 ?_)
  exact rtA
 ·have b:(!decide (a=2))=true:=by rw[dF_ h];rfl
  rw[if_neg h]
  repeat (first|(apply RL_pu;rfl;(apply Zal;rfl;rfl;exact b))|(refine js ?_;(refine bx ?_;intro s))|refine walk1 ?_)
  exact rtA
theorem Zy6 {G:Prop}(h:G:=by(apply Zap;rfl;rfl;first|exact b1|exact b2)):G:=h
theorem Zq3 (e:DEra)(A:Option Addr)(c:Nat)(l:List DRule)(b:Int)(w:World)(B:Glob w)(z:RdSl w A c DRule.enc 11 l)(h:RsSm l)(C : -4611686018427387904<=b/\b<=4611686018427387904) :
  Does prog 209 [.agg e.enc.toArray,.slice A l.length c,.int .i64 b] w (fun v O=>v = .int .i64 (bfE e l b)/\O=[]):=by
 have i:=fun w' (u:Bel w.heap.size w w')=>ZdY A c l b w' (B.up u) (z.up u) h C
 unfold bfE
 unfold stV at i
 generalize befS l b=x at *
 obtain⟨sv,I⟩:=x
 obtain⟨j,a,g,D,y,⟨E,H,F,⟨q,r,s⟩,⟨m,p⟩⟩⟩:=e
 dsimp only at i ⊢
 show Does _ _ [.agg #[.int .i64 j,.int .i64 a,.int .i64 g,.string D,.string y,.bool E,.int .i64 H,.int .i64 F,.int .i64 q,.int .i64 r,.int .i64 s,.int .i64 m,.int .i64 p],_,_] w _
 refine Zaa func209 rfl rfl rfl rfl ?_
 by_cases d:a=1
 ·have b1:decide (a=1)=true:=dT_ d
  rw[if_pos d]
  repeat (first|(apply RL_pu;rfl;(apply Zap;rfl;rfl;exact b1))|(refine js ?_;(refine bx ?_;intro t))|refine walk1 ?_)
  exact rtA
 ·have b1:decide (a=1)=false:=dF_ d
  rw[if_neg d]
  by_cases f:a=2
  ·have b2:decide (a=2)=true:=dT_ f
   rw[if_pos f]
   repeat (first|(apply RL_pu;rfl;exact Zy6)|(refine js ?_;(first|(refine Zab i ?_)|(refine bx ?_;intro t)))|refine walk1 ?_)
   exact rtA
  ·have b2:decide (a=2)=false:=dF_ f
   rw[if_neg f]
   repeat (first|(apply RL_pu;rfl;exact Zy6)|(refine js ?_;(refine bx ?_;intro t))|refine walk1 ?_)
   exact rtA
theorem Zy5 {G:Prop}(h:G:=by(first|(apply Zau;rfl;rfl;exact t1)|(apply Zav;rfl;rfl;exact t2)|(apply Zap;rfl;rfl;first|exact k1|exact u0|exact u1))):G:=h
theorem Zya {G:Prop}(h:G:=by exact QyA):G:=h
theorem ZyJ {G:Prop}(h:G:=by repeat (first|exact QF.nil|(apply QF.mk;rfl;rfl;decide +kernel;exact Zya))):G:=h
theorem Zjw {G G':Prop}(k:G')(h:Hold G'->G:=by intro k9;(first|(apply RL_pu;rfl;exact Zy5)|(apply RD_Q;rfl;rfl;decide +kernel;rfl;rfl;exact Zya)|refine walk1 ?_|(refine jg ?_;(try intro F);(first|(refine Zab (fun w' _=>w1 w') ?_)|(refine Zab (fun w' _=>w2 w') ?_)|(refine Zab (fun w' _=>w3 w') ?_)|(refine Zab hb ?_)|(refine Zab hn ?_)|(refine Zab hs ?_)|(refine Zab hc ?_));first|refine⟨_,EndsA,ZyJ,?_⟩|refine fin ?_)|(refine jn ?_;(try intro F);(apply Zan;first|exact Zy5|exact PuA);first|refine⟨_,EndsA,ZyJ,?_⟩|refine fin ?_));exact k9.out):G:=h ⟨k⟩
set_option maxHeartbeats 0 in
theorem Zq4 (e:DEra)(A:Option Addr)(c:Nat)(l:List DRule)(w:World)(x:Glob w)(z:RdSl w A c DRule.enc 11 l)(h:RsSm l)(f:UnOk e l) :
  Does prog 142 [.agg e.enc.toArray,.slice A l.length c] w (fun v O=>v = .tuple #[.int .i64 (endT e l),.int .i64 0]/\O=[]):=by
 have w1:=fun w'=>Zeu e.off w'
 have w2:=fun w'=>Zeu e.save w'
 have w3:=fun w'=>Zeu (endB e l) w'
 rw[f.o]at w1
 rw[f.s]at w2
 rw[f.b]at w3
 have M:=Zgh f.o
 have K:=Zgh f.b
 obtain⟨_,q⟩:=ZfB f.c
 have hb:=fun w' (j:Bel w.heap.size w w')=>Zq5 e A c l w' (z.up j)
 have hn:=fun w' (j:Bel w.heap.size w w')=>ZeG e.til (Go.Wk.bsE e l) w' (x.up j)
 have r:(Zao e.til (Go.Wk.bsE e l)).2=0:=by
  unfold Zao
  rw[if_neg (by rw[f.c];decide)]
 have t : -4611686018427387904<=(Zao e.til (Go.Wk.bsE e l)).1/\(Zao e.til (Go.Wk.bsE e l)).1<=4611686018427387904:=by
  have g:=ZeF e.til.year e.til.month e.til.day
  have p:=(ZfB f.c).1
  unfold Zao
  rw[if_neg (by rw[f.c];decide)]
  dsimp only
  split <;> omega
 have hs:=fun w' (j:Bel w.heap.size w w')=>Zq3 e A c l (Zao e.til (Go.Wk.bsE e l)).1 w' (x.up j) (z.up j) h t
 have hc:=fun w' (j:Bel w.heap.size w w')=>Zhg e.til q w' (x.up j)
 have N:=ZeF e.til.year e.til.month e.til.day
 have L:=f.k
 rw[r]at hn
 change ∀ w',Bel w.heap.size w w'->Does _ _ _ w' (fun v O=>v = .int .i64 (endB e l)/\O=[]) at hs
 unfold endT
 generalize endB e l=bf at *
 generalize (Zao e.til (Go.Wk.bsE e l)).1=nm at *
 generalize Go.Wk.bsE e l=bs at *
 generalize (onD e.til.year e.til.month e.til.day).1=dn at *
 clear f x z h r t
 obtain⟨off,d,y,Q,J,⟨R,T,S,⟨E,H,I⟩,⟨D,a⟩⟩⟩:=e
 dsimp only at M q L w1 w2 hc ⊢
 have t1:decide (d<0)=false:=dF_ (by omega)
 have t2:decide (2<d)=false:=dF_ (by omega)
 show Does _ _ [.agg #[.int .i64 off,.int .i64 d,.int .i64 y,.string Q,.string J,.bool R,.int .i64 T,.int .i64 S,.int .i64 E,.int .i64 H,.int .i64 I,.int .i64 D,.int .i64 a],_] w _
 by_cases u:a=0
 ·have u0:decide (a=0)=true:=dT_ u
  rw[if_pos u]
  by_cases g:d=1
  ·have k1:decide (d=1)=true:=dT_ g
   refine Zaa func142 rfl rfl rfl rfl ?_
   repeat (first|refine Zjw ?_|(refine jg ?_;(try intro F);(refine bx ?_;intro m);refine fin ?_))
   exact rtB
  ·have k1:decide (d=1)=false:=dF_ g
   refine Zaa func142 rfl rfl rfl rfl ?_
   repeat (first|refine Zjw ?_|(refine jg ?_;(try intro F);(refine bx ?_;intro m);refine fin ?_))
   exact rtB
 ·have u0:decide (a=0)=false:=dF_ u
  rw[if_neg u]
  by_cases p:a=1
  ·have u1:decide (a=1)=true:=dT_ p
   rw[if_pos p]
   by_cases g:d=1
   ·have k1:decide (d=1)=true:=dT_ g
    refine Zaa func142 rfl rfl rfl rfl ?_
    repeat (first|refine Zjw ?_|(refine jg ?_;(try intro F);(refine bx ?_;intro m);refine fin ?_))
    exact rtB
   ·have k1:decide (d=1)=false:=dF_ g
    refine Zaa func142 rfl rfl rfl rfl ?_
    repeat (first|refine Zjw ?_|(refine jg ?_;(try intro F);(refine bx ?_;intro m);refine fin ?_))
    exact rtB
  ·have u1:decide (a=1)=false:=dF_ p
   rw[if_neg p]
   by_cases g:d=1
   ·have k1:decide (d=1)=true:=dT_ g
    refine Zaa func142 rfl rfl rfl rfl ?_
    repeat (first|refine Zjw ?_|(refine jg ?_;(try intro F);(refine bx ?_;intro m);refine fin ?_))
    exact rtB
   ·have k1:decide (d=1)=false:=dF_ g
    refine Zaa func142 rfl rfl rfl rfl ?_
    repeat (first|refine Zjw ?_|(refine jg ?_;(try intro F);(refine bx ?_;intro m);refine fin ?_))
    exact rtB
end Go.Proofs.YtpipekfmecikmaaGreatDoor
namespace Go.Wk
open Go Go.RowKit
structure ZaE where
 start:Int
 fin:Int
 era:Int
deriving DecidableEq
def ZaE.enc (x:ZaE):List Value:=[.int .i64 x.start,.int .i64 x.fin,.int .i64 x.era]
theorem ZaE.len (x:ZaE):x.enc.length=3:=rfl
def spIn (t:Int)(x:ZaE):Bool:=decide (x.start<=t)&&decide (t<x.fin)
def ZcC (t:Int):List ZaE->Nat->Int
 | [],_ => -1
 | x::l,i=>if spIn t x then i else ZcC t l (i+1)
def sp0:ZaE:=⟨0,0,0⟩
def Zdh (l:List ZaE)(t:Int):ZaE × Bool:=if ZcC t l 0<0 then (sp0,false) else (l.getD (ZcC t l 0).toNat sp0,true)
theorem Zl3 (t:Int):∀ (l:List ZaE) (i:Nat),ZcC t l i = -1\/((i:Int)<=ZcC t l i/\ZcC t l i<i+l.length)
 | [],i => .inl rfl
 | x::l,i=>by
  rw[ZcC]
  split
  ·right
   simp
   omega
  ·rcases Zl3 t l (i+1) with h|h
   ·exact .inl h
   ·right
    rw[List.length_cons]
    omega
end Go.Wk
namespace Go.Proofs.YtpipekfmecikmaaGreatDoor
open Go Go.RowKit Go.Wk Tryz
attribute [local irreducible] W RL Does Zaq Zai retQ Calls Pu Stp RD Qy Ay Zaj
theorem Zz6 {G:Prop}(h:G:=by(first|(apply Pu_loadO1;rfl;exact hb 0 _ rfl)|(apply Zbl;rfl;rfl;exact b1))):G:=h
theorem ZsG (x:ZaE)(t:Int)(b:Nat)(w:World)(hb:Zat w ⟨b,0,none⟩ [.int .i64 t]):Does prog 145 [.agg x.enc.toArray,.pointer (some ⟨b,0,none⟩)] w (fun v O=>v = .bool (spIn t x)/\O=[]):=by
 obtain⟨s,f,k⟩:=x
 unfold spIn
 dsimp only
 show Does _ _ [.agg #[.int .i64 s,.int .i64 f,.int .i64 k],_] w _
 refine Zaa func145 rfl rfl rfl rfl ?_
 by_cases h:s<=t
 ·have b1:decide (s<=t)=true:=dT_ h
  rw[b1,Bool.true_and]
  repeat (first|(apply RL_pu;rfl;exact Zz6)|(refine js ?_;(refine bx ?_;intro a))|refine walk1 ?_)
  exact rtA
 ·have b1:decide (s<=t)=false:=dF_ h
  rw[b1,Bool.false_and]
  repeat (first|(apply RL_pu;rfl;exact Zz6)|(refine js ?_;(refine bx ?_;intro a))|refine walk1 ?_)
  exact rtA
theorem ZsF (A:Option Addr)(c:Nat)(l:List ZaE)(t:Int)(b:Nat)(w:World)(r:RdSl w A c ZaE.enc 3 l)(C:Zat w ⟨b,0,none⟩ [.int .i64 t]) :
  Does prog 144 [.slice A l.length c,.func (.func 145) #[] #[.pointer (some ⟨b,0,none⟩)]] w (fun v O=>v = .int .i64 (ZcC t l 0)/\O=[]):=by
 have D:=r.le
 have y:=r.cap
 simp only[maxLen]at y
 have z:=fun x w' (m:Bel w.heap.size w w')=>ZsG x t b w' (C.up m (Nat.le_refl _))
 obtain⟨i,d⟩:∃ i,ZcC t l 0=i:=⟨_,rfl⟩
 rw[d]
 refine Zaa func144 rfl rfl rfl rfl ?_
 repeat (refine walk ?_)
 refine Zah [(0,.slice A l.length c),(1,.func (.func 145) #[] #[.pointer (some ⟨b,0,none⟩)]),(7,.int .i64 l.length)] [] (fun k:Nat=>[(8,.int .i64 k)]) (fun _=>[]) (fun k=>k<=l.length/\ZcC t (l.drop k) k=i) (fun k=>l.length - k) 0 SFA SOA ⟨Nat.zero_le _,d⟩ ?_
 clear d
 rintro k ⟨E,g⟩
 repeat (refine walk ?_)
 refine Zaf rfl (fun u=>?_) (fun u=>?_)
 ·have j:k<l.length:=by simpa using u
  obtain⟨hna,hca⟩:=r.rd k _ (List.getElem?_eq_getElem j)
  rw[Zag j,ZcC]at g
  have B:=z l[k]
  generalize l[k]=x at *
  generalize spIn t x=q at *
  obtain⟨s,f,e⟩:=x
  change Zat w _ [.int .i64 s,.int .i64 f,.int .i64 e]at hca
  cases q with
  | true =>
   rw[if_pos rfl]at g
   subst g
   repeat (first|(apply RL_pu;rfl;exact PuI)|(refine js ?_;(apply Zax (f:=145) (us:=[]) (vs:=[.agg #[.int .i64 s,.int .i64 f,.int .i64 e]]) (cs:=[.pointer (some ⟨b,0,none⟩)]) (h:=fun w' m _=>B w' m);rfl;rfl;rintro v O' ⟨rfl,rfl⟩))|refine walk1 ?_)
   exact rtA
  | false =>
   rw[if_neg (by decide)]at g
   repeat (first|(apply RL_pu;rfl;exact PuI)|(refine js ?_;(apply Zax (f:=145) (us:=[]) (vs:=[.agg #[.int .i64 s,.int .i64 f,.int .i64 e]]) (cs:=[.pointer (some ⟨b,0,none⟩)]) (h:=fun w' m _=>B w' m);rfl;rfl;rintro v O' ⟨rfl,rfl⟩))|refine walk1 ?_)
   exact⟨k+1,OA,⟨OA,g⟩,SFA,SOA⟩
 ·obtain rfl:k=l.length:=by simp only[decide_eq_false_iff_not,Int.ofNat_lt]at u;omega
  rw[List.drop_length,ZcC]at g
  subst g
  repeat (refine walk ?_)
  exact rtA
theorem Zz5 {G:Prop}(h:G:=by(apply Zau;rfl;rfl;exact b1)):G:=h
theorem ZhW (A:Option Addr)(c:Nat)(l:List ZaE)(t:Int)(w:World)(g:RdSl w A c ZaE.enc 3 l) :
  Does prog 98 [.slice A l.length c,.int .i64 t] w (fun v O=>v = .tuple #[.agg (Zdh l t).1.enc.toArray,.bool (Zdh l t).2]/\O=[]):=by
 have u:=g.le
 have m:=g.cap
 simp only[maxLen]at m
 have a:=fun(b:Nat) w' (d:Bel w.heap.size w w') r=>ZsF A c l t b w' (g.up d) r
 have y:=Zl3 t l 0
 unfold Zdh
 generalize ZcC t l 0=i at *
 refine Zaa func98 rfl rfl rfl rfl ?_
 by_cases h:i<0
 ·have b1:decide (i<0)=true:=dT_ h
  rw[if_pos h]
  repeat (first|(apply RL_pu;rfl;exact Zz5)|(refine js ?_;(first|(apply Zad (h:=fun w' d j=>a _ w' d (j.cells cS_));rfl;rintro v O' ⟨rfl,rfl⟩)|(refine bx ?_;intro q)))|refine walk1 ?_)
  exact rtC
 ·have b1:decide (i<0)=false:=dF_ h
  rw[if_neg h]
  obtain⟨x,p⟩:∃ x,l[i.toNat]?=some x:=⟨_,List.getElem?_eq_getElem (by omega)⟩
  obtain⟨hna,hca⟩:=g.rd _ _ p
  rw[List.getD_eq_getElem?_getD,p,Option.getD_some]
  obtain⟨s,f,e⟩:=x
  change Zat w _ [.int .i64 s,.int .i64 f,.int .i64 e]at hca
  repeat (first|(apply RL_pu;rfl;(first|exact Zz5|exact PuI))|(refine js ?_;(first|(apply Zad (h:=fun w' d j=>a _ w' d (j.cells cS_));rfl;rintro v O' ⟨rfl,rfl⟩)|(refine bx ?_;intro q)))|refine walk1 ?_)
  exact rtC
