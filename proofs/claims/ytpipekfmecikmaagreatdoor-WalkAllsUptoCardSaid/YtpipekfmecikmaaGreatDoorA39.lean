/- Parts of the proof. -/
import Derived.Test.YtpipekfmecikmaaGreatDoorA38
set_option maxHeartbeats 0
set_option linter.all false
set_option maxHeartbeats 0
set_option maxRecDepth 20000
namespace Go.Wk
open Go Go.RowKit
theorem ZA7 {F:Fence}{D:List Deferred}{P:Program}{n:Nat}{wr:World}{fr:Fr}{O:List It}{Q:Exit->Fr->List It->Prop}{x y z:Code}(K:Fr->List It->Prop)(h:WI F D P n wr x (Zq7 (WI F D P n wr y (Zq7 K))) fr O)(b:∀ fr' O',K fr' O'->WI F D P n wr z Q fr' O'):WI F D P n wr (.seq x (.seq y z)) Q fr O :=
 ZuG _ h fun _ _ a=>ZuG K a b
end Go.Wk
namespace Go.Proofs.YtpipekfmecikmaaGreatDoor
open Go Go.RowKit Go.Wk Tryz
attribute [local irreducible] W RL Does Zaq Zai retQ Calls Pu Stp RD Qy Ay Zaj RLI WI Pre
def alO (out:List (Int × Nat))(ty:List Zak)(v:Value)(O:List It):Prop:=∃ Ao co At ct,v = .tuple #[.slice Ao out.length co,.slice At ty.length ct,.int .i64 0]/\O=[.row (.slice Ao out.length co) 59 2 out.length (out.flatMap ZbP),.row (.slice At ty.length ct) 42 3 ty.length (ty.flatMap Zak.enc)]
structure AlG where
 k:Nat
 n:Int
 now:Zak
 ty:List Zak
 out:List (Int × Nat)
 At:Option Addr
 ct:Nat
 Ao:Option Addr
 co:Nat
def AlG.its (g:AlG)(b13 b14 b15 b16 b17 bm:Nat):List It:=[.blk b13 [.int .i64 g.now.off,.bool g.now.dst,.string g.now.abbr] 42,.blk b14 [.slice g.At g.ty.length g.ct] 54,.blk b15 [.map (some bm)] 125,.blk b16 [.slice g.Ao g.out.length g.co] 53,.blk b17 [.int .i64 g.n] 3,cmIt lkV bm (tyM g.ty),.row (.slice g.At g.ty.length g.ct) 42 3 g.ty.length (g.ty.flatMap Zak.enc),.row (.slice g.Ao g.out.length g.co) 59 2 g.out.length (g.out.flatMap ZbP)]
structure AlI (rs:List DRule)(E:List DEra)(b:Int)(OUT:List (Int × Nat))(TY:List Zak)(t:Int)(g:AlG):Prop where
 run:Zjq rs E b g.k t g.now g.ty g.out=some (OUT,TY)
 cnt:g.n+g.k=50001
 len:g.out.length+g.k<=50001
 tyl:g.ty.length<=g.out.length+1
def alR (out:List (Int × Nat))(ty:List Zak)(wr:World):Ending->World->Prop:=fun e w'=>∃ v O',e = .returned v/\Bel wr.heap.size wr w'/\Zaz wr.heap.size O' w'/\alO out ty v O'
theorem Zxh (c:List (Int × Nat))(ty:List Zak)(wr:World){a:Act}{w':World}{D j k g e f:Nat}{Ao At:Option Addr}(l:St 101 wr [(8,.pointer (some ⟨j,0,none⟩)),(9,.pointer (some ⟨k,0,none⟩)),(10,.pointer (some ⟨g,0,none⟩))] [Zb0 D,.blk j [.slice Ao c.length e] 53,.blk k [.slice At ty.length f] 54,.blk g [.int .i64 0] 34,.row (.slice Ao c.length e) 59 2 c.length (c.flatMap ZbP),.row (.slice At ty.length f) 42 3 ty.length (ty.flatMap Zak.enc)] a w') :
  bodyPostM Fence.wide 0 prog Tryz.f27 (alR c ty wr) .ret (actD (ZeK D) a) w':=by
 have m:=Zb0.at (l.own.sat _ List.mem_cons_self)
 have d:=ZkO l
 refine⟨by simp,.inl ⟨_,_,rfl,run_takeDeferred m,?_⟩⟩
 refine⟨.tuple #[.slice Ao c.length e,.slice At ty.length f,.int .i64 0],?_,_,[.row (.slice Ao c.length e) 59 2 c.length (c.flatMap ZbP),.row (.slice At ty.length f) 42 3 ty.length (ty.flatMap Zak.enc)],rfl,d.old,d.own.sub SOA,Ao,e,At,f,rfl,rfl⟩
 have i:Tryz.f27.results=[ResultVar.cell 8 53,ResultVar.cell 9 54,ResultVar.cell 10 34].toArray:=rfl
 show(results Tryz.f27 a.tmps).run prog _=_
 unfold results
 rw[i,List.mapM_toArray]
 simp only[Sem.run_bind,Sem.run_map]
 rw[Zcn (P:=prog) d _ (fun _=>rfl) (fun _ _=>rfl) [ResultVar.cell 8 53,ResultVar.cell 9 54,ResultVar.cell 10 34] [.slice Ao c.length e,.slice At ty.length f,.int .i64 0] ⟨_,_,rfl,.cell1 rfl cS_,_,_,rfl,.cell1 rfl cS_,_,[],rfl,.cell1 rfl cS_,rfl⟩]
 simp only[Result.andThen_ok,Sem.run_pure]
 rfl
theorem ZfS {G G':Prop}(k:G')(h:Hold G'->G:=by intro k9;(first|refine walk ?_|(refine jn ?_;(try intro F);((refine stA ?_));refine fin ?_));exact k9.out):G:=h ⟨k⟩
theorem ZCW {G:Prop}(h:G:=by(apply Zal;rfl;rfl;exact e3)):G:=h
theorem Zsm {G G':Prop}(k:G')(h:Hold G'->G:=by intro k9;(first|(apply RL_pu;rfl;exact ZCW)|refine walk1 ?_);exact k9.out):G:=h ⟨k⟩
theorem ZCV {G:Prop}(h:G:=by(apply Zav;rfl;rfl;exact d1)):G:=h
theorem ZyZ {G:Prop}(h:G:=by(apply Zvb (i:=(⟨x1,x2,x3⟩:Zak)) (j:=⟨n1,n2,n3⟩) (enc:=Zak.enc);rfl;rfl;exact n0)):G:=h
theorem ZyY {G:Prop}(h:G:=by(apply Zsf (kv:=lkV) (k:=⟨x1,x2,x3⟩);rfl;rfl;(focus repeat' constructor);exact hxv;exact hxo)):G:=h
theorem Zxf (Ar Az Al As:Option Addr)(cr cz cl cs:Nat)(s:DSource)(name:ByteArray)(a b:Int)(i:Nat)(z:DZone)(r:List ZaE)(out:List (Int × Nat))(ty:List Zak)(G:Int->Prop)(w:World)(h:Zdc w Ar Az Al As cr cz cl cs s)(hn:s.zones.length+s.links.length<=1000000)(aY:accD s=none)
  (ht:tOk a=true) (aU:tOk b=true) (aV:ZaI s (s.links.length+1) [] name=(i,0)) (hi:s.zones[i]?=some z) (hr:Zey s.rules z.eras=some r)
  (aM:∀ Ae ce w',Bel w.heap.size w w'->Zat w' ((adr Az).add (i*2)) [.string z.name,.slice Ae z.eras.length ce]->RdSl w' Ae ce DEra.enc 13 z.eras->Does prog 63 [srcV Ar Az Al As cr cz cl cs s,.string name] w' (FdR s.rules Ae ce z.eras r))
  (aY7:G a) (aH:∀ t u,G t->nxD s.rules z.eras t=some u->u<=b->G u) (hN:∀ t,G t->NxAt s.rules z.eras r t) (hC:∀ t,G t->LcAt s.rules z.eras r t) (ac:allD s.rules z.eras a b=some (out,ty)) :
  Does prog 27 [srcV Ar Az Al As cr cz cl cs s,.string name,.int .i64 a,.int .i64 b] w (alO out ty):=by
 obtain⟨be,aW,⟨Ae,ce,ak,rfl⟩,aL⟩:=h.A.z i _ hi
 have aa:=fun w' (U:Bel w.heap.size w w')=>aM Ae ce w' U (aL.up U (Nat.le_refl _)) (ak.up U)
 unfold FdR at aa
 have ap:=fun(p:PaL) (t:Int) (hg:G t) w' (U:Bel w.heap.size w w') (q1:p.Ae=Ae) (q2:p.ce=ce) (hs:RdSl w' p.As p.cs ZaE.enc 3 r) (hu:RdLL w' p.Ar p.cr DRule.enc 11 (z.eras.map (ruEr s.rules)))=>Zos p s.rules z.eras r t w' (h.L.up U) (h.G.up U) ⟨by rw[q1,q2];exact ak.up U,hs,hu⟩ (hC t hg)
 have an:=fun(p:PaL)=>ap p a aY7
 have e3:(!decide ((0:Int)=0))=false:=rfl
 obtain⟨H,aP⟩:∃ H,Zbw s.rules z.eras a=H:=⟨_,rfl⟩
 unfold allD at ac
 rw[aP]at ac an
 simp only[PaL.cells]at aa an ap
 unfold Does
 refine ZxB 101 func27 rfl rfl rfl ?_
 -- Zaa func27
 apply Ze4
 repeat (first|refine ZfS ?_|(refine jn ?_;(try intro F);(refine bx ?_;intro M);refine fin ?_))
 apply Zcm
 apply Ze4
 repeat (first|refine walk ?_|(refine jg ?_;(try intro F);((refine Zab (fun w' _=>Za5 a w') ?_));refine fin ?_))
 rw[ht]
 repeat (first|refine walk ?_|(refine jg ?_;(try intro F);((refine Zab (fun w' _=>Za5 b w') ?_));refine fin ?_))
 rw[aU]
 repeat (first|refine ZfS ?_|(refine jn ?_;(try intro F);(refine bx ?_;intro M);refine fin ?_))
 apply Zcm
 apply Ze4
 repeat (first|refine walk ?_|(refine jg ?_;(try intro F);(first|(apply Zad (h:=fun w' U _=>aa w' U);rfl;rintro v O' ⟨p,S,hp1,hp2,rfl,rfl⟩)|(refine bx ?_;intro M));refine fin ?_))
 apply Zcm
 apply Ze4
 repeat (refine Zsm ?_)
 apply Zcm
 apply Ze4
 repeat (first|refine walk ?_|(refine jg ?_;(try intro F);(first|(refine ZaH (fun w' U X=>an p w' U hp1 hp2 (ZaJ ZaE.len (X.of (A := .row (.slice p.As r.length p.cs) _ _ _ _) cS_)) (Zbj (X.of (A := .fact S _) cS_))) ?_)|(refine bx ?_;intro M));refine fin ?_))
 apply Zcm
 apply Ze4
 repeat (refine Zsm ?_)
 apply Zcm
 rename_i b4 N R f J
 generalize M=b13
 refine ZxA (fun fr' O'=>∃ y I bl W,Sub [(2,.int .i64 a),(3,.int .i64 b),(8,.pointer (some ⟨N,0,none⟩)),(9,.pointer (some ⟨R,0,none⟩)),(10,.pointer (some ⟨f,0,none⟩)),(11,.pointer (some ⟨J,0,none⟩)),(13,.pointer (some ⟨b13,0,none⟩)),(14,.pointer (some ⟨y,0,none⟩)),(15,.pointer (some ⟨I,0,none⟩))] fr' /\
  SubO [.blk y [.slice (some ⟨bl,0,none⟩) 1 1] 54,.blk bl [.int .i64 H.off,.bool H.dst,.string H.abbr] 42,.blk I [.map (some W)] 125,cmIt lkV W [(H,0)],.blk N [.slice none 0 0] 53,.blk R [.slice none 0 0] 54,.blk f [.int .i64 0] 34,.blk J [.slice p.Ae z.eras.length p.ce,.slice p.As r.length p.cs,.slice p.Ar z.eras.length p.cr] 118,.blk b13 [.int .i64 H.off,.bool H.dst,.string H.abbr] 42,.row (.slice p.As r.length p.cs) 109 3 r.length (r.flatMap ZaE.enc),.fact S (fun w=>RdLL w p.Ar p.cr DRule.enc 11 (z.eras.map (ruEr s.rules)))] O') ?_ ?_
 ·repeat' (first|(refine ZCq (fun ba bb bc=>?_) ?_;rotate_left;intro F;(first|(apply Zgy (t:=125) lkV;intro W)|(apply Zje (kv:=lkV) (k:=H) (l:=[]);rfl;rfl;rfl;exact List.not_mem_nil;rfl;(focus repeat' constructor)));refine⟨_,EndsA,QFA,?_⟩)|(refine ZD8 ?_ ?_ <;> (intro F;(first|(apply Zgy (t:=125) lkV;intro W)|(apply Zje (kv:=lkV) (k:=H) (l:=[]);rfl;rfl;rfl;exact List.not_mem_nil;rfl;(focus repeat' constructor))|(refine stA ?_)|(apply Zan;exact PuA));refine⟨_,EndsA,QFA,?_⟩))|refine walk ?_|(refine RD_Lw ?_;intro F;(first|(apply Zgy (t:=125) lkV;intro W)|(apply Zje (kv:=lkV) (k:=H) (l:=[]);rfl;rfl;rfl;exact List.not_mem_nil;rfl;(focus repeat' constructor))|(refine stA ?_));refine⟨_,EndsA,QFA,?_⟩)|(apply RD_W;rfl;intro M)|fail)
  all_goals exact Zcm ⟨_,_,_,_,SFA,SOA⟩
 rintro aF O1 ⟨y,I,bl,W,hf,X⟩
 refine ZBv hf X ?_
 clear hf X aF O1
 refine Zwc 3 (m:=1) (b:=bl) (cs:=[.int .i64 H.off,.bool H.dst,.string H.abbr]) cS_ rfl (by decide) ?_
 refine Zsg [.row (.slice p.As r.length p.cs) 109 3 r.length (r.flatMap ZaE.enc),.fact S (fun w=>RdLL w p.Ar p.cr DRule.enc 11 (z.eras.map (ruEr s.rules)))] [.blk y [.slice (some ⟨bl,0,none⟩) 1 1] 54,.row (.slice (some ⟨bl,0,none⟩) 1 1) 42 3 1 [.int .i64 H.off,.bool H.dst,.string H.abbr],.blk I [.map (some W)] 125,cmIt lkV W [(H,0)],.blk N [.slice none 0 0] 53,.blk R [.slice none 0 0] 54,.blk f [.int .i64 0] 34,.blk J [.slice p.Ae z.eras.length p.ce,.slice p.As r.length p.cs,.slice p.Ar z.eras.length p.cr] 118,.blk b13 [.int .i64 H.off,.bool H.dst,.string H.abbr] 42] (PaF p s.rules z.eras r) SOA (fun w' hs=>⟨ZaJ ZaE.len (hs _ List.mem_cons_self),Zbj (hs _ (List.mem_cons_of_mem _ List.mem_cons_self))⟩) ?_
 generalize foot _=S2
 refine ZBw 59 2 ?_
 apply Ze4
 repeat (first|refine ZfS ?_|(refine jn ?_;(try intro F);(refine bx ?_;intro M);refine fin ?_))
 apply Zcm
 generalize M=b16
 apply Ze4
 repeat (first|refine ZfS ?_|(refine jn ?_;(try intro F);(refine bx ?_;intro M);refine fin ?_))
 apply Zcm
 generalize M=b17
 unfold Pre
 intro a9 w9 aE
 refine wp_seq ?_
 refine ZeE (fun fr' O'=>∃ b3 K b5,Sub [(8,.pointer (some ⟨N,0,none⟩)),(9,.pointer (some ⟨R,0,none⟩)),(10,.pointer (some ⟨f,0,none⟩)),(11,.pointer (some ⟨J,0,none⟩)),(13,.pointer (some ⟨b13,0,none⟩)),(14,.pointer (some ⟨y,0,none⟩)),(15,.pointer (some ⟨I,0,none⟩)),(16,.pointer (some ⟨b16,0,none⟩)),(17,.pointer (some ⟨b17,0,none⟩)),(57,.func (.func 112) #[] #[.pointer (some ⟨b3,0,none⟩),.pointer (some ⟨K,0,none⟩),.pointer (some ⟨b5,0,none⟩)])] fr'/\SubO (.blk b3 [.slice p.Ae z.eras.length p.ce,.slice p.As r.length p.cs,.slice p.Ar z.eras.length p.cr] 118 :: .blk K [.int .i64 a] 2 :: .blk b5 [.int .i64 b] 2 :: .fact S2 (PaF p s.rules z.eras r) :: .blk N [.slice none 0 0] 53 :: .blk R [.slice none 0 0] 54 :: .blk f [.int .i64 0] 34 :: .blk J [.slice p.Ae z.eras.length p.ce,.slice p.As r.length p.cs,.slice p.Ar z.eras.length p.cr] 118::AlG.its ⟨50001,0,H,[H],[],some ⟨bl,0,none⟩,1,none,0⟩ b13 y I b16 b17 W) O') ?_ ?_ a9 w9 aE
 ·repeat (first|refine walk ?_|(refine jg ?_;(try intro F);((apply Zad (h:=fun w' _ _=>Zl0 p z.eras r a b w');rfl;rintro v O' ⟨b3,K,b5,rfl,rfl⟩));refine fin ?_))
  exact⟨rfl,b3,K,b5,SFA,SOA⟩
 rintro a0 w0 aX O9 aC ⟨b3,K,b5,ay,av⟩
 have aD:=aC.sub ay av
 refine wp_block ?_
 clear aC aE ay av
 refine ZkV (gf:=112) (lb:=[.pointer (some ⟨b3,0,none⟩),.pointer (some ⟨K,0,none⟩),.pointer (some ⟨b5,0,none⟩)]) (fun ai O2=>ai=none/\∃ g:AlG,g.out=out/\g.ty=ty/\SubO (.blk N [.slice none 0 0] 53 :: .blk R [.slice none 0 0] 54 :: .blk f [.int .i64 0] 34 :: .blk J [.slice p.Ae z.eras.length p.ce,.slice p.As r.length p.cs,.slice p.Ar z.eras.length p.cr] 118::g.its b13 y I b16 b17 W) O2) aD rfl ?_ ?_
 ·intro fn L D
  generalize hr0:Zf1 fn a0.tmps 58 _ _ D=r0
  have aO:=Zn3 L b3 K b5 p s.rules z.eras r a b S2 (fun g:AlG=>Za4 L r0::Zb0 D :: .blk N [.slice none 0 0] 53 :: .blk R [.slice none 0 0] 54 :: .blk f [.int .i64 0] 34 :: .blk J [.slice p.Ae z.eras.length p.ce,.slice p.As r.length p.cs,.slice p.Ar z.eras.length p.cr] 118::g.its b13 y I b16 b17 W) G (AlI s.rules z.eras b out ty) w ⟨50001,0,H,[H],[],some ⟨bl,0,none⟩,1,none,0⟩ ⟨ac,by dsimp only;omega,by dsimp only[List.length];omega,by dsimp only[List.length];omega⟩ h.G (by rw[hp1,hp2];exact ak) aY7 aH hN ?_
  ·refine aO.sub SOA fun v O' ⟨_,t,g,h0,h1,h2,h3⟩=>?_
   have E:=h1.run
   obtain⟨k,n,ag,d,q,At,Z,Ao,Y⟩:=g
   dsimp only at E
   have ah:q=out/\d=ty:=by
    rcases k with _|k
    ·cases E
    rw[Zjq]at E
    cases ab:nxD s.rules z.eras t with
    | none =>
     rw[ab]at E
     cases E
     exact⟨rfl,rfl⟩
    | some u =>
     rw[ab]at E
     dsimp only at E
     rw[if_pos (h2 u ab)]at E
     cases E
     exact⟨rfl,rfl⟩
   exact⟨none,_,.ready,SubO.trans (by rw[<- hr0];exact SOA) h3,by decide,rfl,_,ah.1,ah.2,.refl _⟩
  ·rintro t u ⟨k,n,ag,d,q,At,Z,Ao,Y⟩ am aN ab bg bh ⟨i1,i2,i3,i4⟩
   dsimp only at i1 i2 i3 i4
   rcases k with _|k
   ·cases i1
   rw[Zjq,ab]at i1
   dsimp only at i1
   rw[if_neg (by omega)]at i1
   have aq:=fun w' U (hf:PaF p s.rules z.eras r w')=>ap p u aN w' U hp1 hp2 hf.1 hf.2
   obtain⟨x,hx⟩:∃ x,Zbw s.rules z.eras u=x:=⟨_,rfl⟩
   rw[hx]at i1 aq
   have hk:1<=k:=by
    rcases k with _|k
    ·split at i1 <;> cases i1
    ·omega
   have d1:decide (50000<n+1)=false:=dF_ (by omega)
   have hxo:=ZBB x d
   have hxv:cget x (tyM d)=match ixL x d 0 with|some j=>(j:Int)|none=>0:=ZpO x d 0
   have aB:=ZAc (x:=x) (ty:=d)
   have aw:=ZAd x d
   have aQ:(d++[x]).length=d.length+1:=by simp
   have ao:∀ j:Nat,(q++[(u,j)]).length=q.length+1:=fun j=>by simp
   have az:(d++[x]).flatMap Zak.enc=d.flatMap Zak.enc++[.int .i64 x.off,.bool x.dst,.string x.abbr]:=by simp[Zak.enc]
   have aa:∀ j:Nat,(q++[(u,j)]).flatMap ZbP=q.flatMap ZbP++[.int .i64 u,.int .i64 (j:Int)]:=fun j=>by simp[ZbP]
   refine Zhb (r:=r0) (p:=58) (fr:=[(8,.pointer (some ⟨N,0,none⟩)),(9,.pointer (some ⟨R,0,none⟩)),(10,.pointer (some ⟨f,0,none⟩)),(11,.pointer (some ⟨J,0,none⟩)),(13,.pointer (some ⟨b13,0,none⟩)),(14,.pointer (some ⟨y,0,none⟩)),(15,.pointer (some ⟨I,0,none⟩)),(16,.pointer (some ⟨b16,0,none⟩)),(17,.pointer (some ⟨b17,0,none⟩))]) (a0:=a0) (O1 := .blk b3 [.slice p.Ae z.eras.length p.ce,.slice p.As r.length p.cs,.slice p.Ar z.eras.length p.cr] 118 :: .blk K [.int .i64 a] 2 :: .blk b5 [.int .i64 b] 2 :: .fact S2 (PaF p s.rules z.eras r)::Za4 L { r0 with state := .busy }::Zb0 D :: .blk N [.slice none 0 0] 53 :: .blk R [.slice none 0 0] 54 :: .blk f [.int .i64 0] 34 :: .blk J [.slice p.Ae z.eras.length p.ce,.slice p.As r.length p.cs,.slice p.Ar z.eras.length p.cr] 118::AlG.its ⟨k+1,n,ag,d,q,At,Z,Ao,Y⟩ b13 y I b16 b17 W) (by rw[<- hr0];rfl) (by rw[<- hr0];rfl) (by rw[<- hr0];rfl) (aD.sim.sub SFA) rfl cS_ (by rw[<- hr0];rfl) ?_
   apply ZcN (Or.inr ⟨_,rfl⟩);rfl;(intro c h;cases h);(apply Pu_assign;rfl)
   refine Zbk ⟨rfl,?_⟩
   have al:∀ Q fr O,(∀ b:Code,b=r0.body->WI (Fence.wide.inRound L) [] prog 101 w b Q fr O)->WI (Fence.wide.inRound L) [] prog 101 w r0.body Q fr O:=fun Q fr O h=>h _ rfl
   refine al _ _ _ fun bd hb=>?_
   rw[<- hr0]at hb
   dsimp only[Zf1]at hb
   subst hb
   dsimp only[AlG.its]
   refine ZlB ?_
   obtain⟨x1,x2,x3⟩:=x
   obtain⟨n1,n2,n3⟩:=ag
   simp only[Zak.enc]at aq
   dsimp only at az ⊢
   refine ZbN (ZbN (ZbL (Or.inr ⟨_,rfl⟩) (by repeat (first|exact .nil|(refine .plain rfl ?_)|apply Calms.call|apply Calms.append|apply Calms.len)) ?_))
   repeat (first|refine ZfS ?_|(refine jn ?_;(try intro F);(refine bx ?_;intro M);refine fin ?_))
   try apply thenQ_n
   refine ZbN (ZbL (Or.inr ⟨_,rfl⟩) (by repeat (first|exact .nil|(refine .plain rfl ?_)|apply Calms.call|apply Calms.append|apply Calms.len)) ?_)
   repeat (first|(apply RL_pu;rfl;exact ZCV)|refine walk1 ?_)
   try apply thenQ_n
   refine Zby rfl (fun h=>(by cases h)) (fun _=>?_)
   refine Zef ?_
   try apply thenQ_n
   refine ZbN (ZbL (Or.inr ⟨_,rfl⟩) (by repeat (first|exact .nil|(refine .plain rfl ?_)|apply Calms.call|apply Calms.append|apply Calms.len)) ?_)
   repeat (first|refine walk ?_|(refine jg ?_;(try intro F);(first|(refine ZaH (fun w' U X=>aq w' U (Zbj (X.of (A := .fact S2 _) cS_))) ?_)|(refine bx ?_;intro M));refine fin ?_))
   try apply thenQ_n
   generalize M=b19
   refine ZbN (ZbN (ZbL (Or.inr ⟨_,rfl⟩) (by repeat (first|exact .nil|(refine .plain rfl ?_)|apply Calms.call|apply Calms.append|apply Calms.len)) ?_))
   repeat (refine Zsm ?_)
   try apply thenQ_n
   refine Zby rfl (fun h=>(by cases h)) (fun _=>?_)
   refine Zef ?_
   try apply thenQ_n
   refine ZbN (ZbN (ZbL (Or.inr ⟨_,rfl⟩) (by repeat (first|exact .nil|(refine .plain rfl ?_)|apply Calms.call|apply Calms.append|apply Calms.len)) ?_))
   by_cases af:(⟨x1,x2,x3⟩:Zak)=⟨n1,n2,n3⟩
   ·have n0:decide ((⟨x1,x2,x3⟩:Zak)=⟨n1,n2,n3⟩)=true:=dT_ af
    rw[if_pos af]at i1
    repeat (first|(apply RL_pu;rfl;exact ZyZ)|refine walk1 ?_)
    try apply thenQ_n
    refine Zby rfl (fun _=>?_) (fun h=>(by cases h))
    refine Zjd ?_
    repeat apply thenQ_e
    apply blockQ_hit
    exact⟨_,cS_,rfl,⟨k,n+1,⟨n1,n2,n3⟩,d,q,At,Z,Ao,Y⟩,⟨i1,by dsimp only;omega,by dsimp only;omega,i4⟩,by dsimp only[AlG.its];rw[<- hr0];exact SOA⟩
   have n0:decide ((⟨x1,x2,x3⟩:Zak)=⟨n1,n2,n3⟩)=false:=dF_ af
   rw[if_neg af]at i1
   repeat (first|(apply RL_pu;rfl;exact ZyZ)|refine walk1 ?_)
   try apply thenQ_n
   refine Zby rfl (fun h=>(by cases h)) (fun _=>?_)
   refine Zef ?_
   try apply thenQ_n
   refine ZA7 (fun fr' O'=>∃ (j:Nat) (ae:List Zak) (At2:Option Addr) (aj:Nat),Zck d ⟨x1,x2,x3⟩=(j,ae)/\ae.length<=d.length+1/\Sub [(8,.pointer (some ⟨N,0,none⟩)),(9,.pointer (some ⟨R,0,none⟩)),(10,.pointer (some ⟨f,0,none⟩)),(11,.pointer (some ⟨J,0,none⟩)),(13,.pointer (some ⟨b13,0,none⟩)),(14,.pointer (some ⟨y,0,none⟩)),(15,.pointer (some ⟨I,0,none⟩)),(16,.pointer (some ⟨b16,0,none⟩)),(17,.pointer (some ⟨b17,0,none⟩)),(18,.int .i64 u),(19,.pointer (some ⟨b19,0,none⟩)),(21,.int .i64 (j:Int))] fr' /\
    SubO (.blk b3 [.slice p.Ae z.eras.length p.ce,.slice p.As r.length p.cs,.slice p.Ar z.eras.length p.cr] 118 :: .blk K [.int .i64 a] 2 :: .blk b5 [.int .i64 b] 2 :: .fact S2 (PaF p s.rules z.eras r)::Za4 L { r0 with state := .busy }::Zb0 D :: .blk b19 [.int .i64 x1,.bool x2,.string x3] 42 :: .blk N [.slice none 0 0] 53 :: .blk R [.slice none 0 0] 54 :: .blk f [.int .i64 0] 34 :: .blk J [.slice p.Ae z.eras.length p.ce,.slice p.As r.length p.cs,.slice p.Ar z.eras.length p.cr] 118::AlG.its ⟨k,n+1,⟨n1,n2,n3⟩,ae,q,At2,aj,Ao,Y⟩ b13 y I b16 b17 W) O') (ZbL (Or.inr ⟨_,rfl⟩) (by repeat (first|exact .nil|(refine .plain rfl ?_)|apply Calms.call|apply Calms.append|apply Calms.len)) ?_) ?_
   ·cases hix:ixL ⟨x1,x2,x3⟩ d 0 with
    | some j =>
     rw[hix]at hxo hxv
     change _=true at hxo
     change _=(j:Int) at hxv
     have T:Zck d ⟨x1,x2,x3⟩=(j,d):=by unfold Zck;rw[hix]
     repeat (first|(apply RL_pu;rfl;exact ZyY)|refine walk1 ?_)
     try apply Zcm
     refine ZbN (ZbL (Or.inr ⟨_,rfl⟩) (by repeat (first|exact .nil|(refine .plain rfl ?_)|apply Calms.call|apply Calms.append|apply Calms.len)) ?_)
     repeat (first|refine ZfS ?_|(refine jn ?_;(try intro F);(refine bx ?_;intro M);refine fin ?_))
     try apply thenQ_n
     refine Zby rfl (fun h=>(by cases h)) (fun _=>?_)
     refine Zef ?_
     exact Zcm ⟨j,d,At,Z,T,Nat.le_succ _,SFA,by dsimp only[AlG.its];exact SOA⟩
    | none =>
     rw[hix]at hxo hxv
     change _=false at hxo
     change _=(0:Int) at hxv
     have ar:=aB hix
     have T:Zck d ⟨x1,x2,x3⟩=(d.length,d++[⟨x1,x2,x3⟩]):=by unfold Zck;rw[hix]
     repeat (first|(apply RL_pu;rfl;exact ZyY)|refine walk1 ?_)
     try apply Zcm
     refine ZbN (ZbL (Or.inr ⟨_,rfl⟩) (by repeat (first|exact .nil|(refine .plain rfl ?_)|apply Calms.call|apply Calms.append|apply Calms.len)) ?_)
     repeat (first|refine ZfS ?_|(refine jn ?_;(try intro F);(refine bx ?_;intro M);refine fin ?_))
     try apply thenQ_n
     refine Zby rfl (fun _=>?_) (fun h=>(by cases h))
     refine ZbN (ZbL (Or.inr ⟨_,rfl⟩) (by repeat (first|exact .nil|(refine .plain rfl ?_)|apply Calms.call|apply Calms.append|apply Calms.len)) ?_)
     repeat (first|refine ZfS ?_|(refine jn ?_;(try intro F);(refine bx ?_;intro M);refine fin ?_))
     try apply thenQ_n
     refine ZlA (Or.inr ⟨_,rfl⟩) rfl (by decide +kernel) (by repeat (first|exact .nil|(refine .plain rfl ?_)|apply Calms.call|apply Calms.append|apply Calms.len)) ?_
     repeat' (first|refine walk ?_|(refine RD_Lw ?_;intro F;(first|(apply Zxn (kv:=lkV) (k:=⟨x1,x2,x3⟩);rfl;rfl;rfl;exact ar;exact aw;(focus repeat' constructor))|(apply ZaC;rfl;rfl;(intro A' c';(focus repeat' constructor));(intro w' _ X;exact Zbr (X.of cS_));rfl;rfl;(simp only[maxLen];omega);omega;intro A' c' aI aJ aK)|(refine stA ?_));refine⟨_,EndsA,QFA,?_⟩)|(apply RD_W;rfl;intro M)|fail)
     all_goals exact Zcm ⟨_,_,_,_,T,by simp,SFA,by dsimp only[AlG.its];rw[aQ,az];exact SOA⟩
   rintro aG O2 ⟨j,ae,At2,aj,hj,aZ,ax,au⟩
   refine ZCk ax au ?_
   clear ax au aG O2
   rw[hj]at i1
   dsimp only[AlG.its]at i1 ⊢
   refine ZlA (Or.inr ⟨_,rfl⟩) rfl (by decide +kernel) (by repeat (first|exact .nil|(refine .plain rfl ?_)|apply Calms.call|apply Calms.append|apply Calms.len)) ?_
   repeat' (first|refine walk ?_|(refine RD_Lw ?_;intro F;(first|(apply ZaC;rfl;rfl;(intro A' c';(focus repeat' constructor));(intro w' _ X;exact Zbr (X.of cS_));rfl;rfl;(simp only[maxLen];omega);omega;intro A' c' aI aJ aK)|(refine stA ?_));refine⟨_,EndsA,QFA,?_⟩)|(apply RD_W;rfl;intro M)|fail)
   all_goals exact⟨_,cS_,rfl,⟨k,n+1,⟨x1,x2,x3⟩,ae,q++[(u,j)],At2,aj,_,_⟩,⟨i1,by dsimp only;omega,by dsimp only;rw[ao];omega,by dsimp only;rw[ao];omega⟩,by dsimp only[AlG.its];rw[ao j,aa j,<- hr0];exact SOA⟩
 ·rintro ai O2 D w4 ⟨rfl,⟨k,n,ag,d,q,At,Z,Ao,Y⟩,aA,am,ad⟩ aS
  dsimp only at aA am
  rw[aA,am]at ad
  dsimp only[AlG.its]at ad
  have aT:St 101 w [(8,.pointer (some ⟨N,0,none⟩)),(9,.pointer (some ⟨R,0,none⟩)),(10,.pointer (some ⟨f,0,none⟩)),(14,.pointer (some ⟨y,0,none⟩)),(16,.pointer (some ⟨b16,0,none⟩))] [Zb0 D,.blk N [.slice none 0 0] 53,.blk R [.slice none 0 0] 54,.blk f [.int .i64 0] 34,.blk y [.slice At ty.length Z] 54,.blk b16 [.slice Ao out.length Y] 53,.row (.slice Ao out.length Y) 59 2 out.length (out.flatMap ZbP),.row (.slice At ty.length Z) 42 3 ty.length (ty.flatMap Zak.enc)] a0 w4:=aS.sub SFA (.cons .here (SubO.trans SOA ad))
  show(Code.seq _ _).wp _ _ _ _
  have key:∀ c' Q' Q3,WI Fence.wide (ZeK D) prog 101 w c' Q' [(8,.pointer (some ⟨N,0,none⟩)),(9,.pointer (some ⟨R,0,none⟩)),(10,.pointer (some ⟨f,0,none⟩)),(14,.pointer (some ⟨y,0,none⟩)),(16,.pointer (some ⟨b16,0,none⟩))] [Zb0 D,.blk N [.slice none 0 0] 53,.blk R [.slice none 0 0] 54,.blk f [.int .i64 0] 34,.blk y [.slice At ty.length Z] 54,.blk b16 [.slice Ao out.length Y] 53,.row (.slice Ao out.length Y) 59 2 out.length (out.flatMap ZbP),.row (.slice At ty.length Z) 42 3 ty.length (ty.flatMap Zak.enc)]->(∀ e a' w',Ztx (ZeK D) 101 w Q' e a' w'->Q3 e a' w')->c'.wp prog Q3 (actD (ZeK D) a0) w4:=fun c' Q' Q3 h hq=>(wpIn_wide (n:=0)).1 (wpIn_mono (h.at aT) hq)
  refine key _ (fun e fr O=>e = .ret/\Sub [(8,.pointer (some ⟨N,0,none⟩)),(9,.pointer (some ⟨R,0,none⟩)),(10,.pointer (some ⟨f,0,none⟩))] fr/\SubO [Zb0 D,.blk N [.slice Ao out.length Y] 53,.blk R [.slice At ty.length Z] 54,.blk f [.int .i64 0] 34,.row (.slice Ao out.length Y) 59 2 out.length (out.flatMap ZbP),.row (.slice At ty.length Z) 42 3 ty.length (ty.flatMap Zak.enc)] O) _ (ZbN (ZlA (.inl rfl) rfl (by decide +kernel) (by repeat (first|exact .nil|(refine .plain rfl ?_)|apply Calms.call|apply Calms.append|apply Calms.len)) ?_)) ?_
  ·repeat (first|refine ZfS ?_|(refine jn ?_;(try intro F);(refine bx ?_;intro M);refine fin ?_))
   try apply thenQ_n
   refine Zhw ?_
   exact⟨rfl,SFA,SOA⟩
  ·rintro e a' w' ⟨hd,fr',O',aR,rfl,hf,X⟩
   have h:=Zxh out ty w (aR.sub hf X)
   rw[ZdU hd]at h
   exact h
end Go.Proofs.YtpipekfmecikmaaGreatDoor
namespace Go.Proofs.YtpipekfmecikmaaGreatDoor
open Go Go.RowKit Go.Wk Tryz
theorem Zwl {fin t:Int}{o:Option Int}(c:t<fin)(b:∀ u,o=some u->t<u){v:Int}(a:Zc1 fin o=some v):t<v:=by
 unfold Zc1 at a
 split at a
 ·cases a
 cases a
 rcases Ztp fin o with hh|hh
 ·omega
 ·exact b _ hh
attribute [local irreducible] W RL Does Zaq Zai retQ Calls Pu Stp RD Qy Ay Zaj RLI WI Pre
theorem MnOk.wk {a:DSource}(m:MnOk a){z:DZone}(d:z∈a.zones):WkOk a z:=by
 refine⟨fun e c=>?_,fun e c=>(m.lc z d e c).o⟩
 unfold ruEr
 split
 ·rename_i f
  exact(m.lc z d e c).r f
 ·exact⟨by decide,(fun r b=>by cases b),(fun r b=>by cases b),(fun r b=>by cases b)⟩
theorem MnOk.nxAt {a:DSource}(m:MnOk a){z:DZone}(f:z∈a.zones){r:List ZaE}(p:Zey a.rules z.eras=some r){t:Int}(y : -1000000000000000000<=t)(D:t<=1000000000000000000){o:Option Int}(c:evtD (ruEr a.rules (eAt a.rules z.eras t)) (eAt a.rules z.eras t).off t=some o)(F:∀ u,o=some u->t<u):NxAt a.rules z.eras r t:=by
 obtain⟨x,s,a2,a3,a4,a5,w⟩:=ZfD p (m.ne z f) (t:=t) (by omega) (by omega)
 obtain⟨e,j,E⟩:=Ziv (d:=dE0) s
 have b:=List.mem_of_getElem? j
 have i:eAt a.rules z.eras t=e:=E
 rw[i]at c
 have g:nxD a.rules z.eras t=Zc1 x.fin o:=by
  unfold nxD ZhA
  rw[i,p,c]
  dsimp only
  rw[a3]
  rfl
 refine⟨_,x,e,o,a3,a4,j,(m.wk f).rs e b,(m.wk f).of e b,⟨y,D⟩,c,g,fun u q=>?_⟩
 rw[g]at q
 exact Zwl w F q
theorem MnOk.lcAt {a:DSource}(m:MnOk a){z:DZone}(f:z∈a.zones){r:List ZaE}(j:Zey a.rules z.eras=some r){t:Int}(h : -1000000000000000000<=t)(i:t<=1000000000000000000):LcAt a.rules z.eras r t:=by
 obtain⟨x,g,a2,a3,a4,a5,o⟩:=ZfD j (m.ne z f) (t:=t) (by omega) (by omega)
 obtain⟨e,c,p⟩:=Ziv (d:=dE0) g
 have b:=List.mem_of_getElem? c
 obtain⟨k,l,n⟩:=m.st z f e b t
 exact⟨_,x,e,a3,a4,c,m.lc z f e b,⟨h,i⟩,k,l,n,Ztv c rfl⟩
theorem ZlR {a:DSource}(m:MnOk a){b:ByteArray}{i:Nat}(c:ZbV a b=(((i:Nat):Int),0)):ZaI a (a.links.length+1) [] b=(i,0):=by
 unfold ZbV at c
 rw[m.acc]at c
 dsimp only at c
 have e:=congrArg Prod.fst c
 have d:=congrArg Prod.snd c
 dsimp only at e d
 exact Prod.ext (by dsimp only;omega) d
section
variable (Ar Az Al As:Option Addr)(cr cz cl cs:Nat)(s:DSource)(name:ByteArray)(w:World)(h:Zdc w Ar Az Al As cr cz cl cs s)(hn:s.zones.length+s.links.length<=1000000)(m:MnOk s){i:Nat}{z:DZone}(hz:ZbV s name=(((i:Nat):Int),0))(hi:s.zones[i]?=some z)
include h hn m hz hi
theorem Zuy (a b:Int)(G:Int->Prop)(l:G a)(n:∀ t u,G t->t<u->nxD s.rules z.eras t=some u->u<=b->G u)(d:∀ t,G t -> -1000000000000000000<=t/\t<=1000000000000000000)(p:∀ t,G t->∃ o,evtD (ruEr s.rules (eAt s.rules z.eras t)) (eAt s.rules z.eras t).off t=some o/\∀ u,o=some u->t<u)(E:tOk a=true)(F:tOk b=true){g:List (Int × Nat)}{ty:List Zak}(j:allD s.rules z.eras a b=some (g,ty)) :
  Does prog 27 [srcV Ar Az Al As cr cz cl cs s,.string name,.int .i64 a,.int .i64 b] w (alO g ty):=by
 have c:=List.mem_of_getElem? hi
 obtain⟨q,_⟩:=h.A.z i _ hi
 obtain⟨r,k⟩:=m.sp z c
 have f:=ZlR m hz
 have x:∀ t,G t->NxAt s.rules z.eras r t:=fun t e=>by
  obtain⟨o,J,K⟩:=p t e
  exact m.nxAt c k (d t e).1 (d t e).2 J K
 refine Zxf Ar Az Al As cr cz cl cs s name a b i z r g ty G w h hn m.acc E F f hi k
  (fun Ae B w' I H D=>Zm8 Ar Az Al As cr cz cl cs s name i z r Ae B w' (h.up I) m.acc hn f hi q H D (m.un z c) k)
  l (fun t u e y v=>?_) x (fun t e=>m.lcAt c k (d t e).1 (d t e).2) j
 obtain⟨_,_,_,_,_,_,_,_,_,_,_,_,C⟩:=x t e
 exact n t u e (C u y) y v
variable {Y:Nat->Int}
end
end Go.Proofs.YtpipekfmecikmaaGreatDoor
namespace Go.Proofs.YtpipekfmecikmaaGreatDoor
open Go Go.RowKit Go.Wk Tryz
attribute [local irreducible] W RL Does Zaq Zai retQ Calls Pu Stp RD Qy Ay Zaj
theorem ZyX {G:Prop}(h:G:=by(apply Zeo;rfl;rfl;(constructor <;> omega))):G:=h
theorem ZdR (y m d n N:Int)(w:World)(b:Glob w)(e:Zbh y m d=true)(f:ZaW y m d=n)(c:86400*n=N)(i : -1000000000<=n/\n<=1000000000):Does prog 61 [.int .i64 y,.int .i64 m,.int .i64 d] w (fun v O=>v = .int .i64 N/\O=[]):=by
 subst c
 have a:=fun w' (g:Bel w.heap.size w w')=>Zgl y m d w' (b.up g)
 rw[e,f]at a
 change ∀ w',Bel w.heap.size w w'->Does _ _ _ w' (fun v O=>v = .tuple #[.int .i64 n,.int .i64 0]/\O=[]) at a
 refine Zaa func61 rfl rfl rfl rfl ?_
 repeat (first|(apply RL_pu;rfl;exact ZyX)|(refine js ?_;(refine Zab a ?_))|refine walk1 ?_)
 exact rtA
def x27G:ByteArray:=⟨#[71,77,84]⟩
def x27I:ByteArray:=⟨#[73,83,84]⟩
def x27N:ByteArray:=⟨#[69,105,114,101]⟩
def x27a:DRule:=⟨x27N,1972,1048576,3,⟨3,0,15⟩,⟨7200,2⟩,0,ByteArray.empty⟩
def x27b:DRule:=⟨x27N,1972,1048576,10,⟨2,0,0⟩,⟨3600,2⟩,-3600,⟨#[83]⟩⟩
def x27c:DRule:=⟨x27N,1971,1971,10,⟨1,0,31⟩,⟨7200,2⟩,-3600,⟨#[83]⟩⟩
def x27e:DEra:=⟨0,0,0,ByteArray.empty,x27G,⟨true,1968,10,⟨1,0,27⟩,⟨0,0⟩⟩⟩
def x27f:DEra:=⟨3600,2,0,x27N,⟨#[73,83,84,47,71,77,84]⟩,⟨false,0,0,⟨0,0,0⟩,⟨0,0⟩⟩⟩
def ex27:DSource:=exS [x27a,x27b,x27c] [x27e,x27f] [⟨⟨#[90]⟩,⟨#[76]⟩⟩] []
def ZDQ (v:Value)(O:List It):Prop:=∃ (br bz bl:Nat) (S:Nat->Prop),v=srcV (some ⟨br,0,none⟩) (some ⟨bz,0,none⟩) (some ⟨bl,0,none⟩) none 3 1 1 0 ex27/\O=[.fact S (fun w=>Zam w (some ⟨br,0,none⟩) (some ⟨bz,0,none⟩) (some ⟨bl,0,none⟩) none 3 1 1 0 ex27)]
def ZDR (v:Value)(O:List It):Prop:=∃ (br be bz bl:Nat),v=srcV (some ⟨br,0,none⟩) (some ⟨bz,0,none⟩) (some ⟨bl,0,none⟩) none 3 1 1 0 ex27 /\
 O=[.blk bz [.string ⟨#[90]⟩,.slice (some ⟨be,0,none⟩) 2 2] 71,.blk be (x27e.enc++x27f.enc) 75,.blk br (x27a.enc++(x27b.enc++x27c.enc)) 68,.blk bl [.string ⟨#[90]⟩,.string ⟨#[76]⟩] 77]
theorem ZAH {v:Value}{O:List It}(h:ZDR v O):∃ O',ZDQ v O'/\∀ base w',Zaz base O w'->Zaz base O' w':=by
 obtain⟨c,a,bz,b,rfl,rfl⟩:=h
 refine⟨_,⟨c,bz,b,foot [.blk bz [.string ⟨#[90]⟩,.slice (some ⟨a,0,none⟩) 2 2] 71,.blk a (x27e.enc++x27f.enc) 75,.blk c (x27a.enc++(x27b.enc++x27c.enc)) 68,.blk b [.string ⟨#[90]⟩,.string ⟨#[76]⟩] 77],rfl,rfl⟩,fun base w' g=>?_⟩
 have e:Zaz base ([.blk bz [.string ⟨#[90]⟩,.slice (some ⟨a,0,none⟩) 2 2] 71,.blk a (x27e.enc++x27f.enc) 75,.blk c (x27a.enc++(x27b.enc++x27c.enc)) 68,.blk b [.string ⟨#[90]⟩,.string ⟨#[76]⟩] 77]++[]) w':=by rw[List.append_nil];exact g
 have f:=e.fact (p:=fun w=>Zam w (some ⟨c,0,none⟩) (some ⟨bz,0,none⟩) (some ⟨b,0,none⟩) none 3 1 1 0 ex27) fun j d =>
  ZDW (ZoB (l:=[x27a,x27b,x27c]) DRule.len (Nat.le_refl 3) (by decide) (d (.blk c (x27a.enc++(x27b.enc++x27c.enc)) 68) (by simp))) (d (.blk bz [.string ⟨#[90]⟩,.slice (some ⟨a,0,none⟩) 2 2] 71) (by simp)) (ZoB (l:=[x27e,x27f]) DEra.len (Nat.le_refl 2) (by decide) (d (.blk a (x27e.enc++x27f.enc) 75) (by simp)))
   (ZoB (l:=[(⟨⟨#[90]⟩,⟨#[76]⟩⟩:DLink)]) DLink.len (Nat.le_refl 1) (by decide) (d (.blk b [.string ⟨#[90]⟩,.string ⟨#[76]⟩] 77) (by simp))) ⟨Nat.le_refl _,Nat.zero_le _,fun k x i=>by simp at i⟩
 exact f
theorem ZaZ (h n:Int)(w:World)(a:3600*h=n)(c : -1000000<=n/\n<=1000000):Does prog 106 [.int .i64 h] w (fun v O=>v = .agg #[.int .i64 n,.int .i64 2]/\O=[]):=by
 subst a
 refine Zaa func106 rfl rfl rfl rfl ?_
 repeat (first|(apply RL_pu;rfl;exact ZyX)|(refine js ?_;(refine bx ?_;intro b))|refine walk1 ?_)
 exact ret_1 _ [] (.cellB rfl cS_ rfl rfl) .nil ⟨rfl,rfl⟩
theorem Zjo (w:World):Does prog 60 [] w ZDQ:=by
 refine Does.monoO (R:=ZDR) ?_ fun _ _ h=>ZAH h
 refine Zaa func60 rfl rfl rfl rfl ?_
 repeat' (first|(refine js ?_;(first|(apply Zax (f:=106) (us:=[]) (cs:=[]) (vs:=[.int .i64 2]) (h:=fun w' _ _=>ZaZ 2 7200 w' rfl (by decide));rfl;rfl;rintro v O' ⟨rfl,rfl⟩)|(apply Zax (f:=106) (us:=[]) (cs:=[]) (vs:=[.int .i64 1]) (h:=fun w' _ _=>ZaZ 1 3600 w' rfl (by decide));rfl;rfl;rintro v O' ⟨rfl,rfl⟩)|(refine bx ?_;intro c)))|refine walk ?_|(refine RD_G0w ?_;intro F;(first|(apply Zax (f:=106) (us:=[]) (cs:=[]) (vs:=[.int .i64 2]) (h:=fun w' _ _=>ZaZ 2 7200 w' rfl (by decide));rfl;rfl;rintro v O' ⟨rfl,rfl⟩)|(apply Zax (f:=106) (us:=[]) (cs:=[]) (vs:=[.int .i64 1]) (h:=fun w' _ _=>ZaZ 1 3600 w' rfl (by decide));rfl;rfl;rintro v O' ⟨rfl,rfl⟩));refine⟨_,EndsA,SubO.right _ _,?_⟩)|(refine RD_G1w (fun c=>?_) ?_;rotate_left;intro F;(first|(apply Zax (f:=106) (us:=[]) (cs:=[]) (vs:=[.int .i64 2]) (h:=fun w' _ _=>ZaZ 2 7200 w' rfl (by decide));rfl;rfl;rintro v O' ⟨rfl,rfl⟩)|(apply Zax (f:=106) (us:=[]) (cs:=[]) (vs:=[.int .i64 1]) (h:=fun w' _ _=>ZaZ 1 3600 w' rfl (by decide));rfl;rfl;rintro v O' ⟨rfl,rfl⟩));refine⟨_,EndsA,SubO.right _ _,?_⟩)|(refine RD_G2w (fun c=>?_) (fun c=>?_) ?_;rotate_left 2;intro F;(first|(apply Zax (f:=106) (us:=[]) (cs:=[]) (vs:=[.int .i64 2]) (h:=fun w' _ _=>ZaZ 2 7200 w' rfl (by decide));rfl;rfl;rintro v O' ⟨rfl,rfl⟩)|(apply Zax (f:=106) (us:=[]) (cs:=[]) (vs:=[.int .i64 1]) (h:=fun w' _ _=>ZaZ 1 3600 w' rfl (by decide));rfl;rfl;rintro v O' ⟨rfl,rfl⟩));refine⟨_,EndsA,SubO.right _ _,?_⟩)|(refine RD_Lw ?_;intro F;(first|(apply Zax (f:=106) (us:=[]) (cs:=[]) (vs:=[.int .i64 2]) (h:=fun w' _ _=>ZaZ 2 7200 w' rfl (by decide));rfl;rfl;rintro v O' ⟨rfl,rfl⟩)|(apply Zax (f:=106) (us:=[]) (cs:=[]) (vs:=[.int .i64 1]) (h:=fun w' _ _=>ZaZ 1 3600 w' rfl (by decide));rfl;rfl;rintro v O' ⟨rfl,rfl⟩)|(refine bx ?_;intro c)|(refine stA ?_)|(apply Zan;exact PuA));refine⟨_,EndsA,QFA,?_⟩)|(refine ZCr (fun c=>?_) ?_;rotate_left;intro F;(first|(apply Zax (f:=106) (us:=[]) (cs:=[]) (vs:=[.int .i64 2]) (h:=fun w' _ _=>ZaZ 2 7200 w' rfl (by decide));rfl;rfl;rintro v O' ⟨rfl,rfl⟩)|(apply Zax (f:=106) (us:=[]) (cs:=[]) (vs:=[.int .i64 1]) (h:=fun w' _ _=>ZaZ 1 3600 w' rfl (by decide));rfl;rfl;rintro v O' ⟨rfl,rfl⟩)|(refine bx ?_;intro c)|(refine stA ?_)|(apply Zan;exact PuA));refine⟨_,EndsA,QFA,?_⟩)|(refine RD_K2w (fun c=>?_) (fun c=>?_) ?_;rotate_left 2;intro F;(first|(apply Zax (f:=106) (us:=[]) (cs:=[]) (vs:=[.int .i64 2]) (h:=fun w' _ _=>ZaZ 2 7200 w' rfl (by decide));rfl;rfl;rintro v O' ⟨rfl,rfl⟩)|(apply Zax (f:=106) (us:=[]) (cs:=[]) (vs:=[.int .i64 1]) (h:=fun w' _ _=>ZaZ 1 3600 w' rfl (by decide));rfl;rfl;rintro v O' ⟨rfl,rfl⟩)|(refine bx ?_;intro c)|(refine stA ?_)|(apply Zan;exact PuA));refine⟨_,EndsA,QFA,?_⟩)|(apply RD_W;rfl;intro c)|(refine RD_J2 rfl rfl rfl (fun c=>?_) (fun c=>?_))|(refine Zaf rfl (fun d=>?_) (fun d=>?_)))
 all_goals exact ret_1 _ [.blk _ [.string ⟨#[90]⟩,.slice (some ⟨_,0,none⟩) 2 2] 71,.blk _ (x27e.enc++x27f.enc) 75,.blk _ (x27a.enc++(x27b.enc++x27c.enc)) 68,.blk _ [.string ⟨#[90]⟩,.string ⟨#[76]⟩] 77] (.cellB rfl cS_ rfl rfl) SOA ⟨_,_,_,_,rfl,rfl⟩
instance:EqE prog 59 (Int × Nat) ZbP where
 h r s w:=by
  unfold ZbP
  simp[go_sem]
  rcases r with⟨_,_⟩
  rcases s with⟨_,_⟩
  simp only[Zmx,Result.ok.injEq,and_true]
  rw[Bool.eq_iff_iff]
  simp
  omega
 g:=by kernel_rfl
theorem Zdf {G G':Prop}(k:G')(h:Hold G'->G:=by intro k9;(refine walk ?_);exact k9.out):G:=h ⟨k⟩
theorem ZeX (A B:Option Addr)(m r:Nat)(x y:List Zak)(w:World)(i:RdSl w A m Zak.enc 3 x)(t:RdSl w B r Zak.enc 3 y) :
  Does prog 30 [.slice A x.length m,.slice B y.length r] w (fun v O=>v = .bool (decide (x=y))/\O=[]):=by
 have u:=i.le
 have j:=i.cap
 unfold maxLen at j
 generalize hres:decide (x=y)=res
 refine Zaa func30 rfl rfl rfl rfl ?_
 repeat refine Zdf ?_
 refine Zaf rfl (fun f=>?_) (fun f=>?_)
 ·repeat refine Zdf ?_
  exact ret_1 _ [] (.tmp rfl) .nil ⟨by rw[<- hres,Zt7];simp at f;omega,rfl⟩
 have s:x.length=y.length:=by simp at f;omega
 clear f
 repeat refine Zdf ?_
 refine Zah [(0,_),(1,_),(4,_),(12,_)] _ (fun k:Nat=>[(13,.int .i64 k)]) (fun _=>[]) (fun k=>k<=x.length/\decide (x.drop k=y.drop k)=res) (fun k=>x.length - k) 0 ⟨rfl,rfl,rfl,rfl,rfl,trivial⟩ (.refl _) ⟨by omega,hres⟩ ?_
 rintro k ⟨z,g⟩
 repeat refine Zdf ?_
 refine Zaf rfl (fun d=>?_) (fun d=>?_)
 ·simp only[decide_eq_true_eq,Int.ofNat_lt]at d
  have e:k<y.length:=by omega
  obtain⟨hna,hca⟩:=i.rd k _ (List.getElem?_eq_getElem d)
  obtain⟨hnb,hcb⟩:=t.rd k _ (List.getElem?_eq_getElem e)
  rw[Zag d,Zag e,Zqf]at g
  generalize x[k]=p at *
  generalize y[k]=q at *
  repeat (first|(apply RD_Q;rfl;rfl;decide +kernel;rfl;rfl;exact QyI)|refine walk1 ?_)
  refine Zaf rfl (fun c=>?_) (fun c=>?_)
  ·repeat refine Zdf ?_
   exact ret_1 _ [] (.tmp rfl) .nil ⟨by simp at c;simp[<- g,c],rfl⟩
  repeat refine Zdf ?_
  simp at c
  exact⟨k+1,by omega,⟨by omega,by rw[<- g];simp[c]⟩,SFA,SOA⟩
 simp only[decide_eq_false_iff_not,Int.ofNat_lt]at d
 repeat refine Zdf ?_
 exact ret_1 _ [] (.tmp rfl) .nil ⟨by rw[<- g,Zt6 (by omega) (by omega)],rfl⟩
theorem ZeW (A B:Option Addr)(m r:Nat)(x y:List (Int × Nat))(w:World)(i:RdSl w A m ZbP 2 x)(t:RdSl w B r ZbP 2 y) :
  Does prog 29 [.slice A x.length m,.slice B y.length r] w (fun v O=>v = .bool (decide (x=y))/\O=[]):=by
 have u:=i.le
 have j:=i.cap
 unfold maxLen at j
 generalize hres:decide (x=y)=res
 refine Zaa func29 rfl rfl rfl rfl ?_
 repeat refine Zdf ?_
 refine Zaf rfl (fun f=>?_) (fun f=>?_)
 ·repeat refine Zdf ?_
  exact ret_1 _ [] (.tmp rfl) .nil ⟨by rw[<- hres,Zt7];simp at f;omega,rfl⟩
 have s:x.length=y.length:=by simp at f;omega
 clear f
 repeat refine Zdf ?_
 refine Zah [(0,_),(1,_),(4,_),(12,_)] _ (fun k:Nat=>[(13,.int .i64 k)]) (fun _=>[]) (fun k=>k<=x.length/\decide (x.drop k=y.drop k)=res) (fun k=>x.length - k) 0 ⟨rfl,rfl,rfl,rfl,rfl,trivial⟩ (.refl _) ⟨by omega,hres⟩ ?_
 rintro k ⟨z,g⟩
 repeat refine Zdf ?_
 refine Zaf rfl (fun d=>?_) (fun d=>?_)
 ·simp only[decide_eq_true_eq,Int.ofNat_lt]at d
  have e:k<y.length:=by omega
  obtain⟨hna,hca⟩:=i.rd k _ (List.getElem?_eq_getElem d)
  obtain⟨hnb,hcb⟩:=t.rd k _ (List.getElem?_eq_getElem e)
  rw[Zag d,Zag e,Zqf]at g
  generalize x[k]=p at *
  generalize y[k]=q at *
  repeat (first|(apply RD_Q;rfl;rfl;decide +kernel;rfl;rfl;exact QyI)|refine walk1 ?_)
  refine Zaf rfl (fun c=>?_) (fun c=>?_)
  ·repeat refine Zdf ?_
   exact ret_1 _ [] (.tmp rfl) .nil ⟨by simp at c;simp[<- g,c],rfl⟩
  repeat refine Zdf ?_
  simp at c
  exact⟨k+1,by omega,⟨by omega,by rw[<- g];simp[c]⟩,SFA,SOA⟩
 simp only[decide_eq_false_iff_not,Int.ofNat_lt]at d
 repeat refine Zdf ?_
 exact ret_1 _ [] (.tmp rfl) .nil ⟨by rw[<- g,Zt6 (by omega) (by omega)],rfl⟩
